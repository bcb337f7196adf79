/-
  The walk of EventsGrow: it returns true.
-/
import Derived.Test.YtnbopmlemddakaaDoorRc
namespace Go.Proofs.YtnbopmlemddakaaDoor
open Go.RowKit Tier
set_option maxRecDepth 100000 in
set_option maxHeartbeats 8000000 in
theorem eventsGrow_walk (A : Option Addr) (l : List Fnc) (cap : Nat) (a0 a1 : Int) (YA : Option Addr) (ans : List Int) (ycap : Nat) (fuel : Int) (x y : Int) (w : World) (ht : Tab w) (hraw : RawsAt w A l) (hln : (l.length : Int) ≤ 9223372036854775807) (hin : InOk w a0 a1 YA ans ycap fuel) (hx : In x) (hy : In y) :
    Calls Tryd.prog 7 #[.slice A l.length cap, .agg #[.int .i64 a0, .int .i64 a1, .slice YA ans.length ycap, .int .i64 fuel], .int .i64 x, .int .i64 y] w fun e w' => e = .returned (.bool true) ∧ Below w.heap.size w w' := by
  have HT := Lib.hid ht
  have HR := Lib.hid hraw
  have HIN := Lib.hid hin
  have hright := mkP_right l
  clear ht hraw hin
  have px := picked_in x 200 (by omega)
  have py := picked_in y 100 (by omega)
  have HKX := Lib.hid (fun (W : World) => picked_any x 200 W hx (by omega) (by omega))
  have HKY := Lib.hid (fun (W : World) => picked_any y 100 W hy (by omega) (by omega))
  obtain ⟨u, hu⟩ : ∃ u : Nat, pickedI x 200 = u := ⟨(pickedI x 200).toNat, by omega⟩
  obtain ⟨v, hv⟩ : ∃ v : Nat, pickedI y 100 = v := ⟨(pickedI y 100).toNat, by omega⟩
  rw [hu] at px HKX
  rw [hv] at py HKY
  go_enter Tryd.func7, Tryd.ntmps7
  go_wp2_with fail
  obtain ⟨wi, hwi⟩ : ∃ wi, w.alloc (.cells #[.int .i64 a0, .int .i64 a1, .slice YA ans.length ycap, .int .i64 fuel] 46) = wi := ⟨_, rfl⟩
  have HBI : Hid (Below w.heap.size w wi) := Lib.hid (hwi ▸ (Below.refl _ w).alloc (Nat.le_refl _) _)
  have HIB : Hid (wi.heap[w.heap.size]? = some (.cells #[.int .i64 a0, .int .i64 a1, .slice YA ans.length ycap, .int .i64 fuel] 46 (0, 0))) := Lib.hid (hwi ▸ heap_alloc_new w _)
  rw [hwi]
  refine (program_any A cap l _ (HT.out.keeps HBI.out) hln (HR.out.keeps HBI.out)).mono ?_
  rintro e w1 ⟨⟨A1, cap1, vs, rfl, hpv⟩, hb1⟩
  have HP := Lib.hid hpv.at
  have HBW := Lib.hid (HBI.out.trans (hb1.mono HBI.out.size))
  have HT1 := Lib.hid (HT.out.keeps HBW.out)
  have hib := (hb1.block _ (block_lt HIB.out)).trans HIB.out
  have i0 := (cell_block hib 0).trans rfl
  have i1 := (cell_block hib 1).trans rfl
  have i2 := (cell_block hib 2).trans rfl
  have i3 := (cell_block hib 3).trans rfl
  have zi := block_lt hib
  clear hpv hb1 hwi HBI HIB hib vs
  generalize mkP l = p at *
  have hp := right_of hright
  have HG := Lib.hid (hright)
  have HRP := Lib.hid hp
  have HBG := Lib.hid (fun (W : World) (hb : Below w1.heap.size w1 W) => kbegin_any hright a0 a1 fuel ans YA ycap A1 cap1 W (HT1.out.keeps hb) (HP.out.keeps hb) ((HIN.out.row.keeps HBW.out).keeps hb) HIN.out.len HIN.out.cap HIN.out.fuel)
  have hi0 := inSt_inv hp a0 a1 ans fuel
  obtain ⟨s0, hs0⟩ : ∃ s0, inSt p a0 a1 ans fuel = s0 := ⟨_, rfl⟩
  have he0 : s0.events = [] := by rw [← hs0]; rfl
  rw [hs0] at HBG hi0
  obtain ⟨s1, hs1⟩ : ∃ s1, walkSt p u s0 = s1 := ⟨_, rfl⟩
  obtain ⟨s2, hs2⟩ : ∃ s2, walkSt p v s1 = s2 := ⟨_, rfl⟩
  have hg1 : Grew s0 s1 := hs1 ▸ walk_grew u s0
  have hg2 : Grew s1 s2 := hs2 ▸ walk_grew v s1
  have hl1 := grew_len hg1 he0
  have hl2 := grew_len (hg1.trans hg2) he0
  obtain ⟨ev, hev, -⟩ := hg2
  have HEV := Lib.hid hev
  have HI0 := Lib.hid hi0
  have HI1 : Hid (StInv p s1) := Lib.hid (hs1 ▸ hi0.walk hp u)
  have HI2 : Hid (StInv p s2) := Lib.hid (hs2 ▸ HI1.out.walk hp v)
  have HWA := Lib.hid (fun (C : List Value) (W : World) (hb : Below w1.heap.size w1 W) (hC : CellsSt C W w1.heap.size s0) => swalk_c hright u (by omega) (HT1.out.keeps hb) (HP.out.keeps hb) HI0.out hC)
  have HWB := Lib.hid (fun (C : List Value) (W : World) (hb : Below w1.heap.size w1 W) (hC : CellsSt C W w1.heap.size s1) => swalk_c hright v (by omega) (HT1.out.keeps hb) (HP.out.keeps hb) HI1.out hC)
  rw [hs1] at HWA
  rw [hs2] at HWB
  have he12 : s1.events.length ≤ s2.events.length := by rw [hev]; simp
  have hb1 := (stinv_sm HI1.out).1
  have hb0 := HI0.out.ans
  have hb2 := (stinv_sm HI2.out).1
  obtain ⟨n0, hn0⟩ : ∃ n, s0.answers.length = n := ⟨_, rfl⟩
  obtain ⟨m1, hm1⟩ : ∃ n, s1.answers.length = n := ⟨_, rfl⟩
  obtain ⟨m2, hm2⟩ : ∃ n, s2.answers.length = n := ⟨_, rfl⟩
  obtain ⟨e1, he1⟩ : ∃ n, s1.events.length = n := ⟨_, rfl⟩
  obtain ⟨e2, he2⟩ : ∃ n, s2.events.length = n := ⟨_, rfl⟩
  have HN0 := Lib.hid hn0
  have HM1 := Lib.hid hm1
  have HM2 := Lib.hid hm2
  have HE1 := Lib.hid he1
  have HE2 := Lib.hid he2
  rw [he1, he2] at he12
  rw [he1] at hb1 hl1
  rw [he2] at hb2 hl2
  rw [hn0] at hb0 hl1 hl2
  rw [hm1] at hl1
  rw [hm2] at hl2
  have hw1 : IntKind.i64.wrap ((n0 : Int) - (e1 : Int)) = (n0 : Int) - e1 := by rw [IntKind.wrap_i64]; omega
  have hw2 : IntKind.i64.wrap ((n0 : Int) - (e2 : Int)) = (n0 : Int) - e2 := by rw [IntKind.wrap_i64]; omega
  have hx1 : max (0 : Int) ((n0 : Int) - (e1 : Int)) = (m1 : Int) := by omega
  have hx2 : max (0 : Int) ((n0 : Int) - (e2 : Int)) = (m2 : Int) := by omega
  have hlt : decide ((e2 : Int) < e1) = false := by simp; omega
  clear hs0 hs1 hs2 hi0 hp hu hv hx hy hev he0 hg1 hn0 hm1 hm2 he1 he2 hl1 hl2
  clear hright
  go_wp2_with fail
  refine (HBG.out _ ((Below.refl _ w1).alloc (Nat.le_refl _) _)).mono ?_
  rintro e w2 ⟨⟨C0, rfl, hC0⟩, hb2⟩
  have HX2 : Hid (Sx w1 w1.heap.size (.slice A1 p.length cap1) w2 []) := Lib.hid ((Sx.mk ((Below.refl _ w1).alloc (Nat.le_refl _) _) (heap_alloc_new w1 _) (fun x hx => by simp at hx)).keeps hb2)
  have HC0 := Lib.hid (hC0.base (by simp : w1.heap.size ≤ _))
  have HJ0 := Lib.hid (info_st (HC0.out.len HI0.out.mem))
  have hz := zero_st
  clear hC0 hb2 HBG i0 i1 i2 i3 zi
  go_wp2_with (refine wpList_store_mid (by rfl) 50 _ _ (by rfl) w2.heap.size 0 C0.toArray (by rfl) (by rfl) (there_new w2 zeroV _ (by simp [HC0.out.len HI0.out.mem, zeroV_length])) (by simpa using HJ0.out) HC0.out.one ?_; obtain ⟨w3, hw3⟩ : ∃ w3, (w2.alloc (.cells zeroV.toArray 50)).setCells w2.heap.size 0 C0.toArray.toList = w3 := ⟨_, rfl⟩; rw [hw3]; have HX3 : Hid (Sx w1 w1.heap.size (.slice A1 p.length cap1) w3 [(w2.heap.size, C0, s0)]) := Lib.hid (hw3 ▸ HX2.out.add HC0.out HI0.out.mem); have pc3 := HX3.out.pcell; clear hw3)
  apply region_cut2 (α := Nat) (β := List Value) (R := fun (b' : Nat) (C' : List Value) w' => Sx w1 w1.heap.size (.slice A1 p.length cap1) w' ((b', C', s1) :: [(w2.heap.size, C0, s0)]))
  case h1 =>
    have HNB : ∀ x ∈ [(w2.heap.size, C0, s0)], x.1 ≠ w3.heap.size := fun x hx => by have := block_lt (HX3.out.sts x hx).1; omega
    refine wp_region_held_drew (S := fun w' => w'.cell? ⟨w1.heap.size, 0, none⟩ = some (.slice A1 p.length cap1) ∧ w'.rangeAt w2.heap.size 0 C0) (by kernel_rfl) ⟨HX3.out.drew.pcell, HX3.out.drew.range (.head _)⟩ (fun hHeld => ?_)
    refine wpAnyH_take (i := 0) (v := .agg #[(.slice A1 p.length cap1)]) rfl (by kernel_rfl) (by kernel_rfl) (by kernel_rfl) (fun _ _ _ h => h) (Or.inl ⟨by rfl, ?_⟩) hHeld ?_
    · intro w hSw
      have q0 := hSw.1
      simp only [List.getElem_toArray, List.getElem_cons_zero]
      go_simp
    simp only [Act.put, List.getElem_toArray, List.getElem_cons_zero, List.setIfInBounds_toArray, List.set_cons_zero, List.set_cons_succ]
    refine' wpAnyH_take (i := 1) rfl (by kernel_rfl) (by kernel_rfl) (by kernel_rfl) (fun _ _ _ h => h) (yieldsIf_load_mid (by rfl) 50 _ rfl w2.heap.size 0 rfl C0 _ (fun w hSw => hSw.2) Tryd.underlying50 (by rfl) HJ0.out) hHeld ?_
    simp only [Act.put, List.getElem_toArray, List.getElem_cons_zero, List.getElem_cons_succ, List.setIfInBounds_toArray, List.set_cons_zero, List.set_cons_succ]
    refine wpAnyH_take (i := 2) (v := .int .i64 x) rfl (by kernel_rfl) (by kernel_rfl) (by kernel_rfl) (fun _ _ _ h => h) (Or.inl ⟨by rfl, ?_⟩) hHeld ?_
    · intro w hSw
      simp only [List.getElem_toArray, List.getElem_cons_zero, List.getElem_cons_succ]
      go_simp
    simp only [Act.put, List.getElem_toArray, List.getElem_cons_zero, List.getElem_cons_succ, List.setIfInBounds_toArray, List.set_cons_zero, List.set_cons_succ]
    refine wpAnyH_ready (rs := [3, 8]) (by kernel_rfl) (by simp) ?_
    refine AllReadyH.cons rfl (fun K hK => ?_) (AllReadyH.cons rfl (fun K hK => ?_) AllReadyH.nil)
    · simp only [List.getElem_toArray, List.getElem_cons_zero, List.getElem_cons_succ]
      go_simp
      refine (HKX.out _).mono ?_
      rintro e w' ⟨rfl, rfl⟩
      refine hK.out _ _ hHeld (fun hHeld => ?_)
      clear hK K
      refine wpAnyH_ready (rs := [4, 8]) (by kernel_rfl) (by simp) ?_
      refine AllReadyH.cons rfl (fun K hK => ?_) (AllReadyH.cons rfl (fun K hK => ?_) AllReadyH.nil)
      · simp only [List.getElem_toArray, List.getElem_cons_zero, List.getElem_cons_succ]
        go_simp
        refine (HWA.out C0 _ HX3.out.drew.below (HX3.out.drew.sts _ (.head _)).2).mono ?_
        rintro e wa ⟨⟨C1, rfl, hC⟩, hb⟩
        have HXA := Lib.hid (HX3.out.drew.keeps hb)
        have HC1 := Lib.hid (hC.base HX3.out.drew.below.size)
        have HJ1 := Lib.hid (info_st (HC1.out.len HI1.out.mem))
        refine hK.out _ _ ⟨HXA.out.pcell, HXA.out.range (.head _)⟩ (fun hHeld => ?_)
        clear hK K hC hb
        refine wpAnyH_take (i := 5) (v := .tuple #[.agg C1.toArray, .int .i64 0]) rfl (by kernel_rfl) (by kernel_rfl) (by kernel_rfl) (fun _ _ _ h => h) (Or.inl ⟨by rfl, ?_⟩) hHeld ?_
        · intro w hSw
          simp only [List.getElem_toArray, List.getElem_cons_zero, List.getElem_cons_succ]
          go_simp
        simp only [Act.put, List.getElem_toArray, List.getElem_cons_zero, List.getElem_cons_succ, List.setIfInBounds_toArray, List.set_cons_zero, List.set_cons_succ]
        refine wpAnyH_take (i := 6) (v := .agg C1.toArray) rfl (by kernel_rfl) (by kernel_rfl) (by kernel_rfl) (fun _ _ _ h => h) (Or.inl ⟨by rfl, ?_⟩) hHeld ?_
        · intro w hSw
          simp only [List.getElem_toArray, List.getElem_cons_zero, List.getElem_cons_succ]
          go_simp
        simp only [Act.put, List.getElem_toArray, List.getElem_cons_zero, List.getElem_cons_succ, List.setIfInBounds_toArray, List.set_cons_zero, List.set_cons_succ]
        refine wpAnyH_take (i := 7) (v := .int .i64 0) rfl (by kernel_rfl) (by kernel_rfl) (by kernel_rfl) (fun _ _ _ h => h) (Or.inl ⟨by rfl, ?_⟩) hHeld ?_
        · intro w hSw
          simp only [List.getElem_toArray, List.getElem_cons_zero, List.getElem_cons_succ]
          go_simp
        simp only [Act.put, List.getElem_toArray, List.getElem_cons_zero, List.getElem_cons_succ, List.setIfInBounds_toArray, List.set_cons_zero, List.set_cons_succ]
        refine wpAnyH_ready (rs := [8]) (by kernel_rfl) (by simp) ?_
        refine AllReadyH.cons rfl (fun K hK => ?_) AllReadyH.nil
        simp only [List.getElem_toArray, List.getElem_cons_zero, List.getElem_cons_succ]
        go_simp
        refine hK.out _ _ ⟨(HXA.out.alloc (.cells zeroV.toArray 50)).pcell, (HXA.out.alloc (.cells zeroV.toArray 50)).range (.head _)⟩ (fun hHeld => ?_)
        clear hK K
        refine wpAnyH_ready (rs := [9]) (by kernel_rfl) (by simp) ?_
        refine AllReadyH.cons rfl (fun K hK => ?_) AllReadyH.nil
        simp only [List.getElem_toArray, List.getElem_cons_zero, List.getElem_cons_succ]
        rw [if_pos (by rfl)]
        refine wp_store_mid 50 _ _ (by rfl) wa.heap.size 0 C1.toArray (by rfl) (by rfl) (there_new wa zeroV _ (by simp [HC1.out.len HI1.out.mem, zeroV_length])) (by simpa using HJ1.out) HC1.out.one ?_
        obtain ⟨wb, hwb⟩ : ∃ wb, (wa.alloc (.cells zeroV.toArray 50)).setCells wa.heap.size 0 C1.toArray.toList = wb := ⟨_, rfl⟩
        rw [hwb]
        obtain ⟨b1, hb1⟩ : ∃ b, wa.heap.size = b := ⟨_, rfl⟩
        have HXB : Hid (Sx w1 w1.heap.size (.slice A1 p.length cap1) wb ((b1, C1, s1) :: [(w2.heap.size, C0, s0)])) := Lib.hid (by rw [← hwb, ← hb1]; exact HXA.out.add HC1.out HI1.out.mem)
        rw [hb1]
        refine hK.out _ _ ⟨HXB.out.pcell, HXB.out.range (.tail _ (.head _))⟩ (fun hHeld => ?_)
        clear hK K hwb hb1
        refine wpAnyH_ready (rs := [10]) (by kernel_rfl) (by simp) ?_
        refine AllReadyH.cons rfl (fun K hK => ?_) AllReadyH.nil
        simp only [List.getElem_toArray, List.getElem_cons_zero, List.getElem_cons_succ]
        go_simp
        refine hK.out _ _ hHeld (fun hHeld => ?_)
        clear hK K hHeld
        refine wpAnyH_done (by kernel_rfl) ?_ _
        exact ⟨b1, C1, rfl, HXB.out⟩
      · simp only [List.getElem_toArray, List.getElem_cons_zero, List.getElem_cons_succ]
        go_simp
        refine hK.out _ _ ⟨(HX3.out.drew.alloc (.cells zeroV.toArray 50)).pcell, (HX3.out.drew.alloc (.cells zeroV.toArray 50)).range (.head _)⟩ (fun hHeld => ?_)
        clear hK K
        refine wpAnyH_ready (rs := [4]) (by kernel_rfl) (by simp) ?_
        refine AllReadyH.cons rfl (fun K hK => ?_) AllReadyH.nil
        simp only [List.getElem_toArray, List.getElem_cons_zero, List.getElem_cons_succ]
        go_simp
        refine (HWA.out C0 _ (HX3.out.drew.alloc (.cells zeroV.toArray 50)).below ((HX3.out.drew.alloc (.cells zeroV.toArray 50)).sts _ (.head _)).2).mono ?_
        rintro e wa ⟨⟨C1, rfl, hC⟩, hb⟩
        have HXA := Lib.hid ((HX3.out.drew.alloc (.cells zeroV.toArray 50)).keeps hb)
        have HC1 := Lib.hid (hC.base (HX3.out.drew.alloc (.cells zeroV.toArray 50)).below.size)
        have HJ1 := Lib.hid (info_st (HC1.out.len HI1.out.mem))
        have HZB := Lib.hid ((hb.block w3.heap.size (by simp)).trans (heap_alloc_new w3.drew (.cells zeroV.toArray 50)))
        refine hK.out _ _ ⟨HXA.out.pcell, HXA.out.range (.head _)⟩ (fun hHeld => ?_)
        clear hK K hC hb
        refine wpAnyH_take (i := 5) (v := .tuple #[.agg C1.toArray, .int .i64 0]) rfl (by kernel_rfl) (by kernel_rfl) (by kernel_rfl) (fun _ _ _ h => h) (Or.inl ⟨by rfl, ?_⟩) hHeld ?_
        · intro w hSw
          simp only [List.getElem_toArray, List.getElem_cons_zero, List.getElem_cons_succ]
          go_simp
        simp only [Act.put, List.getElem_toArray, List.getElem_cons_zero, List.getElem_cons_succ, List.setIfInBounds_toArray, List.set_cons_zero, List.set_cons_succ]
        refine wpAnyH_take (i := 6) (v := .agg C1.toArray) rfl (by kernel_rfl) (by kernel_rfl) (by kernel_rfl) (fun _ _ _ h => h) (Or.inl ⟨by rfl, ?_⟩) hHeld ?_
        · intro w hSw
          simp only [List.getElem_toArray, List.getElem_cons_zero, List.getElem_cons_succ]
          go_simp
        simp only [Act.put, List.getElem_toArray, List.getElem_cons_zero, List.getElem_cons_succ, List.setIfInBounds_toArray, List.set_cons_zero, List.set_cons_succ]
        refine wpAnyH_take (i := 7) (v := .int .i64 0) rfl (by kernel_rfl) (by kernel_rfl) (by kernel_rfl) (fun _ _ _ h => h) (Or.inl ⟨by rfl, ?_⟩) hHeld ?_
        · intro w hSw
          simp only [List.getElem_toArray, List.getElem_cons_zero, List.getElem_cons_succ]
          go_simp
        simp only [Act.put, List.getElem_toArray, List.getElem_cons_zero, List.getElem_cons_succ, List.setIfInBounds_toArray, List.set_cons_zero, List.set_cons_succ]
        refine wpAnyH_ready (rs := [9]) (by kernel_rfl) (by simp) ?_
        refine AllReadyH.cons rfl (fun K hK => ?_) AllReadyH.nil
        simp only [List.getElem_toArray, List.getElem_cons_zero, List.getElem_cons_succ]
        rw [if_pos (by rfl)]
        refine wp_store_mid 50 _ _ (by rfl) w3.heap.size 0 C1.toArray (by rfl) (by rfl) (there_block HZB.out (by simp [HC1.out.len HI1.out.mem, zeroV_length])) (by simpa using HJ1.out) HC1.out.one ?_
        obtain ⟨wb, hwb⟩ : ∃ wb, wa.setCells w3.heap.size 0 C1.toArray.toList = wb := ⟨_, rfl⟩
        rw [hwb]
        obtain ⟨b1, hb1⟩ : ∃ b, w3.heap.size = b := ⟨_, rfl⟩
        have HXB : Hid (Sx w1 w1.heap.size (.slice A1 p.length cap1) wb ((b1, C1, s1) :: [(w2.heap.size, C0, s0)])) := Lib.hid (by rw [← hwb, ← hb1]; exact HXA.out.put HZB.out zeroV_length HX3.out.below.size HC1.out (HC1.out.len HI1.out.mem) (fun x hx => ⟨hx, HNB x hx⟩))
        rw [hb1]
        refine hK.out _ _ ⟨HXB.out.pcell, HXB.out.range (.tail _ (.head _))⟩ (fun hHeld => ?_)
        clear hK K hwb hb1
        refine wpAnyH_ready (rs := [10]) (by kernel_rfl) (by simp) ?_
        refine AllReadyH.cons rfl (fun K hK => ?_) AllReadyH.nil
        simp only [List.getElem_toArray, List.getElem_cons_zero, List.getElem_cons_succ]
        go_simp
        refine hK.out _ _ hHeld (fun hHeld => ?_)
        clear hK K hHeld
        refine wpAnyH_done (by kernel_rfl) ?_ _
        exact ⟨b1, C1, rfl, HXB.out⟩
    · simp only [List.getElem_toArray, List.getElem_cons_zero, List.getElem_cons_succ]
      go_simp
      refine hK.out _ _ ⟨(HX3.out.drew.alloc (.cells zeroV.toArray 50)).pcell, (HX3.out.drew.alloc (.cells zeroV.toArray 50)).range (.head _)⟩ (fun hHeld => ?_)
      clear hK K
      refine wpAnyH_ready (rs := [3]) (by kernel_rfl) (by simp) ?_
      refine AllReadyH.cons rfl (fun K hK => ?_) AllReadyH.nil
      simp only [List.getElem_toArray, List.getElem_cons_zero, List.getElem_cons_succ]
      go_simp
      refine (HKX.out _).mono ?_
      rintro e w' ⟨rfl, rfl⟩
      refine hK.out _ _ hHeld (fun hHeld => ?_)
      clear hK K
      refine wpAnyH_ready (rs := [4]) (by kernel_rfl) (by simp) ?_
      refine AllReadyH.cons rfl (fun K hK => ?_) AllReadyH.nil
      simp only [List.getElem_toArray, List.getElem_cons_zero, List.getElem_cons_succ]
      go_simp
      refine (HWA.out C0 _ (HX3.out.drew.alloc (.cells zeroV.toArray 50)).below ((HX3.out.drew.alloc (.cells zeroV.toArray 50)).sts _ (.head _)).2).mono ?_
      rintro e wa ⟨⟨C1, rfl, hC⟩, hb⟩
      have HXA := Lib.hid ((HX3.out.drew.alloc (.cells zeroV.toArray 50)).keeps hb)
      have HC1 := Lib.hid (hC.base (HX3.out.drew.alloc (.cells zeroV.toArray 50)).below.size)
      have HJ1 := Lib.hid (info_st (HC1.out.len HI1.out.mem))
      have HZB := Lib.hid ((hb.block w3.heap.size (by simp)).trans (heap_alloc_new w3.drew (.cells zeroV.toArray 50)))
      refine hK.out _ _ ⟨HXA.out.pcell, HXA.out.range (.head _)⟩ (fun hHeld => ?_)
      clear hK K hC hb
      refine wpAnyH_take (i := 5) (v := .tuple #[.agg C1.toArray, .int .i64 0]) rfl (by kernel_rfl) (by kernel_rfl) (by kernel_rfl) (fun _ _ _ h => h) (Or.inl ⟨by rfl, ?_⟩) hHeld ?_
      · intro w hSw
        simp only [List.getElem_toArray, List.getElem_cons_zero, List.getElem_cons_succ]
        go_simp
      simp only [Act.put, List.getElem_toArray, List.getElem_cons_zero, List.getElem_cons_succ, List.setIfInBounds_toArray, List.set_cons_zero, List.set_cons_succ]
      refine wpAnyH_take (i := 6) (v := .agg C1.toArray) rfl (by kernel_rfl) (by kernel_rfl) (by kernel_rfl) (fun _ _ _ h => h) (Or.inl ⟨by rfl, ?_⟩) hHeld ?_
      · intro w hSw
        simp only [List.getElem_toArray, List.getElem_cons_zero, List.getElem_cons_succ]
        go_simp
      simp only [Act.put, List.getElem_toArray, List.getElem_cons_zero, List.getElem_cons_succ, List.setIfInBounds_toArray, List.set_cons_zero, List.set_cons_succ]
      refine wpAnyH_take (i := 7) (v := .int .i64 0) rfl (by kernel_rfl) (by kernel_rfl) (by kernel_rfl) (fun _ _ _ h => h) (Or.inl ⟨by rfl, ?_⟩) hHeld ?_
      · intro w hSw
        simp only [List.getElem_toArray, List.getElem_cons_zero, List.getElem_cons_succ]
        go_simp
      simp only [Act.put, List.getElem_toArray, List.getElem_cons_zero, List.getElem_cons_succ, List.setIfInBounds_toArray, List.set_cons_zero, List.set_cons_succ]
      refine wpAnyH_ready (rs := [9]) (by kernel_rfl) (by simp) ?_
      refine AllReadyH.cons rfl (fun K hK => ?_) AllReadyH.nil
      simp only [List.getElem_toArray, List.getElem_cons_zero, List.getElem_cons_succ]
      rw [if_pos (by rfl)]
      refine wp_store_mid 50 _ _ (by rfl) w3.heap.size 0 C1.toArray (by rfl) (by rfl) (there_block HZB.out (by simp [HC1.out.len HI1.out.mem, zeroV_length])) (by simpa using HJ1.out) HC1.out.one ?_
      obtain ⟨wb, hwb⟩ : ∃ wb, wa.setCells w3.heap.size 0 C1.toArray.toList = wb := ⟨_, rfl⟩
      rw [hwb]
      obtain ⟨b1, hb1⟩ : ∃ b, w3.heap.size = b := ⟨_, rfl⟩
      have HXB : Hid (Sx w1 w1.heap.size (.slice A1 p.length cap1) wb ((b1, C1, s1) :: [(w2.heap.size, C0, s0)])) := Lib.hid (by rw [← hwb, ← hb1]; exact HXA.out.put HZB.out zeroV_length HX3.out.below.size HC1.out (HC1.out.len HI1.out.mem) (fun x hx => ⟨hx, HNB x hx⟩))
      rw [hb1]
      refine hK.out _ _ ⟨HXB.out.pcell, HXB.out.range (.tail _ (.head _))⟩ (fun hHeld => ?_)
      clear hK K hwb hb1
      refine wpAnyH_ready (rs := [10]) (by kernel_rfl) (by simp) ?_
      refine AllReadyH.cons rfl (fun K hK => ?_) AllReadyH.nil
      simp only [List.getElem_toArray, List.getElem_cons_zero, List.getElem_cons_succ]
      go_simp
      refine hK.out _ _ hHeld (fun hHeld => ?_)
      clear hK K hHeld
      refine wpAnyH_done (by kernel_rfl) ?_ _
      exact ⟨b1, C1, rfl, HXB.out⟩
  case h2 =>
    intro b1 C1 w4 hX
    have HX4 := Lib.hid hX
    have HC1 := Lib.hid (hX.sts _ (.head _)).2
    have HJ1 := Lib.hid (info_st (HC1.out.len HI1.out.mem))
    have pc4 := hX.pcell
    clear hX
    go_wp2_with fail
    apply region_cut2 (α := Nat) (β := List Value) (R := fun (b' : Nat) (C' : List Value) w' => Sx w1 w1.heap.size (.slice A1 p.length cap1) w' ((b', C', s2) :: [(b1, C1, s1), (w2.heap.size, C0, s0)]))
    case h1 =>
      have HNB : ∀ x ∈ [(b1, C1, s1), (w2.heap.size, C0, s0)], x.1 ≠ w4.heap.size := fun x hx => by have := block_lt (HX4.out.sts x hx).1; omega
      refine wp_region_held_drew (S := fun w' => w'.cell? ⟨w1.heap.size, 0, none⟩ = some (.slice A1 p.length cap1) ∧ w'.rangeAt b1 0 C1) (by kernel_rfl) ⟨HX4.out.drew.pcell, HX4.out.drew.range (.head _)⟩ (fun hHeld => ?_)
      refine wpAnyH_take (i := 0) (v := .agg #[(.slice A1 p.length cap1)]) rfl (by kernel_rfl) (by kernel_rfl) (by kernel_rfl) (fun _ _ _ h => h) (Or.inl ⟨by rfl, ?_⟩) hHeld ?_
      · intro w hSw
        have q0 := hSw.1
        simp only [List.getElem_toArray, List.getElem_cons_zero]
        go_simp
      simp only [Act.put, List.getElem_toArray, List.getElem_cons_zero, List.setIfInBounds_toArray, List.set_cons_zero, List.set_cons_succ]
      refine' wpAnyH_take (i := 1) rfl (by kernel_rfl) (by kernel_rfl) (by kernel_rfl) (fun _ _ _ h => h) (yieldsIf_load_mid (by rfl) 50 _ rfl b1 0 rfl C1 _ (fun w hSw => hSw.2) Tryd.underlying50 (by rfl) HJ1.out) hHeld ?_
      simp only [Act.put, List.getElem_toArray, List.getElem_cons_zero, List.getElem_cons_succ, List.setIfInBounds_toArray, List.set_cons_zero, List.set_cons_succ]
      refine wpAnyH_take (i := 2) (v := .int .i64 y) rfl (by kernel_rfl) (by kernel_rfl) (by kernel_rfl) (fun _ _ _ h => h) (Or.inl ⟨by rfl, ?_⟩) hHeld ?_
      · intro w hSw
        simp only [List.getElem_toArray, List.getElem_cons_zero, List.getElem_cons_succ]
        go_simp
      simp only [Act.put, List.getElem_toArray, List.getElem_cons_zero, List.getElem_cons_succ, List.setIfInBounds_toArray, List.set_cons_zero, List.set_cons_succ]
      refine wpAnyH_ready (rs := [3, 8]) (by kernel_rfl) (by simp) ?_
      refine AllReadyH.cons rfl (fun K hK => ?_) (AllReadyH.cons rfl (fun K hK => ?_) AllReadyH.nil)
      · simp only [List.getElem_toArray, List.getElem_cons_zero, List.getElem_cons_succ]
        go_simp
        refine (HKY.out _).mono ?_
        rintro e w' ⟨rfl, rfl⟩
        refine hK.out _ _ hHeld (fun hHeld => ?_)
        clear hK K
        refine wpAnyH_ready (rs := [4, 8]) (by kernel_rfl) (by simp) ?_
        refine AllReadyH.cons rfl (fun K hK => ?_) (AllReadyH.cons rfl (fun K hK => ?_) AllReadyH.nil)
        · simp only [List.getElem_toArray, List.getElem_cons_zero, List.getElem_cons_succ]
          go_simp
          refine (HWB.out C1 _ HX4.out.drew.below (HX4.out.drew.sts _ (.head _)).2).mono ?_
          rintro e wa ⟨⟨C2, rfl, hC⟩, hb⟩
          have HXA := Lib.hid (HX4.out.drew.keeps hb)
          have HC2 := Lib.hid (hC.base HX4.out.drew.below.size)
          have HJ2 := Lib.hid (info_st (HC2.out.len HI2.out.mem))
          refine hK.out _ _ ⟨HXA.out.pcell, HXA.out.range (.head _)⟩ (fun hHeld => ?_)
          clear hK K hC hb
          refine wpAnyH_take (i := 5) (v := .tuple #[.agg C2.toArray, .int .i64 0]) rfl (by kernel_rfl) (by kernel_rfl) (by kernel_rfl) (fun _ _ _ h => h) (Or.inl ⟨by rfl, ?_⟩) hHeld ?_
          · intro w hSw
            simp only [List.getElem_toArray, List.getElem_cons_zero, List.getElem_cons_succ]
            go_simp
          simp only [Act.put, List.getElem_toArray, List.getElem_cons_zero, List.getElem_cons_succ, List.setIfInBounds_toArray, List.set_cons_zero, List.set_cons_succ]
          refine wpAnyH_take (i := 6) (v := .agg C2.toArray) rfl (by kernel_rfl) (by kernel_rfl) (by kernel_rfl) (fun _ _ _ h => h) (Or.inl ⟨by rfl, ?_⟩) hHeld ?_
          · intro w hSw
            simp only [List.getElem_toArray, List.getElem_cons_zero, List.getElem_cons_succ]
            go_simp
          simp only [Act.put, List.getElem_toArray, List.getElem_cons_zero, List.getElem_cons_succ, List.setIfInBounds_toArray, List.set_cons_zero, List.set_cons_succ]
          refine wpAnyH_take (i := 7) (v := .int .i64 0) rfl (by kernel_rfl) (by kernel_rfl) (by kernel_rfl) (fun _ _ _ h => h) (Or.inl ⟨by rfl, ?_⟩) hHeld ?_
          · intro w hSw
            simp only [List.getElem_toArray, List.getElem_cons_zero, List.getElem_cons_succ]
            go_simp
          simp only [Act.put, List.getElem_toArray, List.getElem_cons_zero, List.getElem_cons_succ, List.setIfInBounds_toArray, List.set_cons_zero, List.set_cons_succ]
          refine wpAnyH_ready (rs := [8]) (by kernel_rfl) (by simp) ?_
          refine AllReadyH.cons rfl (fun K hK => ?_) AllReadyH.nil
          simp only [List.getElem_toArray, List.getElem_cons_zero, List.getElem_cons_succ]
          go_simp
          refine hK.out _ _ ⟨(HXA.out.alloc (.cells zeroV.toArray 50)).pcell, (HXA.out.alloc (.cells zeroV.toArray 50)).range (.head _)⟩ (fun hHeld => ?_)
          clear hK K
          refine wpAnyH_ready (rs := [9]) (by kernel_rfl) (by simp) ?_
          refine AllReadyH.cons rfl (fun K hK => ?_) AllReadyH.nil
          simp only [List.getElem_toArray, List.getElem_cons_zero, List.getElem_cons_succ]
          rw [if_pos (by rfl)]
          refine wp_store_mid 50 _ _ (by rfl) wa.heap.size 0 C2.toArray (by rfl) (by rfl) (there_new wa zeroV _ (by simp [HC2.out.len HI2.out.mem, zeroV_length])) (by simpa using HJ2.out) HC2.out.one ?_
          obtain ⟨wb, hwb⟩ : ∃ wb, (wa.alloc (.cells zeroV.toArray 50)).setCells wa.heap.size 0 C2.toArray.toList = wb := ⟨_, rfl⟩
          rw [hwb]
          obtain ⟨b2, hb2⟩ : ∃ b, wa.heap.size = b := ⟨_, rfl⟩
          have HXB : Hid (Sx w1 w1.heap.size (.slice A1 p.length cap1) wb ((b2, C2, s2) :: [(b1, C1, s1), (w2.heap.size, C0, s0)])) := Lib.hid (by rw [← hwb, ← hb2]; exact HXA.out.add HC2.out HI2.out.mem)
          rw [hb2]
          refine hK.out _ _ ⟨HXB.out.pcell, HXB.out.range (.tail _ (.head _))⟩ (fun hHeld => ?_)
          clear hK K hwb hb2
          refine wpAnyH_ready (rs := [10]) (by kernel_rfl) (by simp) ?_
          refine AllReadyH.cons rfl (fun K hK => ?_) AllReadyH.nil
          simp only [List.getElem_toArray, List.getElem_cons_zero, List.getElem_cons_succ]
          go_simp
          refine hK.out _ _ hHeld (fun hHeld => ?_)
          clear hK K hHeld
          refine wpAnyH_done (by kernel_rfl) ?_ _
          exact ⟨b2, C2, rfl, HXB.out⟩
        · simp only [List.getElem_toArray, List.getElem_cons_zero, List.getElem_cons_succ]
          go_simp
          refine hK.out _ _ ⟨(HX4.out.drew.alloc (.cells zeroV.toArray 50)).pcell, (HX4.out.drew.alloc (.cells zeroV.toArray 50)).range (.head _)⟩ (fun hHeld => ?_)
          clear hK K
          refine wpAnyH_ready (rs := [4]) (by kernel_rfl) (by simp) ?_
          refine AllReadyH.cons rfl (fun K hK => ?_) AllReadyH.nil
          simp only [List.getElem_toArray, List.getElem_cons_zero, List.getElem_cons_succ]
          go_simp
          refine (HWB.out C1 _ (HX4.out.drew.alloc (.cells zeroV.toArray 50)).below ((HX4.out.drew.alloc (.cells zeroV.toArray 50)).sts _ (.head _)).2).mono ?_
          rintro e wa ⟨⟨C2, rfl, hC⟩, hb⟩
          have HXA := Lib.hid ((HX4.out.drew.alloc (.cells zeroV.toArray 50)).keeps hb)
          have HC2 := Lib.hid (hC.base (HX4.out.drew.alloc (.cells zeroV.toArray 50)).below.size)
          have HJ2 := Lib.hid (info_st (HC2.out.len HI2.out.mem))
          have HZB := Lib.hid ((hb.block w4.heap.size (by simp)).trans (heap_alloc_new w4.drew (.cells zeroV.toArray 50)))
          refine hK.out _ _ ⟨HXA.out.pcell, HXA.out.range (.head _)⟩ (fun hHeld => ?_)
          clear hK K hC hb
          refine wpAnyH_take (i := 5) (v := .tuple #[.agg C2.toArray, .int .i64 0]) rfl (by kernel_rfl) (by kernel_rfl) (by kernel_rfl) (fun _ _ _ h => h) (Or.inl ⟨by rfl, ?_⟩) hHeld ?_
          · intro w hSw
            simp only [List.getElem_toArray, List.getElem_cons_zero, List.getElem_cons_succ]
            go_simp
          simp only [Act.put, List.getElem_toArray, List.getElem_cons_zero, List.getElem_cons_succ, List.setIfInBounds_toArray, List.set_cons_zero, List.set_cons_succ]
          refine wpAnyH_take (i := 6) (v := .agg C2.toArray) rfl (by kernel_rfl) (by kernel_rfl) (by kernel_rfl) (fun _ _ _ h => h) (Or.inl ⟨by rfl, ?_⟩) hHeld ?_
          · intro w hSw
            simp only [List.getElem_toArray, List.getElem_cons_zero, List.getElem_cons_succ]
            go_simp
          simp only [Act.put, List.getElem_toArray, List.getElem_cons_zero, List.getElem_cons_succ, List.setIfInBounds_toArray, List.set_cons_zero, List.set_cons_succ]
          refine wpAnyH_take (i := 7) (v := .int .i64 0) rfl (by kernel_rfl) (by kernel_rfl) (by kernel_rfl) (fun _ _ _ h => h) (Or.inl ⟨by rfl, ?_⟩) hHeld ?_
          · intro w hSw
            simp only [List.getElem_toArray, List.getElem_cons_zero, List.getElem_cons_succ]
            go_simp
          simp only [Act.put, List.getElem_toArray, List.getElem_cons_zero, List.getElem_cons_succ, List.setIfInBounds_toArray, List.set_cons_zero, List.set_cons_succ]
          refine wpAnyH_ready (rs := [9]) (by kernel_rfl) (by simp) ?_
          refine AllReadyH.cons rfl (fun K hK => ?_) AllReadyH.nil
          simp only [List.getElem_toArray, List.getElem_cons_zero, List.getElem_cons_succ]
          rw [if_pos (by rfl)]
          refine wp_store_mid 50 _ _ (by rfl) w4.heap.size 0 C2.toArray (by rfl) (by rfl) (there_block HZB.out (by simp [HC2.out.len HI2.out.mem, zeroV_length])) (by simpa using HJ2.out) HC2.out.one ?_
          obtain ⟨wb, hwb⟩ : ∃ wb, wa.setCells w4.heap.size 0 C2.toArray.toList = wb := ⟨_, rfl⟩
          rw [hwb]
          obtain ⟨b2, hb2⟩ : ∃ b, w4.heap.size = b := ⟨_, rfl⟩
          have HXB : Hid (Sx w1 w1.heap.size (.slice A1 p.length cap1) wb ((b2, C2, s2) :: [(b1, C1, s1), (w2.heap.size, C0, s0)])) := Lib.hid (by rw [← hwb, ← hb2]; exact HXA.out.put HZB.out zeroV_length HX4.out.below.size HC2.out (HC2.out.len HI2.out.mem) (fun x hx => ⟨hx, HNB x hx⟩))
          rw [hb2]
          refine hK.out _ _ ⟨HXB.out.pcell, HXB.out.range (.tail _ (.head _))⟩ (fun hHeld => ?_)
          clear hK K hwb hb2
          refine wpAnyH_ready (rs := [10]) (by kernel_rfl) (by simp) ?_
          refine AllReadyH.cons rfl (fun K hK => ?_) AllReadyH.nil
          simp only [List.getElem_toArray, List.getElem_cons_zero, List.getElem_cons_succ]
          go_simp
          refine hK.out _ _ hHeld (fun hHeld => ?_)
          clear hK K hHeld
          refine wpAnyH_done (by kernel_rfl) ?_ _
          exact ⟨b2, C2, rfl, HXB.out⟩
      · simp only [List.getElem_toArray, List.getElem_cons_zero, List.getElem_cons_succ]
        go_simp
        refine hK.out _ _ ⟨(HX4.out.drew.alloc (.cells zeroV.toArray 50)).pcell, (HX4.out.drew.alloc (.cells zeroV.toArray 50)).range (.head _)⟩ (fun hHeld => ?_)
        clear hK K
        refine wpAnyH_ready (rs := [3]) (by kernel_rfl) (by simp) ?_
        refine AllReadyH.cons rfl (fun K hK => ?_) AllReadyH.nil
        simp only [List.getElem_toArray, List.getElem_cons_zero, List.getElem_cons_succ]
        go_simp
        refine (HKY.out _).mono ?_
        rintro e w' ⟨rfl, rfl⟩
        refine hK.out _ _ hHeld (fun hHeld => ?_)
        clear hK K
        refine wpAnyH_ready (rs := [4]) (by kernel_rfl) (by simp) ?_
        refine AllReadyH.cons rfl (fun K hK => ?_) AllReadyH.nil
        simp only [List.getElem_toArray, List.getElem_cons_zero, List.getElem_cons_succ]
        go_simp
        refine (HWB.out C1 _ (HX4.out.drew.alloc (.cells zeroV.toArray 50)).below ((HX4.out.drew.alloc (.cells zeroV.toArray 50)).sts _ (.head _)).2).mono ?_
        rintro e wa ⟨⟨C2, rfl, hC⟩, hb⟩
        have HXA := Lib.hid ((HX4.out.drew.alloc (.cells zeroV.toArray 50)).keeps hb)
        have HC2 := Lib.hid (hC.base (HX4.out.drew.alloc (.cells zeroV.toArray 50)).below.size)
        have HJ2 := Lib.hid (info_st (HC2.out.len HI2.out.mem))
        have HZB := Lib.hid ((hb.block w4.heap.size (by simp)).trans (heap_alloc_new w4.drew (.cells zeroV.toArray 50)))
        refine hK.out _ _ ⟨HXA.out.pcell, HXA.out.range (.head _)⟩ (fun hHeld => ?_)
        clear hK K hC hb
        refine wpAnyH_take (i := 5) (v := .tuple #[.agg C2.toArray, .int .i64 0]) rfl (by kernel_rfl) (by kernel_rfl) (by kernel_rfl) (fun _ _ _ h => h) (Or.inl ⟨by rfl, ?_⟩) hHeld ?_
        · intro w hSw
          simp only [List.getElem_toArray, List.getElem_cons_zero, List.getElem_cons_succ]
          go_simp
        simp only [Act.put, List.getElem_toArray, List.getElem_cons_zero, List.getElem_cons_succ, List.setIfInBounds_toArray, List.set_cons_zero, List.set_cons_succ]
        refine wpAnyH_take (i := 6) (v := .agg C2.toArray) rfl (by kernel_rfl) (by kernel_rfl) (by kernel_rfl) (fun _ _ _ h => h) (Or.inl ⟨by rfl, ?_⟩) hHeld ?_
        · intro w hSw
          simp only [List.getElem_toArray, List.getElem_cons_zero, List.getElem_cons_succ]
          go_simp
        simp only [Act.put, List.getElem_toArray, List.getElem_cons_zero, List.getElem_cons_succ, List.setIfInBounds_toArray, List.set_cons_zero, List.set_cons_succ]
        refine wpAnyH_take (i := 7) (v := .int .i64 0) rfl (by kernel_rfl) (by kernel_rfl) (by kernel_rfl) (fun _ _ _ h => h) (Or.inl ⟨by rfl, ?_⟩) hHeld ?_
        · intro w hSw
          simp only [List.getElem_toArray, List.getElem_cons_zero, List.getElem_cons_succ]
          go_simp
        simp only [Act.put, List.getElem_toArray, List.getElem_cons_zero, List.getElem_cons_succ, List.setIfInBounds_toArray, List.set_cons_zero, List.set_cons_succ]
        refine wpAnyH_ready (rs := [9]) (by kernel_rfl) (by simp) ?_
        refine AllReadyH.cons rfl (fun K hK => ?_) AllReadyH.nil
        simp only [List.getElem_toArray, List.getElem_cons_zero, List.getElem_cons_succ]
        rw [if_pos (by rfl)]
        refine wp_store_mid 50 _ _ (by rfl) w4.heap.size 0 C2.toArray (by rfl) (by rfl) (there_block HZB.out (by simp [HC2.out.len HI2.out.mem, zeroV_length])) (by simpa using HJ2.out) HC2.out.one ?_
        obtain ⟨wb, hwb⟩ : ∃ wb, wa.setCells w4.heap.size 0 C2.toArray.toList = wb := ⟨_, rfl⟩
        rw [hwb]
        obtain ⟨b2, hb2⟩ : ∃ b, w4.heap.size = b := ⟨_, rfl⟩
        have HXB : Hid (Sx w1 w1.heap.size (.slice A1 p.length cap1) wb ((b2, C2, s2) :: [(b1, C1, s1), (w2.heap.size, C0, s0)])) := Lib.hid (by rw [← hwb, ← hb2]; exact HXA.out.put HZB.out zeroV_length HX4.out.below.size HC2.out (HC2.out.len HI2.out.mem) (fun x hx => ⟨hx, HNB x hx⟩))
        rw [hb2]
        refine hK.out _ _ ⟨HXB.out.pcell, HXB.out.range (.tail _ (.head _))⟩ (fun hHeld => ?_)
        clear hK K hwb hb2
        refine wpAnyH_ready (rs := [10]) (by kernel_rfl) (by simp) ?_
        refine AllReadyH.cons rfl (fun K hK => ?_) AllReadyH.nil
        simp only [List.getElem_toArray, List.getElem_cons_zero, List.getElem_cons_succ]
        go_simp
        refine hK.out _ _ hHeld (fun hHeld => ?_)
        clear hK K hHeld
        refine wpAnyH_done (by kernel_rfl) ?_ _
        exact ⟨b2, C2, rfl, HXB.out⟩
    case h2 =>
      intro b2 C2 w5 hX
      have HX5 := Lib.hid hX
      have HC2 := Lib.hid (hX.sts _ (.head _)).2
      have HJ2 := Lib.hid (info_st (HC2.out.len HI2.out.mem))
      have pc5 := hX.pcell
      clear hX
      obtain ⟨FA, fa, EA, ea, AA, aa, hA⟩ := HX5.out.cin (.tail _ (.tail _ (.head _))) HI0.out
      obtain ⟨FB, fb, EB, eb, AB, ab, hB⟩ := HX5.out.cin (.tail _ (.head _)) HI1.out
      obtain ⟨FD, fd, ED, ed, AD, ad, hD⟩ := HX5.out.cin (.head _) HI2.out
      have g0 := (HX5.out.cell (.tail _ (.tail _ (.head _))) 21).trans hA.c21
      have g1 := (HX5.out.cell (.tail _ (.head _)) 20).trans hB.c20
      have g2 := (HX5.out.cell (.tail _ (.head _)) 21).trans hB.c21
      have g3 := (HX5.out.cell (.head _) 20).trans hD.c20
      have g4 := (HX5.out.cell (.head _) 21).trans hD.c21
      rw [HN0.out] at g0
      rw [HE1.out] at g1
      rw [HM1.out] at g2
      rw [HE2.out] at g3
      rw [HM2.out] at g4
      have HEA := Lib.hid hB.ev
      have HEB := Lib.hid hD.ev
      have z0 := HX5.out.lt (.tail _ (.tail _ (.head _)))
      have z1 := HX5.out.lt (.tail _ (.head _))
      have z2 := HX5.out.lt (.head _)
      clear hA hB hD
      go_wp2_with fail
      go_loopw [16] (fun v wr => ∃ k : Nat, k ≤ e1 ∧ v = .int .i64 (k : Int) ∧ Below w5.heap.size w5 wr) (fun v _ => e1 - (intOf v).toNat)
      case atStart => exact ⟨0, by omega, rfl, Below.refl _ _⟩
      case round =>
        obtain ⟨k, hk, rfl, hbr⟩ := hrel
        have HBR := Lib.hid hbr
        rw [← hbr.cell (p := ⟨w2.heap.size, _, none⟩) z0] at g0
        rw [← hbr.cell (p := ⟨b1, _, none⟩) z1] at g1 g2
        rw [← hbr.cell (p := ⟨b2, _, none⟩) z2] at g3 g4
        have zz := hbr.size
        by_cases hkn : k = e1
        · subst hkn
          go_wp2_with fail
          go_ret
          exact ⟨rfl, HBW.out.trans ((HX5.out.below.trans (HBR.out.mono HX5.out.below.size)).mono HBW.out.size)⟩
        · have hk1 : (k : Int) < e1 := by omega
          have hk2 : (0 : Int) ≤ k := by omega
          have hk3 : (k : Int) < e2 := by omega
          have hkw : IntKind.i64.wrap ((k : Int) + 1) = k + 1 := by rw [IntKind.wrap_i64]; omega
          obtain ⟨x, hx⟩ : ∃ x, s1.events[k]? = some x := ⟨s1.events[k]'(by rw [HE1.out]; omega), List.getElem?_eq_getElem _⟩
          have hx' : s2.events[k]? = some x := by rw [HEV.out, List.getElem?_append_left (by rw [HE1.out]; omega)]; exact hx
          obtain ⟨ba, oa, rfl, hba, hca⟩ := HEA.out (by rw [HE1.out]; omega)
          obtain ⟨bb, ob, rfl, hbb, hcb⟩ := HEB.out (by rw [HE2.out]; omega)
          have c1 := hca k x hx
          have c2 := hcb k x hx'
          rw [← hbr.cell (p := ⟨ba, _, none⟩) hba] at c1
          rw [← hbr.cell (p := ⟨bb, _, none⟩) hbb] at c2
          have y0 : ba < wr.heap.size := by omega
          have y1 : bb < wr.heap.size := by omega
          have y2 : b1 < wr.heap.size := by omega
          have y3 : b2 < wr.heap.size := by omega
          clear hca hcb hx hx'
          go_wp2_with fail
          go_quiet (fail)
          go_wp2_with fail
          go_roundw
          case rel => exact ⟨k + 1, by omega, by go_num, HBR.out.trans (by have hb := Below.refl wr.heap.size wr; exact (Below.mono (by repeat (first | exact hb | exact Below.refl _ _ | apply Below.drew | apply below_drewN | refine Below.alloc ?_ (by first | omega | (simp; done) | (simp; omega)) _ | refine Below.setCell ?_ (by first | omega | (simp; done) | (simp; omega)) _)) (HBR.out.size)))⟩
          case measure => simp [intOf]; omega
end Go.Proofs.YtnbopmlemddakaaDoor
