/-
  The walk of StateStays: it returns true.
-/
import Derived.Test.YtnbopmlemddakaaDoorRc
namespace Go.Proofs.YtnbopmlemddakaaDoor
open Go.RowKit Tier
set_option maxRecDepth 100000 in
set_option maxHeartbeats 8000000 in
theorem stateStays_walk (A : Option Addr) (l : List Fnc) (cap : Nat) (a0 a1 : Int) (YA : Option Addr) (ans : List Int) (ycap : Nat) (fuel : Int) (n : Int) (w : World) (ht : Tab w) (hraw : RawsAt w A l) (hln : (l.length : Int) ≤ 9223372036854775807) (hin : InOk w a0 a1 YA ans ycap fuel) (hn : In n) :
    Calls Tryd.prog 12 #[.slice A l.length cap, .agg #[.int .i64 a0, .int .i64 a1, .slice YA ans.length ycap, .int .i64 fuel], .int .i64 n] w fun e w' => e = .returned (.bool true) ∧ Below w.heap.size w w' := by
  have HT := Lib.hid ht
  have HR := Lib.hid hraw
  have HIN := Lib.hid hin
  have hright := mkP_right l
  clear ht hraw hin
  have pn := picked_in n 50 (by omega)
  have HKN := Lib.hid (fun (W : World) => picked_any n 50 W hn (by omega) (by omega))
  obtain ⟨u, hu⟩ : ∃ u : Nat, pickedI n 50 = u := ⟨(pickedI n 50).toNat, by omega⟩
  rw [hu] at pn HKN
  have pf := picked_in fuel 300 (by omega)
  go_enter Tryd.func12, Tryd.ntmps12
  go_wp2_with fail
  obtain ⟨wi, hwi⟩ : ∃ wi, w.alloc (.cells #[.int .i64 a0, .int .i64 a1, .slice YA ans.length ycap, .int .i64 fuel] 46) = wi := ⟨_, rfl⟩
  have HBI : Hid (Below w.heap.size w wi) := Lib.hid (hwi ▸ (Below.refl _ w).alloc (Nat.le_refl _) _)
  have HIB : Hid (wi.heap[w.heap.size]? = some (.cells #[.int .i64 a0, .int .i64 a1, .slice YA ans.length ycap, .int .i64 fuel] 46 (0, 0))) := Lib.hid (hwi ▸ heap_alloc_new w _)
  rw [hwi]
  refine (program_any A cap l _ (HT.out.keeps HBI.out) hln (HR.out.keeps HBI.out)).mono ?_
  rintro e w1 ⟨⟨A1, cap1, vs, rfl, hpv⟩, hb1⟩
  have HP := Lib.hid hpv.at
  have HBW := Lib.hid (HBI.out.trans (hb1.mono HBI.out.size))
  have HT1 := Lib.hid (HT.out.keeps HBW.out)
  have hib := (hb1.block _ (block_lt HIB.out)).trans HIB.out
  have i0 := (cell_block hib 0).trans rfl
  have i1 := (cell_block hib 1).trans rfl
  have i2 := (cell_block hib 2).trans rfl
  have i3 := (cell_block hib 3).trans rfl
  have zi := block_lt hib
  clear hpv hb1 hwi HBI HIB hib vs
  generalize mkP l = p at *
  have hp := right_of hright
  have HG := Lib.hid (hright)
  have HRP := Lib.hid hp
  have HBG := Lib.hid (fun (W : World) (hb : Below w1.heap.size w1 W) => kbegin_any hright a0 a1 fuel ans YA ycap A1 cap1 W (HT1.out.keeps hb) (HP.out.keeps hb) ((HIN.out.row.keeps HBW.out).keeps hb) HIN.out.len HIN.out.cap HIN.out.fuel)
  have hi0 := inSt_inv hp a0 a1 ans fuel
  obtain ⟨s0, hs0⟩ : ∃ s0, inSt p a0 a1 ans fuel = s0 := ⟨_, rfl⟩
  have hf0 : s0.fuel = pickedI fuel 300 := by rw [← hs0]; rfl
  rw [hs0] at HBG hi0
  obtain ⟨s1, hs1⟩ : ∃ s1, walkSt p 400 s0 = s1 := ⟨_, rfl⟩
  have hst : s1.status ≠ 0 := by rw [← hs1]; exact walk_ends hp 400 hi0 (by omega)
  have HI0 := Lib.hid hi0
  have HI1 : Hid (StInv p s1) := Lib.hid (hs1 ▸ hi0.walk hp 400)
  have HI2 := HI1
  have HI3 := HI1
  have HWA := Lib.hid (fun (C : List Value) (W : World) (hb : Below w1.heap.size w1 W) (hC : CellsSt C W w1.heap.size s0) => swalk_c hright 400 (by omega) (HT1.out.keeps hb) (HP.out.keeps hb) HI0.out hC)
  have HWB := Lib.hid (fun (C : List Value) (W : World) (hb : Below w1.heap.size w1 W) (hC : CellsSt C W w1.heap.size s1) => swalk_c hright u (by omega) (HT1.out.keeps hb) (HP.out.keeps hb) HI1.out hC)
  have HNX := Lib.hid (fun (C : List Value) (W : World) (hb : Below w1.heap.size w1 W) (hC : CellsSt C W w1.heap.size s1) => snext_c hright (HT1.out.keeps hb) (HP.out.keeps hb) HI1.out hC)
  have HWN := Lib.hid (fun (C : List Value) (W : World) (hb : Below w1.heap.size w1 W) (hC : CellsSt C W w1.heap.size s1) => swalkneg_c hright (-1) (by omega) (HT1.out.keeps hb) (HP.out.keeps hb) HI1.out hC)
  rw [hs1] at HWA
  rw [walkSt_stop hst] at HWB
  rw [nxt_stop hst] at HNX
  clear hs0 hs1 hi0 hp hu hn hf0 pf
  clear hright
  go_wp2_with fail
  refine (HBG.out _ ((Below.refl _ w1).alloc (Nat.le_refl _) _)).mono ?_
  rintro e w2 ⟨⟨C0, rfl, hC0⟩, hb2⟩
  have HX2 : Hid (Sx w1 w1.heap.size (.slice A1 p.length cap1) w2 []) := Lib.hid ((Sx.mk ((Below.refl _ w1).alloc (Nat.le_refl _) _) (heap_alloc_new w1 _) (fun x hx => by simp at hx)).keeps hb2)
  have HC0 := Lib.hid (hC0.base (by simp : w1.heap.size ≤ _))
  have HJ0 := Lib.hid (info_st (HC0.out.len HI0.out.mem))
  have hz := zero_st
  clear hC0 hb2 HBG i0 i1 i2 i3 zi
  go_wp2_with (first | (refine wpList_store_mid (by rfl) 50 _ _ (by rfl) w2.heap.size 0 C0.toArray (by rfl) (by rfl) (there_new w2 zeroV _ (by simp [HC0.out.len HI0.out.mem, zeroV_length])) (by simpa using HJ0.out) HC0.out.one ?_; obtain ⟨w3, hw3⟩ : ∃ w3, (w2.alloc (.cells zeroV.toArray 50)).setCells w2.heap.size 0 C0.toArray.toList = w3 := ⟨_, rfl⟩; rw [hw3]; have HX3 : Hid (Sx w1 w1.heap.size (.slice A1 p.length cap1) w3 [(w2.heap.size, C0, s0)]) := Lib.hid (hw3 ▸ HX2.out.add HC0.out HI0.out.mem); have pc3 := HX3.out.pcell; clear hw3) | (refine wpList_load_mid (by rfl) 50 _ (by rfl) w2.heap.size 0 (by rfl) C0 _ (HX3.out.range (.head _)) Tryd.underlying50 (by rfl) HJ0.out ?_))
  refine (HWA.out C0 _ HX3.out.below (HX3.out.sts _ (.head _)).2).mono ?_
  rintro e w4 ⟨⟨C1, rfl, hC1⟩, hb1⟩
  have HX4 := Lib.hid (HX3.out.keeps hb1)
  have HC1 := Lib.hid (hC1.base HX3.out.below.size)
  have HJ1 := Lib.hid (info_st (HC1.out.len HI1.out.mem))
  clear hC1 hb1 pc3
  have HLC0 := Lib.hid (HC0.out.len HI0.out.mem)
  have HBG0 := Lib.hid HX2.out.below.size
  go_wp2_with (refine wpList_store_mid (by rfl) 50 _ _ (by rfl) w2.heap.size 0 C1.toArray (by rfl) (by rfl) (HX4.out.there (.head _) (by simp [HC1.out.len HI1.out.mem, HLC0.out])) (by simpa using HJ1.out) HC1.out.one ?_; obtain ⟨w5, hw5⟩ : ∃ w5, w4.setCells w2.heap.size 0 C1.toArray.toList = w5 := ⟨_, rfl⟩; rw [hw5]; have HX5 : Hid (Sx w1 w1.heap.size (.slice A1 p.length cap1) w5 [(w2.heap.size, C1, s1)]) := Lib.hid (hw5 ▸ HX4.out.put (HX4.out.sts _ (.head _)).1 HLC0.out HBG0.out HC1.out (HC1.out.len HI1.out.mem) (fun x hx => by simp at hx)); clear hw5)
  apply region_cut2 (α := Nat) (β := List Value) (R := fun (b' : Nat) (C' : List Value) w' => Sx w1 w1.heap.size (.slice A1 p.length cap1) w' ((b', C', s1) :: [(w2.heap.size, C1, s1)]))
  case h1 =>
    have HNB : ∀ x ∈ [(w2.heap.size, C1, s1)], x.1 ≠ w5.heap.size := fun x hx => by have := block_lt (HX5.out.sts x hx).1; omega
    refine wp_region_held_drew (S := fun w' => w'.cell? ⟨w1.heap.size, 0, none⟩ = some (.slice A1 p.length cap1) ∧ w'.rangeAt w2.heap.size 0 C1) (by kernel_rfl) ⟨HX5.out.drew.pcell, HX5.out.drew.range (.head _)⟩ (fun hHeld => ?_)
    refine wpAnyH_take (i := 0) (v := .agg #[(.slice A1 p.length cap1)]) rfl (by kernel_rfl) (by kernel_rfl) (by kernel_rfl) (fun _ _ _ h => h) (Or.inl ⟨by rfl, ?_⟩) hHeld ?_
    · intro w hSw
      have q0 := hSw.1
      simp only [List.getElem_toArray, List.getElem_cons_zero]
      go_simp
    simp only [Act.put, List.getElem_toArray, List.getElem_cons_zero, List.setIfInBounds_toArray, List.set_cons_zero, List.set_cons_succ]
    refine' wpAnyH_take (i := 1) rfl (by kernel_rfl) (by kernel_rfl) (by kernel_rfl) (fun _ _ _ h => h) (yieldsIf_load_mid (by rfl) 50 _ rfl w2.heap.size 0 rfl C1 _ (fun w hSw => hSw.2) Tryd.underlying50 (by rfl) HJ1.out) hHeld ?_
    simp only [Act.put, List.getElem_toArray, List.getElem_cons_zero, List.getElem_cons_succ, List.setIfInBounds_toArray, List.set_cons_zero, List.set_cons_succ]
    refine wpAnyH_take (i := 2) (v := .int .i64 n) rfl (by kernel_rfl) (by kernel_rfl) (by kernel_rfl) (fun _ _ _ h => h) (Or.inl ⟨by rfl, ?_⟩) hHeld ?_
    · intro w hSw
      simp only [List.getElem_toArray, List.getElem_cons_zero, List.getElem_cons_succ]
      go_simp
    simp only [Act.put, List.getElem_toArray, List.getElem_cons_zero, List.getElem_cons_succ, List.setIfInBounds_toArray, List.set_cons_zero, List.set_cons_succ]
    refine wpAnyH_ready (rs := [3, 8]) (by kernel_rfl) (by simp) ?_
    refine AllReadyH.cons rfl (fun K hK => ?_) (AllReadyH.cons rfl (fun K hK => ?_) AllReadyH.nil)
    · simp only [List.getElem_toArray, List.getElem_cons_zero, List.getElem_cons_succ]
      go_simp
      refine (HKN.out _).mono ?_
      rintro e w' ⟨rfl, rfl⟩
      refine hK.out _ _ hHeld (fun hHeld => ?_)
      clear hK K
      refine wpAnyH_ready (rs := [4, 8]) (by kernel_rfl) (by simp) ?_
      refine AllReadyH.cons rfl (fun K hK => ?_) (AllReadyH.cons rfl (fun K hK => ?_) AllReadyH.nil)
      · simp only [List.getElem_toArray, List.getElem_cons_zero, List.getElem_cons_succ]
        go_simp
        refine (HWB.out C1 _ HX5.out.drew.below (HX5.out.drew.sts _ (.head _)).2).mono ?_
        rintro e wa ⟨⟨C2, rfl, hC⟩, hb⟩
        have HXA := Lib.hid (HX5.out.drew.keeps hb)
        have HC2 := Lib.hid (hC.base HX5.out.drew.below.size)
        have HJ2 := Lib.hid (info_st (HC2.out.len HI2.out.mem))
        refine hK.out _ _ ⟨HXA.out.pcell, HXA.out.range (.head _)⟩ (fun hHeld => ?_)
        clear hK K hC hb
        refine wpAnyH_take (i := 5) (v := .tuple #[.agg C2.toArray, .int .i64 0]) rfl (by kernel_rfl) (by kernel_rfl) (by kernel_rfl) (fun _ _ _ h => h) (Or.inl ⟨by rfl, ?_⟩) hHeld ?_
        · intro w hSw
          simp only [List.getElem_toArray, List.getElem_cons_zero, List.getElem_cons_succ]
          go_simp
        simp only [Act.put, List.getElem_toArray, List.getElem_cons_zero, List.getElem_cons_succ, List.setIfInBounds_toArray, List.set_cons_zero, List.set_cons_succ]
        refine wpAnyH_take (i := 6) (v := .agg C2.toArray) rfl (by kernel_rfl) (by kernel_rfl) (by kernel_rfl) (fun _ _ _ h => h) (Or.inl ⟨by rfl, ?_⟩) hHeld ?_
        · intro w hSw
          simp only [List.getElem_toArray, List.getElem_cons_zero, List.getElem_cons_succ]
          go_simp
        simp only [Act.put, List.getElem_toArray, List.getElem_cons_zero, List.getElem_cons_succ, List.setIfInBounds_toArray, List.set_cons_zero, List.set_cons_succ]
        refine wpAnyH_take (i := 7) (v := .int .i64 0) rfl (by kernel_rfl) (by kernel_rfl) (by kernel_rfl) (fun _ _ _ h => h) (Or.inl ⟨by rfl, ?_⟩) hHeld ?_
        · intro w hSw
          simp only [List.getElem_toArray, List.getElem_cons_zero, List.getElem_cons_succ]
          go_simp
        simp only [Act.put, List.getElem_toArray, List.getElem_cons_zero, List.getElem_cons_succ, List.setIfInBounds_toArray, List.set_cons_zero, List.set_cons_succ]
        refine wpAnyH_ready (rs := [8]) (by kernel_rfl) (by simp) ?_
        refine AllReadyH.cons rfl (fun K hK => ?_) AllReadyH.nil
        simp only [List.getElem_toArray, List.getElem_cons_zero, List.getElem_cons_succ]
        go_simp
        refine hK.out _ _ ⟨(HXA.out.alloc (.cells zeroV.toArray 50)).pcell, (HXA.out.alloc (.cells zeroV.toArray 50)).range (.head _)⟩ (fun hHeld => ?_)
        clear hK K
        refine wpAnyH_ready (rs := [9]) (by kernel_rfl) (by simp) ?_
        refine AllReadyH.cons rfl (fun K hK => ?_) AllReadyH.nil
        simp only [List.getElem_toArray, List.getElem_cons_zero, List.getElem_cons_succ]
        rw [if_pos (by rfl)]
        refine wp_store_mid 50 _ _ (by rfl) wa.heap.size 0 C2.toArray (by rfl) (by rfl) (there_new wa zeroV _ (by simp [HC2.out.len HI2.out.mem, zeroV_length])) (by simpa using HJ2.out) HC2.out.one ?_
        obtain ⟨wb, hwb⟩ : ∃ wb, (wa.alloc (.cells zeroV.toArray 50)).setCells wa.heap.size 0 C2.toArray.toList = wb := ⟨_, rfl⟩
        rw [hwb]
        obtain ⟨b1, hb1⟩ : ∃ b, wa.heap.size = b := ⟨_, rfl⟩
        have HXB : Hid (Sx w1 w1.heap.size (.slice A1 p.length cap1) wb ((b1, C2, s1) :: [(w2.heap.size, C1, s1)])) := Lib.hid (by rw [← hwb, ← hb1]; exact HXA.out.add HC2.out HI2.out.mem)
        rw [hb1]
        refine hK.out _ _ ⟨HXB.out.pcell, HXB.out.range (.tail _ (.head _))⟩ (fun hHeld => ?_)
        clear hK K hwb hb1
        refine wpAnyH_ready (rs := [10]) (by kernel_rfl) (by simp) ?_
        refine AllReadyH.cons rfl (fun K hK => ?_) AllReadyH.nil
        simp only [List.getElem_toArray, List.getElem_cons_zero, List.getElem_cons_succ]
        go_simp
        refine hK.out _ _ hHeld (fun hHeld => ?_)
        clear hK K hHeld
        refine wpAnyH_done (by kernel_rfl) ?_ _
        exact ⟨b1, C2, rfl, HXB.out⟩
      · simp only [List.getElem_toArray, List.getElem_cons_zero, List.getElem_cons_succ]
        go_simp
        refine hK.out _ _ ⟨(HX5.out.drew.alloc (.cells zeroV.toArray 50)).pcell, (HX5.out.drew.alloc (.cells zeroV.toArray 50)).range (.head _)⟩ (fun hHeld => ?_)
        clear hK K
        refine wpAnyH_ready (rs := [4]) (by kernel_rfl) (by simp) ?_
        refine AllReadyH.cons rfl (fun K hK => ?_) AllReadyH.nil
        simp only [List.getElem_toArray, List.getElem_cons_zero, List.getElem_cons_succ]
        go_simp
        refine (HWB.out C1 _ (HX5.out.drew.alloc (.cells zeroV.toArray 50)).below ((HX5.out.drew.alloc (.cells zeroV.toArray 50)).sts _ (.head _)).2).mono ?_
        rintro e wa ⟨⟨C2, rfl, hC⟩, hb⟩
        have HXA := Lib.hid ((HX5.out.drew.alloc (.cells zeroV.toArray 50)).keeps hb)
        have HC2 := Lib.hid (hC.base (HX5.out.drew.alloc (.cells zeroV.toArray 50)).below.size)
        have HJ2 := Lib.hid (info_st (HC2.out.len HI2.out.mem))
        have HZB := Lib.hid ((hb.block w5.heap.size (by simp)).trans (heap_alloc_new w5.drew (.cells zeroV.toArray 50)))
        refine hK.out _ _ ⟨HXA.out.pcell, HXA.out.range (.head _)⟩ (fun hHeld => ?_)
        clear hK K hC hb
        refine wpAnyH_take (i := 5) (v := .tuple #[.agg C2.toArray, .int .i64 0]) rfl (by kernel_rfl) (by kernel_rfl) (by kernel_rfl) (fun _ _ _ h => h) (Or.inl ⟨by rfl, ?_⟩) hHeld ?_
        · intro w hSw
          simp only [List.getElem_toArray, List.getElem_cons_zero, List.getElem_cons_succ]
          go_simp
        simp only [Act.put, List.getElem_toArray, List.getElem_cons_zero, List.getElem_cons_succ, List.setIfInBounds_toArray, List.set_cons_zero, List.set_cons_succ]
        refine wpAnyH_take (i := 6) (v := .agg C2.toArray) rfl (by kernel_rfl) (by kernel_rfl) (by kernel_rfl) (fun _ _ _ h => h) (Or.inl ⟨by rfl, ?_⟩) hHeld ?_
        · intro w hSw
          simp only [List.getElem_toArray, List.getElem_cons_zero, List.getElem_cons_succ]
          go_simp
        simp only [Act.put, List.getElem_toArray, List.getElem_cons_zero, List.getElem_cons_succ, List.setIfInBounds_toArray, List.set_cons_zero, List.set_cons_succ]
        refine wpAnyH_take (i := 7) (v := .int .i64 0) rfl (by kernel_rfl) (by kernel_rfl) (by kernel_rfl) (fun _ _ _ h => h) (Or.inl ⟨by rfl, ?_⟩) hHeld ?_
        · intro w hSw
          simp only [List.getElem_toArray, List.getElem_cons_zero, List.getElem_cons_succ]
          go_simp
        simp only [Act.put, List.getElem_toArray, List.getElem_cons_zero, List.getElem_cons_succ, List.setIfInBounds_toArray, List.set_cons_zero, List.set_cons_succ]
        refine wpAnyH_ready (rs := [9]) (by kernel_rfl) (by simp) ?_
        refine AllReadyH.cons rfl (fun K hK => ?_) AllReadyH.nil
        simp only [List.getElem_toArray, List.getElem_cons_zero, List.getElem_cons_succ]
        rw [if_pos (by rfl)]
        refine wp_store_mid 50 _ _ (by rfl) w5.heap.size 0 C2.toArray (by rfl) (by rfl) (there_block HZB.out (by simp [HC2.out.len HI2.out.mem, zeroV_length])) (by simpa using HJ2.out) HC2.out.one ?_
        obtain ⟨wb, hwb⟩ : ∃ wb, wa.setCells w5.heap.size 0 C2.toArray.toList = wb := ⟨_, rfl⟩
        rw [hwb]
        obtain ⟨b1, hb1⟩ : ∃ b, w5.heap.size = b := ⟨_, rfl⟩
        have HXB : Hid (Sx w1 w1.heap.size (.slice A1 p.length cap1) wb ((b1, C2, s1) :: [(w2.heap.size, C1, s1)])) := Lib.hid (by rw [← hwb, ← hb1]; exact HXA.out.put HZB.out zeroV_length HX5.out.below.size HC2.out (HC2.out.len HI2.out.mem) (fun x hx => ⟨hx, HNB x hx⟩))
        rw [hb1]
        refine hK.out _ _ ⟨HXB.out.pcell, HXB.out.range (.tail _ (.head _))⟩ (fun hHeld => ?_)
        clear hK K hwb hb1
        refine wpAnyH_ready (rs := [10]) (by kernel_rfl) (by simp) ?_
        refine AllReadyH.cons rfl (fun K hK => ?_) AllReadyH.nil
        simp only [List.getElem_toArray, List.getElem_cons_zero, List.getElem_cons_succ]
        go_simp
        refine hK.out _ _ hHeld (fun hHeld => ?_)
        clear hK K hHeld
        refine wpAnyH_done (by kernel_rfl) ?_ _
        exact ⟨b1, C2, rfl, HXB.out⟩
    · simp only [List.getElem_toArray, List.getElem_cons_zero, List.getElem_cons_succ]
      go_simp
      refine hK.out _ _ ⟨(HX5.out.drew.alloc (.cells zeroV.toArray 50)).pcell, (HX5.out.drew.alloc (.cells zeroV.toArray 50)).range (.head _)⟩ (fun hHeld => ?_)
      clear hK K
      refine wpAnyH_ready (rs := [3]) (by kernel_rfl) (by simp) ?_
      refine AllReadyH.cons rfl (fun K hK => ?_) AllReadyH.nil
      simp only [List.getElem_toArray, List.getElem_cons_zero, List.getElem_cons_succ]
      go_simp
      refine (HKN.out _).mono ?_
      rintro e w' ⟨rfl, rfl⟩
      refine hK.out _ _ hHeld (fun hHeld => ?_)
      clear hK K
      refine wpAnyH_ready (rs := [4]) (by kernel_rfl) (by simp) ?_
      refine AllReadyH.cons rfl (fun K hK => ?_) AllReadyH.nil
      simp only [List.getElem_toArray, List.getElem_cons_zero, List.getElem_cons_succ]
      go_simp
      refine (HWB.out C1 _ (HX5.out.drew.alloc (.cells zeroV.toArray 50)).below ((HX5.out.drew.alloc (.cells zeroV.toArray 50)).sts _ (.head _)).2).mono ?_
      rintro e wa ⟨⟨C2, rfl, hC⟩, hb⟩
      have HXA := Lib.hid ((HX5.out.drew.alloc (.cells zeroV.toArray 50)).keeps hb)
      have HC2 := Lib.hid (hC.base (HX5.out.drew.alloc (.cells zeroV.toArray 50)).below.size)
      have HJ2 := Lib.hid (info_st (HC2.out.len HI2.out.mem))
      have HZB := Lib.hid ((hb.block w5.heap.size (by simp)).trans (heap_alloc_new w5.drew (.cells zeroV.toArray 50)))
      refine hK.out _ _ ⟨HXA.out.pcell, HXA.out.range (.head _)⟩ (fun hHeld => ?_)
      clear hK K hC hb
      refine wpAnyH_take (i := 5) (v := .tuple #[.agg C2.toArray, .int .i64 0]) rfl (by kernel_rfl) (by kernel_rfl) (by kernel_rfl) (fun _ _ _ h => h) (Or.inl ⟨by rfl, ?_⟩) hHeld ?_
      · intro w hSw
        simp only [List.getElem_toArray, List.getElem_cons_zero, List.getElem_cons_succ]
        go_simp
      simp only [Act.put, List.getElem_toArray, List.getElem_cons_zero, List.getElem_cons_succ, List.setIfInBounds_toArray, List.set_cons_zero, List.set_cons_succ]
      refine wpAnyH_take (i := 6) (v := .agg C2.toArray) rfl (by kernel_rfl) (by kernel_rfl) (by kernel_rfl) (fun _ _ _ h => h) (Or.inl ⟨by rfl, ?_⟩) hHeld ?_
      · intro w hSw
        simp only [List.getElem_toArray, List.getElem_cons_zero, List.getElem_cons_succ]
        go_simp
      simp only [Act.put, List.getElem_toArray, List.getElem_cons_zero, List.getElem_cons_succ, List.setIfInBounds_toArray, List.set_cons_zero, List.set_cons_succ]
      refine wpAnyH_take (i := 7) (v := .int .i64 0) rfl (by kernel_rfl) (by kernel_rfl) (by kernel_rfl) (fun _ _ _ h => h) (Or.inl ⟨by rfl, ?_⟩) hHeld ?_
      · intro w hSw
        simp only [List.getElem_toArray, List.getElem_cons_zero, List.getElem_cons_succ]
        go_simp
      simp only [Act.put, List.getElem_toArray, List.getElem_cons_zero, List.getElem_cons_succ, List.setIfInBounds_toArray, List.set_cons_zero, List.set_cons_succ]
      refine wpAnyH_ready (rs := [9]) (by kernel_rfl) (by simp) ?_
      refine AllReadyH.cons rfl (fun K hK => ?_) AllReadyH.nil
      simp only [List.getElem_toArray, List.getElem_cons_zero, List.getElem_cons_succ]
      rw [if_pos (by rfl)]
      refine wp_store_mid 50 _ _ (by rfl) w5.heap.size 0 C2.toArray (by rfl) (by rfl) (there_block HZB.out (by simp [HC2.out.len HI2.out.mem, zeroV_length])) (by simpa using HJ2.out) HC2.out.one ?_
      obtain ⟨wb, hwb⟩ : ∃ wb, wa.setCells w5.heap.size 0 C2.toArray.toList = wb := ⟨_, rfl⟩
      rw [hwb]
      obtain ⟨b1, hb1⟩ : ∃ b, w5.heap.size = b := ⟨_, rfl⟩
      have HXB : Hid (Sx w1 w1.heap.size (.slice A1 p.length cap1) wb ((b1, C2, s1) :: [(w2.heap.size, C1, s1)])) := Lib.hid (by rw [← hwb, ← hb1]; exact HXA.out.put HZB.out zeroV_length HX5.out.below.size HC2.out (HC2.out.len HI2.out.mem) (fun x hx => ⟨hx, HNB x hx⟩))
      rw [hb1]
      refine hK.out _ _ ⟨HXB.out.pcell, HXB.out.range (.tail _ (.head _))⟩ (fun hHeld => ?_)
      clear hK K hwb hb1
      refine wpAnyH_ready (rs := [10]) (by kernel_rfl) (by simp) ?_
      refine AllReadyH.cons rfl (fun K hK => ?_) AllReadyH.nil
      simp only [List.getElem_toArray, List.getElem_cons_zero, List.getElem_cons_succ]
      go_simp
      refine hK.out _ _ hHeld (fun hHeld => ?_)
      clear hK K hHeld
      refine wpAnyH_done (by kernel_rfl) ?_ _
      exact ⟨b1, C2, rfl, HXB.out⟩
  case h2 =>
    intro b1 C2 w6 hX
    have HX6 := Lib.hid hX
    have HC2 := Lib.hid (hX.sts _ (.head _)).2
    have HJ2 := Lib.hid (info_st (HC2.out.len HI2.out.mem))
    have pc6 := hX.pcell
    clear hX
    go_wp2_with (refine wpList_load_mid (by rfl) 50 _ (by rfl) w2.heap.size 0 (by rfl) C1 _ (HX6.out.range (.tail _ (.head _))) Tryd.underlying50 (by rfl) HJ1.out ?_)
    refine (HNX.out C1 _ HX6.out.below (HX6.out.sts _ (.tail _ (.head _))).2).mono ?_
    rintro e w7 ⟨⟨C3, rfl, hC3⟩, hb3⟩
    have HX7 := Lib.hid (HX6.out.keeps hb3)
    have HC3 := Lib.hid (hC3.base HX6.out.below.size)
    have HJ3 := Lib.hid (info_st (HC3.out.len HI3.out.mem))
    clear hC3 hb3 pc6
    have pc7 := HX7.out.pcell
    go_wp2_with (first | (refine wpList_store_mid (by rfl) 50 _ _ (by rfl) w7.heap.size 0 C3.toArray (by rfl) (by rfl) (there_new w7 zeroV _ (by simp [HC3.out.len HI3.out.mem, zeroV_length])) (by simpa using HJ3.out) HC3.out.one ?_; obtain ⟨w8, hw8⟩ : ∃ w8, (w7.alloc (.cells zeroV.toArray 50)).setCells w7.heap.size 0 C3.toArray.toList = w8 := ⟨_, rfl⟩; rw [hw8]; have HX8 : Hid (Sx w1 w1.heap.size (.slice A1 p.length cap1) w8 [(w7.heap.size, C3, s1), (b1, C2, s1), (w2.heap.size, C1, s1)]) := Lib.hid (hw8 ▸ HX7.out.add HC3.out HI3.out.mem); have pc8 := HX8.out.pcell; clear hw8) | (refine wpList_load_mid (by rfl) 50 _ (by rfl) w2.heap.size 0 (by rfl) C1 _ (HX8.out.range (.tail _ (.tail _ (.head _)))) Tryd.underlying50 (by rfl) HJ1.out ?_))
    refine (HWN.out C1 _ HX8.out.below (HX8.out.sts _ (.tail _ (.tail _ (.head _)))).2).mono ?_
    rintro e w9 ⟨rfl, hb9⟩
    have HX9 := Lib.hid (HX8.out.keeps hb9)
    clear hb9 pc7 pc8
    have HZI : Hid ((Tryd.prog.info? 50).map (·.size) = some zeroV.length) := Lib.hid (info_st zeroV_length)
    have HZ1 := Lib.hid zeroV_one
    have HC9 := Lib.hid (HX9.out.sts _ (.tail _ (.tail _ (.head _)))).2
    obtain ⟨FA, fa, EA, ea, AA, aa, hA⟩ := HC1.out.cin HI1.out.mem (fun f hf => (HI1.out.fr f hf).regs)
    have g0 := hA.c0
    clear hA
    obtain ⟨st, hst'⟩ : ∃ x, s1.status = x := ⟨_, rfl⟩
    rw [hst'] at g0 hst
    have hq : (st != 0) = true := by simpa using hst
    have hq2 : (st = 0) = False := by simpa using hst
    clear hst hst'
    go_wp2_with (first | (refine wpList_store_mid (by rfl) 50 _ _ (by rfl) w9.heap.size 0 zeroV.toArray (by rfl) (by rfl) (there_new w9 zeroV _ (Nat.le_refl _)) (by simpa using HZI.out) HZ1.out ?_; obtain ⟨w10, hw10⟩ : ∃ w10, (w9.alloc (.cells zeroV.toArray 50)).setCells w9.heap.size 0 zeroV.toArray.toList = w10 := ⟨_, rfl⟩; rw [hw10]; have HX10 := Lib.hid (hw10 ▸ HX9.out.keeps (below_setCells (Nat.le_refl _) _ _ _ ((Below.refl _ _).alloc (Nat.le_refl _) _)) : Sx w1 w1.heap.size (.slice A1 p.length cap1) w10 [(w7.heap.size, C3, s1), (b1, C2, s1), (w2.heap.size, C1, s1)]); have y0 := (HX10.out.cell (.tail _ (.tail _ (.head _))) 0).trans g0; clear hw10) | (go_at_call 30; (refine (sameState_any s1 C1 C3 _ HI1.out (HX11.out.sts _ (.tail _ (.tail _ (.head _)))).2 (HX11.out.sts _ (.head _)).2).mono ?_; rintro e w12 ⟨rfl, hb12⟩; have HX12 := Lib.hid (HX11.out.keeps hb12); clear hb12)) | (go_at_call 30; (refine (sameState_any s1 C1 C2 _ HI1.out (HX10.out.sts _ (.tail _ (.tail _ (.head _)))).2 (HX10.out.sts _ (.tail _ (.head _))).2).mono ?_; rintro e w11 ⟨rfl, hb11⟩; have HX11 := Lib.hid (HX10.out.keeps hb11); clear hb11)) | (refine wpList_load_midg (by rfl) 50 _ (by rfl) w2.heap.size 0 (by rfl) C1 _ (HX11.out.range (.tail _ (.tail _ (.head _)))) Tryd.underlying50 (by rfl) HJ1.out ?_) | (refine wpList_load_midg (by rfl) 50 _ (by rfl) w7.heap.size 0 (by rfl) C3 _ (HX11.out.range (.head _)) Tryd.underlying50 (by rfl) HJ3.out ?_) | (refine wpList_load_midg (by rfl) 50 _ (by rfl) w2.heap.size 0 (by rfl) C1 _ (HX10.out.range (.tail _ (.tail _ (.head _)))) Tryd.underlying50 (by rfl) HJ1.out ?_) | (refine wpList_load_midg (by rfl) 50 _ (by rfl) b1 0 (by rfl) C2 _ (HX10.out.range (.tail _ (.head _))) Tryd.underlying50 (by rfl) HJ2.out ?_))
    go_ret
    exact ⟨rfl, HBW.out.trans (HX12.out.below.mono HBW.out.size)⟩
end Go.Proofs.YtnbopmlemddakaaDoor
