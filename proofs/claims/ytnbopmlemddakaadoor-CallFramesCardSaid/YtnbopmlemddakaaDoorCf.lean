/-
  The walk of CallFrames: it returns true.
-/
import Derived.Test.YtnbopmlemddakaaDoorTp
namespace Go.Proofs.YtnbopmlemddakaaDoor
open Go.RowKit Tier
set_option maxRecDepth 100000 in
set_option maxHeartbeats 8000000 in
theorem callFrames_walk (A : Option Addr) (l : List Fnc) (cap : Nat) (a0 a1 : Int) (YA : Option Addr) (ans : List Int) (ycap : Nat) (fuel : Int) (n : Int) (w : World) (ht : Tab w) (hraw : RawsAt w A l) (hln : (l.length : Int) ≤ 9223372036854775807) (hin : InOk w a0 a1 YA ans ycap fuel) (hn : In n) :
    Calls Tryd.prog 13 #[.slice A l.length cap, .agg #[.int .i64 a0, .int .i64 a1, .slice YA ans.length ycap, .int .i64 fuel], .int .i64 n] w fun e w' => e = .returned (.bool true) ∧ Below w.heap.size w w' := by
  have HT := Lib.hid ht
  have HR := Lib.hid hraw
  have HIN := Lib.hid hin
  have hright := mkP_right l
  clear ht hraw hin
  have pn := picked_in n 250 (by omega)
  have HKN := Lib.hid (fun (W : World) => picked_any n 250 W hn (by omega) (by omega))
  obtain ⟨u, hu⟩ : ∃ u : Nat, pickedI n 250 = u := ⟨(pickedI n 250).toNat, by omega⟩
  rw [hu] at pn HKN
  go_enter Tryd.func13, Tryd.ntmps13
  go_wp2_with fail
  obtain ⟨wi, hwi⟩ : ∃ wi, w.alloc (.cells #[.int .i64 a0, .int .i64 a1, .slice YA ans.length ycap, .int .i64 fuel] 46) = wi := ⟨_, rfl⟩
  have HBI : Hid (Below w.heap.size w wi) := Lib.hid (hwi ▸ (Below.refl _ w).alloc (Nat.le_refl _) _)
  have HIB : Hid (wi.heap[w.heap.size]? = some (.cells #[.int .i64 a0, .int .i64 a1, .slice YA ans.length ycap, .int .i64 fuel] 46 (0, 0))) := Lib.hid (hwi ▸ heap_alloc_new w _)
  rw [hwi]
  refine (program_any A cap l _ (HT.out.keeps HBI.out) hln (HR.out.keeps HBI.out)).mono ?_
  rintro e w1 ⟨⟨A1, cap1, vs, rfl, hpv⟩, hb1⟩
  have HP := Lib.hid hpv.at
  have HBW := Lib.hid (HBI.out.trans (hb1.mono HBI.out.size))
  have HT1 := Lib.hid (HT.out.keeps HBW.out)
  have hib := (hb1.block _ (block_lt HIB.out)).trans HIB.out
  have i0 := (cell_block hib 0).trans rfl
  have i1 := (cell_block hib 1).trans rfl
  have i2 := (cell_block hib 2).trans rfl
  have i3 := (cell_block hib 3).trans rfl
  have zi := block_lt hib
  clear hpv hb1 hwi HBI HIB hib vs
  generalize mkP l = p at *
  have hp := right_of hright
  have HG := Lib.hid (hright)
  have HRP := Lib.hid hp
  have HBG := Lib.hid (fun (W : World) (hb : Below w1.heap.size w1 W) => kbegin_any hright a0 a1 fuel ans YA ycap A1 cap1 W (HT1.out.keeps hb) (HP.out.keeps hb) ((HIN.out.row.keeps HBW.out).keeps hb) HIN.out.len HIN.out.cap HIN.out.fuel)
  have hi0 := inSt_inv hp a0 a1 ans fuel
  obtain ⟨s0, hs0⟩ : ∃ s0, inSt p a0 a1 ans fuel = s0 := ⟨_, rfl⟩
  rw [hs0] at HBG hi0
  obtain ⟨s1, hs1⟩ : ∃ s1, walkSt p u s0 = s1 := ⟨_, rfl⟩
  obtain ⟨s2, hs2⟩ : ∃ s2, nextSt p s1 = s2 := ⟨_, rfl⟩
  have HI0 := Lib.hid hi0
  have HI1 : Hid (StInv p s1) := Lib.hid (hs1 ▸ hi0.walk hp u)
  have HI2 : Hid (StInv p s2) := Lib.hid (hs2 ▸ HI1.out.next hp)
  have HWA := Lib.hid (fun (C : List Value) (W : World) (hb : Below w1.heap.size w1 W) (hC : CellsSt C W w1.heap.size s0) => swalk_c hright u (by omega) (HT1.out.keeps hb) (HP.out.keeps hb) HI0.out hC)
  have HNX := Lib.hid (fun (C : List Value) (W : World) (hb : Below w1.heap.size w1 W) (hC : CellsSt C W w1.heap.size s1) => snext_c hright (HT1.out.keeps hb) (HP.out.keeps hb) HI1.out hC)
  have HS2 := Lib.hid hs2
  have HS1 := Lib.hid hs1
  rw [hs1] at HWA
  rw [hs2] at HNX
  clear hs0 hs1 hs2 hi0 hp hu hn
  clear hright
  go_wp2_with fail
  refine (HBG.out _ ((Below.refl _ w1).alloc (Nat.le_refl _) _)).mono ?_
  rintro e w2 ⟨⟨C0, rfl, hC0⟩, hb2⟩
  have HX2 : Hid (Sx w1 w1.heap.size (.slice A1 p.length cap1) w2 []) := Lib.hid ((Sx.mk ((Below.refl _ w1).alloc (Nat.le_refl _) _) (heap_alloc_new w1 _) (fun x hx => by simp at hx)).keeps hb2)
  have HC0 := Lib.hid (hC0.base (by simp : w1.heap.size ≤ _))
  have HJ0 := Lib.hid (info_st (HC0.out.len HI0.out.mem))
  have hz := zero_st
  clear hC0 hb2 HBG i0 i1 i2 i3 zi
  go_wp2_with (refine wpList_store_mid (by rfl) 50 _ _ (by rfl) w2.heap.size 0 C0.toArray (by rfl) (by rfl) (there_new w2 zeroV _ (by simp [HC0.out.len HI0.out.mem, zeroV_length])) (by simpa using HJ0.out) HC0.out.one ?_; obtain ⟨w3, hw3⟩ : ∃ w3, (w2.alloc (.cells zeroV.toArray 50)).setCells w2.heap.size 0 C0.toArray.toList = w3 := ⟨_, rfl⟩; rw [hw3]; have HX3 : Hid (Sx w1 w1.heap.size (.slice A1 p.length cap1) w3 [(w2.heap.size, C0, s0)]) := Lib.hid (hw3 ▸ HX2.out.add HC0.out HI0.out.mem); have pc3 := HX3.out.pcell; clear hw3)
  have HLC0 := Lib.hid (HC0.out.len HI0.out.mem)
  have HBGC0 := Lib.hid HX2.out.below.size
  apply region_cut1 (α := List Value) (R := fun (C' : List Value) w' => Sx w1 w1.heap.size (.slice A1 p.length cap1) w' ((w2.heap.size, C', s1) :: []))
  case h1 =>
    refine wp_region_held_drew (S := fun w' => w'.cell? ⟨w1.heap.size, 0, none⟩ = some (.slice A1 p.length cap1)) (by kernel_rfl) HX3.out.drew.pcell (fun hHeld => ?_)
    refine wpAnyH_take (i := 0) (v := .agg #[(.slice A1 p.length cap1)]) rfl (by kernel_rfl) (by kernel_rfl) (by kernel_rfl) (fun _ _ _ h => h) (Or.inl ⟨by rfl, ?_⟩) hHeld ?_
    · intro w hSw
      have q0 := hSw
      simp only [List.getElem_toArray, List.getElem_cons_zero]
      go_simp
    simp only [Act.put, List.getElem_toArray, List.getElem_cons_zero, List.setIfInBounds_toArray, List.set_cons_zero, List.set_cons_succ]
    refine wpAnyH_take (i := 2) (v := .int .i64 n) rfl (by kernel_rfl) (by kernel_rfl) (by kernel_rfl) (fun _ _ _ h => h) (Or.inl ⟨by rfl, ?_⟩) hHeld ?_
    · intro w hSw
      simp only [List.getElem_toArray, List.getElem_cons_zero, List.getElem_cons_succ]
      go_simp
    simp only [Act.put, List.getElem_toArray, List.getElem_cons_zero, List.getElem_cons_succ, List.setIfInBounds_toArray, List.set_cons_zero, List.set_cons_succ]
    refine wpAnyH_ready (rs := [1, 3]) (by kernel_rfl) (by simp) ?_
    refine AllReadyH.cons rfl (fun K hK => ?_) (AllReadyH.cons rfl (fun K hK => ?_) AllReadyH.nil)
    · simp only [List.getElem_toArray, List.getElem_cons_zero, List.getElem_cons_succ]
      rw [if_pos (by rfl)]
      refine wp_load_mid 50 _ (by rfl) w2.heap.size 0 (by rfl) C0 _ (HX3.out.drew.range (.head _)) Tryd.underlying50 (by rfl) HJ0.out ?_
      refine hK.out _ _ hHeld (fun hHeld => ?_)
      clear hK K
      simp only [Act.put, List.setIfInBounds_toArray, List.set_cons_zero, List.set_cons_succ]
      refine wpAnyH_ready (rs := [3]) (by kernel_rfl) (by simp) ?_
      refine AllReadyH.cons rfl (fun K hK => ?_) AllReadyH.nil
      simp only [List.getElem_toArray, List.getElem_cons_zero, List.getElem_cons_succ]
      go_simp
      refine (HKN.out _).mono ?_
      rintro e w' ⟨rfl, rfl⟩
      refine hK.out _ _ hHeld (fun hHeld => ?_)
      clear hK K
      refine wpAnyH_ready (rs := [4]) (by kernel_rfl) (by simp) ?_
      refine AllReadyH.cons rfl (fun K hK => ?_) AllReadyH.nil
      simp only [List.getElem_toArray, List.getElem_cons_zero, List.getElem_cons_succ]
      go_simp
      refine (HWA.out C0 _ HX3.out.drew.below (HX3.out.drew.sts _ (.head _)).2).mono ?_
      rintro e wa ⟨⟨C1, rfl, hC⟩, hb⟩
      have HXA := Lib.hid (HX3.out.drew.keeps hb)
      have HC1 := Lib.hid (hC.base HX3.out.below.size)
      have HJ1 := Lib.hid (info_st (HC1.out.len HI1.out.mem))
      refine hK.out _ _ HXA.out.pcell (fun hHeld => ?_)
      clear hK K hC hb
      refine wpAnyH_take (i := 5) (v := .tuple #[.agg C1.toArray, .int .i64 0]) rfl (by kernel_rfl) (by kernel_rfl) (by kernel_rfl) (fun _ _ _ h => h) (Or.inl ⟨by rfl, ?_⟩) hHeld ?_
      · intro w hSw
        simp only [List.getElem_toArray, List.getElem_cons_zero, List.getElem_cons_succ]
        go_simp
      simp only [Act.put, List.getElem_toArray, List.getElem_cons_zero, List.getElem_cons_succ, List.setIfInBounds_toArray, List.set_cons_zero, List.set_cons_succ]
      refine wpAnyH_take (i := 6) (v := .agg C1.toArray) rfl (by kernel_rfl) (by kernel_rfl) (by kernel_rfl) (fun _ _ _ h => h) (Or.inl ⟨by rfl, ?_⟩) hHeld ?_
      · intro w hSw
        simp only [List.getElem_toArray, List.getElem_cons_zero, List.getElem_cons_succ]
        go_simp
      simp only [Act.put, List.getElem_toArray, List.getElem_cons_zero, List.getElem_cons_succ, List.setIfInBounds_toArray, List.set_cons_zero, List.set_cons_succ]
      refine wpAnyH_take (i := 7) (v := .int .i64 0) rfl (by kernel_rfl) (by kernel_rfl) (by kernel_rfl) (fun _ _ _ h => h) (Or.inl ⟨by rfl, ?_⟩) hHeld ?_
      · intro w hSw
        simp only [List.getElem_toArray, List.getElem_cons_zero, List.getElem_cons_succ]
        go_simp
      simp only [Act.put, List.getElem_toArray, List.getElem_cons_zero, List.getElem_cons_succ, List.setIfInBounds_toArray, List.set_cons_zero, List.set_cons_succ]
      refine wpAnyH_ready (rs := [8]) (by kernel_rfl) (by simp) ?_
      refine AllReadyH.cons rfl (fun K hK => ?_) AllReadyH.nil
      simp only [List.getElem_toArray, List.getElem_cons_zero, List.getElem_cons_succ]
      rw [if_pos (by rfl)]
      refine wp_store_mid 50 _ _ (by rfl) w2.heap.size 0 C1.toArray (by rfl) (by rfl) (HXA.out.there (.head _) (by simp [HC1.out.len HI1.out.mem, HLC0.out])) (by simpa using HJ1.out) HC1.out.one ?_
      obtain ⟨wb, hwb⟩ : ∃ wb, wa.setCells w2.heap.size 0 C1.toArray.toList = wb := ⟨_, rfl⟩
      rw [hwb]
      have HXB : Hid (Sx w1 w1.heap.size (.slice A1 p.length cap1) wb ((w2.heap.size, C1, s1) :: [])) := Lib.hid (hwb ▸ HXA.out.put (HXA.out.sts _ (.head _)).1 HLC0.out HBGC0.out HC1.out (HC1.out.len HI1.out.mem) (fun x hx => by simp at hx))
      refine hK.out _ _ HXB.out.pcell (fun hHeld => ?_)
      clear hK K hwb
      refine wpAnyH_ready (rs := [9]) (by kernel_rfl) (by simp) ?_
      refine AllReadyH.cons rfl (fun K hK => ?_) AllReadyH.nil
      simp only [List.getElem_toArray, List.getElem_cons_zero, List.getElem_cons_succ]
      go_simp
      refine hK.out _ _ hHeld (fun hHeld => ?_)
      clear hK K hHeld
      refine wpAnyH_done (by kernel_rfl) ?_ _
      exact ⟨C1, rfl, HXB.out⟩
    · simp only [List.getElem_toArray, List.getElem_cons_zero, List.getElem_cons_succ]
      go_simp
      refine (HKN.out _).mono ?_
      rintro e w' ⟨rfl, rfl⟩
      refine hK.out _ _ hHeld (fun hHeld => ?_)
      clear hK K
      refine wpAnyH_ready (rs := [1]) (by kernel_rfl) (by simp) ?_
      refine AllReadyH.cons rfl (fun K hK => ?_) AllReadyH.nil
      simp only [List.getElem_toArray, List.getElem_cons_zero, List.getElem_cons_succ]
      rw [if_pos (by rfl)]
      refine wp_load_mid 50 _ (by rfl) w2.heap.size 0 (by rfl) C0 _ (HX3.out.drew.range (.head _)) Tryd.underlying50 (by rfl) HJ0.out ?_
      refine hK.out _ _ hHeld (fun hHeld => ?_)
      clear hK K
      simp only [Act.put, List.setIfInBounds_toArray, List.set_cons_zero, List.set_cons_succ]
      refine wpAnyH_ready (rs := [4]) (by kernel_rfl) (by simp) ?_
      refine AllReadyH.cons rfl (fun K hK => ?_) AllReadyH.nil
      simp only [List.getElem_toArray, List.getElem_cons_zero, List.getElem_cons_succ]
      go_simp
      refine (HWA.out C0 _ HX3.out.drew.below (HX3.out.drew.sts _ (.head _)).2).mono ?_
      rintro e wa ⟨⟨C1, rfl, hC⟩, hb⟩
      have HXA := Lib.hid (HX3.out.drew.keeps hb)
      have HC1 := Lib.hid (hC.base HX3.out.below.size)
      have HJ1 := Lib.hid (info_st (HC1.out.len HI1.out.mem))
      refine hK.out _ _ HXA.out.pcell (fun hHeld => ?_)
      clear hK K hC hb
      refine wpAnyH_take (i := 5) (v := .tuple #[.agg C1.toArray, .int .i64 0]) rfl (by kernel_rfl) (by kernel_rfl) (by kernel_rfl) (fun _ _ _ h => h) (Or.inl ⟨by rfl, ?_⟩) hHeld ?_
      · intro w hSw
        simp only [List.getElem_toArray, List.getElem_cons_zero, List.getElem_cons_succ]
        go_simp
      simp only [Act.put, List.getElem_toArray, List.getElem_cons_zero, List.getElem_cons_succ, List.setIfInBounds_toArray, List.set_cons_zero, List.set_cons_succ]
      refine wpAnyH_take (i := 6) (v := .agg C1.toArray) rfl (by kernel_rfl) (by kernel_rfl) (by kernel_rfl) (fun _ _ _ h => h) (Or.inl ⟨by rfl, ?_⟩) hHeld ?_
      · intro w hSw
        simp only [List.getElem_toArray, List.getElem_cons_zero, List.getElem_cons_succ]
        go_simp
      simp only [Act.put, List.getElem_toArray, List.getElem_cons_zero, List.getElem_cons_succ, List.setIfInBounds_toArray, List.set_cons_zero, List.set_cons_succ]
      refine wpAnyH_take (i := 7) (v := .int .i64 0) rfl (by kernel_rfl) (by kernel_rfl) (by kernel_rfl) (fun _ _ _ h => h) (Or.inl ⟨by rfl, ?_⟩) hHeld ?_
      · intro w hSw
        simp only [List.getElem_toArray, List.getElem_cons_zero, List.getElem_cons_succ]
        go_simp
      simp only [Act.put, List.getElem_toArray, List.getElem_cons_zero, List.getElem_cons_succ, List.setIfInBounds_toArray, List.set_cons_zero, List.set_cons_succ]
      refine wpAnyH_ready (rs := [8]) (by kernel_rfl) (by simp) ?_
      refine AllReadyH.cons rfl (fun K hK => ?_) AllReadyH.nil
      simp only [List.getElem_toArray, List.getElem_cons_zero, List.getElem_cons_succ]
      rw [if_pos (by rfl)]
      refine wp_store_mid 50 _ _ (by rfl) w2.heap.size 0 C1.toArray (by rfl) (by rfl) (HXA.out.there (.head _) (by simp [HC1.out.len HI1.out.mem, HLC0.out])) (by simpa using HJ1.out) HC1.out.one ?_
      obtain ⟨wb, hwb⟩ : ∃ wb, wa.setCells w2.heap.size 0 C1.toArray.toList = wb := ⟨_, rfl⟩
      rw [hwb]
      have HXB : Hid (Sx w1 w1.heap.size (.slice A1 p.length cap1) wb ((w2.heap.size, C1, s1) :: [])) := Lib.hid (hwb ▸ HXA.out.put (HXA.out.sts _ (.head _)).1 HLC0.out HBGC0.out HC1.out (HC1.out.len HI1.out.mem) (fun x hx => by simp at hx))
      refine hK.out _ _ HXB.out.pcell (fun hHeld => ?_)
      clear hK K hwb
      refine wpAnyH_ready (rs := [9]) (by kernel_rfl) (by simp) ?_
      refine AllReadyH.cons rfl (fun K hK => ?_) AllReadyH.nil
      simp only [List.getElem_toArray, List.getElem_cons_zero, List.getElem_cons_succ]
      go_simp
      refine hK.out _ _ hHeld (fun hHeld => ?_)
      clear hK K hHeld
      refine wpAnyH_done (by kernel_rfl) ?_ _
      exact ⟨C1, rfl, HXB.out⟩
  case h2 =>
    intro C1 w4 hX
    have HX4 := Lib.hid hX
    have HC1 := Lib.hid (hX.sts _ (.head _)).2
    have HJ1 := Lib.hid (info_st (HC1.out.len HI1.out.mem))
    have pc4 := hX.pcell
    clear hX
    go_wp2_with (refine wpList_load_mid (by rfl) 50 _ (by rfl) w2.heap.size 0 (by rfl) C1 _ (HX4.out.range (.head _)) Tryd.underlying50 (by rfl) HJ1.out ?_)
    refine (HNX.out C1 _ HX4.out.below (HX4.out.sts _ (.head _)).2).mono ?_
    rintro e w5 ⟨⟨C2, rfl, hC2⟩, hb2⟩
    have HX5 := Lib.hid (HX4.out.keeps hb2)
    have HC2 := Lib.hid (hC2.base HX4.out.below.size)
    have HJ2 := Lib.hid (info_st (HC2.out.len HI2.out.mem))
    clear hC2 hb2 pc4
    have pc5 := HX5.out.pcell
    by_cases hcs : s1.status ≠ 0 ∨ (s2.status ≠ 0 ∧ s2.status ≠ 1)
    · have hfl := nxt_frames_len HI1.out (by rw [HS2.out]; exact hcs)
      rw [HS2.out] at hfl
      obtain ⟨FA, fa, EA, ea, AA, aa, hA⟩ := HC1.out.cin HI1.out.mem (fun f hf => (HI1.out.fr f hf).regs)
      obtain ⟨FB, fb, EB, eb, AB, ab, hB⟩ := HC2.out.cin HI2.out.mem (fun f hf => (HI2.out.fr f hf).regs)
      have c0 := hA.c0
      have c2 := hA.c2
      have d0 := hB.c0
      have d2 := hB.c2
      rw [hfl] at d2
      clear hA hB hfl
      generalize s1.frames.length = nf at *
      obtain ⟨st1, h1⟩ : ∃ x, s1.status = x := ⟨_, rfl⟩
      obtain ⟨st2, h2⟩ : ∃ x, s2.status = x := ⟨_, rfl⟩
      rw [h1] at c0 hcs
      rw [h2] at d0 hcs
      clear h1 h2
      by_cases hst : st1 = 0
      · subst hst
        have q0 : (st2 = 0) = False := by simp; omega
        have q1 : (st2 = 1) = False := by simp; omega
        have q2 : (st2 != 0) = true := by simp; omega
        have q3 : (st2 != 1) = true := by simp; omega
        clear hcs
        go_wp2_with (refine wpList_store_mid (by rfl) 50 _ _ (by rfl) w5.heap.size 0 C2.toArray (by rfl) (by rfl) (there_new w5 zeroV _ (by simp [HC2.out.len HI2.out.mem, zeroV_length])) (by simpa using HJ2.out) HC2.out.one ?_; obtain ⟨w6, hw6⟩ : ∃ w6, (w5.alloc (.cells zeroV.toArray 50)).setCells w5.heap.size 0 C2.toArray.toList = w6 := ⟨_, rfl⟩; rw [hw6]; have HX6 : Hid (Sx w1 w1.heap.size (.slice A1 p.length cap1) w6 [(w5.heap.size, C2, s2), (w2.heap.size, C1, s1)]) := Lib.hid (hw6 ▸ HX5.out.add HC2.out HI2.out.mem); have pc6 := HX6.out.pcell; have HBN : Hid (Below w5.heap.size w5 w6) := Lib.hid (hw6 ▸ below_setCells (Nat.le_refl _) _ _ _ ((Below.refl _ _).alloc (Nat.le_refl _) _)); clear hw6; have a0 := (HX6.out.cell (.tail _ (.head _)) 0).trans c0; have a2 := (HX6.out.cell (.tail _ (.head _)) 2).trans c2; have b0 := (HX6.out.cell (.head _) 0).trans d0; have b2 := (HX6.out.cell (.head _) 2).trans d2)
        go_ret
        exact ⟨rfl, HBW.out.trans (HX6.out.below.mono HBW.out.size)⟩
      · have q0 : (st1 = 0) = False := by simpa using hst
        have q2 : (st1 != 0) = true := by simpa using hst
        clear hcs hst
        go_wp2_with (refine wpList_store_mid (by rfl) 50 _ _ (by rfl) w5.heap.size 0 C2.toArray (by rfl) (by rfl) (there_new w5 zeroV _ (by simp [HC2.out.len HI2.out.mem, zeroV_length])) (by simpa using HJ2.out) HC2.out.one ?_; obtain ⟨w6, hw6⟩ : ∃ w6, (w5.alloc (.cells zeroV.toArray 50)).setCells w5.heap.size 0 C2.toArray.toList = w6 := ⟨_, rfl⟩; rw [hw6]; have HX6 : Hid (Sx w1 w1.heap.size (.slice A1 p.length cap1) w6 [(w5.heap.size, C2, s2), (w2.heap.size, C1, s1)]) := Lib.hid (hw6 ▸ HX5.out.add HC2.out HI2.out.mem); have pc6 := HX6.out.pcell; have HBN : Hid (Below w5.heap.size w5 w6) := Lib.hid (hw6 ▸ below_setCells (Nat.le_refl _) _ _ _ ((Below.refl _ _).alloc (Nat.le_refl _) _)); clear hw6; have a0 := (HX6.out.cell (.tail _ (.head _)) 0).trans c0; have a2 := (HX6.out.cell (.tail _ (.head _)) 2).trans c2; have b0 := (HX6.out.cell (.head _) 0).trans d0; have b2 := (HX6.out.cell (.head _) 2).trans d2)
        go_ret
        exact ⟨rfl, HBW.out.trans (HX6.out.below.mono HBW.out.size)⟩
    · have hst : s1.status = 0 := by omega
      have hst2 : s2.status = 0 ∨ s2.status = 1 := by omega
      obtain ⟨fs, f, hf⟩ := HI1.out.running hst
      have HFS := Lib.hid hf
      have hfo0 : FrOk p f := HI1.out.fr f (by rw [hf]; simp)
      have hio := HRP.out.ins hfo0
      have hnx := nxt_frames (p := p) hf (.inr (by rw [HS2.out]; omega)) hst ⟨hio.op1, hio.op2⟩ (by rw [HS2.out]; omega)
      rw [HS2.out] at hnx
      obtain ⟨FB, fb, EB, eb, AB, ab, hB⟩ := HC2.out.cin HI2.out.mem (fun f hf => (HI2.out.fr f hf).regs)
      have HD0 := Lib.hid hB.c0
      have HD1 := Lib.hid hB.c1
      have HD2 := Lib.hid hB.c2
      have ca0 := Lib.hid (by have := (HC1.out.cin HI1.out.mem (fun f hf => (HI1.out.fr f hf).regs)); obtain ⟨_, _, _, _, _, _, h⟩ := this; exact h.c0 : C1[0]? = some (.int .i64 s1.status))
      rw [hst] at ca0
      clear hB hf hfo0 hio hcs hst
      obtain ⟨FA, fa, EA, ea, AA, aa, hA⟩ := HX5.out.cin (.head _) HI1.out
      have hfo : FrOk p f := HI1.out.fr f (by rw [HFS.out]; simp)
      have HFO := Lib.hid hfo
      obtain ⟨g, hFA, gz, rF⟩ := top_range hA HFS.out hfo.regs
      obtain ⟨kf, hkf⟩ : ∃ kf, fs.length = kf := ⟨_, rfl⟩
      have HKF := Lib.hid hkf
      have hnl : s1.frames.length = kf + 1 := by rw [HFS.out, ← hkf]; simp
      have HNL := Lib.hid hnl
      have hdp := HI1.out.deep
      obtain ⟨nf, hn⟩ : ∃ nf, s1.frames.length = nf := ⟨_, rfl⟩
      have HN := Lib.hid hn
      have c2 := hA.c2
      rw [hn, hFA] at c2
      have HCF2 := Lib.hid c2
      rw [hn] at hnl hdp
      rw [hkf] at rF
      have hk0 : (0 : Int) ≤ kf := by omega
      have hk1 : (kf : Int) < nf := by omega
      have hk2 : (nf : Int) ≤ 8 := by omega
      have hwn : IntKind.i64.wrap ((nf : Int) - 1) = (kf : Int) := by rw [IntKind.wrap_i64]; omega
      have hFl : (frCell f).length = 14 := frCell_length hfo.regs
      have HFL := Lib.hid hFl
      have HFI : Hid ((Tryd.prog.info? 60).map (·.size) = some (frCell f).length) := Lib.hid (by rw [hFl]; exact info_fr)
      have HFO1 : Hid ((frCell f).toArray.all (·.oneCell') = true) := Lib.hid (all_oneCell_toArray (fun v hv => frCells_cell (l := [f]) v (by rw [frCells_one]; exact hv)))
      have HF0 : Hid ((frCell f)[0]? = some (.int .i64 f.fn)) := Lib.hid rfl
      have HF1 : Hid ((frCell f)[1]? = some (.int .i64 f.pc)) := Lib.hid rfl
      have HFG := Lib.hid (fun (r : Int) (h0 : 0 ≤ r) (h1 : r < 12) => frCell_reg hfo.regs h0 h1)
      obtain ⟨pg, PC, CA, ccap, cg, M, hpv, hpg, hfn1, -, d2, rfl, hcg, hM, hpc1, d40, d41, d42, d43, d44⟩ := ins_at HP.out hfo
      simp only [Value.slice.injEq, true_and] at hpv
      obtain ⟨hA1, -⟩ := hpv
      have HA1 := Lib.hid hA1
      have hO := HRP.out.ins hfo
      have hF := HRP.out.fnok hfo
      have HO := Lib.hid hO
      have x1 := hO.op1
      have x2 := hO.op2
      have xa0 := hO.a1
      have xa1 : (insOf p f).a < 12 := by have := hO.a2; have := hF.r2; omega
      have xb0 := hO.b1
      have xb1 : (insOf p f).b < 12 := by have := hO.b2; have := hF.r2; omega
      have xd0 := hO.dst1
      have xd1 : (insOf p f).dst < 12 := by have := hO.dst2; have := hF.r2; omega
      have fn0 := hfo.fn0
      have pc0 := hfo.pc0
      have fnb : decide (f.fn < 0) = false := by simpa using fn0
      obtain ⟨F, hF'⟩ : ∃ F, frCell f = F := ⟨_, rfl⟩
      rw [hF'] at HFL HFI HFO1 HF0 HF1 HFG rF hFl
      have HFF := Lib.hid hF'
      have HRF := Lib.hid (fun (W : World) (hb : Below w5.heap.size w5 W) => range_below rF gz hb)
      clear hF' hA rF c2 hfo hFA hkf hn hA1 hO hF hM
      rcases hnx with hx | hx | hx | hx
      · have hdn := HI2.out.done
        have h0 : s2.status = 0 := by
          rcases hst2 with h | h
          · exact h
          · have h3 := hx.2.2; rw [hdn.2 h, HNL.out] at h3; simp at h3
        rw [h0] at HD0
        have HXX := Lib.hid hx
        clear hdn hst2 h0 hx
        go_wp2_with (first | (refine wpList_store_mid (by rfl) 50 _ _ (by rfl) w5.heap.size 0 C2.toArray (by rfl) (by rfl) (there_new w5 zeroV _ (by simp [HC2.out.len HI2.out.mem, zeroV_length])) (by simpa using HJ2.out) HC2.out.one ?_; obtain ⟨w6, hw6⟩ : ∃ w6, (w5.alloc (.cells zeroV.toArray 50)).setCells w5.heap.size 0 C2.toArray.toList = w6 := ⟨_, rfl⟩; rw [hw6]; have HX6 : Hid (Sx w1 w1.heap.size (.slice A1 p.length cap1) w6 [(w5.heap.size, C2, s2), (w2.heap.size, C1, s1)]) := Lib.hid (hw6 ▸ HX5.out.add HC2.out HI2.out.mem); have pc6 := HX6.out.pcell; have HBN : Hid (Below w5.heap.size w5 w6) := Lib.hid (hw6 ▸ below_setCells (Nat.le_refl _) _ _ _ ((Below.refl _ _).alloc (Nat.le_refl _) _)); clear hw6; have a0 := (HX6.out.cell (.tail _ (.head _)) 0).trans ca0.out; have a2 := (HX6.out.cell (.tail _ (.head _)) 2).trans HCF2.out; have b0 := (HX6.out.cell (.head _) 0).trans HD0.out; have rF := HRF.out _ HBN.out) | (refine wpList_load_mid (by rfl) 60 _ (by rfl) g (kf * 14) (by rfl) F _ rF Tryd.underlying60 (by rfl) HFI.out ?_) | (refine wpList_store_mid (by rfl) 60 _ _ (by rfl) w6.heap.size 0 F.toArray (by rfl) (by rfl) (there_new w6 [.int .i64 0, .int .i64 0, .int .i64 0, .int .i64 0, .int .i64 0, .int .i64 0, .int .i64 0, .int .i64 0, .int .i64 0, .int .i64 0, .int .i64 0, .int .i64 0, .int .i64 0, .int .i64 0] _ (by simp [HFL.out])) (by simpa using HFI.out) HFO1.out ?_; obtain ⟨w7, hw7⟩ : ∃ w7, (w6.alloc (.cells (List.toArray [.int .i64 0, .int .i64 0, .int .i64 0, .int .i64 0, .int .i64 0, .int .i64 0, .int .i64 0, .int .i64 0, .int .i64 0, .int .i64 0, .int .i64 0, .int .i64 0, .int .i64 0, .int .i64 0]) 60)).setCells w6.heap.size 0 F.toArray.toList = w7 := ⟨_, rfl⟩; rw [hw7]; have HBT : Hid (Below w6.heap.size w6 w7) := Lib.hid (hw7 ▸ below_setCells (Nat.le_refl _) _ _ _ ((Below.refl _ _).alloc (Nat.le_refl _) _)); have HX7 := Lib.hid (HX6.out.keeps HBT.out); have HTB : Hid (w7.heap[w6.heap.size]? = some (.cells F.toArray 60 (0, 0))) := Lib.hid (hw7 ▸ block_full (heap_alloc_new _ _) _ (by simp [HFL.out])); clear hw7 a2 rF))
        have e2 := (HX7.out.below.cell (p := ⟨pg, _, none⟩) hpg).trans d2
        have e40 := (HX7.out.below.cell (p := ⟨cg, _, none⟩) hcg).trans d40
        have e41 := (HX7.out.below.cell (p := ⟨cg, _, none⟩) hcg).trans d41
        have e42 := (HX7.out.below.cell (p := ⟨cg, _, none⟩) hcg).trans d42
        have e43 := (HX7.out.below.cell (p := ⟨cg, _, none⟩) hcg).trans d43
        have e44 := (HX7.out.below.cell (p := ⟨cg, _, none⟩) hcg).trans d44
        have ep := HX7.out.pcell
        rw [HA1.out] at ep
        have et0 := (cell_block HTB.out 0).trans (List.getElem?_toArray.trans HF0.out)
        have et1 := (cell_block HTB.out 1).trans (List.getElem?_toArray.trans HF1.out)
        have hz1 := HX7.out.below.size
        have hzp := block_lt HX7.out.pblk
        have hzt := block_lt HTB.out
        have KS := Lib.hid (fun (w' : World) (hb : Below w7.heap.size w7 w') => (⟨(hb.cell (p := ⟨w1.heap.size, 0, none⟩) hzp).trans ep, (hb.cell (p := ⟨w6.heap.size, 0, none⟩) hzt).trans et0, (hb.cell (p := ⟨w6.heap.size, 1, none⟩) hzt).trans et1, (hb.cell (p := ⟨pg, _, none⟩) (by show pg < _; omega)).trans e2, (hb.cell (p := ⟨cg, _, none⟩) (by show cg < _; omega)).trans e40, (hb.cell (p := ⟨cg, _, none⟩) (by show cg < _; omega)).trans e41, (hb.cell (p := ⟨cg, _, none⟩) (by show cg < _; omega)).trans e42, (hb.cell (p := ⟨cg, _, none⟩) (by show cg < _; omega)).trans e43, (hb.cell (p := ⟨cg, _, none⟩) (by show cg < _; omega)).trans e44⟩ :
            w'.cell? ⟨w1.heap.size, 0, none⟩ = some (.slice (some ⟨pg, 0, none⟩) p.length cap1) ∧ w'.cell? ⟨w6.heap.size, 0, none⟩ = some (.int .i64 f.fn) ∧ w'.cell? ⟨w6.heap.size, 1, none⟩ = some (.int .i64 f.pc) ∧ w'.cell? ⟨pg, f.fn.toNat * 3 + 2, none⟩ = some (.slice (some ⟨cg, 0, none⟩) M ccap) ∧ w'.cell? ⟨cg, f.pc.toNat * 5, none⟩ = some (.int .i64 (insOf p f).op) ∧ w'.cell? ⟨cg, f.pc.toNat * 5 + 1, none⟩ = some (.int .i64 (insOf p f).dst) ∧ w'.cell? ⟨cg, f.pc.toNat * 5 + 2, none⟩ = some (.int .i64 (insOf p f).a) ∧ w'.cell? ⟨cg, f.pc.toNat * 5 + 3, none⟩ = some (.int .i64 (insOf p f).b) ∧ w'.cell? ⟨cg, f.pc.toNat * 5 + 4, none⟩ = some (.int .i64 (insOf p f).imm)))
        clear e2 e40 e41 e42 e43 e44 ep et0 et1 hz1 hzp hzt d2 d40 d41 d42 d43 d44
        refine wp_region_held_drew (S := fun w' => w'.cell? ⟨w1.heap.size, 0, none⟩ = some (.slice (some ⟨pg, 0, none⟩) p.length cap1) ∧ w'.cell? ⟨w6.heap.size, 0, none⟩ = some (.int .i64 f.fn) ∧ w'.cell? ⟨w6.heap.size, 1, none⟩ = some (.int .i64 f.pc) ∧ w'.cell? ⟨pg, f.fn.toNat * 3 + 2, none⟩ = some (.slice (some ⟨cg, 0, none⟩) M ccap) ∧ w'.cell? ⟨cg, f.pc.toNat * 5, none⟩ = some (.int .i64 (insOf p f).op) ∧ w'.cell? ⟨cg, f.pc.toNat * 5 + 1, none⟩ = some (.int .i64 (insOf p f).dst) ∧ w'.cell? ⟨cg, f.pc.toNat * 5 + 2, none⟩ = some (.int .i64 (insOf p f).a) ∧ w'.cell? ⟨cg, f.pc.toNat * 5 + 3, none⟩ = some (.int .i64 (insOf p f).b) ∧ w'.cell? ⟨cg, f.pc.toNat * 5 + 4, none⟩ = some (.int .i64 (insOf p f).imm)) (by kernel_rfl) (KS.out _ (Below.refl _ _).drew) (fun hHeld => ?_)
        refine wpAnyH_take (i := 0) (v := .pointer (some ⟨w1.heap.size, 0, none⟩)) rfl (by kernel_rfl) (by kernel_rfl) (by kernel_rfl) (fun _ _ _ h => h) (Or.inl ⟨by rfl, ?_⟩) hHeld ?_
        · intro w hSw
          obtain ⟨q0, q1, q2, q3, q4, q5, q6, q7, q8⟩ := hSw
          simp only [List.getElem_toArray, List.getElem_cons_zero]
          go_simp
        simp only [Act.put, List.getElem_toArray, List.getElem_cons_zero, List.setIfInBounds_toArray, List.set_cons_zero, List.set_cons_succ]
        refine wpAnyH_take (i := 1) (v := .slice (some ⟨pg, 0, none⟩) p.length cap1) rfl (by kernel_rfl) (by kernel_rfl) (by kernel_rfl) (fun _ _ _ h => h) (Or.inl ⟨by rfl, ?_⟩) hHeld ?_
        · intro w hSw
          obtain ⟨q0, q1, q2, q3, q4, q5, q6, q7, q8⟩ := hSw
          simp only [List.getElem_toArray, List.getElem_cons_zero, List.getElem_cons_succ]
          go_simp
        simp only [Act.put, List.getElem_toArray, List.getElem_cons_zero, List.getElem_cons_succ, List.setIfInBounds_toArray, List.set_cons_zero, List.set_cons_succ]
        refine wpAnyH_take (i := 2) (v := .pointer (some ⟨w6.heap.size, 0, none⟩)) rfl (by kernel_rfl) (by kernel_rfl) (by kernel_rfl) (fun _ _ _ h => h) (Or.inl ⟨by rfl, ?_⟩) hHeld ?_
        · intro w hSw
          obtain ⟨q0, q1, q2, q3, q4, q5, q6, q7, q8⟩ := hSw
          simp only [List.getElem_toArray, List.getElem_cons_zero, List.getElem_cons_succ]
          go_simp
        simp only [Act.put, List.getElem_toArray, List.getElem_cons_zero, List.getElem_cons_succ, List.setIfInBounds_toArray, List.set_cons_zero, List.set_cons_succ]
        refine wpAnyH_take (i := 3) (v := .int .i64 f.fn) rfl (by kernel_rfl) (by kernel_rfl) (by kernel_rfl) (fun _ _ _ h => h) (Or.inl ⟨by rfl, ?_⟩) hHeld ?_
        · intro w hSw
          obtain ⟨q0, q1, q2, q3, q4, q5, q6, q7, q8⟩ := hSw
          simp only [List.getElem_toArray, List.getElem_cons_zero, List.getElem_cons_succ]
          go_simp
        simp only [Act.put, List.getElem_toArray, List.getElem_cons_zero, List.getElem_cons_succ, List.setIfInBounds_toArray, List.set_cons_zero, List.set_cons_succ]
        refine wpAnyH_take (i := 4) (v := .pointer (some ⟨pg, f.fn.toNat * 3, none⟩)) rfl (by kernel_rfl) (by kernel_rfl) (by kernel_rfl) (fun _ _ _ h => h) (Or.inl ⟨by rfl, ?_⟩) hHeld ?_
        · intro w hSw
          obtain ⟨q0, q1, q2, q3, q4, q5, q6, q7, q8⟩ := hSw
          simp only [List.getElem_toArray, List.getElem_cons_zero, List.getElem_cons_succ]
          go_simp
        simp only [Act.put, List.getElem_toArray, List.getElem_cons_zero, List.getElem_cons_succ, List.setIfInBounds_toArray, List.set_cons_zero, List.set_cons_succ]
        refine wpAnyH_take (i := 5) (v := .pointer (some ⟨pg, f.fn.toNat * 3 + 2, none⟩)) rfl (by kernel_rfl) (by kernel_rfl) (by kernel_rfl) (fun _ _ _ h => h) (Or.inl ⟨by rfl, ?_⟩) hHeld ?_
        · intro w hSw
          obtain ⟨q0, q1, q2, q3, q4, q5, q6, q7, q8⟩ := hSw
          simp only [List.getElem_toArray, List.getElem_cons_zero, List.getElem_cons_succ]
          go_simp
        simp only [Act.put, List.getElem_toArray, List.getElem_cons_zero, List.getElem_cons_succ, List.setIfInBounds_toArray, List.set_cons_zero, List.set_cons_succ]
        refine wpAnyH_take (i := 6) (v := .slice (some ⟨cg, 0, none⟩) M ccap) rfl (by kernel_rfl) (by kernel_rfl) (by kernel_rfl) (fun _ _ _ h => h) (Or.inl ⟨by rfl, ?_⟩) hHeld ?_
        · intro w hSw
          obtain ⟨q0, q1, q2, q3, q4, q5, q6, q7, q8⟩ := hSw
          simp only [List.getElem_toArray, List.getElem_cons_zero, List.getElem_cons_succ]
          go_simp
        simp only [Act.put, List.getElem_toArray, List.getElem_cons_zero, List.getElem_cons_succ, List.setIfInBounds_toArray, List.set_cons_zero, List.set_cons_succ]
        refine wpAnyH_take (i := 7) (v := .pointer (some ⟨w6.heap.size, 1, none⟩)) rfl (by kernel_rfl) (by kernel_rfl) (by kernel_rfl) (fun _ _ _ h => h) (Or.inl ⟨by rfl, ?_⟩) hHeld ?_
        · intro w hSw
          obtain ⟨q0, q1, q2, q3, q4, q5, q6, q7, q8⟩ := hSw
          simp only [List.getElem_toArray, List.getElem_cons_zero, List.getElem_cons_succ]
          go_simp
        simp only [Act.put, List.getElem_toArray, List.getElem_cons_zero, List.getElem_cons_succ, List.setIfInBounds_toArray, List.set_cons_zero, List.set_cons_succ]
        refine wpAnyH_take (i := 8) (v := .int .i64 f.pc) rfl (by kernel_rfl) (by kernel_rfl) (by kernel_rfl) (fun _ _ _ h => h) (Or.inl ⟨by rfl, ?_⟩) hHeld ?_
        · intro w hSw
          obtain ⟨q0, q1, q2, q3, q4, q5, q6, q7, q8⟩ := hSw
          simp only [List.getElem_toArray, List.getElem_cons_zero, List.getElem_cons_succ]
          go_simp
        simp only [Act.put, List.getElem_toArray, List.getElem_cons_zero, List.getElem_cons_succ, List.setIfInBounds_toArray, List.set_cons_zero, List.set_cons_succ]
        refine wpAnyH_take (i := 9) (v := .pointer (some ⟨cg, f.pc.toNat * 5, none⟩)) rfl (by kernel_rfl) (by kernel_rfl) (by kernel_rfl) (fun _ _ _ h => h) (Or.inl ⟨by rfl, ?_⟩) hHeld ?_
        · intro w hSw
          obtain ⟨q0, q1, q2, q3, q4, q5, q6, q7, q8⟩ := hSw
          simp only [List.getElem_toArray, List.getElem_cons_zero, List.getElem_cons_succ]
          go_simp
        simp only [Act.put, List.getElem_toArray, List.getElem_cons_zero, List.getElem_cons_succ, List.setIfInBounds_toArray, List.set_cons_zero, List.set_cons_succ]
        refine wpAnyH_take (i := 10) (v := .agg (List.toArray [.int .i64 (insOf p f).op, .int .i64 (insOf p f).dst, .int .i64 (insOf p f).a, .int .i64 (insOf p f).b, .int .i64 (insOf p f).imm])) rfl (by kernel_rfl) (by kernel_rfl) (by kernel_rfl) (fun _ _ _ h => h) (Or.inl ⟨by rfl, ?_⟩) hHeld ?_
        · intro w hSw
          obtain ⟨q0, q1, q2, q3, q4, q5, q6, q7, q8⟩ := hSw
          simp only [List.getElem_toArray, List.getElem_cons_zero, List.getElem_cons_succ]
          go_simp
        simp only [Act.put, List.getElem_toArray, List.getElem_cons_zero, List.getElem_cons_succ, List.setIfInBounds_toArray, List.set_cons_zero, List.set_cons_succ]
        refine wpAnyH_ready (rs := [11]) (by kernel_rfl) (by simp) ?_
        refine AllReadyH.cons rfl (fun K hK => ?_) AllReadyH.nil
        simp only [List.getElem_toArray, List.getElem_cons_zero, List.getElem_cons_succ]
        go_simp
        refine hK.out _ _ (KS.out _ ((Below.refl _ _).drew.alloc (Nat.le_refl _) _)) (fun hHeld => ?_)
        clear hK K
        refine wpAnyH_ready (rs := [12]) (by kernel_rfl) (by simp) ?_
        refine AllReadyH.cons rfl (fun K hK => ?_) AllReadyH.nil
        simp only [List.getElem_toArray, List.getElem_cons_zero, List.getElem_cons_succ]
        rw [if_pos (by rfl)]
        refine wp_store_mid 62 _ _ (by rfl) w7.heap.size 0 (List.toArray [.int .i64 (insOf p f).op, .int .i64 (insOf p f).dst, .int .i64 (insOf p f).a, .int .i64 (insOf p f).b, .int .i64 (insOf p f).imm]) (by rfl) (by rfl) (there_new w7.drew [.int .i64 0, .int .i64 0, .int .i64 0, .int .i64 0, .int .i64 0] _ (Nat.le_refl _)) (by kernel_rfl) (all_oneCell_toArray (by simp [Value.oneCell'])) ?_
        obtain ⟨w8, hw8⟩ : ∃ w8, (w7.drew.alloc (.cells (List.toArray [.int .i64 0, .int .i64 0, .int .i64 0, .int .i64 0, .int .i64 0]) 62)).setCells w7.heap.size 0 (List.toArray [.int .i64 (insOf p f).op, .int .i64 (insOf p f).dst, .int .i64 (insOf p f).a, .int .i64 (insOf p f).b, .int .i64 (insOf p f).imm]).toList = w8 := ⟨_, rfl⟩
        have HBX : Hid (Below w7.heap.size w7 w8) := Lib.hid (hw8 ▸ below_setCells (Nat.le_refl _) _ _ _ ((Below.refl _ _).drew.alloc (Nat.le_refl _) _))
        have HX8 := Lib.hid (HX7.out.keeps HBX.out)
        have HTX := Lib.hid ((HBX.out.block _ (block_lt HTB.out)).trans HTB.out)
        have HXB : Hid (w8.heap[w7.heap.size]? = some (.cells (List.toArray [.int .i64 (insOf p f).op, .int .i64 (insOf p f).dst, .int .i64 (insOf p f).a, .int .i64 (insOf p f).b, .int .i64 (insOf p f).imm]) 62 (0, 0))) := Lib.hid (hw8 ▸ block_full (heap_alloc_new w7.drew _) _ rfl)
        refine hK.out _ _ (by have := KS.out w8 HBX.out; rw [← hw8] at this; exact this) (fun hHeld => ?_)
        clear hK K hHeld KS
        refine wpAnyH_done (by kernel_rfl) ?_ _
        have hwq : (w7.alloc (.cells (List.toArray [.int .i64 0, .int .i64 0, .int .i64 0, .int .i64 0, .int .i64 0]) 62)).drew.setCells w7.heap.size 0 [.int .i64 (insOf p f).op, .int .i64 (insOf p f).dst, .int .i64 (insOf p f).a, .int .i64 (insOf p f).b, .int .i64 (insOf p f).imm] = w8 := hw8
        rw [hwq]
        clear hwq hw8
        have z0 := HX8.out.lt (.tail _ (.head _))
        have z1 := HX8.out.lt (.head _)
        have z2 := block_lt HTX.out
        have z3 := block_lt HXB.out
        have z4 := HX8.out.below.size
        have t0 := (cell_block HXB.out 0).trans rfl
        have t1 := (cell_block HXB.out 1).trans rfl
        have t2 := (cell_block HXB.out 2).trans rfl
        have t3 := (cell_block HXB.out 3).trans rfl
        have t4 := (cell_block HXB.out 4).trans rfl
        have l2 := (HX8.out.cell (.tail _ (.head _)) 2).trans HCF2.out
        have v1 := (HX8.out.cell (.head _) 1).trans HD1.out
        have v2 := (HX8.out.cell (.head _) 2).trans HD2.out
        have HTX0 := HTX
        have hx := HXX.out
        clear HXX
        obtain ⟨h17, h19, hl⟩ := hx
        have q17 : ((insOf p f).op == 17) = false := by simpa using h17
        have q19 : ((insOf p f).op == 19) = false := by simpa using h19
        rw [hl, HN.out] at v2
        generalize (insOf p f).op = op at *
        go_wp2_with fail
        go_ret
        exact ⟨rfl, HBW.out.trans (HX8.out.below.mono HBW.out.size)⟩
      · have hdn := HI2.out.done
        have h0 : s2.status = 0 := by
          rcases hst2 with h | h
          · exact h
          · have h3 := hx.2; rw [hdn.2 h] at h3; simp at h3
        rw [h0] at HD0
        have HXX := Lib.hid hx
        clear hdn hst2 h0 hx
        go_wp2_with (first | (refine wpList_store_mid (by rfl) 50 _ _ (by rfl) w5.heap.size 0 C2.toArray (by rfl) (by rfl) (there_new w5 zeroV _ (by simp [HC2.out.len HI2.out.mem, zeroV_length])) (by simpa using HJ2.out) HC2.out.one ?_; obtain ⟨w6, hw6⟩ : ∃ w6, (w5.alloc (.cells zeroV.toArray 50)).setCells w5.heap.size 0 C2.toArray.toList = w6 := ⟨_, rfl⟩; rw [hw6]; have HX6 : Hid (Sx w1 w1.heap.size (.slice A1 p.length cap1) w6 [(w5.heap.size, C2, s2), (w2.heap.size, C1, s1)]) := Lib.hid (hw6 ▸ HX5.out.add HC2.out HI2.out.mem); have pc6 := HX6.out.pcell; have HBN : Hid (Below w5.heap.size w5 w6) := Lib.hid (hw6 ▸ below_setCells (Nat.le_refl _) _ _ _ ((Below.refl _ _).alloc (Nat.le_refl _) _)); clear hw6; have a0 := (HX6.out.cell (.tail _ (.head _)) 0).trans ca0.out; have a2 := (HX6.out.cell (.tail _ (.head _)) 2).trans HCF2.out; have b0 := (HX6.out.cell (.head _) 0).trans HD0.out; have rF := HRF.out _ HBN.out) | (refine wpList_load_mid (by rfl) 60 _ (by rfl) g (kf * 14) (by rfl) F _ rF Tryd.underlying60 (by rfl) HFI.out ?_) | (refine wpList_store_mid (by rfl) 60 _ _ (by rfl) w6.heap.size 0 F.toArray (by rfl) (by rfl) (there_new w6 [.int .i64 0, .int .i64 0, .int .i64 0, .int .i64 0, .int .i64 0, .int .i64 0, .int .i64 0, .int .i64 0, .int .i64 0, .int .i64 0, .int .i64 0, .int .i64 0, .int .i64 0, .int .i64 0] _ (by simp [HFL.out])) (by simpa using HFI.out) HFO1.out ?_; obtain ⟨w7, hw7⟩ : ∃ w7, (w6.alloc (.cells (List.toArray [.int .i64 0, .int .i64 0, .int .i64 0, .int .i64 0, .int .i64 0, .int .i64 0, .int .i64 0, .int .i64 0, .int .i64 0, .int .i64 0, .int .i64 0, .int .i64 0, .int .i64 0, .int .i64 0]) 60)).setCells w6.heap.size 0 F.toArray.toList = w7 := ⟨_, rfl⟩; rw [hw7]; have HBT : Hid (Below w6.heap.size w6 w7) := Lib.hid (hw7 ▸ below_setCells (Nat.le_refl _) _ _ _ ((Below.refl _ _).alloc (Nat.le_refl _) _)); have HX7 := Lib.hid (HX6.out.keeps HBT.out); have HTB : Hid (w7.heap[w6.heap.size]? = some (.cells F.toArray 60 (0, 0))) := Lib.hid (hw7 ▸ block_full (heap_alloc_new _ _) _ (by simp [HFL.out])); clear hw7 a2 rF))
        have e2 := (HX7.out.below.cell (p := ⟨pg, _, none⟩) hpg).trans d2
        have e40 := (HX7.out.below.cell (p := ⟨cg, _, none⟩) hcg).trans d40
        have e41 := (HX7.out.below.cell (p := ⟨cg, _, none⟩) hcg).trans d41
        have e42 := (HX7.out.below.cell (p := ⟨cg, _, none⟩) hcg).trans d42
        have e43 := (HX7.out.below.cell (p := ⟨cg, _, none⟩) hcg).trans d43
        have e44 := (HX7.out.below.cell (p := ⟨cg, _, none⟩) hcg).trans d44
        have ep := HX7.out.pcell
        rw [HA1.out] at ep
        have et0 := (cell_block HTB.out 0).trans (List.getElem?_toArray.trans HF0.out)
        have et1 := (cell_block HTB.out 1).trans (List.getElem?_toArray.trans HF1.out)
        have hz1 := HX7.out.below.size
        have hzp := block_lt HX7.out.pblk
        have hzt := block_lt HTB.out
        have KS := Lib.hid (fun (w' : World) (hb : Below w7.heap.size w7 w') => (⟨(hb.cell (p := ⟨w1.heap.size, 0, none⟩) hzp).trans ep, (hb.cell (p := ⟨w6.heap.size, 0, none⟩) hzt).trans et0, (hb.cell (p := ⟨w6.heap.size, 1, none⟩) hzt).trans et1, (hb.cell (p := ⟨pg, _, none⟩) (by show pg < _; omega)).trans e2, (hb.cell (p := ⟨cg, _, none⟩) (by show cg < _; omega)).trans e40, (hb.cell (p := ⟨cg, _, none⟩) (by show cg < _; omega)).trans e41, (hb.cell (p := ⟨cg, _, none⟩) (by show cg < _; omega)).trans e42, (hb.cell (p := ⟨cg, _, none⟩) (by show cg < _; omega)).trans e43, (hb.cell (p := ⟨cg, _, none⟩) (by show cg < _; omega)).trans e44⟩ :
            w'.cell? ⟨w1.heap.size, 0, none⟩ = some (.slice (some ⟨pg, 0, none⟩) p.length cap1) ∧ w'.cell? ⟨w6.heap.size, 0, none⟩ = some (.int .i64 f.fn) ∧ w'.cell? ⟨w6.heap.size, 1, none⟩ = some (.int .i64 f.pc) ∧ w'.cell? ⟨pg, f.fn.toNat * 3 + 2, none⟩ = some (.slice (some ⟨cg, 0, none⟩) M ccap) ∧ w'.cell? ⟨cg, f.pc.toNat * 5, none⟩ = some (.int .i64 (insOf p f).op) ∧ w'.cell? ⟨cg, f.pc.toNat * 5 + 1, none⟩ = some (.int .i64 (insOf p f).dst) ∧ w'.cell? ⟨cg, f.pc.toNat * 5 + 2, none⟩ = some (.int .i64 (insOf p f).a) ∧ w'.cell? ⟨cg, f.pc.toNat * 5 + 3, none⟩ = some (.int .i64 (insOf p f).b) ∧ w'.cell? ⟨cg, f.pc.toNat * 5 + 4, none⟩ = some (.int .i64 (insOf p f).imm)))
        clear e2 e40 e41 e42 e43 e44 ep et0 et1 hz1 hzp hzt d2 d40 d41 d42 d43 d44
        refine wp_region_held_drew (S := fun w' => w'.cell? ⟨w1.heap.size, 0, none⟩ = some (.slice (some ⟨pg, 0, none⟩) p.length cap1) ∧ w'.cell? ⟨w6.heap.size, 0, none⟩ = some (.int .i64 f.fn) ∧ w'.cell? ⟨w6.heap.size, 1, none⟩ = some (.int .i64 f.pc) ∧ w'.cell? ⟨pg, f.fn.toNat * 3 + 2, none⟩ = some (.slice (some ⟨cg, 0, none⟩) M ccap) ∧ w'.cell? ⟨cg, f.pc.toNat * 5, none⟩ = some (.int .i64 (insOf p f).op) ∧ w'.cell? ⟨cg, f.pc.toNat * 5 + 1, none⟩ = some (.int .i64 (insOf p f).dst) ∧ w'.cell? ⟨cg, f.pc.toNat * 5 + 2, none⟩ = some (.int .i64 (insOf p f).a) ∧ w'.cell? ⟨cg, f.pc.toNat * 5 + 3, none⟩ = some (.int .i64 (insOf p f).b) ∧ w'.cell? ⟨cg, f.pc.toNat * 5 + 4, none⟩ = some (.int .i64 (insOf p f).imm)) (by kernel_rfl) (KS.out _ (Below.refl _ _).drew) (fun hHeld => ?_)
        refine wpAnyH_take (i := 0) (v := .pointer (some ⟨w1.heap.size, 0, none⟩)) rfl (by kernel_rfl) (by kernel_rfl) (by kernel_rfl) (fun _ _ _ h => h) (Or.inl ⟨by rfl, ?_⟩) hHeld ?_
        · intro w hSw
          obtain ⟨q0, q1, q2, q3, q4, q5, q6, q7, q8⟩ := hSw
          simp only [List.getElem_toArray, List.getElem_cons_zero]
          go_simp
        simp only [Act.put, List.getElem_toArray, List.getElem_cons_zero, List.setIfInBounds_toArray, List.set_cons_zero, List.set_cons_succ]
        refine wpAnyH_take (i := 1) (v := .slice (some ⟨pg, 0, none⟩) p.length cap1) rfl (by kernel_rfl) (by kernel_rfl) (by kernel_rfl) (fun _ _ _ h => h) (Or.inl ⟨by rfl, ?_⟩) hHeld ?_
        · intro w hSw
          obtain ⟨q0, q1, q2, q3, q4, q5, q6, q7, q8⟩ := hSw
          simp only [List.getElem_toArray, List.getElem_cons_zero, List.getElem_cons_succ]
          go_simp
        simp only [Act.put, List.getElem_toArray, List.getElem_cons_zero, List.getElem_cons_succ, List.setIfInBounds_toArray, List.set_cons_zero, List.set_cons_succ]
        refine wpAnyH_take (i := 2) (v := .pointer (some ⟨w6.heap.size, 0, none⟩)) rfl (by kernel_rfl) (by kernel_rfl) (by kernel_rfl) (fun _ _ _ h => h) (Or.inl ⟨by rfl, ?_⟩) hHeld ?_
        · intro w hSw
          obtain ⟨q0, q1, q2, q3, q4, q5, q6, q7, q8⟩ := hSw
          simp only [List.getElem_toArray, List.getElem_cons_zero, List.getElem_cons_succ]
          go_simp
        simp only [Act.put, List.getElem_toArray, List.getElem_cons_zero, List.getElem_cons_succ, List.setIfInBounds_toArray, List.set_cons_zero, List.set_cons_succ]
        refine wpAnyH_take (i := 3) (v := .int .i64 f.fn) rfl (by kernel_rfl) (by kernel_rfl) (by kernel_rfl) (fun _ _ _ h => h) (Or.inl ⟨by rfl, ?_⟩) hHeld ?_
        · intro w hSw
          obtain ⟨q0, q1, q2, q3, q4, q5, q6, q7, q8⟩ := hSw
          simp only [List.getElem_toArray, List.getElem_cons_zero, List.getElem_cons_succ]
          go_simp
        simp only [Act.put, List.getElem_toArray, List.getElem_cons_zero, List.getElem_cons_succ, List.setIfInBounds_toArray, List.set_cons_zero, List.set_cons_succ]
        refine wpAnyH_take (i := 4) (v := .pointer (some ⟨pg, f.fn.toNat * 3, none⟩)) rfl (by kernel_rfl) (by kernel_rfl) (by kernel_rfl) (fun _ _ _ h => h) (Or.inl ⟨by rfl, ?_⟩) hHeld ?_
        · intro w hSw
          obtain ⟨q0, q1, q2, q3, q4, q5, q6, q7, q8⟩ := hSw
          simp only [List.getElem_toArray, List.getElem_cons_zero, List.getElem_cons_succ]
          go_simp
        simp only [Act.put, List.getElem_toArray, List.getElem_cons_zero, List.getElem_cons_succ, List.setIfInBounds_toArray, List.set_cons_zero, List.set_cons_succ]
        refine wpAnyH_take (i := 5) (v := .pointer (some ⟨pg, f.fn.toNat * 3 + 2, none⟩)) rfl (by kernel_rfl) (by kernel_rfl) (by kernel_rfl) (fun _ _ _ h => h) (Or.inl ⟨by rfl, ?_⟩) hHeld ?_
        · intro w hSw
          obtain ⟨q0, q1, q2, q3, q4, q5, q6, q7, q8⟩ := hSw
          simp only [List.getElem_toArray, List.getElem_cons_zero, List.getElem_cons_succ]
          go_simp
        simp only [Act.put, List.getElem_toArray, List.getElem_cons_zero, List.getElem_cons_succ, List.setIfInBounds_toArray, List.set_cons_zero, List.set_cons_succ]
        refine wpAnyH_take (i := 6) (v := .slice (some ⟨cg, 0, none⟩) M ccap) rfl (by kernel_rfl) (by kernel_rfl) (by kernel_rfl) (fun _ _ _ h => h) (Or.inl ⟨by rfl, ?_⟩) hHeld ?_
        · intro w hSw
          obtain ⟨q0, q1, q2, q3, q4, q5, q6, q7, q8⟩ := hSw
          simp only [List.getElem_toArray, List.getElem_cons_zero, List.getElem_cons_succ]
          go_simp
        simp only [Act.put, List.getElem_toArray, List.getElem_cons_zero, List.getElem_cons_succ, List.setIfInBounds_toArray, List.set_cons_zero, List.set_cons_succ]
        refine wpAnyH_take (i := 7) (v := .pointer (some ⟨w6.heap.size, 1, none⟩)) rfl (by kernel_rfl) (by kernel_rfl) (by kernel_rfl) (fun _ _ _ h => h) (Or.inl ⟨by rfl, ?_⟩) hHeld ?_
        · intro w hSw
          obtain ⟨q0, q1, q2, q3, q4, q5, q6, q7, q8⟩ := hSw
          simp only [List.getElem_toArray, List.getElem_cons_zero, List.getElem_cons_succ]
          go_simp
        simp only [Act.put, List.getElem_toArray, List.getElem_cons_zero, List.getElem_cons_succ, List.setIfInBounds_toArray, List.set_cons_zero, List.set_cons_succ]
        refine wpAnyH_take (i := 8) (v := .int .i64 f.pc) rfl (by kernel_rfl) (by kernel_rfl) (by kernel_rfl) (fun _ _ _ h => h) (Or.inl ⟨by rfl, ?_⟩) hHeld ?_
        · intro w hSw
          obtain ⟨q0, q1, q2, q3, q4, q5, q6, q7, q8⟩ := hSw
          simp only [List.getElem_toArray, List.getElem_cons_zero, List.getElem_cons_succ]
          go_simp
        simp only [Act.put, List.getElem_toArray, List.getElem_cons_zero, List.getElem_cons_succ, List.setIfInBounds_toArray, List.set_cons_zero, List.set_cons_succ]
        refine wpAnyH_take (i := 9) (v := .pointer (some ⟨cg, f.pc.toNat * 5, none⟩)) rfl (by kernel_rfl) (by kernel_rfl) (by kernel_rfl) (fun _ _ _ h => h) (Or.inl ⟨by rfl, ?_⟩) hHeld ?_
        · intro w hSw
          obtain ⟨q0, q1, q2, q3, q4, q5, q6, q7, q8⟩ := hSw
          simp only [List.getElem_toArray, List.getElem_cons_zero, List.getElem_cons_succ]
          go_simp
        simp only [Act.put, List.getElem_toArray, List.getElem_cons_zero, List.getElem_cons_succ, List.setIfInBounds_toArray, List.set_cons_zero, List.set_cons_succ]
        refine wpAnyH_take (i := 10) (v := .agg (List.toArray [.int .i64 (insOf p f).op, .int .i64 (insOf p f).dst, .int .i64 (insOf p f).a, .int .i64 (insOf p f).b, .int .i64 (insOf p f).imm])) rfl (by kernel_rfl) (by kernel_rfl) (by kernel_rfl) (fun _ _ _ h => h) (Or.inl ⟨by rfl, ?_⟩) hHeld ?_
        · intro w hSw
          obtain ⟨q0, q1, q2, q3, q4, q5, q6, q7, q8⟩ := hSw
          simp only [List.getElem_toArray, List.getElem_cons_zero, List.getElem_cons_succ]
          go_simp
        simp only [Act.put, List.getElem_toArray, List.getElem_cons_zero, List.getElem_cons_succ, List.setIfInBounds_toArray, List.set_cons_zero, List.set_cons_succ]
        refine wpAnyH_ready (rs := [11]) (by kernel_rfl) (by simp) ?_
        refine AllReadyH.cons rfl (fun K hK => ?_) AllReadyH.nil
        simp only [List.getElem_toArray, List.getElem_cons_zero, List.getElem_cons_succ]
        go_simp
        refine hK.out _ _ (KS.out _ ((Below.refl _ _).drew.alloc (Nat.le_refl _) _)) (fun hHeld => ?_)
        clear hK K
        refine wpAnyH_ready (rs := [12]) (by kernel_rfl) (by simp) ?_
        refine AllReadyH.cons rfl (fun K hK => ?_) AllReadyH.nil
        simp only [List.getElem_toArray, List.getElem_cons_zero, List.getElem_cons_succ]
        rw [if_pos (by rfl)]
        refine wp_store_mid 62 _ _ (by rfl) w7.heap.size 0 (List.toArray [.int .i64 (insOf p f).op, .int .i64 (insOf p f).dst, .int .i64 (insOf p f).a, .int .i64 (insOf p f).b, .int .i64 (insOf p f).imm]) (by rfl) (by rfl) (there_new w7.drew [.int .i64 0, .int .i64 0, .int .i64 0, .int .i64 0, .int .i64 0] _ (Nat.le_refl _)) (by kernel_rfl) (all_oneCell_toArray (by simp [Value.oneCell'])) ?_
        obtain ⟨w8, hw8⟩ : ∃ w8, (w7.drew.alloc (.cells (List.toArray [.int .i64 0, .int .i64 0, .int .i64 0, .int .i64 0, .int .i64 0]) 62)).setCells w7.heap.size 0 (List.toArray [.int .i64 (insOf p f).op, .int .i64 (insOf p f).dst, .int .i64 (insOf p f).a, .int .i64 (insOf p f).b, .int .i64 (insOf p f).imm]).toList = w8 := ⟨_, rfl⟩
        have HBX : Hid (Below w7.heap.size w7 w8) := Lib.hid (hw8 ▸ below_setCells (Nat.le_refl _) _ _ _ ((Below.refl _ _).drew.alloc (Nat.le_refl _) _))
        have HX8 := Lib.hid (HX7.out.keeps HBX.out)
        have HTX := Lib.hid ((HBX.out.block _ (block_lt HTB.out)).trans HTB.out)
        have HXB : Hid (w8.heap[w7.heap.size]? = some (.cells (List.toArray [.int .i64 (insOf p f).op, .int .i64 (insOf p f).dst, .int .i64 (insOf p f).a, .int .i64 (insOf p f).b, .int .i64 (insOf p f).imm]) 62 (0, 0))) := Lib.hid (hw8 ▸ block_full (heap_alloc_new w7.drew _) _ rfl)
        refine hK.out _ _ (by have := KS.out w8 HBX.out; rw [← hw8] at this; exact this) (fun hHeld => ?_)
        clear hK K hHeld KS
        refine wpAnyH_done (by kernel_rfl) ?_ _
        have hwq : (w7.alloc (.cells (List.toArray [.int .i64 0, .int .i64 0, .int .i64 0, .int .i64 0, .int .i64 0]) 62)).drew.setCells w7.heap.size 0 [.int .i64 (insOf p f).op, .int .i64 (insOf p f).dst, .int .i64 (insOf p f).a, .int .i64 (insOf p f).b, .int .i64 (insOf p f).imm] = w8 := hw8
        rw [hwq]
        clear hwq hw8
        have z0 := HX8.out.lt (.tail _ (.head _))
        have z1 := HX8.out.lt (.head _)
        have z2 := block_lt HTX.out
        have z3 := block_lt HXB.out
        have z4 := HX8.out.below.size
        have t0 := (cell_block HXB.out 0).trans rfl
        have t1 := (cell_block HXB.out 1).trans rfl
        have t2 := (cell_block HXB.out 2).trans rfl
        have t3 := (cell_block HXB.out 3).trans rfl
        have t4 := (cell_block HXB.out 4).trans rfl
        have l2 := (HX8.out.cell (.tail _ (.head _)) 2).trans HCF2.out
        have v1 := (HX8.out.cell (.head _) 1).trans HD1.out
        have v2 := (HX8.out.cell (.head _) 2).trans HD2.out
        have HTX0 := HTX
        have hx := HXX.out
        clear HXX
        obtain ⟨h17, hfr⟩ := hx
        rw [h17] at t0
        have hcall := HO.out.call h17
        have hml : (insOf p f).imm.toNat < p.length := by omega
        obtain ⟨Fi, hFi⟩ : ∃ F, p[(insOf p f).imm.toNat]? = some F := ⟨p[(insOf p f).imm.toNat], List.getElem?_eq_getElem hml⟩
        have hfi := HRP.out.ok.fn Fi (List.mem_of_getElem? hFi)
        have hfe : fnOf p (insOf p f).imm = Fi := fnOf_get hFi
        rw [hfe] at hfr
        obtain ⟨m, hm⟩ : ∃ m : Nat, Fi.params = m := ⟨Fi.params.toNat, by have := hfi.p1; omega⟩
        have hm2 : m ≤ 2 := by have := hfi.p2; omega
        rw [hm] at hfr
        obtain ⟨A0, cap0, hA0, hA⟩ := HP.out.slice
        obtain ⟨pg', hAg, -, hfn⟩ := hA (by omega)
        simp only [Value.slice.injEq, true_and] at hA0
        have hpg' : pg' = pg := by have h1 := hA0.1.symm.trans HA1.out; rw [hAg] at h1; simpa using h1
        obtain ⟨-, -, c0, -, -⟩ := hfn _ Fi hFi
        rw [hm, hpg'] at c0
        have hnf := HNL.out
        have hlast : s2.frames[kf + 1]? = some (newFr (insOf p f).imm (m : Int) (f.reg (insOf p f).a) (f.reg (insOf p f).b)) := by rw [hfr, List.getElem?_append_right (by omega), hnf]; simp
        have hl2 : s2.frames.length = kf + 2 := by rw [hfr]; simp [hnf]
        have hnr : (newFr (insOf p f).imm (m : Int) (f.reg (insOf p f).a) (f.reg (insOf p f).b)).regs.length = 12 := by
          have hc : m = 0 ∨ m = 1 ∨ m = 2 := by omega
          rcases hc with rfl | rfl | rfl <;> rfl
        obtain ⟨FA, ft, EA, ea, AA, aa, hA⟩ := HX8.out.cin (.head _) HI2.out
        have hgr : (newFr (insOf p f).imm (m : Int) (f.reg (insOf p f).a) (f.reg (insOf p f).b)).regs.length = 12 := hnr
        obtain ⟨gt, hFA, gzt, rF⟩ := fr_range hA hlast hgr
        obtain ⟨nt, hnt⟩ : ∃ nf, s2.frames.length = nf := ⟨_, rfl⟩
        have c2 := hA.c2
        rw [hnt, hFA] at c2
        have HSt := Lib.hid c2
        have HLt : Hid ((frCell (newFr (insOf p f).imm (m : Int) (f.reg (insOf p f).a) (f.reg (insOf p f).b))).length = 14) := Lib.hid (frCell_length hgr)
        have HIt : Hid ((Tryd.prog.info? 60).map (·.size) = some (frCell (newFr (insOf p f).imm (m : Int) (f.reg (insOf p f).a) (f.reg (insOf p f).b))).length) := Lib.hid (by rw [HLt.out]; exact info_fr)
        have HOt : Hid ((frCell (newFr (insOf p f).imm (m : Int) (f.reg (insOf p f).a) (f.reg (insOf p f).b))).toArray.all (·.oneCell') = true) := Lib.hid (all_oneCell_toArray (fun v hv => frCells_cell (l := [newFr (insOf p f).imm (m : Int) (f.reg (insOf p f).a) (f.reg (insOf p f).b)]) v (by rw [frCells_one]; exact hv)))
        have HZt : Hid ((frCell (newFr (insOf p f).imm (m : Int) (f.reg (insOf p f).a) (f.reg (insOf p f).b)))[0]? = some (.int .i64 (newFr (insOf p f).imm (m : Int) (f.reg (insOf p f).a) (f.reg (insOf p f).b)).fn)) := Lib.hid rfl
        have HPt : Hid ((frCell (newFr (insOf p f).imm (m : Int) (f.reg (insOf p f).a) (f.reg (insOf p f).b)))[1]? = some (.int .i64 (newFr (insOf p f).imm (m : Int) (f.reg (insOf p f).a) (f.reg (insOf p f).b)).pc)) := Lib.hid rfl
        have HGt := Lib.hid (fun (r : Int) (h0 : 0 ≤ r) (h1 : r < 12) => frCell_reg hgr h0 h1)
        obtain ⟨Ft, hF'⟩ : ∃ F, frCell (newFr (insOf p f).imm (m : Int) (f.reg (insOf p f).a) (f.reg (insOf p f).b)) = F := ⟨_, rfl⟩
        rw [hF'] at HLt HIt HOt HZt HPt HGt rF
        have HRt := Lib.hid (fun (W : World) (hb : Below w8.heap.size w8 W) => range_below rF gzt hb)
        clear hF' hA rF c2 hFA hgr
        rw [hl2] at hnt
        have v2t := (HX8.out.cell (.head _) 2).trans HSt.out
        have hwt : IntKind.i64.wrap ((nt : Int) - 1) = (kf + 1 : Nat) := by rw [IntKind.wrap_i64]; omega
        have hwt2 : IntKind.i64.wrap ((nf : Int) + 1) = (nt : Int) := by have := HN.out; rw [IntKind.wrap_i64]; omega
        have ht1 : ((kf + 1 : Nat) : Int) < nt := by omega
        have ht0 : (0 : Int) ≤ ((kf + 1 : Nat) : Int) := by omega
        have HR0 := Lib.hid (show ∀ i : Nat, i < m → Ft[2 + i]? = some (.int .i64 (f.reg (if i = 0 then (insOf p f).a else (insOf p f).b))) from fun i hi => by
          have h1 := HGt.out (i : Int) (by omega) (by omega)
          simp only [Int.toNat_natCast] at h1
          rw [h1]
          have hc : (m = 1 ∧ i = 0) ∨ (m = 2 ∧ i = 0) ∨ (m = 2 ∧ i = 1) := by omega
          rcases hc with ⟨rfl, rfl⟩ | ⟨rfl, rfl⟩ | ⟨rfl, rfl⟩ <;> rfl)
        have HZt' : Hid (Ft[0]? = some (.int .i64 (insOf p f).imm)) := Lib.hid HZt.out
        have HPt' : Hid (Ft[1]? = some (.int .i64 0)) := Lib.hid HPt.out
        have hi0 := hcall.1
        have hi1 : (insOf p f).imm < (p.length : Int) := hcall.2
        have HPC := Lib.hid ((HX8.out.below.cell (p := ⟨pg, _, none⟩) hpg).trans c0)
        have ra := HFG.out _ xa0 xa1
        have rb := HFG.out _ xb0 xb1
        clear hfr hFi hfi hfe hA hfn hlast hl2 hnr v2 c0 hcall hml hnf
        obtain ⟨kt, hkt⟩ : ∃ kt, kf + 1 = kt := ⟨_, rfl⟩
        rw [hkt] at HRt hwt ht1 ht0
        go_wp2_with (first | (refine wpList_load_mid (by rfl) 60 _ (by rfl) gt (kt * 14) (by rfl) Ft _ (HRt.out _ (Below.refl _ _)) Tryd.underlying60 (by rfl) HIt.out ?_) | (refine wpList_store_mid (by rfl) 60 _ _ (by rfl) w8.heap.size 0 Ft.toArray (by rfl) (by rfl) (there_new w8 [.int .i64 0, .int .i64 0, .int .i64 0, .int .i64 0, .int .i64 0, .int .i64 0, .int .i64 0, .int .i64 0, .int .i64 0, .int .i64 0, .int .i64 0, .int .i64 0, .int .i64 0, .int .i64 0] _ (by simp [HLt.out])) (by simpa using HIt.out) HOt.out ?_; obtain ⟨w9, hw9⟩ : ∃ w9, (w8.alloc (.cells (List.toArray [.int .i64 0, .int .i64 0, .int .i64 0, .int .i64 0, .int .i64 0, .int .i64 0, .int .i64 0, .int .i64 0, .int .i64 0, .int .i64 0, .int .i64 0, .int .i64 0, .int .i64 0, .int .i64 0]) 60)).setCells w8.heap.size 0 Ft.toArray.toList = w9 := ⟨_, rfl⟩; rw [hw9]; have HBw9 : Hid (Below w8.heap.size w8 w9) := Lib.hid (hw9 ▸ below_setCells (Nat.le_refl _) _ _ _ ((Below.refl _ _).alloc (Nat.le_refl _) _)); have HX9 := Lib.hid (HX8.out.keeps HBw9.out); have HTt : Hid (w9.heap[w8.heap.size]? = some (.cells Ft.toArray 60 (0, 0))) := Lib.hid (hw9 ▸ block_full (heap_alloc_new _ _) _ (by simp [HLt.out])); clear hw9))
        have y0 := HX9.out.lt (.tail _ (.head _))
        have y1 := HX9.out.lt (.head _)
        have HTX9 := Lib.hid ((HBw9.out.block _ z2).trans HTX.out)
        have HXB9 := Lib.hid ((HBw9.out.block _ z3).trans HXB.out)
        have y2 := block_lt HTX9.out
        have y3 := block_lt HXB9.out
        have y4 := block_lt HTt.out
        have y5 := block_lt HX9.out.pblk
        have HPC9 := Lib.hid ((HBw9.out.cell (p := ⟨pg, _, none⟩) (by show pg < _; omega)).trans HPC.out)
        have y6 : pg < w9.heap.size := by have := HX9.out.below.size; omega
        have p9 := HX9.out.pcell
        rw [HA1.out] at p9
        have HP9 := Lib.hid p9
        clear t0 t1 t2 t3 t4 l2 v1 v2t p9
        go_loopw [16] (fun v wr => ∃ k : Nat, k ≤ m ∧ v = .int .i64 (k : Int) ∧ Below w9.heap.size w9 wr) (fun v _ => m - (intOf v).toNat)
        case atStart => exact ⟨0, by omega, rfl, Below.refl _ _⟩
        case round =>
          obtain ⟨k, hk, rfl, hbr⟩ := hrel
          have HBR := Lib.hid hbr
          have zr := hbr.size
          have e1 := (hbr.cell (p := ⟨w1.heap.size, 0, none⟩) y5).trans HP9.out
          have e2 := (hbr.cell (p := ⟨w7.heap.size, 4, none⟩) y3).trans ((cell_block HXB9.out 4).trans rfl)
          have e3 := (hbr.cell (p := ⟨pg, _, none⟩) y6).trans HPC9.out
          have e4 := (hbr.cell (p := ⟨w7.heap.size, 2, none⟩) y3).trans ((cell_block HXB9.out 2).trans rfl)
          have e5 := (hbr.cell (p := ⟨w7.heap.size, 3, none⟩) y3).trans ((cell_block HXB9.out 3).trans rfl)
          by_cases hkn : k = m
          · subst hkn
            have e6 := (hbr.cell (p := ⟨w5.heap.size, 2, none⟩) y1).trans ((HX9.out.cell (.head _) 2).trans HSt.out)
            have e7 := (hbr.cell (p := ⟨w2.heap.size, 2, none⟩) y0).trans ((HX9.out.cell (.tail _ (.head _)) 2).trans HCF2.out)
            have e8 := (hbr.cell (p := ⟨w8.heap.size, 0, none⟩) y4).trans ((cell_block HTt.out 0).trans (List.getElem?_toArray.trans HZt'.out))
            have e9 := (hbr.cell (p := ⟨w8.heap.size, 1, none⟩) y4).trans ((cell_block HTt.out 1).trans (List.getElem?_toArray.trans HPt'.out))
            go_wp2_with fail
            go_ret
            exact ⟨rfl, HBW.out.trans ((HX9.out.below.trans (HBR.out.mono HX9.out.below.size)).mono HBW.out.size)⟩
          · have hk1' : (k : Int) < m := by omega
            have hkw : IntKind.i64.wrap ((k : Int) + 1) = k + 1 := by rw [IntKind.wrap_i64]; omega
            have r0 := (cell_block HTt.out (2 + k)).trans (List.getElem?_toArray.trans (HR0.out k (by omega)))
            have u2 := (hbr.cell (p := ⟨w6.heap.size, 2 + (insOf p f).a.toNat, none⟩) y2).trans ((cell_block HTX9.out _).trans (List.getElem?_toArray.trans ra))
            have u3 := (hbr.cell (p := ⟨w6.heap.size, 2 + (insOf p f).b.toNat, none⟩) y2).trans ((cell_block HTX9.out _).trans (List.getElem?_toArray.trans rb))
            have r1 := (hbr.cell (p := ⟨w8.heap.size, 2 + k, none⟩) y4).trans r0
            have y3r : w7.heap.size < wr.heap.size := by omega
            have y2r : w6.heap.size < wr.heap.size := by omega
            have y4r : w8.heap.size < wr.heap.size := by omega
            have hc : k = 0 ∨ k = 1 := by omega
            clear r0 hkn
            rcases hc with rfl | rfl
            · have r1' : wr.cell? ⟨w8.heap.size, 2 + 0, none⟩ = some (.int .i64 (f.reg (insOf p f).a)) := r1
              have KS := Lib.hid (fun (w' : World) (hb : Below wr.heap.size wr w') => (⟨(hb.cell (p := ⟨w8.heap.size, _, none⟩) y4r).trans r1', (hb.cell (p := ⟨w7.heap.size, _, none⟩) y3r).trans e4, (hb.cell (p := ⟨w7.heap.size, _, none⟩) y3r).trans e5, (hb.cell (p := ⟨w6.heap.size, _, none⟩) y2r).trans u2⟩ : w'.cell? ⟨w8.heap.size, 2 + 0, none⟩ = some (.int .i64 (f.reg (insOf p f).a)) ∧ w'.cell? ⟨w7.heap.size, 2, none⟩ = some (.int .i64 (insOf p f).a) ∧ w'.cell? ⟨w7.heap.size, 3, none⟩ = some (.int .i64 (insOf p f).b) ∧ w'.cell? ⟨w6.heap.size, 2 + (insOf p f).a.toNat, none⟩ = some (.int .i64 (f.reg (insOf p f).a))))
              have hlt' : (0 : Int) < (m : Int) := by omega
              clear r1 r1' u2 u3 e4 e5 hk1'
              go_wp2_with fail
              refine wp_region_held_drew (S := fun w' => w'.cell? ⟨w8.heap.size, 2 + 0, none⟩ = some (.int .i64 (f.reg (insOf p f).a)) ∧ w'.cell? ⟨w7.heap.size, 2, none⟩ = some (.int .i64 (insOf p f).a) ∧ w'.cell? ⟨w7.heap.size, 3, none⟩ = some (.int .i64 (insOf p f).b) ∧ w'.cell? ⟨w6.heap.size, 2 + (insOf p f).a.toNat, none⟩ = some (.int .i64 (f.reg (insOf p f).a))) (by kernel_rfl) (KS.out _ (Below.refl _ _).drew) (fun hHeld => ?_)
              refine wpAnyH_take (i := 0) (v := .int .i64 0) rfl (by kernel_rfl) (by kernel_rfl) (by kernel_rfl) (fun _ _ _ h => h) (Or.inl ⟨by rfl, ?_⟩) hHeld ?_
              · intro w hSw
                obtain ⟨q0, q1, q2, q3⟩ := hSw
                simp only [List.getElem_toArray, List.getElem_cons_zero]
                go_simp
              simp only [Act.put, List.getElem_toArray, List.getElem_cons_zero, List.setIfInBounds_toArray, List.set_cons_zero, List.set_cons_succ]
              refine wpAnyH_take (i := 1) (v := .pointer (some ⟨w8.heap.size, 2, none⟩)) rfl (by kernel_rfl) (by kernel_rfl) (by kernel_rfl) (fun _ _ _ h => h) (Or.inl ⟨by rfl, ?_⟩) hHeld ?_
              · intro w hSw
                obtain ⟨q0, q1, q2, q3⟩ := hSw
                simp only [List.getElem_toArray, List.getElem_cons_zero, List.getElem_cons_succ]
                go_simp
              simp only [Act.put, List.getElem_toArray, List.getElem_cons_zero, List.getElem_cons_succ, List.setIfInBounds_toArray, List.set_cons_zero, List.set_cons_succ]
              refine wpAnyH_take (i := 2) (v := .pointer (some ⟨w8.heap.size, 2 + 0, none⟩)) rfl (by kernel_rfl) (by kernel_rfl) (by kernel_rfl) (fun _ _ _ h => h) (Or.inl ⟨by rfl, ?_⟩) hHeld ?_
              · intro w hSw
                obtain ⟨q0, q1, q2, q3⟩ := hSw
                simp only [List.getElem_toArray, List.getElem_cons_zero, List.getElem_cons_succ]
                go_simp
              simp only [Act.put, List.getElem_toArray, List.getElem_cons_zero, List.getElem_cons_succ, List.setIfInBounds_toArray, List.set_cons_zero, List.set_cons_succ]
              refine wpAnyH_take (i := 3) (v := .int .i64 (f.reg (insOf p f).a)) rfl (by kernel_rfl) (by kernel_rfl) (by kernel_rfl) (fun _ _ _ h => h) (Or.inl ⟨by rfl, ?_⟩) hHeld ?_
              · intro w hSw
                obtain ⟨q0, q1, q2, q3⟩ := hSw
                simp only [List.getElem_toArray, List.getElem_cons_zero, List.getElem_cons_succ]
                go_simp
              simp only [Act.put, List.getElem_toArray, List.getElem_cons_zero, List.getElem_cons_succ, List.setIfInBounds_toArray, List.set_cons_zero, List.set_cons_succ]
              refine wpAnyH_take (i := 4) (v := .pointer (some ⟨w7.heap.size, 2, none⟩)) rfl (by kernel_rfl) (by kernel_rfl) (by kernel_rfl) (fun _ _ _ h => h) (Or.inl ⟨by rfl, ?_⟩) hHeld ?_
              · intro w hSw
                obtain ⟨q0, q1, q2, q3⟩ := hSw
                simp only [List.getElem_toArray, List.getElem_cons_zero, List.getElem_cons_succ]
                go_simp
              simp only [Act.put, List.getElem_toArray, List.getElem_cons_zero, List.getElem_cons_succ, List.setIfInBounds_toArray, List.set_cons_zero, List.set_cons_succ]
              refine wpAnyH_take (i := 5) (v := .int .i64 (insOf p f).a) rfl (by kernel_rfl) (by kernel_rfl) (by kernel_rfl) (fun _ _ _ h => h) (Or.inl ⟨by rfl, ?_⟩) hHeld ?_
              · intro w hSw
                obtain ⟨q0, q1, q2, q3⟩ := hSw
                simp only [List.getElem_toArray, List.getElem_cons_zero, List.getElem_cons_succ]
                go_simp
              simp only [Act.put, List.getElem_toArray, List.getElem_cons_zero, List.getElem_cons_succ, List.setIfInBounds_toArray, List.set_cons_zero, List.set_cons_succ]
              refine wpAnyH_take (i := 6) (v := .pointer (some ⟨w7.heap.size, 3, none⟩)) rfl (by kernel_rfl) (by kernel_rfl) (by kernel_rfl) (fun _ _ _ h => h) (Or.inl ⟨by rfl, ?_⟩) hHeld ?_
              · intro w hSw
                obtain ⟨q0, q1, q2, q3⟩ := hSw
                simp only [List.getElem_toArray, List.getElem_cons_zero, List.getElem_cons_succ]
                go_simp
              simp only [Act.put, List.getElem_toArray, List.getElem_cons_zero, List.getElem_cons_succ, List.setIfInBounds_toArray, List.set_cons_zero, List.set_cons_succ]
              refine wpAnyH_take (i := 7) (v := .int .i64 (insOf p f).b) rfl (by kernel_rfl) (by kernel_rfl) (by kernel_rfl) (fun _ _ _ h => h) (Or.inl ⟨by rfl, ?_⟩) hHeld ?_
              · intro w hSw
                obtain ⟨q0, q1, q2, q3⟩ := hSw
                simp only [List.getElem_toArray, List.getElem_cons_zero, List.getElem_cons_succ]
                go_simp
              simp only [Act.put, List.getElem_toArray, List.getElem_cons_zero, List.getElem_cons_succ, List.setIfInBounds_toArray, List.set_cons_zero, List.set_cons_succ]
              refine wpAnyH_take (i := 9) (v := .int .i64 0) rfl (by kernel_rfl) (by kernel_rfl) (by kernel_rfl) (fun _ _ _ h => h) (Or.inl ⟨by rfl, ?_⟩) hHeld ?_
              · intro w hSw
                obtain ⟨q0, q1, q2, q3⟩ := hSw
                simp only [List.getElem_toArray, List.getElem_cons_zero, List.getElem_cons_succ]
                go_simp
              simp only [Act.put, List.getElem_toArray, List.getElem_cons_zero, List.getElem_cons_succ, List.setIfInBounds_toArray, List.set_cons_zero, List.set_cons_succ]
              refine wpAnyH_take (i := 12) (v := .pointer (some ⟨w6.heap.size, 2, none⟩)) rfl (by kernel_rfl) (by kernel_rfl) (by kernel_rfl) (fun _ _ _ h => h) (Or.inl ⟨by rfl, ?_⟩) hHeld ?_
              · intro w hSw
                obtain ⟨q0, q1, q2, q3⟩ := hSw
                simp only [List.getElem_toArray, List.getElem_cons_zero, List.getElem_cons_succ]
                go_simp
              simp only [Act.put, List.getElem_toArray, List.getElem_cons_zero, List.getElem_cons_succ, List.setIfInBounds_toArray, List.set_cons_zero, List.set_cons_succ]
              refine wpAnyH_ready (rs := [8]) (by kernel_rfl) (by simp) ?_
              refine AllReadyH.cons rfl (fun K hK => ?_) AllReadyH.nil
              simp only [List.getElem_toArray, List.getElem_cons_zero, List.getElem_cons_succ]
              go_simp
              refine hK.out _ _ (KS.out _ ((Below.refl _ _).drew.alloc (Nat.le_refl _) _)) (fun hHeld => ?_)
              clear hK K
              refine wpAnyH_take (i := 10) (v := .pointer (some ⟨wr.heap.size, 0, none⟩)) rfl (by kernel_rfl) (by kernel_rfl) (by kernel_rfl) (fun _ _ _ h => h) (Or.inl ⟨by rfl, ?_⟩) hHeld ?_
              · intro w hSw
                obtain ⟨q0, q1, q2, q3⟩ := hSw
                simp only [List.getElem_toArray, List.getElem_cons_zero, List.getElem_cons_succ]
                go_simp
              simp only [Act.put, List.getElem_toArray, List.getElem_cons_zero, List.getElem_cons_succ, List.setIfInBounds_toArray, List.set_cons_zero, List.set_cons_succ]
              refine wpAnyH_ready (rs := [11]) (by kernel_rfl) (by simp) ?_
              refine AllReadyH.cons rfl (fun K hK => ?_) AllReadyH.nil
              simp only [List.getElem_toArray, List.getElem_cons_zero, List.getElem_cons_succ]
              go_simp
              refine hK.out _ _ hHeld (fun hHeld => ?_)
              clear hK K
              refine wpAnyH_take (i := 13) (v := .pointer (some ⟨w6.heap.size, 2 + (insOf p f).a.toNat, none⟩)) rfl (by kernel_rfl) (by kernel_rfl) (by kernel_rfl) (fun _ _ _ h => h) (Or.inl ⟨by rfl, ?_⟩) hHeld ?_
              · intro w hSw
                obtain ⟨q0, q1, q2, q3⟩ := hSw
                simp only [List.getElem_toArray, List.getElem_cons_zero, List.getElem_cons_succ]
                go_simp
              simp only [Act.put, List.getElem_toArray, List.getElem_cons_zero, List.getElem_cons_succ, List.setIfInBounds_toArray, List.set_cons_zero, List.set_cons_succ]
              refine wpAnyH_take (i := 14) (v := .int .i64 (f.reg (insOf p f).a)) rfl (by kernel_rfl) (by kernel_rfl) (by kernel_rfl) (fun _ _ _ h => h) (Or.inl ⟨by rfl, ?_⟩) hHeld ?_
              · intro w hSw
                obtain ⟨q0, q1, q2, q3⟩ := hSw
                simp only [List.getElem_toArray, List.getElem_cons_zero, List.getElem_cons_succ]
                go_simp
              simp only [Act.put, List.getElem_toArray, List.getElem_cons_zero, List.getElem_cons_succ, List.setIfInBounds_toArray, List.set_cons_zero, List.set_cons_succ]
              refine wpAnyH_take (i := 15) (v := .bool false) rfl (by kernel_rfl) (by kernel_rfl) (by kernel_rfl) (fun _ _ _ h => h) (Or.inl ⟨by rfl, ?_⟩) hHeld ?_
              · intro w hSw
                obtain ⟨q0, q1, q2, q3⟩ := hSw
                simp only [List.getElem_toArray, List.getElem_cons_zero, List.getElem_cons_succ]
                go_simp
              simp only [Act.put, List.getElem_toArray, List.getElem_cons_zero, List.getElem_cons_succ, List.setIfInBounds_toArray, List.set_cons_zero, List.set_cons_succ]
              clear hHeld KS
              refine wpAnyH_done (by kernel_rfl) ?_ _
              go_wp2_with fail
              go_roundw
              case rel => exact ⟨1, by omega, by go_num, HBR.out.trans (by have hb := Below.refl wr.heap.size wr; exact (Below.mono (by repeat (first | exact hb | exact Below.refl _ _ | apply Below.drew | apply below_drewN | refine Below.alloc ?_ (by first | omega | (simp; done) | (simp; omega)) _ | refine Below.setCell ?_ (by first | omega | (simp; done) | (simp; omega)) _)) (HBR.out.size)))⟩
              case measure => simp [intOf]; omega
            · have r1' : wr.cell? ⟨w8.heap.size, 2 + 1, none⟩ = some (.int .i64 (f.reg (insOf p f).b)) := r1
              have KS := Lib.hid (fun (w' : World) (hb : Below wr.heap.size wr w') => (⟨(hb.cell (p := ⟨w8.heap.size, _, none⟩) y4r).trans r1', (hb.cell (p := ⟨w7.heap.size, _, none⟩) y3r).trans e4, (hb.cell (p := ⟨w7.heap.size, _, none⟩) y3r).trans e5, (hb.cell (p := ⟨w6.heap.size, _, none⟩) y2r).trans u3⟩ : w'.cell? ⟨w8.heap.size, 2 + 1, none⟩ = some (.int .i64 (f.reg (insOf p f).b)) ∧ w'.cell? ⟨w7.heap.size, 2, none⟩ = some (.int .i64 (insOf p f).a) ∧ w'.cell? ⟨w7.heap.size, 3, none⟩ = some (.int .i64 (insOf p f).b) ∧ w'.cell? ⟨w6.heap.size, 2 + (insOf p f).b.toNat, none⟩ = some (.int .i64 (f.reg (insOf p f).b))))
              have hlt' : (1 : Int) < (m : Int) := by omega
              clear r1 r1' u2 u3 e4 e5 hk1'
              go_wp2_with fail
              refine wp_region_held_drew (S := fun w' => w'.cell? ⟨w8.heap.size, 2 + 1, none⟩ = some (.int .i64 (f.reg (insOf p f).b)) ∧ w'.cell? ⟨w7.heap.size, 2, none⟩ = some (.int .i64 (insOf p f).a) ∧ w'.cell? ⟨w7.heap.size, 3, none⟩ = some (.int .i64 (insOf p f).b) ∧ w'.cell? ⟨w6.heap.size, 2 + (insOf p f).b.toNat, none⟩ = some (.int .i64 (f.reg (insOf p f).b))) (by kernel_rfl) (KS.out _ (Below.refl _ _).drew) (fun hHeld => ?_)
              refine wpAnyH_take (i := 0) (v := .int .i64 1) rfl (by kernel_rfl) (by kernel_rfl) (by kernel_rfl) (fun _ _ _ h => h) (Or.inl ⟨by rfl, ?_⟩) hHeld ?_
              · intro w hSw
                obtain ⟨q0, q1, q2, q3⟩ := hSw
                simp only [List.getElem_toArray, List.getElem_cons_zero]
                go_simp
              simp only [Act.put, List.getElem_toArray, List.getElem_cons_zero, List.setIfInBounds_toArray, List.set_cons_zero, List.set_cons_succ]
              refine wpAnyH_take (i := 1) (v := .pointer (some ⟨w8.heap.size, 2, none⟩)) rfl (by kernel_rfl) (by kernel_rfl) (by kernel_rfl) (fun _ _ _ h => h) (Or.inl ⟨by rfl, ?_⟩) hHeld ?_
              · intro w hSw
                obtain ⟨q0, q1, q2, q3⟩ := hSw
                simp only [List.getElem_toArray, List.getElem_cons_zero, List.getElem_cons_succ]
                go_simp
              simp only [Act.put, List.getElem_toArray, List.getElem_cons_zero, List.getElem_cons_succ, List.setIfInBounds_toArray, List.set_cons_zero, List.set_cons_succ]
              refine wpAnyH_take (i := 2) (v := .pointer (some ⟨w8.heap.size, 2 + 1, none⟩)) rfl (by kernel_rfl) (by kernel_rfl) (by kernel_rfl) (fun _ _ _ h => h) (Or.inl ⟨by rfl, ?_⟩) hHeld ?_
              · intro w hSw
                obtain ⟨q0, q1, q2, q3⟩ := hSw
                simp only [List.getElem_toArray, List.getElem_cons_zero, List.getElem_cons_succ]
                go_simp
              simp only [Act.put, List.getElem_toArray, List.getElem_cons_zero, List.getElem_cons_succ, List.setIfInBounds_toArray, List.set_cons_zero, List.set_cons_succ]
              refine wpAnyH_take (i := 3) (v := .int .i64 (f.reg (insOf p f).b)) rfl (by kernel_rfl) (by kernel_rfl) (by kernel_rfl) (fun _ _ _ h => h) (Or.inl ⟨by rfl, ?_⟩) hHeld ?_
              · intro w hSw
                obtain ⟨q0, q1, q2, q3⟩ := hSw
                simp only [List.getElem_toArray, List.getElem_cons_zero, List.getElem_cons_succ]
                go_simp
              simp only [Act.put, List.getElem_toArray, List.getElem_cons_zero, List.getElem_cons_succ, List.setIfInBounds_toArray, List.set_cons_zero, List.set_cons_succ]
              refine wpAnyH_take (i := 4) (v := .pointer (some ⟨w7.heap.size, 2, none⟩)) rfl (by kernel_rfl) (by kernel_rfl) (by kernel_rfl) (fun _ _ _ h => h) (Or.inl ⟨by rfl, ?_⟩) hHeld ?_
              · intro w hSw
                obtain ⟨q0, q1, q2, q3⟩ := hSw
                simp only [List.getElem_toArray, List.getElem_cons_zero, List.getElem_cons_succ]
                go_simp
              simp only [Act.put, List.getElem_toArray, List.getElem_cons_zero, List.getElem_cons_succ, List.setIfInBounds_toArray, List.set_cons_zero, List.set_cons_succ]
              refine wpAnyH_take (i := 5) (v := .int .i64 (insOf p f).a) rfl (by kernel_rfl) (by kernel_rfl) (by kernel_rfl) (fun _ _ _ h => h) (Or.inl ⟨by rfl, ?_⟩) hHeld ?_
              · intro w hSw
                obtain ⟨q0, q1, q2, q3⟩ := hSw
                simp only [List.getElem_toArray, List.getElem_cons_zero, List.getElem_cons_succ]
                go_simp
              simp only [Act.put, List.getElem_toArray, List.getElem_cons_zero, List.getElem_cons_succ, List.setIfInBounds_toArray, List.set_cons_zero, List.set_cons_succ]
              refine wpAnyH_take (i := 6) (v := .pointer (some ⟨w7.heap.size, 3, none⟩)) rfl (by kernel_rfl) (by kernel_rfl) (by kernel_rfl) (fun _ _ _ h => h) (Or.inl ⟨by rfl, ?_⟩) hHeld ?_
              · intro w hSw
                obtain ⟨q0, q1, q2, q3⟩ := hSw
                simp only [List.getElem_toArray, List.getElem_cons_zero, List.getElem_cons_succ]
                go_simp
              simp only [Act.put, List.getElem_toArray, List.getElem_cons_zero, List.getElem_cons_succ, List.setIfInBounds_toArray, List.set_cons_zero, List.set_cons_succ]
              refine wpAnyH_take (i := 7) (v := .int .i64 (insOf p f).b) rfl (by kernel_rfl) (by kernel_rfl) (by kernel_rfl) (fun _ _ _ h => h) (Or.inl ⟨by rfl, ?_⟩) hHeld ?_
              · intro w hSw
                obtain ⟨q0, q1, q2, q3⟩ := hSw
                simp only [List.getElem_toArray, List.getElem_cons_zero, List.getElem_cons_succ]
                go_simp
              simp only [Act.put, List.getElem_toArray, List.getElem_cons_zero, List.getElem_cons_succ, List.setIfInBounds_toArray, List.set_cons_zero, List.set_cons_succ]
              refine wpAnyH_take (i := 9) (v := .int .i64 1) rfl (by kernel_rfl) (by kernel_rfl) (by kernel_rfl) (fun _ _ _ h => h) (Or.inl ⟨by rfl, ?_⟩) hHeld ?_
              · intro w hSw
                obtain ⟨q0, q1, q2, q3⟩ := hSw
                simp only [List.getElem_toArray, List.getElem_cons_zero, List.getElem_cons_succ]
                go_simp
              simp only [Act.put, List.getElem_toArray, List.getElem_cons_zero, List.getElem_cons_succ, List.setIfInBounds_toArray, List.set_cons_zero, List.set_cons_succ]
              refine wpAnyH_take (i := 12) (v := .pointer (some ⟨w6.heap.size, 2, none⟩)) rfl (by kernel_rfl) (by kernel_rfl) (by kernel_rfl) (fun _ _ _ h => h) (Or.inl ⟨by rfl, ?_⟩) hHeld ?_
              · intro w hSw
                obtain ⟨q0, q1, q2, q3⟩ := hSw
                simp only [List.getElem_toArray, List.getElem_cons_zero, List.getElem_cons_succ]
                go_simp
              simp only [Act.put, List.getElem_toArray, List.getElem_cons_zero, List.getElem_cons_succ, List.setIfInBounds_toArray, List.set_cons_zero, List.set_cons_succ]
              refine wpAnyH_ready (rs := [8]) (by kernel_rfl) (by simp) ?_
              refine AllReadyH.cons rfl (fun K hK => ?_) AllReadyH.nil
              simp only [List.getElem_toArray, List.getElem_cons_zero, List.getElem_cons_succ]
              go_simp
              refine hK.out _ _ (KS.out _ ((Below.refl _ _).drew.alloc (Nat.le_refl _) _)) (fun hHeld => ?_)
              clear hK K
              refine wpAnyH_take (i := 10) (v := .pointer (some ⟨wr.heap.size, 1, none⟩)) rfl (by kernel_rfl) (by kernel_rfl) (by kernel_rfl) (fun _ _ _ h => h) (Or.inl ⟨by rfl, ?_⟩) hHeld ?_
              · intro w hSw
                obtain ⟨q0, q1, q2, q3⟩ := hSw
                simp only [List.getElem_toArray, List.getElem_cons_zero, List.getElem_cons_succ]
                go_simp
              simp only [Act.put, List.getElem_toArray, List.getElem_cons_zero, List.getElem_cons_succ, List.setIfInBounds_toArray, List.set_cons_zero, List.set_cons_succ]
              refine wpAnyH_ready (rs := [11]) (by kernel_rfl) (by simp) ?_
              refine AllReadyH.cons rfl (fun K hK => ?_) AllReadyH.nil
              simp only [List.getElem_toArray, List.getElem_cons_zero, List.getElem_cons_succ]
              go_simp
              refine hK.out _ _ hHeld (fun hHeld => ?_)
              clear hK K
              refine wpAnyH_take (i := 13) (v := .pointer (some ⟨w6.heap.size, 2 + (insOf p f).b.toNat, none⟩)) rfl (by kernel_rfl) (by kernel_rfl) (by kernel_rfl) (fun _ _ _ h => h) (Or.inl ⟨by rfl, ?_⟩) hHeld ?_
              · intro w hSw
                obtain ⟨q0, q1, q2, q3⟩ := hSw
                simp only [List.getElem_toArray, List.getElem_cons_zero, List.getElem_cons_succ]
                go_simp
              simp only [Act.put, List.getElem_toArray, List.getElem_cons_zero, List.getElem_cons_succ, List.setIfInBounds_toArray, List.set_cons_zero, List.set_cons_succ]
              refine wpAnyH_take (i := 14) (v := .int .i64 (f.reg (insOf p f).b)) rfl (by kernel_rfl) (by kernel_rfl) (by kernel_rfl) (fun _ _ _ h => h) (Or.inl ⟨by rfl, ?_⟩) hHeld ?_
              · intro w hSw
                obtain ⟨q0, q1, q2, q3⟩ := hSw
                simp only [List.getElem_toArray, List.getElem_cons_zero, List.getElem_cons_succ]
                go_simp
              simp only [Act.put, List.getElem_toArray, List.getElem_cons_zero, List.getElem_cons_succ, List.setIfInBounds_toArray, List.set_cons_zero, List.set_cons_succ]
              refine wpAnyH_take (i := 15) (v := .bool false) rfl (by kernel_rfl) (by kernel_rfl) (by kernel_rfl) (fun _ _ _ h => h) (Or.inl ⟨by rfl, ?_⟩) hHeld ?_
              · intro w hSw
                obtain ⟨q0, q1, q2, q3⟩ := hSw
                simp only [List.getElem_toArray, List.getElem_cons_zero, List.getElem_cons_succ]
                go_simp
              simp only [Act.put, List.getElem_toArray, List.getElem_cons_zero, List.getElem_cons_succ, List.setIfInBounds_toArray, List.set_cons_zero, List.set_cons_succ]
              clear hHeld KS
              refine wpAnyH_done (by kernel_rfl) ?_ _
              go_wp2_with fail
              go_roundw
              case rel => exact ⟨2, by omega, by go_num, HBR.out.trans (by have hb := Below.refl wr.heap.size wr; exact (Below.mono (by repeat (first | exact hb | exact Below.refl _ _ | apply Below.drew | apply below_drewN | refine Below.alloc ?_ (by first | omega | (simp; done) | (simp; omega)) _ | refine Below.setCell ?_ (by first | omega | (simp; done) | (simp; omega)) _)) (HBR.out.size)))⟩
              case measure => simp [intOf]; omega
      · have hdn := HI2.out.done
        have h0 : s2.status = 1 := hdn.1 hx.2.2.1
        rw [h0] at HD0
        have HXX := Lib.hid hx
        clear hdn hst2 h0 hx
        go_wp2_with (first | (refine wpList_store_mid (by rfl) 50 _ _ (by rfl) w5.heap.size 0 C2.toArray (by rfl) (by rfl) (there_new w5 zeroV _ (by simp [HC2.out.len HI2.out.mem, zeroV_length])) (by simpa using HJ2.out) HC2.out.one ?_; obtain ⟨w6, hw6⟩ : ∃ w6, (w5.alloc (.cells zeroV.toArray 50)).setCells w5.heap.size 0 C2.toArray.toList = w6 := ⟨_, rfl⟩; rw [hw6]; have HX6 : Hid (Sx w1 w1.heap.size (.slice A1 p.length cap1) w6 [(w5.heap.size, C2, s2), (w2.heap.size, C1, s1)]) := Lib.hid (hw6 ▸ HX5.out.add HC2.out HI2.out.mem); have pc6 := HX6.out.pcell; have HBN : Hid (Below w5.heap.size w5 w6) := Lib.hid (hw6 ▸ below_setCells (Nat.le_refl _) _ _ _ ((Below.refl _ _).alloc (Nat.le_refl _) _)); clear hw6; have a0 := (HX6.out.cell (.tail _ (.head _)) 0).trans ca0.out; have a2 := (HX6.out.cell (.tail _ (.head _)) 2).trans HCF2.out; have b0 := (HX6.out.cell (.head _) 0).trans HD0.out; have rF := HRF.out _ HBN.out) | (refine wpList_load_mid (by rfl) 60 _ (by rfl) g (kf * 14) (by rfl) F _ rF Tryd.underlying60 (by rfl) HFI.out ?_) | (refine wpList_store_mid (by rfl) 60 _ _ (by rfl) w6.heap.size 0 F.toArray (by rfl) (by rfl) (there_new w6 [.int .i64 0, .int .i64 0, .int .i64 0, .int .i64 0, .int .i64 0, .int .i64 0, .int .i64 0, .int .i64 0, .int .i64 0, .int .i64 0, .int .i64 0, .int .i64 0, .int .i64 0, .int .i64 0] _ (by simp [HFL.out])) (by simpa using HFI.out) HFO1.out ?_; obtain ⟨w7, hw7⟩ : ∃ w7, (w6.alloc (.cells (List.toArray [.int .i64 0, .int .i64 0, .int .i64 0, .int .i64 0, .int .i64 0, .int .i64 0, .int .i64 0, .int .i64 0, .int .i64 0, .int .i64 0, .int .i64 0, .int .i64 0, .int .i64 0, .int .i64 0]) 60)).setCells w6.heap.size 0 F.toArray.toList = w7 := ⟨_, rfl⟩; rw [hw7]; have HBT : Hid (Below w6.heap.size w6 w7) := Lib.hid (hw7 ▸ below_setCells (Nat.le_refl _) _ _ _ ((Below.refl _ _).alloc (Nat.le_refl _) _)); have HX7 := Lib.hid (HX6.out.keeps HBT.out); have HTB : Hid (w7.heap[w6.heap.size]? = some (.cells F.toArray 60 (0, 0))) := Lib.hid (hw7 ▸ block_full (heap_alloc_new _ _) _ (by simp [HFL.out])); clear hw7 a2 rF))
        have e2 := (HX7.out.below.cell (p := ⟨pg, _, none⟩) hpg).trans d2
        have e40 := (HX7.out.below.cell (p := ⟨cg, _, none⟩) hcg).trans d40
        have e41 := (HX7.out.below.cell (p := ⟨cg, _, none⟩) hcg).trans d41
        have e42 := (HX7.out.below.cell (p := ⟨cg, _, none⟩) hcg).trans d42
        have e43 := (HX7.out.below.cell (p := ⟨cg, _, none⟩) hcg).trans d43
        have e44 := (HX7.out.below.cell (p := ⟨cg, _, none⟩) hcg).trans d44
        have ep := HX7.out.pcell
        rw [HA1.out] at ep
        have et0 := (cell_block HTB.out 0).trans (List.getElem?_toArray.trans HF0.out)
        have et1 := (cell_block HTB.out 1).trans (List.getElem?_toArray.trans HF1.out)
        have hz1 := HX7.out.below.size
        have hzp := block_lt HX7.out.pblk
        have hzt := block_lt HTB.out
        have KS := Lib.hid (fun (w' : World) (hb : Below w7.heap.size w7 w') => (⟨(hb.cell (p := ⟨w1.heap.size, 0, none⟩) hzp).trans ep, (hb.cell (p := ⟨w6.heap.size, 0, none⟩) hzt).trans et0, (hb.cell (p := ⟨w6.heap.size, 1, none⟩) hzt).trans et1, (hb.cell (p := ⟨pg, _, none⟩) (by show pg < _; omega)).trans e2, (hb.cell (p := ⟨cg, _, none⟩) (by show cg < _; omega)).trans e40, (hb.cell (p := ⟨cg, _, none⟩) (by show cg < _; omega)).trans e41, (hb.cell (p := ⟨cg, _, none⟩) (by show cg < _; omega)).trans e42, (hb.cell (p := ⟨cg, _, none⟩) (by show cg < _; omega)).trans e43, (hb.cell (p := ⟨cg, _, none⟩) (by show cg < _; omega)).trans e44⟩ :
            w'.cell? ⟨w1.heap.size, 0, none⟩ = some (.slice (some ⟨pg, 0, none⟩) p.length cap1) ∧ w'.cell? ⟨w6.heap.size, 0, none⟩ = some (.int .i64 f.fn) ∧ w'.cell? ⟨w6.heap.size, 1, none⟩ = some (.int .i64 f.pc) ∧ w'.cell? ⟨pg, f.fn.toNat * 3 + 2, none⟩ = some (.slice (some ⟨cg, 0, none⟩) M ccap) ∧ w'.cell? ⟨cg, f.pc.toNat * 5, none⟩ = some (.int .i64 (insOf p f).op) ∧ w'.cell? ⟨cg, f.pc.toNat * 5 + 1, none⟩ = some (.int .i64 (insOf p f).dst) ∧ w'.cell? ⟨cg, f.pc.toNat * 5 + 2, none⟩ = some (.int .i64 (insOf p f).a) ∧ w'.cell? ⟨cg, f.pc.toNat * 5 + 3, none⟩ = some (.int .i64 (insOf p f).b) ∧ w'.cell? ⟨cg, f.pc.toNat * 5 + 4, none⟩ = some (.int .i64 (insOf p f).imm)))
        clear e2 e40 e41 e42 e43 e44 ep et0 et1 hz1 hzp hzt d2 d40 d41 d42 d43 d44
        refine wp_region_held_drew (S := fun w' => w'.cell? ⟨w1.heap.size, 0, none⟩ = some (.slice (some ⟨pg, 0, none⟩) p.length cap1) ∧ w'.cell? ⟨w6.heap.size, 0, none⟩ = some (.int .i64 f.fn) ∧ w'.cell? ⟨w6.heap.size, 1, none⟩ = some (.int .i64 f.pc) ∧ w'.cell? ⟨pg, f.fn.toNat * 3 + 2, none⟩ = some (.slice (some ⟨cg, 0, none⟩) M ccap) ∧ w'.cell? ⟨cg, f.pc.toNat * 5, none⟩ = some (.int .i64 (insOf p f).op) ∧ w'.cell? ⟨cg, f.pc.toNat * 5 + 1, none⟩ = some (.int .i64 (insOf p f).dst) ∧ w'.cell? ⟨cg, f.pc.toNat * 5 + 2, none⟩ = some (.int .i64 (insOf p f).a) ∧ w'.cell? ⟨cg, f.pc.toNat * 5 + 3, none⟩ = some (.int .i64 (insOf p f).b) ∧ w'.cell? ⟨cg, f.pc.toNat * 5 + 4, none⟩ = some (.int .i64 (insOf p f).imm)) (by kernel_rfl) (KS.out _ (Below.refl _ _).drew) (fun hHeld => ?_)
        refine wpAnyH_take (i := 0) (v := .pointer (some ⟨w1.heap.size, 0, none⟩)) rfl (by kernel_rfl) (by kernel_rfl) (by kernel_rfl) (fun _ _ _ h => h) (Or.inl ⟨by rfl, ?_⟩) hHeld ?_
        · intro w hSw
          obtain ⟨q0, q1, q2, q3, q4, q5, q6, q7, q8⟩ := hSw
          simp only [List.getElem_toArray, List.getElem_cons_zero]
          go_simp
        simp only [Act.put, List.getElem_toArray, List.getElem_cons_zero, List.setIfInBounds_toArray, List.set_cons_zero, List.set_cons_succ]
        refine wpAnyH_take (i := 1) (v := .slice (some ⟨pg, 0, none⟩) p.length cap1) rfl (by kernel_rfl) (by kernel_rfl) (by kernel_rfl) (fun _ _ _ h => h) (Or.inl ⟨by rfl, ?_⟩) hHeld ?_
        · intro w hSw
          obtain ⟨q0, q1, q2, q3, q4, q5, q6, q7, q8⟩ := hSw
          simp only [List.getElem_toArray, List.getElem_cons_zero, List.getElem_cons_succ]
          go_simp
        simp only [Act.put, List.getElem_toArray, List.getElem_cons_zero, List.getElem_cons_succ, List.setIfInBounds_toArray, List.set_cons_zero, List.set_cons_succ]
        refine wpAnyH_take (i := 2) (v := .pointer (some ⟨w6.heap.size, 0, none⟩)) rfl (by kernel_rfl) (by kernel_rfl) (by kernel_rfl) (fun _ _ _ h => h) (Or.inl ⟨by rfl, ?_⟩) hHeld ?_
        · intro w hSw
          obtain ⟨q0, q1, q2, q3, q4, q5, q6, q7, q8⟩ := hSw
          simp only [List.getElem_toArray, List.getElem_cons_zero, List.getElem_cons_succ]
          go_simp
        simp only [Act.put, List.getElem_toArray, List.getElem_cons_zero, List.getElem_cons_succ, List.setIfInBounds_toArray, List.set_cons_zero, List.set_cons_succ]
        refine wpAnyH_take (i := 3) (v := .int .i64 f.fn) rfl (by kernel_rfl) (by kernel_rfl) (by kernel_rfl) (fun _ _ _ h => h) (Or.inl ⟨by rfl, ?_⟩) hHeld ?_
        · intro w hSw
          obtain ⟨q0, q1, q2, q3, q4, q5, q6, q7, q8⟩ := hSw
          simp only [List.getElem_toArray, List.getElem_cons_zero, List.getElem_cons_succ]
          go_simp
        simp only [Act.put, List.getElem_toArray, List.getElem_cons_zero, List.getElem_cons_succ, List.setIfInBounds_toArray, List.set_cons_zero, List.set_cons_succ]
        refine wpAnyH_take (i := 4) (v := .pointer (some ⟨pg, f.fn.toNat * 3, none⟩)) rfl (by kernel_rfl) (by kernel_rfl) (by kernel_rfl) (fun _ _ _ h => h) (Or.inl ⟨by rfl, ?_⟩) hHeld ?_
        · intro w hSw
          obtain ⟨q0, q1, q2, q3, q4, q5, q6, q7, q8⟩ := hSw
          simp only [List.getElem_toArray, List.getElem_cons_zero, List.getElem_cons_succ]
          go_simp
        simp only [Act.put, List.getElem_toArray, List.getElem_cons_zero, List.getElem_cons_succ, List.setIfInBounds_toArray, List.set_cons_zero, List.set_cons_succ]
        refine wpAnyH_take (i := 5) (v := .pointer (some ⟨pg, f.fn.toNat * 3 + 2, none⟩)) rfl (by kernel_rfl) (by kernel_rfl) (by kernel_rfl) (fun _ _ _ h => h) (Or.inl ⟨by rfl, ?_⟩) hHeld ?_
        · intro w hSw
          obtain ⟨q0, q1, q2, q3, q4, q5, q6, q7, q8⟩ := hSw
          simp only [List.getElem_toArray, List.getElem_cons_zero, List.getElem_cons_succ]
          go_simp
        simp only [Act.put, List.getElem_toArray, List.getElem_cons_zero, List.getElem_cons_succ, List.setIfInBounds_toArray, List.set_cons_zero, List.set_cons_succ]
        refine wpAnyH_take (i := 6) (v := .slice (some ⟨cg, 0, none⟩) M ccap) rfl (by kernel_rfl) (by kernel_rfl) (by kernel_rfl) (fun _ _ _ h => h) (Or.inl ⟨by rfl, ?_⟩) hHeld ?_
        · intro w hSw
          obtain ⟨q0, q1, q2, q3, q4, q5, q6, q7, q8⟩ := hSw
          simp only [List.getElem_toArray, List.getElem_cons_zero, List.getElem_cons_succ]
          go_simp
        simp only [Act.put, List.getElem_toArray, List.getElem_cons_zero, List.getElem_cons_succ, List.setIfInBounds_toArray, List.set_cons_zero, List.set_cons_succ]
        refine wpAnyH_take (i := 7) (v := .pointer (some ⟨w6.heap.size, 1, none⟩)) rfl (by kernel_rfl) (by kernel_rfl) (by kernel_rfl) (fun _ _ _ h => h) (Or.inl ⟨by rfl, ?_⟩) hHeld ?_
        · intro w hSw
          obtain ⟨q0, q1, q2, q3, q4, q5, q6, q7, q8⟩ := hSw
          simp only [List.getElem_toArray, List.getElem_cons_zero, List.getElem_cons_succ]
          go_simp
        simp only [Act.put, List.getElem_toArray, List.getElem_cons_zero, List.getElem_cons_succ, List.setIfInBounds_toArray, List.set_cons_zero, List.set_cons_succ]
        refine wpAnyH_take (i := 8) (v := .int .i64 f.pc) rfl (by kernel_rfl) (by kernel_rfl) (by kernel_rfl) (fun _ _ _ h => h) (Or.inl ⟨by rfl, ?_⟩) hHeld ?_
        · intro w hSw
          obtain ⟨q0, q1, q2, q3, q4, q5, q6, q7, q8⟩ := hSw
          simp only [List.getElem_toArray, List.getElem_cons_zero, List.getElem_cons_succ]
          go_simp
        simp only [Act.put, List.getElem_toArray, List.getElem_cons_zero, List.getElem_cons_succ, List.setIfInBounds_toArray, List.set_cons_zero, List.set_cons_succ]
        refine wpAnyH_take (i := 9) (v := .pointer (some ⟨cg, f.pc.toNat * 5, none⟩)) rfl (by kernel_rfl) (by kernel_rfl) (by kernel_rfl) (fun _ _ _ h => h) (Or.inl ⟨by rfl, ?_⟩) hHeld ?_
        · intro w hSw
          obtain ⟨q0, q1, q2, q3, q4, q5, q6, q7, q8⟩ := hSw
          simp only [List.getElem_toArray, List.getElem_cons_zero, List.getElem_cons_succ]
          go_simp
        simp only [Act.put, List.getElem_toArray, List.getElem_cons_zero, List.getElem_cons_succ, List.setIfInBounds_toArray, List.set_cons_zero, List.set_cons_succ]
        refine wpAnyH_take (i := 10) (v := .agg (List.toArray [.int .i64 (insOf p f).op, .int .i64 (insOf p f).dst, .int .i64 (insOf p f).a, .int .i64 (insOf p f).b, .int .i64 (insOf p f).imm])) rfl (by kernel_rfl) (by kernel_rfl) (by kernel_rfl) (fun _ _ _ h => h) (Or.inl ⟨by rfl, ?_⟩) hHeld ?_
        · intro w hSw
          obtain ⟨q0, q1, q2, q3, q4, q5, q6, q7, q8⟩ := hSw
          simp only [List.getElem_toArray, List.getElem_cons_zero, List.getElem_cons_succ]
          go_simp
        simp only [Act.put, List.getElem_toArray, List.getElem_cons_zero, List.getElem_cons_succ, List.setIfInBounds_toArray, List.set_cons_zero, List.set_cons_succ]
        refine wpAnyH_ready (rs := [11]) (by kernel_rfl) (by simp) ?_
        refine AllReadyH.cons rfl (fun K hK => ?_) AllReadyH.nil
        simp only [List.getElem_toArray, List.getElem_cons_zero, List.getElem_cons_succ]
        go_simp
        refine hK.out _ _ (KS.out _ ((Below.refl _ _).drew.alloc (Nat.le_refl _) _)) (fun hHeld => ?_)
        clear hK K
        refine wpAnyH_ready (rs := [12]) (by kernel_rfl) (by simp) ?_
        refine AllReadyH.cons rfl (fun K hK => ?_) AllReadyH.nil
        simp only [List.getElem_toArray, List.getElem_cons_zero, List.getElem_cons_succ]
        rw [if_pos (by rfl)]
        refine wp_store_mid 62 _ _ (by rfl) w7.heap.size 0 (List.toArray [.int .i64 (insOf p f).op, .int .i64 (insOf p f).dst, .int .i64 (insOf p f).a, .int .i64 (insOf p f).b, .int .i64 (insOf p f).imm]) (by rfl) (by rfl) (there_new w7.drew [.int .i64 0, .int .i64 0, .int .i64 0, .int .i64 0, .int .i64 0] _ (Nat.le_refl _)) (by kernel_rfl) (all_oneCell_toArray (by simp [Value.oneCell'])) ?_
        obtain ⟨w8, hw8⟩ : ∃ w8, (w7.drew.alloc (.cells (List.toArray [.int .i64 0, .int .i64 0, .int .i64 0, .int .i64 0, .int .i64 0]) 62)).setCells w7.heap.size 0 (List.toArray [.int .i64 (insOf p f).op, .int .i64 (insOf p f).dst, .int .i64 (insOf p f).a, .int .i64 (insOf p f).b, .int .i64 (insOf p f).imm]).toList = w8 := ⟨_, rfl⟩
        have HBX : Hid (Below w7.heap.size w7 w8) := Lib.hid (hw8 ▸ below_setCells (Nat.le_refl _) _ _ _ ((Below.refl _ _).drew.alloc (Nat.le_refl _) _))
        have HX8 := Lib.hid (HX7.out.keeps HBX.out)
        have HTX := Lib.hid ((HBX.out.block _ (block_lt HTB.out)).trans HTB.out)
        have HXB : Hid (w8.heap[w7.heap.size]? = some (.cells (List.toArray [.int .i64 (insOf p f).op, .int .i64 (insOf p f).dst, .int .i64 (insOf p f).a, .int .i64 (insOf p f).b, .int .i64 (insOf p f).imm]) 62 (0, 0))) := Lib.hid (hw8 ▸ block_full (heap_alloc_new w7.drew _) _ rfl)
        refine hK.out _ _ (by have := KS.out w8 HBX.out; rw [← hw8] at this; exact this) (fun hHeld => ?_)
        clear hK K hHeld KS
        refine wpAnyH_done (by kernel_rfl) ?_ _
        have hwq : (w7.alloc (.cells (List.toArray [.int .i64 0, .int .i64 0, .int .i64 0, .int .i64 0, .int .i64 0]) 62)).drew.setCells w7.heap.size 0 [.int .i64 (insOf p f).op, .int .i64 (insOf p f).dst, .int .i64 (insOf p f).a, .int .i64 (insOf p f).b, .int .i64 (insOf p f).imm] = w8 := hw8
        rw [hwq]
        clear hwq hw8
        have z0 := HX8.out.lt (.tail _ (.head _))
        have z1 := HX8.out.lt (.head _)
        have z2 := block_lt HTX.out
        have z3 := block_lt HXB.out
        have z4 := HX8.out.below.size
        have t0 := (cell_block HXB.out 0).trans rfl
        have t1 := (cell_block HXB.out 1).trans rfl
        have t2 := (cell_block HXB.out 2).trans rfl
        have t3 := (cell_block HXB.out 3).trans rfl
        have t4 := (cell_block HXB.out 4).trans rfl
        have l2 := (HX8.out.cell (.tail _ (.head _)) 2).trans HCF2.out
        have v1 := (HX8.out.cell (.head _) 1).trans HD1.out
        have v2 := (HX8.out.cell (.head _) 2).trans HD2.out
        have HTX0 := HTX
        have hx := HXX.out
        clear HXX
        obtain ⟨h19, hfs, hfr, hval⟩ := hx
        rw [h19] at t0
        have hk00 : kf = 0 := by have := HKF.out; rw [hfs] at this; simpa using this.symm
        have hnf1 : nf = 1 := by have := HN.out; have := HNL.out; omega
        rw [hnf1] at l2
        rw [hfr] at v2
        rw [hval] at v1
        have ra := HFG.out _ xa0 xa1
        have u2 := (cell_block HTX.out (2 + (insOf p f).a.toNat)).trans (List.getElem?_toArray.trans ra)
        go_wp2_with fail
        go_quiet (fail)
        go_wp2_with fail
        go_ret
        exact ⟨rfl, HBW.out.trans ((HX8.out.drewN _).below.mono HBW.out.size)⟩
      · have hdn := HI2.out.done
        have h0 : s2.status = 0 := by
          rcases hst2 with h | h
          · exact h
          · obtain ⟨_, _, _, _, h3⟩ := hx; rw [hdn.2 h] at h3; simp at h3
        rw [h0] at HD0
        have HXX := Lib.hid hx
        clear hdn hst2 h0 hx
        go_wp2_with (first | (refine wpList_store_mid (by rfl) 50 _ _ (by rfl) w5.heap.size 0 C2.toArray (by rfl) (by rfl) (there_new w5 zeroV _ (by simp [HC2.out.len HI2.out.mem, zeroV_length])) (by simpa using HJ2.out) HC2.out.one ?_; obtain ⟨w6, hw6⟩ : ∃ w6, (w5.alloc (.cells zeroV.toArray 50)).setCells w5.heap.size 0 C2.toArray.toList = w6 := ⟨_, rfl⟩; rw [hw6]; have HX6 : Hid (Sx w1 w1.heap.size (.slice A1 p.length cap1) w6 [(w5.heap.size, C2, s2), (w2.heap.size, C1, s1)]) := Lib.hid (hw6 ▸ HX5.out.add HC2.out HI2.out.mem); have pc6 := HX6.out.pcell; have HBN : Hid (Below w5.heap.size w5 w6) := Lib.hid (hw6 ▸ below_setCells (Nat.le_refl _) _ _ _ ((Below.refl _ _).alloc (Nat.le_refl _) _)); clear hw6; have a0 := (HX6.out.cell (.tail _ (.head _)) 0).trans ca0.out; have a2 := (HX6.out.cell (.tail _ (.head _)) 2).trans HCF2.out; have b0 := (HX6.out.cell (.head _) 0).trans HD0.out; have rF := HRF.out _ HBN.out) | (refine wpList_load_mid (by rfl) 60 _ (by rfl) g (kf * 14) (by rfl) F _ rF Tryd.underlying60 (by rfl) HFI.out ?_) | (refine wpList_store_mid (by rfl) 60 _ _ (by rfl) w6.heap.size 0 F.toArray (by rfl) (by rfl) (there_new w6 [.int .i64 0, .int .i64 0, .int .i64 0, .int .i64 0, .int .i64 0, .int .i64 0, .int .i64 0, .int .i64 0, .int .i64 0, .int .i64 0, .int .i64 0, .int .i64 0, .int .i64 0, .int .i64 0] _ (by simp [HFL.out])) (by simpa using HFI.out) HFO1.out ?_; obtain ⟨w7, hw7⟩ : ∃ w7, (w6.alloc (.cells (List.toArray [.int .i64 0, .int .i64 0, .int .i64 0, .int .i64 0, .int .i64 0, .int .i64 0, .int .i64 0, .int .i64 0, .int .i64 0, .int .i64 0, .int .i64 0, .int .i64 0, .int .i64 0, .int .i64 0]) 60)).setCells w6.heap.size 0 F.toArray.toList = w7 := ⟨_, rfl⟩; rw [hw7]; have HBT : Hid (Below w6.heap.size w6 w7) := Lib.hid (hw7 ▸ below_setCells (Nat.le_refl _) _ _ _ ((Below.refl _ _).alloc (Nat.le_refl _) _)); have HX7 := Lib.hid (HX6.out.keeps HBT.out); have HTB : Hid (w7.heap[w6.heap.size]? = some (.cells F.toArray 60 (0, 0))) := Lib.hid (hw7 ▸ block_full (heap_alloc_new _ _) _ (by simp [HFL.out])); clear hw7 a2 rF))
        have e2 := (HX7.out.below.cell (p := ⟨pg, _, none⟩) hpg).trans d2
        have e40 := (HX7.out.below.cell (p := ⟨cg, _, none⟩) hcg).trans d40
        have e41 := (HX7.out.below.cell (p := ⟨cg, _, none⟩) hcg).trans d41
        have e42 := (HX7.out.below.cell (p := ⟨cg, _, none⟩) hcg).trans d42
        have e43 := (HX7.out.below.cell (p := ⟨cg, _, none⟩) hcg).trans d43
        have e44 := (HX7.out.below.cell (p := ⟨cg, _, none⟩) hcg).trans d44
        have ep := HX7.out.pcell
        rw [HA1.out] at ep
        have et0 := (cell_block HTB.out 0).trans (List.getElem?_toArray.trans HF0.out)
        have et1 := (cell_block HTB.out 1).trans (List.getElem?_toArray.trans HF1.out)
        have hz1 := HX7.out.below.size
        have hzp := block_lt HX7.out.pblk
        have hzt := block_lt HTB.out
        have KS := Lib.hid (fun (w' : World) (hb : Below w7.heap.size w7 w') => (⟨(hb.cell (p := ⟨w1.heap.size, 0, none⟩) hzp).trans ep, (hb.cell (p := ⟨w6.heap.size, 0, none⟩) hzt).trans et0, (hb.cell (p := ⟨w6.heap.size, 1, none⟩) hzt).trans et1, (hb.cell (p := ⟨pg, _, none⟩) (by show pg < _; omega)).trans e2, (hb.cell (p := ⟨cg, _, none⟩) (by show cg < _; omega)).trans e40, (hb.cell (p := ⟨cg, _, none⟩) (by show cg < _; omega)).trans e41, (hb.cell (p := ⟨cg, _, none⟩) (by show cg < _; omega)).trans e42, (hb.cell (p := ⟨cg, _, none⟩) (by show cg < _; omega)).trans e43, (hb.cell (p := ⟨cg, _, none⟩) (by show cg < _; omega)).trans e44⟩ :
            w'.cell? ⟨w1.heap.size, 0, none⟩ = some (.slice (some ⟨pg, 0, none⟩) p.length cap1) ∧ w'.cell? ⟨w6.heap.size, 0, none⟩ = some (.int .i64 f.fn) ∧ w'.cell? ⟨w6.heap.size, 1, none⟩ = some (.int .i64 f.pc) ∧ w'.cell? ⟨pg, f.fn.toNat * 3 + 2, none⟩ = some (.slice (some ⟨cg, 0, none⟩) M ccap) ∧ w'.cell? ⟨cg, f.pc.toNat * 5, none⟩ = some (.int .i64 (insOf p f).op) ∧ w'.cell? ⟨cg, f.pc.toNat * 5 + 1, none⟩ = some (.int .i64 (insOf p f).dst) ∧ w'.cell? ⟨cg, f.pc.toNat * 5 + 2, none⟩ = some (.int .i64 (insOf p f).a) ∧ w'.cell? ⟨cg, f.pc.toNat * 5 + 3, none⟩ = some (.int .i64 (insOf p f).b) ∧ w'.cell? ⟨cg, f.pc.toNat * 5 + 4, none⟩ = some (.int .i64 (insOf p f).imm)))
        clear e2 e40 e41 e42 e43 e44 ep et0 et1 hz1 hzp hzt d2 d40 d41 d42 d43 d44
        refine wp_region_held_drew (S := fun w' => w'.cell? ⟨w1.heap.size, 0, none⟩ = some (.slice (some ⟨pg, 0, none⟩) p.length cap1) ∧ w'.cell? ⟨w6.heap.size, 0, none⟩ = some (.int .i64 f.fn) ∧ w'.cell? ⟨w6.heap.size, 1, none⟩ = some (.int .i64 f.pc) ∧ w'.cell? ⟨pg, f.fn.toNat * 3 + 2, none⟩ = some (.slice (some ⟨cg, 0, none⟩) M ccap) ∧ w'.cell? ⟨cg, f.pc.toNat * 5, none⟩ = some (.int .i64 (insOf p f).op) ∧ w'.cell? ⟨cg, f.pc.toNat * 5 + 1, none⟩ = some (.int .i64 (insOf p f).dst) ∧ w'.cell? ⟨cg, f.pc.toNat * 5 + 2, none⟩ = some (.int .i64 (insOf p f).a) ∧ w'.cell? ⟨cg, f.pc.toNat * 5 + 3, none⟩ = some (.int .i64 (insOf p f).b) ∧ w'.cell? ⟨cg, f.pc.toNat * 5 + 4, none⟩ = some (.int .i64 (insOf p f).imm)) (by kernel_rfl) (KS.out _ (Below.refl _ _).drew) (fun hHeld => ?_)
        refine wpAnyH_take (i := 0) (v := .pointer (some ⟨w1.heap.size, 0, none⟩)) rfl (by kernel_rfl) (by kernel_rfl) (by kernel_rfl) (fun _ _ _ h => h) (Or.inl ⟨by rfl, ?_⟩) hHeld ?_
        · intro w hSw
          obtain ⟨q0, q1, q2, q3, q4, q5, q6, q7, q8⟩ := hSw
          simp only [List.getElem_toArray, List.getElem_cons_zero]
          go_simp
        simp only [Act.put, List.getElem_toArray, List.getElem_cons_zero, List.setIfInBounds_toArray, List.set_cons_zero, List.set_cons_succ]
        refine wpAnyH_take (i := 1) (v := .slice (some ⟨pg, 0, none⟩) p.length cap1) rfl (by kernel_rfl) (by kernel_rfl) (by kernel_rfl) (fun _ _ _ h => h) (Or.inl ⟨by rfl, ?_⟩) hHeld ?_
        · intro w hSw
          obtain ⟨q0, q1, q2, q3, q4, q5, q6, q7, q8⟩ := hSw
          simp only [List.getElem_toArray, List.getElem_cons_zero, List.getElem_cons_succ]
          go_simp
        simp only [Act.put, List.getElem_toArray, List.getElem_cons_zero, List.getElem_cons_succ, List.setIfInBounds_toArray, List.set_cons_zero, List.set_cons_succ]
        refine wpAnyH_take (i := 2) (v := .pointer (some ⟨w6.heap.size, 0, none⟩)) rfl (by kernel_rfl) (by kernel_rfl) (by kernel_rfl) (fun _ _ _ h => h) (Or.inl ⟨by rfl, ?_⟩) hHeld ?_
        · intro w hSw
          obtain ⟨q0, q1, q2, q3, q4, q5, q6, q7, q8⟩ := hSw
          simp only [List.getElem_toArray, List.getElem_cons_zero, List.getElem_cons_succ]
          go_simp
        simp only [Act.put, List.getElem_toArray, List.getElem_cons_zero, List.getElem_cons_succ, List.setIfInBounds_toArray, List.set_cons_zero, List.set_cons_succ]
        refine wpAnyH_take (i := 3) (v := .int .i64 f.fn) rfl (by kernel_rfl) (by kernel_rfl) (by kernel_rfl) (fun _ _ _ h => h) (Or.inl ⟨by rfl, ?_⟩) hHeld ?_
        · intro w hSw
          obtain ⟨q0, q1, q2, q3, q4, q5, q6, q7, q8⟩ := hSw
          simp only [List.getElem_toArray, List.getElem_cons_zero, List.getElem_cons_succ]
          go_simp
        simp only [Act.put, List.getElem_toArray, List.getElem_cons_zero, List.getElem_cons_succ, List.setIfInBounds_toArray, List.set_cons_zero, List.set_cons_succ]
        refine wpAnyH_take (i := 4) (v := .pointer (some ⟨pg, f.fn.toNat * 3, none⟩)) rfl (by kernel_rfl) (by kernel_rfl) (by kernel_rfl) (fun _ _ _ h => h) (Or.inl ⟨by rfl, ?_⟩) hHeld ?_
        · intro w hSw
          obtain ⟨q0, q1, q2, q3, q4, q5, q6, q7, q8⟩ := hSw
          simp only [List.getElem_toArray, List.getElem_cons_zero, List.getElem_cons_succ]
          go_simp
        simp only [Act.put, List.getElem_toArray, List.getElem_cons_zero, List.getElem_cons_succ, List.setIfInBounds_toArray, List.set_cons_zero, List.set_cons_succ]
        refine wpAnyH_take (i := 5) (v := .pointer (some ⟨pg, f.fn.toNat * 3 + 2, none⟩)) rfl (by kernel_rfl) (by kernel_rfl) (by kernel_rfl) (fun _ _ _ h => h) (Or.inl ⟨by rfl, ?_⟩) hHeld ?_
        · intro w hSw
          obtain ⟨q0, q1, q2, q3, q4, q5, q6, q7, q8⟩ := hSw
          simp only [List.getElem_toArray, List.getElem_cons_zero, List.getElem_cons_succ]
          go_simp
        simp only [Act.put, List.getElem_toArray, List.getElem_cons_zero, List.getElem_cons_succ, List.setIfInBounds_toArray, List.set_cons_zero, List.set_cons_succ]
        refine wpAnyH_take (i := 6) (v := .slice (some ⟨cg, 0, none⟩) M ccap) rfl (by kernel_rfl) (by kernel_rfl) (by kernel_rfl) (fun _ _ _ h => h) (Or.inl ⟨by rfl, ?_⟩) hHeld ?_
        · intro w hSw
          obtain ⟨q0, q1, q2, q3, q4, q5, q6, q7, q8⟩ := hSw
          simp only [List.getElem_toArray, List.getElem_cons_zero, List.getElem_cons_succ]
          go_simp
        simp only [Act.put, List.getElem_toArray, List.getElem_cons_zero, List.getElem_cons_succ, List.setIfInBounds_toArray, List.set_cons_zero, List.set_cons_succ]
        refine wpAnyH_take (i := 7) (v := .pointer (some ⟨w6.heap.size, 1, none⟩)) rfl (by kernel_rfl) (by kernel_rfl) (by kernel_rfl) (fun _ _ _ h => h) (Or.inl ⟨by rfl, ?_⟩) hHeld ?_
        · intro w hSw
          obtain ⟨q0, q1, q2, q3, q4, q5, q6, q7, q8⟩ := hSw
          simp only [List.getElem_toArray, List.getElem_cons_zero, List.getElem_cons_succ]
          go_simp
        simp only [Act.put, List.getElem_toArray, List.getElem_cons_zero, List.getElem_cons_succ, List.setIfInBounds_toArray, List.set_cons_zero, List.set_cons_succ]
        refine wpAnyH_take (i := 8) (v := .int .i64 f.pc) rfl (by kernel_rfl) (by kernel_rfl) (by kernel_rfl) (fun _ _ _ h => h) (Or.inl ⟨by rfl, ?_⟩) hHeld ?_
        · intro w hSw
          obtain ⟨q0, q1, q2, q3, q4, q5, q6, q7, q8⟩ := hSw
          simp only [List.getElem_toArray, List.getElem_cons_zero, List.getElem_cons_succ]
          go_simp
        simp only [Act.put, List.getElem_toArray, List.getElem_cons_zero, List.getElem_cons_succ, List.setIfInBounds_toArray, List.set_cons_zero, List.set_cons_succ]
        refine wpAnyH_take (i := 9) (v := .pointer (some ⟨cg, f.pc.toNat * 5, none⟩)) rfl (by kernel_rfl) (by kernel_rfl) (by kernel_rfl) (fun _ _ _ h => h) (Or.inl ⟨by rfl, ?_⟩) hHeld ?_
        · intro w hSw
          obtain ⟨q0, q1, q2, q3, q4, q5, q6, q7, q8⟩ := hSw
          simp only [List.getElem_toArray, List.getElem_cons_zero, List.getElem_cons_succ]
          go_simp
        simp only [Act.put, List.getElem_toArray, List.getElem_cons_zero, List.getElem_cons_succ, List.setIfInBounds_toArray, List.set_cons_zero, List.set_cons_succ]
        refine wpAnyH_take (i := 10) (v := .agg (List.toArray [.int .i64 (insOf p f).op, .int .i64 (insOf p f).dst, .int .i64 (insOf p f).a, .int .i64 (insOf p f).b, .int .i64 (insOf p f).imm])) rfl (by kernel_rfl) (by kernel_rfl) (by kernel_rfl) (fun _ _ _ h => h) (Or.inl ⟨by rfl, ?_⟩) hHeld ?_
        · intro w hSw
          obtain ⟨q0, q1, q2, q3, q4, q5, q6, q7, q8⟩ := hSw
          simp only [List.getElem_toArray, List.getElem_cons_zero, List.getElem_cons_succ]
          go_simp
        simp only [Act.put, List.getElem_toArray, List.getElem_cons_zero, List.getElem_cons_succ, List.setIfInBounds_toArray, List.set_cons_zero, List.set_cons_succ]
        refine wpAnyH_ready (rs := [11]) (by kernel_rfl) (by simp) ?_
        refine AllReadyH.cons rfl (fun K hK => ?_) AllReadyH.nil
        simp only [List.getElem_toArray, List.getElem_cons_zero, List.getElem_cons_succ]
        go_simp
        refine hK.out _ _ (KS.out _ ((Below.refl _ _).drew.alloc (Nat.le_refl _) _)) (fun hHeld => ?_)
        clear hK K
        refine wpAnyH_ready (rs := [12]) (by kernel_rfl) (by simp) ?_
        refine AllReadyH.cons rfl (fun K hK => ?_) AllReadyH.nil
        simp only [List.getElem_toArray, List.getElem_cons_zero, List.getElem_cons_succ]
        rw [if_pos (by rfl)]
        refine wp_store_mid 62 _ _ (by rfl) w7.heap.size 0 (List.toArray [.int .i64 (insOf p f).op, .int .i64 (insOf p f).dst, .int .i64 (insOf p f).a, .int .i64 (insOf p f).b, .int .i64 (insOf p f).imm]) (by rfl) (by rfl) (there_new w7.drew [.int .i64 0, .int .i64 0, .int .i64 0, .int .i64 0, .int .i64 0] _ (Nat.le_refl _)) (by kernel_rfl) (all_oneCell_toArray (by simp [Value.oneCell'])) ?_
        obtain ⟨w8, hw8⟩ : ∃ w8, (w7.drew.alloc (.cells (List.toArray [.int .i64 0, .int .i64 0, .int .i64 0, .int .i64 0, .int .i64 0]) 62)).setCells w7.heap.size 0 (List.toArray [.int .i64 (insOf p f).op, .int .i64 (insOf p f).dst, .int .i64 (insOf p f).a, .int .i64 (insOf p f).b, .int .i64 (insOf p f).imm]).toList = w8 := ⟨_, rfl⟩
        have HBX : Hid (Below w7.heap.size w7 w8) := Lib.hid (hw8 ▸ below_setCells (Nat.le_refl _) _ _ _ ((Below.refl _ _).drew.alloc (Nat.le_refl _) _))
        have HX8 := Lib.hid (HX7.out.keeps HBX.out)
        have HTX := Lib.hid ((HBX.out.block _ (block_lt HTB.out)).trans HTB.out)
        have HXB : Hid (w8.heap[w7.heap.size]? = some (.cells (List.toArray [.int .i64 (insOf p f).op, .int .i64 (insOf p f).dst, .int .i64 (insOf p f).a, .int .i64 (insOf p f).b, .int .i64 (insOf p f).imm]) 62 (0, 0))) := Lib.hid (hw8 ▸ block_full (heap_alloc_new w7.drew _) _ rfl)
        refine hK.out _ _ (by have := KS.out w8 HBX.out; rw [← hw8] at this; exact this) (fun hHeld => ?_)
        clear hK K hHeld KS
        refine wpAnyH_done (by kernel_rfl) ?_ _
        have hwq : (w7.alloc (.cells (List.toArray [.int .i64 0, .int .i64 0, .int .i64 0, .int .i64 0, .int .i64 0]) 62)).drew.setCells w7.heap.size 0 [.int .i64 (insOf p f).op, .int .i64 (insOf p f).dst, .int .i64 (insOf p f).a, .int .i64 (insOf p f).b, .int .i64 (insOf p f).imm] = w8 := hw8
        rw [hwq]
        clear hwq hw8
        have z0 := HX8.out.lt (.tail _ (.head _))
        have z1 := HX8.out.lt (.head _)
        have z2 := block_lt HTX.out
        have z3 := block_lt HXB.out
        have z4 := HX8.out.below.size
        have t0 := (cell_block HXB.out 0).trans rfl
        have t1 := (cell_block HXB.out 1).trans rfl
        have t2 := (cell_block HXB.out 2).trans rfl
        have t3 := (cell_block HXB.out 3).trans rfl
        have t4 := (cell_block HXB.out 4).trans rfl
        have l2 := (HX8.out.cell (.tail _ (.head _)) 2).trans HCF2.out
        have v1 := (HX8.out.cell (.head _) 1).trans HD1.out
        have v2 := (HX8.out.cell (.head _) 2).trans HD2.out
        have HTX0 := HTX
        have hx := HXX.out
        clear HXX
        obtain ⟨h19, gs, u, hfs, hfr⟩ := hx
        rw [h19] at t0
        have hsf := HFS.out
        rw [hfs] at hsf
        have HCL := HI1.out.calls gs [] u f (by rw [hsf]; simp)
        have huo : FrOk p u := HI1.out.fr u (by rw [hsf]; simp)
        have hkg : kf = gs.length + 1 := by have := HKF.out; rw [hfs] at this; simpa using this.symm
        obtain ⟨kg, hkg'⟩ : ∃ kg, gs.length = kg := ⟨_, rfl⟩
        rw [hkg'] at hkg
        have hup : s1.frames[kg]? = some u := by rw [hsf, ← hkg']; simp
        have hlast : s2.frames[kg]? = some (retFr p u (f.reg (insOf p f).a)) := by rw [hfr, ← hkg']; simp
        have hl2 : s2.frames.length = kg + 1 := by rw [hfr, ← hkg']; simp
        have hnr : (retFr p u (f.reg (insOf p f).a)).regs.length = 12 := by simp [retFr, Fr.at, put_len, huo.regs]
        obtain ⟨FA, fu, EA, ea, AA, aa, hA⟩ := HX8.out.cin (.tail _ (.head _)) HI1.out
        have hgr : (u).regs.length = 12 := huo.regs
        obtain ⟨gu, hFA, gzu, rF⟩ := fr_range hA hup hgr
        obtain ⟨nu, hnu⟩ : ∃ nf, s1.frames.length = nf := ⟨_, rfl⟩
        have c2 := hA.c2
        rw [hnu, hFA] at c2
        have HSu := Lib.hid c2
        have HLu : Hid ((frCell (u)).length = 14) := Lib.hid (frCell_length hgr)
        have HIu : Hid ((Tryd.prog.info? 60).map (·.size) = some (frCell (u)).length) := Lib.hid (by rw [HLu.out]; exact info_fr)
        have HOu : Hid ((frCell (u)).toArray.all (·.oneCell') = true) := Lib.hid (all_oneCell_toArray (fun v hv => frCells_cell (l := [u]) v (by rw [frCells_one]; exact hv)))
        have HZu : Hid ((frCell (u))[0]? = some (.int .i64 (u).fn)) := Lib.hid rfl
        have HPu : Hid ((frCell (u))[1]? = some (.int .i64 (u).pc)) := Lib.hid rfl
        have HGu := Lib.hid (fun (r : Int) (h0 : 0 ≤ r) (h1 : r < 12) => frCell_reg hgr h0 h1)
        obtain ⟨Fu, hF'⟩ : ∃ F, frCell (u) = F := ⟨_, rfl⟩
        rw [hF'] at HLu HIu HOu HZu HPu HGu rF
        have HRu := Lib.hid (fun (W : World) (hb : Below w8.heap.size w8 W) => range_below rF gzu hb)
        clear hF' hA rF c2 hFA hgr
        obtain ⟨FA, ft, EA, ea, AA, aa, hA⟩ := HX8.out.cin (.head _) HI2.out
        have hgr : (retFr p u (f.reg (insOf p f).a)).regs.length = 12 := hnr
        obtain ⟨gt, hFA, gzt, rF⟩ := fr_range hA hlast hgr
        obtain ⟨nt, hnt⟩ : ∃ nf, s2.frames.length = nf := ⟨_, rfl⟩
        have c2 := hA.c2
        rw [hnt, hFA] at c2
        have HSt := Lib.hid c2
        have HLt : Hid ((frCell (retFr p u (f.reg (insOf p f).a))).length = 14) := Lib.hid (frCell_length hgr)
        have HIt : Hid ((Tryd.prog.info? 60).map (·.size) = some (frCell (retFr p u (f.reg (insOf p f).a))).length) := Lib.hid (by rw [HLt.out]; exact info_fr)
        have HOt : Hid ((frCell (retFr p u (f.reg (insOf p f).a))).toArray.all (·.oneCell') = true) := Lib.hid (all_oneCell_toArray (fun v hv => frCells_cell (l := [retFr p u (f.reg (insOf p f).a)]) v (by rw [frCells_one]; exact hv)))
        have HZt : Hid ((frCell (retFr p u (f.reg (insOf p f).a)))[0]? = some (.int .i64 (retFr p u (f.reg (insOf p f).a)).fn)) := Lib.hid rfl
        have HPt : Hid ((frCell (retFr p u (f.reg (insOf p f).a)))[1]? = some (.int .i64 (retFr p u (f.reg (insOf p f).a)).pc)) := Lib.hid rfl
        have HGt := Lib.hid (fun (r : Int) (h0 : 0 ≤ r) (h1 : r < 12) => frCell_reg hgr h0 h1)
        obtain ⟨Ft, hF'⟩ : ∃ F, frCell (retFr p u (f.reg (insOf p f).a)) = F := ⟨_, rfl⟩
        rw [hF'] at HLt HIt HOt HZt HPt HGt rF
        have HRt := Lib.hid (fun (W : World) (hb : Below w8.heap.size w8 W) => range_below rF gzt hb)
        clear hF' hA rF c2 hFA hgr
        obtain ⟨pu, PU, CU, cucap, cu, MU, hpvu, hpu, hufn, -, du2, hCU, hcu, hMU, hupc, -, du1, -, -, -⟩ := ins_at HP.out huo
        simp only [Value.slice.injEq, true_and] at hpvu
        obtain rfl : pu = pg := by have h1 := hpvu.1.symm.trans HA1.out; simpa using h1
        rw [hCU] at du2
        have hOu := HRP.out.ins huo
        have hFu := HRP.out.fnok huo
        have ud0 := hOu.dst1
        have ud1 : (insOf p u).dst < 12 := by have := hOu.dst2; have := hFu.r2; omega
        have ufn0 := huo.fn0
        have upc0 := huo.pc0
        have upcw : IntKind.i64.wrap (u.pc + 1) = u.pc + 1 := by rw [IntKind.wrap_i64]; have := hFu.c2; rw [← hMU] at this; omega
        have HPt' : Hid (Ft[1]? = some (.int .i64 (u.pc + 1))) := Lib.hid HPt.out
        have HGt' : Hid (Ft[2 + (insOf p u).dst.toNat]? = some (.int .i64 (f.reg (insOf p f).a))) := Lib.hid (by
          rw [HGt.out _ ud0 ud1]
          have : ((retFr p u (f.reg (insOf p f).a)).reg (insOf p u).dst) = f.reg (insOf p f).a := by
            unfold retFr Fr.at Fr.put Fr.reg
            simp only
            rw [List.getD_eq_getElem?_getD, List.getElem?_set_self (by rw [huo.regs]; omega)]
            rfl
          rw [this])
        have hnf1 : nf = kg + 2 := by have := HN.out; have := HNL.out; omega
        have hq1 : ((nf : Int) == 1) = false := by simp; omega
        have hwn2 : IntKind.i64.wrap ((nf : Int) - 2) = (kg : Int) := by rw [IntKind.wrap_i64]; omega
        have hnt2 : nt = kg + 1 := by omega
        have hwt : IntKind.i64.wrap ((nt : Int) - 1) = (kg : Int) := by rw [IntKind.wrap_i64]; omega
        have hntk : nt = kf := by omega
        subst hntk
        have hg0 : (0 : Int) ≤ kg := by omega
        have hg1 : (kg : Int) < nf := by omega
        have hg2 : (kg : Int) < nt := by omega
        have v2t := (HX8.out.cell (.head _) 2).trans HSt.out
        have l2u := (HX8.out.cell (.tail _ (.head _)) 2).trans HSu.out
        have hnun : nu = nf := by have := HN.out; omega
        rw [hnun] at l2u
        clear hfr hsf hup hlast hl2 hnr HCL v2 l2 hfs hpvu hCU hOu hFu huo hMU
        go_wp2_with (first | (refine wpList_load_mid (by rfl) 60 _ (by rfl) gu (kg * 14) (by rfl) Fu _ (HRu.out _ (Below.refl _ _)) Tryd.underlying60 (by rfl) HIu.out ?_) | (refine wpList_store_mid (by rfl) 60 _ _ (by rfl) w8.heap.size 0 Fu.toArray (by rfl) (by rfl) (there_new w8 [.int .i64 0, .int .i64 0, .int .i64 0, .int .i64 0, .int .i64 0, .int .i64 0, .int .i64 0, .int .i64 0, .int .i64 0, .int .i64 0, .int .i64 0, .int .i64 0, .int .i64 0, .int .i64 0] _ (by simp [HLu.out])) (by simpa using HIu.out) HOu.out ?_; obtain ⟨w9, hw9⟩ : ∃ w9, (w8.alloc (.cells (List.toArray [.int .i64 0, .int .i64 0, .int .i64 0, .int .i64 0, .int .i64 0, .int .i64 0, .int .i64 0, .int .i64 0, .int .i64 0, .int .i64 0, .int .i64 0, .int .i64 0, .int .i64 0, .int .i64 0]) 60)).setCells w8.heap.size 0 Fu.toArray.toList = w9 := ⟨_, rfl⟩; rw [hw9]; have HBw9 : Hid (Below w8.heap.size w8 w9) := Lib.hid (hw9 ▸ below_setCells (Nat.le_refl _) _ _ _ ((Below.refl _ _).alloc (Nat.le_refl _) _)); have HX9 := Lib.hid (HX8.out.keeps HBw9.out); have HTu : Hid (w9.heap[w8.heap.size]? = some (.cells Fu.toArray 60 (0, 0))) := Lib.hid (hw9 ▸ block_full (heap_alloc_new _ _) _ (by simp [HLu.out])); clear hw9; have v9 := (HX9.out.cell (.head _) 2).trans HSt.out; have l9 := (HX9.out.cell (.tail _ (.head _)) 2).trans HSu.out; rw [hnun] at l9; clear v2t l2u) | (refine wpList_load_mid (by rfl) 60 _ (by rfl) gt (kg * 14) (by rfl) Ft _ (HRt.out _ HBw9.out) Tryd.underlying60 (by rfl) HIt.out ?_) | (refine wpList_store_mid (by rfl) 60 _ _ (by rfl) w9.heap.size 0 Ft.toArray (by rfl) (by rfl) (there_new w9 [.int .i64 0, .int .i64 0, .int .i64 0, .int .i64 0, .int .i64 0, .int .i64 0, .int .i64 0, .int .i64 0, .int .i64 0, .int .i64 0, .int .i64 0, .int .i64 0, .int .i64 0, .int .i64 0] _ (by simp [HLt.out])) (by simpa using HIt.out) HOt.out ?_; obtain ⟨w10, hw10⟩ : ∃ w10, (w9.alloc (.cells (List.toArray [.int .i64 0, .int .i64 0, .int .i64 0, .int .i64 0, .int .i64 0, .int .i64 0, .int .i64 0, .int .i64 0, .int .i64 0, .int .i64 0, .int .i64 0, .int .i64 0, .int .i64 0, .int .i64 0]) 60)).setCells w9.heap.size 0 Ft.toArray.toList = w10 := ⟨_, rfl⟩; rw [hw10]; have HBw10 : Hid (Below w9.heap.size w9 w10) := Lib.hid (hw10 ▸ below_setCells (Nat.le_refl _) _ _ _ ((Below.refl _ _).alloc (Nat.le_refl _) _)); have HX10 := Lib.hid (HX9.out.keeps HBw10.out); have HTt : Hid (w10.heap[w9.heap.size]? = some (.cells Ft.toArray 60 (0, 0))) := Lib.hid (hw10 ▸ block_full (heap_alloc_new _ _) _ (by simp [HLt.out])); clear hw10; clear v9 l9))
        have HB810 := Lib.hid (HBw9.out.trans (HBw10.out.mono HBw9.out.size))
        have ra := HFG.out _ xa0 xa1
        have HTu10 := Lib.hid ((HBw10.out.block _ (block_lt HTu.out)).trans HTu.out)
        have e0 := (HX10.out.cell (.head _) 2).trans HSt.out
        have e1 := (HX10.out.cell (.tail _ (.head _)) 2).trans HCF2.out
        have e2 := (cell_block HTt.out 1).trans (List.getElem?_toArray.trans HPt'.out)
        have e3 := (cell_block HTu10.out 1).trans (List.getElem?_toArray.trans HPu.out)
        have e4 := (cell_block HTu10.out 0).trans (List.getElem?_toArray.trans HZu.out)
        have e5 := HX10.out.pcell
        rw [HA1.out] at e5
        have e6 := (HX10.out.below.cell (p := ⟨pu, _, none⟩) hpg).trans du2
        have e7 := (HX10.out.below.cell (p := ⟨cu, _, none⟩) hcu).trans du1
        have e8 := (cell_block HTt.out (2 + (insOf p u).dst.toNat)).trans (List.getElem?_toArray.trans HGt'.out)
        have e9 := (HB810.out.cell (p := ⟨w7.heap.size, 2, none⟩) z3).trans t2
        have e10 := (HB810.out.cell (p := ⟨w6.heap.size, 2 + (insOf p f).a.toNat, none⟩) z2).trans ((cell_block HTX.out _).trans (List.getElem?_toArray.trans ra))
        clear t1 t2 t3 t4 v1 hnf1 hnt2 hnl
        go_quiet (fail)
        go_wp2_with fail
        go_ret
        exact ⟨rfl, HBW.out.trans ((HX10.out.drewN _).below.mono HBW.out.size)⟩
end Go.Proofs.YtnbopmlemddakaaDoor
