/-
  The walk of StepPure: it returns true.
-/
import Derived.Test.YtnbopmlemddakaaDoorTp
namespace Go.Proofs.YtnbopmlemddakaaDoor
open Go.RowKit Tier
theorem put_reg {f : Fr} (h : f.regs.length = 12) {d r : Int} (d0 : 0 ≤ d) (d1 : d < 12) (r0 : 0 ≤ r) (v pc : Int) : ((f.put d v).at pc).reg r = if r = d then v else f.reg r := by
  unfold Fr.at Fr.put Fr.reg
  simp only [List.getD_eq_getElem?_getD]
  by_cases hr : r = d
  · subst hr; rw [if_pos rfl, List.getElem?_set_self (by omega)]; rfl
  · rw [if_neg hr, List.getElem?_set_ne (by omega)]
set_option maxRecDepth 100000 in
set_option maxHeartbeats 8000000 in
theorem stepPure_walk (A : Option Addr) (l : List Fnc) (cap : Nat) (a0 a1 : Int) (YA : Option Addr) (ans : List Int) (ycap : Nat) (fuel : Int) (n : Int) (w : World) (ht : Tab w) (hraw : RawsAt w A l) (hln : (l.length : Int) ≤ 9223372036854775807) (hin : InOk w a0 a1 YA ans ycap fuel) (hn : In n) :
    Calls Tryd.prog 16 #[.slice A l.length cap, .agg #[.int .i64 a0, .int .i64 a1, .slice YA ans.length ycap, .int .i64 fuel], .int .i64 n] w fun e w' => e = .returned (.bool true) ∧ Below w.heap.size w w' := by
  have HT := Lib.hid ht
  have HR := Lib.hid hraw
  have HIN := Lib.hid hin
  have hright := mkP_right l
  clear ht hraw hin
  have pn := picked_in n 250 (by omega)
  have HKN := Lib.hid (fun (W : World) => picked_any n 250 W hn (by omega) (by omega))
  obtain ⟨u, hu⟩ : ∃ u : Nat, pickedI n 250 = u := ⟨(pickedI n 250).toNat, by omega⟩
  rw [hu] at pn HKN
  go_enter Tryd.func16, Tryd.ntmps16
  go_wp2_with fail
  obtain ⟨wi, hwi⟩ : ∃ wi, w.alloc (.cells #[.int .i64 a0, .int .i64 a1, .slice YA ans.length ycap, .int .i64 fuel] 46) = wi := ⟨_, rfl⟩
  have HBI : Hid (Below w.heap.size w wi) := Lib.hid (hwi ▸ (Below.refl _ w).alloc (Nat.le_refl _) _)
  have HIB : Hid (wi.heap[w.heap.size]? = some (.cells #[.int .i64 a0, .int .i64 a1, .slice YA ans.length ycap, .int .i64 fuel] 46 (0, 0))) := Lib.hid (hwi ▸ heap_alloc_new w _)
  rw [hwi]
  refine (program_any A cap l _ (HT.out.keeps HBI.out) hln (HR.out.keeps HBI.out)).mono ?_
  rintro e w1 ⟨⟨A1, cap1, vs, rfl, hpv⟩, hb1⟩
  have HP := Lib.hid hpv.at
  have HBW := Lib.hid (HBI.out.trans (hb1.mono HBI.out.size))
  have HT1 := Lib.hid (HT.out.keeps HBW.out)
  have hib := (hb1.block _ (block_lt HIB.out)).trans HIB.out
  have i0 := (cell_block hib 0).trans rfl
  have i1 := (cell_block hib 1).trans rfl
  have i2 := (cell_block hib 2).trans rfl
  have i3 := (cell_block hib 3).trans rfl
  have zi := block_lt hib
  clear hpv hb1 hwi HBI HIB hib vs
  generalize mkP l = p at *
  have hp := right_of hright
  have HG := Lib.hid (hright)
  have HRP := Lib.hid hp
  have HBG := Lib.hid (fun (W : World) (hb : Below w1.heap.size w1 W) => kbegin_any hright a0 a1 fuel ans YA ycap A1 cap1 W (HT1.out.keeps hb) (HP.out.keeps hb) ((HIN.out.row.keeps HBW.out).keeps hb) HIN.out.len HIN.out.cap HIN.out.fuel)
  have hi0 := inSt_inv hp a0 a1 ans fuel
  obtain ⟨s0, hs0⟩ : ∃ s0, inSt p a0 a1 ans fuel = s0 := ⟨_, rfl⟩
  rw [hs0] at HBG hi0
  obtain ⟨s1, hs1⟩ : ∃ s1, walkSt p u s0 = s1 := ⟨_, rfl⟩
  obtain ⟨s2, hs2⟩ : ∃ s2, nextSt p s1 = s2 := ⟨_, rfl⟩
  have HI0 := Lib.hid hi0
  have HI1 : Hid (StInv p s1) := Lib.hid (hs1 ▸ hi0.walk hp u)
  have HI2 : Hid (StInv p s2) := Lib.hid (hs2 ▸ HI1.out.next hp)
  have HWA := Lib.hid (fun (C : List Value) (W : World) (hb : Below w1.heap.size w1 W) (hC : CellsSt C W w1.heap.size s0) => swalk_c hright u (by omega) (HT1.out.keeps hb) (HP.out.keeps hb) HI0.out hC)
  have HNX := Lib.hid (fun (C : List Value) (W : World) (hb : Below w1.heap.size w1 W) (hC : CellsSt C W w1.heap.size s1) => snext_c hright (HT1.out.keeps hb) (HP.out.keeps hb) HI1.out hC)
  have HS2 := Lib.hid hs2
  have HS1 := Lib.hid hs1
  rw [hs1] at HWA
  rw [hs2] at HNX
  clear hs0 hs1 hs2 hi0 hp hu hn
  clear hright
  go_wp2_with fail
  refine (HBG.out _ ((Below.refl _ w1).alloc (Nat.le_refl _) _)).mono ?_
  rintro e w2 ⟨⟨C0, rfl, hC0⟩, hb2⟩
  have HX2 : Hid (Sx w1 w1.heap.size (.slice A1 p.length cap1) w2 []) := Lib.hid ((Sx.mk ((Below.refl _ w1).alloc (Nat.le_refl _) _) (heap_alloc_new w1 _) (fun x hx => by simp at hx)).keeps hb2)
  have HC0 := Lib.hid (hC0.base (by simp : w1.heap.size ≤ _))
  have HJ0 := Lib.hid (info_st (HC0.out.len HI0.out.mem))
  have hz := zero_st
  clear hC0 hb2 HBG i0 i1 i2 i3 zi
  go_wp2_with (refine wpList_store_mid (by rfl) 50 _ _ (by rfl) w2.heap.size 0 C0.toArray (by rfl) (by rfl) (there_new w2 zeroV _ (by simp [HC0.out.len HI0.out.mem, zeroV_length])) (by simpa using HJ0.out) HC0.out.one ?_; obtain ⟨w3, hw3⟩ : ∃ w3, (w2.alloc (.cells zeroV.toArray 50)).setCells w2.heap.size 0 C0.toArray.toList = w3 := ⟨_, rfl⟩; rw [hw3]; have HX3 : Hid (Sx w1 w1.heap.size (.slice A1 p.length cap1) w3 [(w2.heap.size, C0, s0)]) := Lib.hid (hw3 ▸ HX2.out.add HC0.out HI0.out.mem); have pc3 := HX3.out.pcell; clear hw3)
  have HLC0 := Lib.hid (HC0.out.len HI0.out.mem)
  have HBGC0 := Lib.hid HX2.out.below.size
  apply region_cut1 (α := List Value) (R := fun (C' : List Value) w' => Sx w1 w1.heap.size (.slice A1 p.length cap1) w' ((w2.heap.size, C', s1) :: []))
  case h1 =>
    refine wp_region_held_drew (S := fun w' => w'.cell? ⟨w1.heap.size, 0, none⟩ = some (.slice A1 p.length cap1)) (by kernel_rfl) HX3.out.drew.pcell (fun hHeld => ?_)
    refine wpAnyH_take (i := 0) (v := .agg #[(.slice A1 p.length cap1)]) rfl (by kernel_rfl) (by kernel_rfl) (by kernel_rfl) (fun _ _ _ h => h) (Or.inl ⟨by rfl, ?_⟩) hHeld ?_
    · intro w hSw
      have q0 := hSw
      simp only [List.getElem_toArray, List.getElem_cons_zero]
      go_simp
    simp only [Act.put, List.getElem_toArray, List.getElem_cons_zero, List.setIfInBounds_toArray, List.set_cons_zero, List.set_cons_succ]
    refine wpAnyH_take (i := 2) (v := .int .i64 n) rfl (by kernel_rfl) (by kernel_rfl) (by kernel_rfl) (fun _ _ _ h => h) (Or.inl ⟨by rfl, ?_⟩) hHeld ?_
    · intro w hSw
      simp only [List.getElem_toArray, List.getElem_cons_zero, List.getElem_cons_succ]
      go_simp
    simp only [Act.put, List.getElem_toArray, List.getElem_cons_zero, List.getElem_cons_succ, List.setIfInBounds_toArray, List.set_cons_zero, List.set_cons_succ]
    refine wpAnyH_ready (rs := [1, 3]) (by kernel_rfl) (by simp) ?_
    refine AllReadyH.cons rfl (fun K hK => ?_) (AllReadyH.cons rfl (fun K hK => ?_) AllReadyH.nil)
    · simp only [List.getElem_toArray, List.getElem_cons_zero, List.getElem_cons_succ]
      rw [if_pos (by rfl)]
      refine wp_load_mid 50 _ (by rfl) w2.heap.size 0 (by rfl) C0 _ (HX3.out.drew.range (.head _)) Tryd.underlying50 (by rfl) HJ0.out ?_
      refine hK.out _ _ hHeld (fun hHeld => ?_)
      clear hK K
      simp only [Act.put, List.setIfInBounds_toArray, List.set_cons_zero, List.set_cons_succ]
      refine wpAnyH_ready (rs := [3]) (by kernel_rfl) (by simp) ?_
      refine AllReadyH.cons rfl (fun K hK => ?_) AllReadyH.nil
      simp only [List.getElem_toArray, List.getElem_cons_zero, List.getElem_cons_succ]
      go_simp
      refine (HKN.out _).mono ?_
      rintro e w' ⟨rfl, rfl⟩
      refine hK.out _ _ hHeld (fun hHeld => ?_)
      clear hK K
      refine wpAnyH_ready (rs := [4]) (by kernel_rfl) (by simp) ?_
      refine AllReadyH.cons rfl (fun K hK => ?_) AllReadyH.nil
      simp only [List.getElem_toArray, List.getElem_cons_zero, List.getElem_cons_succ]
      go_simp
      refine (HWA.out C0 _ HX3.out.drew.below (HX3.out.drew.sts _ (.head _)).2).mono ?_
      rintro e wa ⟨⟨C1, rfl, hC⟩, hb⟩
      have HXA := Lib.hid (HX3.out.drew.keeps hb)
      have HC1 := Lib.hid (hC.base HX3.out.below.size)
      have HJ1 := Lib.hid (info_st (HC1.out.len HI1.out.mem))
      refine hK.out _ _ HXA.out.pcell (fun hHeld => ?_)
      clear hK K hC hb
      refine wpAnyH_take (i := 5) (v := .tuple #[.agg C1.toArray, .int .i64 0]) rfl (by kernel_rfl) (by kernel_rfl) (by kernel_rfl) (fun _ _ _ h => h) (Or.inl ⟨by rfl, ?_⟩) hHeld ?_
      · intro w hSw
        simp only [List.getElem_toArray, List.getElem_cons_zero, List.getElem_cons_succ]
        go_simp
      simp only [Act.put, List.getElem_toArray, List.getElem_cons_zero, List.getElem_cons_succ, List.setIfInBounds_toArray, List.set_cons_zero, List.set_cons_succ]
      refine wpAnyH_take (i := 6) (v := .agg C1.toArray) rfl (by kernel_rfl) (by kernel_rfl) (by kernel_rfl) (fun _ _ _ h => h) (Or.inl ⟨by rfl, ?_⟩) hHeld ?_
      · intro w hSw
        simp only [List.getElem_toArray, List.getElem_cons_zero, List.getElem_cons_succ]
        go_simp
      simp only [Act.put, List.getElem_toArray, List.getElem_cons_zero, List.getElem_cons_succ, List.setIfInBounds_toArray, List.set_cons_zero, List.set_cons_succ]
      refine wpAnyH_take (i := 7) (v := .int .i64 0) rfl (by kernel_rfl) (by kernel_rfl) (by kernel_rfl) (fun _ _ _ h => h) (Or.inl ⟨by rfl, ?_⟩) hHeld ?_
      · intro w hSw
        simp only [List.getElem_toArray, List.getElem_cons_zero, List.getElem_cons_succ]
        go_simp
      simp only [Act.put, List.getElem_toArray, List.getElem_cons_zero, List.getElem_cons_succ, List.setIfInBounds_toArray, List.set_cons_zero, List.set_cons_succ]
      refine wpAnyH_ready (rs := [8]) (by kernel_rfl) (by simp) ?_
      refine AllReadyH.cons rfl (fun K hK => ?_) AllReadyH.nil
      simp only [List.getElem_toArray, List.getElem_cons_zero, List.getElem_cons_succ]
      rw [if_pos (by rfl)]
      refine wp_store_mid 50 _ _ (by rfl) w2.heap.size 0 C1.toArray (by rfl) (by rfl) (HXA.out.there (.head _) (by simp [HC1.out.len HI1.out.mem, HLC0.out])) (by simpa using HJ1.out) HC1.out.one ?_
      obtain ⟨wb, hwb⟩ : ∃ wb, wa.setCells w2.heap.size 0 C1.toArray.toList = wb := ⟨_, rfl⟩
      rw [hwb]
      have HXB : Hid (Sx w1 w1.heap.size (.slice A1 p.length cap1) wb ((w2.heap.size, C1, s1) :: [])) := Lib.hid (hwb ▸ HXA.out.put (HXA.out.sts _ (.head _)).1 HLC0.out HBGC0.out HC1.out (HC1.out.len HI1.out.mem) (fun x hx => by simp at hx))
      refine hK.out _ _ HXB.out.pcell (fun hHeld => ?_)
      clear hK K hwb
      refine wpAnyH_ready (rs := [9]) (by kernel_rfl) (by simp) ?_
      refine AllReadyH.cons rfl (fun K hK => ?_) AllReadyH.nil
      simp only [List.getElem_toArray, List.getElem_cons_zero, List.getElem_cons_succ]
      go_simp
      refine hK.out _ _ hHeld (fun hHeld => ?_)
      clear hK K hHeld
      refine wpAnyH_done (by kernel_rfl) ?_ _
      exact ⟨C1, rfl, HXB.out⟩
    · simp only [List.getElem_toArray, List.getElem_cons_zero, List.getElem_cons_succ]
      go_simp
      refine (HKN.out _).mono ?_
      rintro e w' ⟨rfl, rfl⟩
      refine hK.out _ _ hHeld (fun hHeld => ?_)
      clear hK K
      refine wpAnyH_ready (rs := [1]) (by kernel_rfl) (by simp) ?_
      refine AllReadyH.cons rfl (fun K hK => ?_) AllReadyH.nil
      simp only [List.getElem_toArray, List.getElem_cons_zero, List.getElem_cons_succ]
      rw [if_pos (by rfl)]
      refine wp_load_mid 50 _ (by rfl) w2.heap.size 0 (by rfl) C0 _ (HX3.out.drew.range (.head _)) Tryd.underlying50 (by rfl) HJ0.out ?_
      refine hK.out _ _ hHeld (fun hHeld => ?_)
      clear hK K
      simp only [Act.put, List.setIfInBounds_toArray, List.set_cons_zero, List.set_cons_succ]
      refine wpAnyH_ready (rs := [4]) (by kernel_rfl) (by simp) ?_
      refine AllReadyH.cons rfl (fun K hK => ?_) AllReadyH.nil
      simp only [List.getElem_toArray, List.getElem_cons_zero, List.getElem_cons_succ]
      go_simp
      refine (HWA.out C0 _ HX3.out.drew.below (HX3.out.drew.sts _ (.head _)).2).mono ?_
      rintro e wa ⟨⟨C1, rfl, hC⟩, hb⟩
      have HXA := Lib.hid (HX3.out.drew.keeps hb)
      have HC1 := Lib.hid (hC.base HX3.out.below.size)
      have HJ1 := Lib.hid (info_st (HC1.out.len HI1.out.mem))
      refine hK.out _ _ HXA.out.pcell (fun hHeld => ?_)
      clear hK K hC hb
      refine wpAnyH_take (i := 5) (v := .tuple #[.agg C1.toArray, .int .i64 0]) rfl (by kernel_rfl) (by kernel_rfl) (by kernel_rfl) (fun _ _ _ h => h) (Or.inl ⟨by rfl, ?_⟩) hHeld ?_
      · intro w hSw
        simp only [List.getElem_toArray, List.getElem_cons_zero, List.getElem_cons_succ]
        go_simp
      simp only [Act.put, List.getElem_toArray, List.getElem_cons_zero, List.getElem_cons_succ, List.setIfInBounds_toArray, List.set_cons_zero, List.set_cons_succ]
      refine wpAnyH_take (i := 6) (v := .agg C1.toArray) rfl (by kernel_rfl) (by kernel_rfl) (by kernel_rfl) (fun _ _ _ h => h) (Or.inl ⟨by rfl, ?_⟩) hHeld ?_
      · intro w hSw
        simp only [List.getElem_toArray, List.getElem_cons_zero, List.getElem_cons_succ]
        go_simp
      simp only [Act.put, List.getElem_toArray, List.getElem_cons_zero, List.getElem_cons_succ, List.setIfInBounds_toArray, List.set_cons_zero, List.set_cons_succ]
      refine wpAnyH_take (i := 7) (v := .int .i64 0) rfl (by kernel_rfl) (by kernel_rfl) (by kernel_rfl) (fun _ _ _ h => h) (Or.inl ⟨by rfl, ?_⟩) hHeld ?_
      · intro w hSw
        simp only [List.getElem_toArray, List.getElem_cons_zero, List.getElem_cons_succ]
        go_simp
      simp only [Act.put, List.getElem_toArray, List.getElem_cons_zero, List.getElem_cons_succ, List.setIfInBounds_toArray, List.set_cons_zero, List.set_cons_succ]
      refine wpAnyH_ready (rs := [8]) (by kernel_rfl) (by simp) ?_
      refine AllReadyH.cons rfl (fun K hK => ?_) AllReadyH.nil
      simp only [List.getElem_toArray, List.getElem_cons_zero, List.getElem_cons_succ]
      rw [if_pos (by rfl)]
      refine wp_store_mid 50 _ _ (by rfl) w2.heap.size 0 C1.toArray (by rfl) (by rfl) (HXA.out.there (.head _) (by simp [HC1.out.len HI1.out.mem, HLC0.out])) (by simpa using HJ1.out) HC1.out.one ?_
      obtain ⟨wb, hwb⟩ : ∃ wb, wa.setCells w2.heap.size 0 C1.toArray.toList = wb := ⟨_, rfl⟩
      rw [hwb]
      have HXB : Hid (Sx w1 w1.heap.size (.slice A1 p.length cap1) wb ((w2.heap.size, C1, s1) :: [])) := Lib.hid (hwb ▸ HXA.out.put (HXA.out.sts _ (.head _)).1 HLC0.out HBGC0.out HC1.out (HC1.out.len HI1.out.mem) (fun x hx => by simp at hx))
      refine hK.out _ _ HXB.out.pcell (fun hHeld => ?_)
      clear hK K hwb
      refine wpAnyH_ready (rs := [9]) (by kernel_rfl) (by simp) ?_
      refine AllReadyH.cons rfl (fun K hK => ?_) AllReadyH.nil
      simp only [List.getElem_toArray, List.getElem_cons_zero, List.getElem_cons_succ]
      go_simp
      refine hK.out _ _ hHeld (fun hHeld => ?_)
      clear hK K hHeld
      refine wpAnyH_done (by kernel_rfl) ?_ _
      exact ⟨C1, rfl, HXB.out⟩
  case h2 =>
    intro C1 w4 hX
    have HX4 := Lib.hid hX
    have HC1 := Lib.hid (hX.sts _ (.head _)).2
    have HJ1 := Lib.hid (info_st (HC1.out.len HI1.out.mem))
    have pc4 := hX.pcell
    clear hX
    go_wp2_with (refine wpList_load_mid (by rfl) 50 _ (by rfl) w2.heap.size 0 (by rfl) C1 _ (HX4.out.range (.head _)) Tryd.underlying50 (by rfl) HJ1.out ?_)
    refine (HNX.out C1 _ HX4.out.below (HX4.out.sts _ (.head _)).2).mono ?_
    rintro e w5 ⟨⟨C2, rfl, hC2⟩, hb2⟩
    have HX5 := Lib.hid (HX4.out.keeps hb2)
    have HC2 := Lib.hid (hC2.base HX4.out.below.size)
    have HJ2 := Lib.hid (info_st (HC2.out.len HI2.out.mem))
    clear hC2 hb2 pc4
    have pc5 := HX5.out.pcell
    by_cases hcs : s1.status ≠ 0 ∨ s2.status ≠ 0
    · obtain ⟨FA, fa, EA, ea, AA, aa, hA⟩ := HC1.out.cin HI1.out.mem (fun f hf => (HI1.out.fr f hf).regs)
      obtain ⟨FB, fb, EB, eb, AB, ab, hB⟩ := HC2.out.cin HI2.out.mem (fun f hf => (HI2.out.fr f hf).regs)
      have c0 := hA.c0
      have d0 := hB.c0
      clear hA hB
      obtain ⟨st1, h1⟩ : ∃ x, s1.status = x := ⟨_, rfl⟩
      obtain ⟨st2, h2⟩ : ∃ x, s2.status = x := ⟨_, rfl⟩
      rw [h1] at c0 hcs
      rw [h2] at d0 hcs
      clear h1 h2
      by_cases hst : st1 = 0
      · subst hst
        have q2 : (st2 != 0) = true := by simp; omega
        clear hcs
        go_wp2_with (refine wpList_store_mid (by rfl) 50 _ _ (by rfl) w5.heap.size 0 C2.toArray (by rfl) (by rfl) (there_new w5 zeroV _ (by simp [HC2.out.len HI2.out.mem, zeroV_length])) (by simpa using HJ2.out) HC2.out.one ?_; obtain ⟨w6, hw6⟩ : ∃ w6, (w5.alloc (.cells zeroV.toArray 50)).setCells w5.heap.size 0 C2.toArray.toList = w6 := ⟨_, rfl⟩; rw [hw6]; have HX6 : Hid (Sx w1 w1.heap.size (.slice A1 p.length cap1) w6 [(w5.heap.size, C2, s2), (w2.heap.size, C1, s1)]) := Lib.hid (hw6 ▸ HX5.out.add HC2.out HI2.out.mem); have pc6 := HX6.out.pcell; have HBN : Hid (Below w5.heap.size w5 w6) := Lib.hid (hw6 ▸ below_setCells (Nat.le_refl _) _ _ _ ((Below.refl _ _).alloc (Nat.le_refl _) _)); clear hw6; have a0 := (HX6.out.cell (.tail _ (.head _)) 0).trans c0; have b0 := (HX6.out.cell (.head _) 0).trans d0)
        go_ret
        exact ⟨rfl, HBW.out.trans (HX6.out.below.mono HBW.out.size)⟩
      · have q2 : (st1 != 0) = true := by simpa using hst
        clear hcs hst
        go_wp2_with (refine wpList_store_mid (by rfl) 50 _ _ (by rfl) w5.heap.size 0 C2.toArray (by rfl) (by rfl) (there_new w5 zeroV _ (by simp [HC2.out.len HI2.out.mem, zeroV_length])) (by simpa using HJ2.out) HC2.out.one ?_; obtain ⟨w6, hw6⟩ : ∃ w6, (w5.alloc (.cells zeroV.toArray 50)).setCells w5.heap.size 0 C2.toArray.toList = w6 := ⟨_, rfl⟩; rw [hw6]; have HX6 : Hid (Sx w1 w1.heap.size (.slice A1 p.length cap1) w6 [(w5.heap.size, C2, s2), (w2.heap.size, C1, s1)]) := Lib.hid (hw6 ▸ HX5.out.add HC2.out HI2.out.mem); have pc6 := HX6.out.pcell; have HBN : Hid (Below w5.heap.size w5 w6) := Lib.hid (hw6 ▸ below_setCells (Nat.le_refl _) _ _ _ ((Below.refl _ _).alloc (Nat.le_refl _) _)); clear hw6; have a0 := (HX6.out.cell (.tail _ (.head _)) 0).trans c0; have b0 := (HX6.out.cell (.head _) 0).trans d0)
        go_ret
        exact ⟨rfl, HBW.out.trans (HX6.out.below.mono HBW.out.size)⟩
    · have hst : s1.status = 0 := by omega
      have hst2 : s2.status = 0 := by omega
      obtain ⟨fs, f, hf⟩ := HI1.out.running hst
      have HFS := Lib.hid hf
      have hfo0 : FrOk p f := HI1.out.fr f (by rw [hf]; simp)
      have hio := HRP.out.ins hfo0
      have ho1 := hio.op1
      have HNP := Lib.hid (fun h12 => nxt_pure HI1.out hf hst (by rw [HS2.out]; exact hst2) ho1 h12)
      rw [HS2.out] at HNP
      have hpw : IntKind.i64.wrap (f.pc + 1) = f.pc + 1 := by
        obtain ⟨F', m', -, h2, -, h4⟩ := hfo0.parts
        have h5 := (HRP.out.fnok hfo0).c2
        rw [h2] at h5
        have h6 := (List.getElem?_eq_some_iff.1 h4).1
        have := hfo0.pc0
        rw [IntKind.wrap_i64]; omega
      obtain ⟨FB, fb, EB, eb, AB, ab, hB⟩ := HC2.out.cin HI2.out.mem (fun f hf => (HI2.out.fr f hf).regs)
      have HD0 := Lib.hid hB.c0
      have HD2 := Lib.hid hB.c2
      obtain ⟨FA0, fa0, EA, ea, AA0, aa0, hA0⟩ := HC1.out.cin HI1.out.mem (fun f hf => (HI1.out.fr f hf).regs)
      have HCa0 := Lib.hid hA0.c0
      rw [hst] at HCa0
      rw [hst2] at HD0
      clear hB hA0 hf hfo0 hio hcs hst hst2 ho1
      obtain ⟨FA, fa, EA, ea, AA, aa, hA⟩ := HX5.out.cin (.head _) HI1.out
      have hfo : FrOk p f := HI1.out.fr f (by rw [HFS.out]; simp)
      have HFO := Lib.hid hfo
      obtain ⟨g, hFA, gz, rF⟩ := top_range hA HFS.out hfo.regs
      obtain ⟨kf, hkf⟩ : ∃ kf, fs.length = kf := ⟨_, rfl⟩
      have HKF := Lib.hid hkf
      have hnl : s1.frames.length = kf + 1 := by rw [HFS.out, ← hkf]; simp
      have HNL := Lib.hid hnl
      have hdp := HI1.out.deep
      obtain ⟨nf, hn⟩ : ∃ nf, s1.frames.length = nf := ⟨_, rfl⟩
      have HN := Lib.hid hn
      have c2 := hA.c2
      rw [hn, hFA] at c2
      have HCF2 := Lib.hid c2
      rw [hn] at hnl hdp
      rw [hkf] at rF
      have hk0 : (0 : Int) ≤ kf := by omega
      have hk1 : (kf : Int) < nf := by omega
      have hk2 : (nf : Int) ≤ 8 := by omega
      have hwn : IntKind.i64.wrap ((nf : Int) - 1) = (kf : Int) := by rw [IntKind.wrap_i64]; omega
      have hFl : (frCell f).length = 14 := frCell_length hfo.regs
      have HFL := Lib.hid hFl
      have HFI : Hid ((Tryd.prog.info? 60).map (·.size) = some (frCell f).length) := Lib.hid (by rw [hFl]; exact info_fr)
      have HFO1 : Hid ((frCell f).toArray.all (·.oneCell') = true) := Lib.hid (all_oneCell_toArray (fun v hv => frCells_cell (l := [f]) v (by rw [frCells_one]; exact hv)))
      have HF0 : Hid ((frCell f)[0]? = some (.int .i64 f.fn)) := Lib.hid rfl
      have HF1 : Hid ((frCell f)[1]? = some (.int .i64 f.pc)) := Lib.hid rfl
      have HFG := Lib.hid (fun (r : Int) (h0 : 0 ≤ r) (h1 : r < 12) => frCell_reg hfo.regs h0 h1)
      obtain ⟨pg, PC, CA, ccap, cg, M, hpv, hpg, hfn1, -, d2, rfl, hcg, hM, hpc1, d40, d41, d42, d43, d44⟩ := ins_at HP.out hfo
      simp only [Value.slice.injEq, true_and] at hpv
      obtain ⟨hA1, -⟩ := hpv
      have HA1 := Lib.hid hA1
      have hO := HRP.out.ins hfo
      have hF := HRP.out.fnok hfo
      have HO := Lib.hid hO
      have x1 := hO.op1
      have x2 := hO.op2
      have xa0 := hO.a1
      have xa1 : (insOf p f).a < 12 := by have := hO.a2; have := hF.r2; omega
      have xb0 := hO.b1
      have xb1 : (insOf p f).b < 12 := by have := hO.b2; have := hF.r2; omega
      have xd0 := hO.dst1
      have xd1 : (insOf p f).dst < 12 := by have := hO.dst2; have := hF.r2; omega
      have fn0 := hfo.fn0
      have pc0 := hfo.pc0
      have fnb : decide (f.fn < 0) = false := by simpa using fn0
      obtain ⟨F, hF'⟩ : ∃ F, frCell f = F := ⟨_, rfl⟩
      rw [hF'] at HFL HFI HFO1 HF0 HF1 HFG rF hFl
      have HFF := Lib.hid hF'
      have HRF := Lib.hid (fun (W : World) (hb : Below w5.heap.size w5 W) => range_below rF gz hb)
      clear hF' hA rF c2 hfo hFA hkf hn hA1 hO hF hM
      go_wp2_with (first | (refine wpList_store_mid (by rfl) 50 _ _ (by rfl) w5.heap.size 0 C2.toArray (by rfl) (by rfl) (there_new w5 zeroV _ (by simp [HC2.out.len HI2.out.mem, zeroV_length])) (by simpa using HJ2.out) HC2.out.one ?_; obtain ⟨w6, hw6⟩ : ∃ w6, (w5.alloc (.cells zeroV.toArray 50)).setCells w5.heap.size 0 C2.toArray.toList = w6 := ⟨_, rfl⟩; rw [hw6]; have HX6 : Hid (Sx w1 w1.heap.size (.slice A1 p.length cap1) w6 [(w5.heap.size, C2, s2), (w2.heap.size, C1, s1)]) := Lib.hid (hw6 ▸ HX5.out.add HC2.out HI2.out.mem); have pc6 := HX6.out.pcell; have HBN : Hid (Below w5.heap.size w5 w6) := Lib.hid (hw6 ▸ below_setCells (Nat.le_refl _) _ _ _ ((Below.refl _ _).alloc (Nat.le_refl _) _)); clear hw6; have a0 := (HX6.out.cell (.tail _ (.head _)) 0).trans HCa0.out; have a2 := (HX6.out.cell (.tail _ (.head _)) 2).trans HCF2.out; have b0 := (HX6.out.cell (.head _) 0).trans HD0.out; have rF := HRF.out _ HBN.out) | (refine wpList_load_mid (by rfl) 60 _ (by rfl) g (kf * 14) (by rfl) F _ rF Tryd.underlying60 (by rfl) HFI.out ?_) | (refine wpList_store_mid (by rfl) 60 _ _ (by rfl) w6.heap.size 0 F.toArray (by rfl) (by rfl) (there_new w6 [.int .i64 0, .int .i64 0, .int .i64 0, .int .i64 0, .int .i64 0, .int .i64 0, .int .i64 0, .int .i64 0, .int .i64 0, .int .i64 0, .int .i64 0, .int .i64 0, .int .i64 0, .int .i64 0] _ (by simp [HFL.out])) (by simpa using HFI.out) HFO1.out ?_; obtain ⟨w7, hw7⟩ : ∃ w7, (w6.alloc (.cells (List.toArray [.int .i64 0, .int .i64 0, .int .i64 0, .int .i64 0, .int .i64 0, .int .i64 0, .int .i64 0, .int .i64 0, .int .i64 0, .int .i64 0, .int .i64 0, .int .i64 0, .int .i64 0, .int .i64 0]) 60)).setCells w6.heap.size 0 F.toArray.toList = w7 := ⟨_, rfl⟩; rw [hw7]; have HBT : Hid (Below w6.heap.size w6 w7) := Lib.hid (hw7 ▸ below_setCells (Nat.le_refl _) _ _ _ ((Below.refl _ _).alloc (Nat.le_refl _) _)); have HX7 := Lib.hid (HX6.out.keeps HBT.out); have HTB : Hid (w7.heap[w6.heap.size]? = some (.cells F.toArray 60 (0, 0))) := Lib.hid (hw7 ▸ block_full (heap_alloc_new _ _) _ (by simp [HFL.out])); clear hw7 a2 rF))
      have e2 := (HX7.out.below.cell (p := ⟨pg, _, none⟩) hpg).trans d2
      have e40 := (HX7.out.below.cell (p := ⟨cg, _, none⟩) hcg).trans d40
      have e41 := (HX7.out.below.cell (p := ⟨cg, _, none⟩) hcg).trans d41
      have e42 := (HX7.out.below.cell (p := ⟨cg, _, none⟩) hcg).trans d42
      have e43 := (HX7.out.below.cell (p := ⟨cg, _, none⟩) hcg).trans d43
      have e44 := (HX7.out.below.cell (p := ⟨cg, _, none⟩) hcg).trans d44
      have ep := HX7.out.pcell
      rw [HA1.out] at ep
      have et0 := (cell_block HTB.out 0).trans (List.getElem?_toArray.trans HF0.out)
      have et1 := (cell_block HTB.out 1).trans (List.getElem?_toArray.trans HF1.out)
      have hz1 := HX7.out.below.size
      have hzp := block_lt HX7.out.pblk
      have hzt := block_lt HTB.out
      have KS := Lib.hid (fun (w' : World) (hb : Below w7.heap.size w7 w') => (⟨(hb.cell (p := ⟨w1.heap.size, 0, none⟩) hzp).trans ep, (hb.cell (p := ⟨w6.heap.size, 0, none⟩) hzt).trans et0, (hb.cell (p := ⟨w6.heap.size, 1, none⟩) hzt).trans et1, (hb.cell (p := ⟨pg, _, none⟩) (by show pg < _; omega)).trans e2, (hb.cell (p := ⟨cg, _, none⟩) (by show cg < _; omega)).trans e40, (hb.cell (p := ⟨cg, _, none⟩) (by show cg < _; omega)).trans e41, (hb.cell (p := ⟨cg, _, none⟩) (by show cg < _; omega)).trans e42, (hb.cell (p := ⟨cg, _, none⟩) (by show cg < _; omega)).trans e43, (hb.cell (p := ⟨cg, _, none⟩) (by show cg < _; omega)).trans e44⟩ :
          w'.cell? ⟨w1.heap.size, 0, none⟩ = some (.slice (some ⟨pg, 0, none⟩) p.length cap1) ∧ w'.cell? ⟨w6.heap.size, 0, none⟩ = some (.int .i64 f.fn) ∧ w'.cell? ⟨w6.heap.size, 1, none⟩ = some (.int .i64 f.pc) ∧ w'.cell? ⟨pg, f.fn.toNat * 3 + 2, none⟩ = some (.slice (some ⟨cg, 0, none⟩) M ccap) ∧ w'.cell? ⟨cg, f.pc.toNat * 5, none⟩ = some (.int .i64 (insOf p f).op) ∧ w'.cell? ⟨cg, f.pc.toNat * 5 + 1, none⟩ = some (.int .i64 (insOf p f).dst) ∧ w'.cell? ⟨cg, f.pc.toNat * 5 + 2, none⟩ = some (.int .i64 (insOf p f).a) ∧ w'.cell? ⟨cg, f.pc.toNat * 5 + 3, none⟩ = some (.int .i64 (insOf p f).b) ∧ w'.cell? ⟨cg, f.pc.toNat * 5 + 4, none⟩ = some (.int .i64 (insOf p f).imm)))
      clear e2 e40 e41 e42 e43 e44 ep et0 et1 hz1 hzp hzt d2 d40 d41 d42 d43 d44
      refine wp_region_held_drew (S := fun w' => w'.cell? ⟨w1.heap.size, 0, none⟩ = some (.slice (some ⟨pg, 0, none⟩) p.length cap1) ∧ w'.cell? ⟨w6.heap.size, 0, none⟩ = some (.int .i64 f.fn) ∧ w'.cell? ⟨w6.heap.size, 1, none⟩ = some (.int .i64 f.pc) ∧ w'.cell? ⟨pg, f.fn.toNat * 3 + 2, none⟩ = some (.slice (some ⟨cg, 0, none⟩) M ccap) ∧ w'.cell? ⟨cg, f.pc.toNat * 5, none⟩ = some (.int .i64 (insOf p f).op) ∧ w'.cell? ⟨cg, f.pc.toNat * 5 + 1, none⟩ = some (.int .i64 (insOf p f).dst) ∧ w'.cell? ⟨cg, f.pc.toNat * 5 + 2, none⟩ = some (.int .i64 (insOf p f).a) ∧ w'.cell? ⟨cg, f.pc.toNat * 5 + 3, none⟩ = some (.int .i64 (insOf p f).b) ∧ w'.cell? ⟨cg, f.pc.toNat * 5 + 4, none⟩ = some (.int .i64 (insOf p f).imm)) (by kernel_rfl) (KS.out _ (Below.refl _ _).drew) (fun hHeld => ?_)
      refine wpAnyH_take (i := 0) (v := .pointer (some ⟨w1.heap.size, 0, none⟩)) rfl (by kernel_rfl) (by kernel_rfl) (by kernel_rfl) (fun _ _ _ h => h) (Or.inl ⟨by rfl, ?_⟩) hHeld ?_
      · intro w hSw
        obtain ⟨q0, q1, q2, q3, q4, q5, q6, q7, q8⟩ := hSw
        simp only [List.getElem_toArray, List.getElem_cons_zero]
        go_simp
      simp only [Act.put, List.getElem_toArray, List.getElem_cons_zero, List.setIfInBounds_toArray, List.set_cons_zero, List.set_cons_succ]
      refine wpAnyH_take (i := 1) (v := .slice (some ⟨pg, 0, none⟩) p.length cap1) rfl (by kernel_rfl) (by kernel_rfl) (by kernel_rfl) (fun _ _ _ h => h) (Or.inl ⟨by rfl, ?_⟩) hHeld ?_
      · intro w hSw
        obtain ⟨q0, q1, q2, q3, q4, q5, q6, q7, q8⟩ := hSw
        simp only [List.getElem_toArray, List.getElem_cons_zero, List.getElem_cons_succ]
        go_simp
      simp only [Act.put, List.getElem_toArray, List.getElem_cons_zero, List.getElem_cons_succ, List.setIfInBounds_toArray, List.set_cons_zero, List.set_cons_succ]
      refine wpAnyH_take (i := 2) (v := .pointer (some ⟨w6.heap.size, 0, none⟩)) rfl (by kernel_rfl) (by kernel_rfl) (by kernel_rfl) (fun _ _ _ h => h) (Or.inl ⟨by rfl, ?_⟩) hHeld ?_
      · intro w hSw
        obtain ⟨q0, q1, q2, q3, q4, q5, q6, q7, q8⟩ := hSw
        simp only [List.getElem_toArray, List.getElem_cons_zero, List.getElem_cons_succ]
        go_simp
      simp only [Act.put, List.getElem_toArray, List.getElem_cons_zero, List.getElem_cons_succ, List.setIfInBounds_toArray, List.set_cons_zero, List.set_cons_succ]
      refine wpAnyH_take (i := 3) (v := .int .i64 f.fn) rfl (by kernel_rfl) (by kernel_rfl) (by kernel_rfl) (fun _ _ _ h => h) (Or.inl ⟨by rfl, ?_⟩) hHeld ?_
      · intro w hSw
        obtain ⟨q0, q1, q2, q3, q4, q5, q6, q7, q8⟩ := hSw
        simp only [List.getElem_toArray, List.getElem_cons_zero, List.getElem_cons_succ]
        go_simp
      simp only [Act.put, List.getElem_toArray, List.getElem_cons_zero, List.getElem_cons_succ, List.setIfInBounds_toArray, List.set_cons_zero, List.set_cons_succ]
      refine wpAnyH_take (i := 4) (v := .pointer (some ⟨pg, f.fn.toNat * 3, none⟩)) rfl (by kernel_rfl) (by kernel_rfl) (by kernel_rfl) (fun _ _ _ h => h) (Or.inl ⟨by rfl, ?_⟩) hHeld ?_
      · intro w hSw
        obtain ⟨q0, q1, q2, q3, q4, q5, q6, q7, q8⟩ := hSw
        simp only [List.getElem_toArray, List.getElem_cons_zero, List.getElem_cons_succ]
        go_simp
      simp only [Act.put, List.getElem_toArray, List.getElem_cons_zero, List.getElem_cons_succ, List.setIfInBounds_toArray, List.set_cons_zero, List.set_cons_succ]
      refine wpAnyH_take (i := 5) (v := .pointer (some ⟨pg, f.fn.toNat * 3 + 2, none⟩)) rfl (by kernel_rfl) (by kernel_rfl) (by kernel_rfl) (fun _ _ _ h => h) (Or.inl ⟨by rfl, ?_⟩) hHeld ?_
      · intro w hSw
        obtain ⟨q0, q1, q2, q3, q4, q5, q6, q7, q8⟩ := hSw
        simp only [List.getElem_toArray, List.getElem_cons_zero, List.getElem_cons_succ]
        go_simp
      simp only [Act.put, List.getElem_toArray, List.getElem_cons_zero, List.getElem_cons_succ, List.setIfInBounds_toArray, List.set_cons_zero, List.set_cons_succ]
      refine wpAnyH_take (i := 6) (v := .slice (some ⟨cg, 0, none⟩) M ccap) rfl (by kernel_rfl) (by kernel_rfl) (by kernel_rfl) (fun _ _ _ h => h) (Or.inl ⟨by rfl, ?_⟩) hHeld ?_
      · intro w hSw
        obtain ⟨q0, q1, q2, q3, q4, q5, q6, q7, q8⟩ := hSw
        simp only [List.getElem_toArray, List.getElem_cons_zero, List.getElem_cons_succ]
        go_simp
      simp only [Act.put, List.getElem_toArray, List.getElem_cons_zero, List.getElem_cons_succ, List.setIfInBounds_toArray, List.set_cons_zero, List.set_cons_succ]
      refine wpAnyH_take (i := 7) (v := .pointer (some ⟨w6.heap.size, 1, none⟩)) rfl (by kernel_rfl) (by kernel_rfl) (by kernel_rfl) (fun _ _ _ h => h) (Or.inl ⟨by rfl, ?_⟩) hHeld ?_
      · intro w hSw
        obtain ⟨q0, q1, q2, q3, q4, q5, q6, q7, q8⟩ := hSw
        simp only [List.getElem_toArray, List.getElem_cons_zero, List.getElem_cons_succ]
        go_simp
      simp only [Act.put, List.getElem_toArray, List.getElem_cons_zero, List.getElem_cons_succ, List.setIfInBounds_toArray, List.set_cons_zero, List.set_cons_succ]
      refine wpAnyH_take (i := 8) (v := .int .i64 f.pc) rfl (by kernel_rfl) (by kernel_rfl) (by kernel_rfl) (fun _ _ _ h => h) (Or.inl ⟨by rfl, ?_⟩) hHeld ?_
      · intro w hSw
        obtain ⟨q0, q1, q2, q3, q4, q5, q6, q7, q8⟩ := hSw
        simp only [List.getElem_toArray, List.getElem_cons_zero, List.getElem_cons_succ]
        go_simp
      simp only [Act.put, List.getElem_toArray, List.getElem_cons_zero, List.getElem_cons_succ, List.setIfInBounds_toArray, List.set_cons_zero, List.set_cons_succ]
      refine wpAnyH_take (i := 9) (v := .pointer (some ⟨cg, f.pc.toNat * 5, none⟩)) rfl (by kernel_rfl) (by kernel_rfl) (by kernel_rfl) (fun _ _ _ h => h) (Or.inl ⟨by rfl, ?_⟩) hHeld ?_
      · intro w hSw
        obtain ⟨q0, q1, q2, q3, q4, q5, q6, q7, q8⟩ := hSw
        simp only [List.getElem_toArray, List.getElem_cons_zero, List.getElem_cons_succ]
        go_simp
      simp only [Act.put, List.getElem_toArray, List.getElem_cons_zero, List.getElem_cons_succ, List.setIfInBounds_toArray, List.set_cons_zero, List.set_cons_succ]
      refine wpAnyH_take (i := 10) (v := .agg (List.toArray [.int .i64 (insOf p f).op, .int .i64 (insOf p f).dst, .int .i64 (insOf p f).a, .int .i64 (insOf p f).b, .int .i64 (insOf p f).imm])) rfl (by kernel_rfl) (by kernel_rfl) (by kernel_rfl) (fun _ _ _ h => h) (Or.inl ⟨by rfl, ?_⟩) hHeld ?_
      · intro w hSw
        obtain ⟨q0, q1, q2, q3, q4, q5, q6, q7, q8⟩ := hSw
        simp only [List.getElem_toArray, List.getElem_cons_zero, List.getElem_cons_succ]
        go_simp
      simp only [Act.put, List.getElem_toArray, List.getElem_cons_zero, List.getElem_cons_succ, List.setIfInBounds_toArray, List.set_cons_zero, List.set_cons_succ]
      refine wpAnyH_ready (rs := [11]) (by kernel_rfl) (by simp) ?_
      refine AllReadyH.cons rfl (fun K hK => ?_) AllReadyH.nil
      simp only [List.getElem_toArray, List.getElem_cons_zero, List.getElem_cons_succ]
      go_simp
      refine hK.out _ _ (KS.out _ ((Below.refl _ _).drew.alloc (Nat.le_refl _) _)) (fun hHeld => ?_)
      clear hK K
      refine wpAnyH_ready (rs := [12]) (by kernel_rfl) (by simp) ?_
      refine AllReadyH.cons rfl (fun K hK => ?_) AllReadyH.nil
      simp only [List.getElem_toArray, List.getElem_cons_zero, List.getElem_cons_succ]
      rw [if_pos (by rfl)]
      refine wp_store_mid 62 _ _ (by rfl) w7.heap.size 0 (List.toArray [.int .i64 (insOf p f).op, .int .i64 (insOf p f).dst, .int .i64 (insOf p f).a, .int .i64 (insOf p f).b, .int .i64 (insOf p f).imm]) (by rfl) (by rfl) (there_new w7.drew [.int .i64 0, .int .i64 0, .int .i64 0, .int .i64 0, .int .i64 0] _ (Nat.le_refl _)) (by kernel_rfl) (all_oneCell_toArray (by simp [Value.oneCell'])) ?_
      obtain ⟨w8, hw8⟩ : ∃ w8, (w7.drew.alloc (.cells (List.toArray [.int .i64 0, .int .i64 0, .int .i64 0, .int .i64 0, .int .i64 0]) 62)).setCells w7.heap.size 0 (List.toArray [.int .i64 (insOf p f).op, .int .i64 (insOf p f).dst, .int .i64 (insOf p f).a, .int .i64 (insOf p f).b, .int .i64 (insOf p f).imm]).toList = w8 := ⟨_, rfl⟩
      have HBX : Hid (Below w7.heap.size w7 w8) := Lib.hid (hw8 ▸ below_setCells (Nat.le_refl _) _ _ _ ((Below.refl _ _).drew.alloc (Nat.le_refl _) _))
      have HX8 := Lib.hid (HX7.out.keeps HBX.out)
      have HTX := Lib.hid ((HBX.out.block _ (block_lt HTB.out)).trans HTB.out)
      have HXB : Hid (w8.heap[w7.heap.size]? = some (.cells (List.toArray [.int .i64 (insOf p f).op, .int .i64 (insOf p f).dst, .int .i64 (insOf p f).a, .int .i64 (insOf p f).b, .int .i64 (insOf p f).imm]) 62 (0, 0))) := Lib.hid (hw8 ▸ block_full (heap_alloc_new w7.drew _) _ rfl)
      refine hK.out _ _ (by have := KS.out w8 HBX.out; rw [← hw8] at this; exact this) (fun hHeld => ?_)
      clear hK K hHeld KS
      refine wpAnyH_done (by kernel_rfl) ?_ _
      have hwq : (w7.alloc (.cells (List.toArray [.int .i64 0, .int .i64 0, .int .i64 0, .int .i64 0, .int .i64 0]) 62)).drew.setCells w7.heap.size 0 [.int .i64 (insOf p f).op, .int .i64 (insOf p f).dst, .int .i64 (insOf p f).a, .int .i64 (insOf p f).b, .int .i64 (insOf p f).imm] = w8 := hw8
      rw [hwq]
      clear hwq hw8
      have z0 := HX8.out.lt (.tail _ (.head _))
      have z1 := HX8.out.lt (.head _)
      have z2 := block_lt HTX.out
      have z3 := block_lt HXB.out
      have t0 := (cell_block HXB.out 0).trans rfl
      by_cases h12 : (insOf p f).op ≤ 12
      · have hq : decide (12 < (insOf p f).op) = false := by simp; omega
        obtain ⟨hmk, hs2⟩ := HNP.out h12
        have hme : mkErr (insOf p f).op (f.reg (insOf p f).b) = 0 := by simp [mkOk] at hmk; simp [mkErr, hmk.1]; omega
        have HMK := Lib.hid (fun (W : World) => smake_any (insOf p f).op (f.reg (insOf p f).a) (f.reg (insOf p f).b) (insOf p f).imm W)
        obtain ⟨mv, hv⟩ : ∃ v, mk (insOf p f).op (f.reg (insOf p f).a) (f.reg (insOf p f).b) (insOf p f).imm = v := ⟨_, rfl⟩
        rw [hv] at hs2 HMK
        rw [hme] at HMK
        have hfr2 : s2.frames = fs ++ [(f.put (insOf p f).dst mv).at (f.pc + 1)] := by rw [hs2]; rfl
        have hm2 : s1.mem = s2.mem := by rw [hs2]; rfl
        have he2 : s2.events = s1.events := by rw [hs2]; rfl
        have hl2 : s2.frames.length = kf + 1 := by rw [hfr2]; simp; exact HKF.out
        have hlast : s2.frames[kf]? = some ((f.put (insOf p f).dst mv).at (f.pc + 1)) := by rw [hfr2, List.getElem?_append_right (by have := HKF.out; omega)]; simp [HKF.out]
        have hnr : ((f.put (insOf p f).dst mv).at (f.pc + 1)).regs.length = 12 := by simp [Fr.at, put_len, HFO.out.regs]
        obtain ⟨FA, ft, EA, ea, AA, aa, hA⟩ := HX8.out.cin (.head _) HI2.out
        have hgr : ((f.put (insOf p f).dst mv).at (f.pc + 1)).regs.length = 12 := hnr
        obtain ⟨gt, hFA, gzt, rF⟩ := fr_range hA hlast hgr
        obtain ⟨nt, hnt⟩ : ∃ nf, s2.frames.length = nf := ⟨_, rfl⟩
        have c2 := hA.c2
        rw [hnt, hFA] at c2
        have HSt := Lib.hid c2
        have HLt : Hid ((frCell ((f.put (insOf p f).dst mv).at (f.pc + 1))).length = 14) := Lib.hid (frCell_length hgr)
        have HIt : Hid ((Tryd.prog.info? 60).map (·.size) = some (frCell ((f.put (insOf p f).dst mv).at (f.pc + 1))).length) := Lib.hid (by rw [HLt.out]; exact info_fr)
        have HOt : Hid ((frCell ((f.put (insOf p f).dst mv).at (f.pc + 1))).toArray.all (·.oneCell') = true) := Lib.hid (all_oneCell_toArray (fun v hv => frCells_cell (l := [(f.put (insOf p f).dst mv).at (f.pc + 1)]) v (by rw [frCells_one]; exact hv)))
        have HZt : Hid ((frCell ((f.put (insOf p f).dst mv).at (f.pc + 1)))[0]? = some (.int .i64 ((f.put (insOf p f).dst mv).at (f.pc + 1)).fn)) := Lib.hid rfl
        have HPt : Hid ((frCell ((f.put (insOf p f).dst mv).at (f.pc + 1)))[1]? = some (.int .i64 ((f.put (insOf p f).dst mv).at (f.pc + 1)).pc)) := Lib.hid rfl
        have HGt := Lib.hid (fun (r : Int) (h0 : 0 ≤ r) (h1 : r < 12) => frCell_reg hgr h0 h1)
        obtain ⟨Ft, hF'⟩ : ∃ F, frCell ((f.put (insOf p f).dst mv).at (f.pc + 1)) = F := ⟨_, rfl⟩
        rw [hF'] at HLt HIt HOt HZt HPt HGt rF
        have HRt := Lib.hid (fun (W : World) (hb : Below w8.heap.size w8 W) => range_below rF gzt hb)
        clear hF' hA rF c2 hFA hgr
        have hnn : nt = nf := by have := HN.out; have := HNL.out; omega
        subst hnn
        have HPt' : Hid (Ft[1]? = some (.int .i64 (f.pc + 1))) := Lib.hid HPt.out
        have HZt' : Hid (Ft[0]? = some (.int .i64 f.fn)) := Lib.hid HZt.out
        have HGt' : Hid (∀ r : Int, 0 ≤ r → r < 12 → Ft[2 + r.toNat]? = some (.int .i64 (if r = (insOf p f).dst then mv else f.reg r))) := Lib.hid (fun r h0 h1 => by rw [HGt.out r h0 h1, put_reg HFO.out.regs xd0 xd1 h0])
        have HME := Lib.hid hm2
        have HEE := Lib.hid he2
        have a2 := (HX8.out.cell (.tail _ (.head _)) 2).trans HCF2.out
        have v2 := (HX8.out.cell (.head _) 2).trans HSt.out
        clear hfr2 hm2 he2 hl2 hlast hnr hs2 hv hme hmk
        go_wp2_with (first | (refine wpList_load_mid (by rfl) 60 _ (by rfl) gt (kf * 14) (by rfl) Ft _ (HRt.out _ (Below.refl _ _)) Tryd.underlying60 (by rfl) HIt.out ?_) | (refine wpList_store_mid (by rfl) 60 _ _ (by rfl) w8.heap.size 0 Ft.toArray (by rfl) (by rfl) (there_new w8 [.int .i64 0, .int .i64 0, .int .i64 0, .int .i64 0, .int .i64 0, .int .i64 0, .int .i64 0, .int .i64 0, .int .i64 0, .int .i64 0, .int .i64 0, .int .i64 0, .int .i64 0, .int .i64 0] _ (by simp [HLt.out])) (by simpa using HIt.out) HOt.out ?_; obtain ⟨w9, hw9⟩ : ∃ w9, (w8.alloc (.cells (List.toArray [.int .i64 0, .int .i64 0, .int .i64 0, .int .i64 0, .int .i64 0, .int .i64 0, .int .i64 0, .int .i64 0, .int .i64 0, .int .i64 0, .int .i64 0, .int .i64 0, .int .i64 0, .int .i64 0]) 60)).setCells w8.heap.size 0 Ft.toArray.toList = w9 := ⟨_, rfl⟩; rw [hw9]; have HBw9 : Hid (Below w8.heap.size w8 w9) := Lib.hid (hw9 ▸ below_setCells (Nat.le_refl _) _ _ _ ((Below.refl _ _).alloc (Nat.le_refl _) _)); have HX9 := Lib.hid (HX8.out.keeps HBw9.out); have HTt : Hid (w9.heap[w8.heap.size]? = some (.cells Ft.toArray 60 (0, 0))) := Lib.hid (hw9 ▸ block_full (heap_alloc_new _ _) _ (by simp [HLt.out])); clear hw9))
        have HTX9 := Lib.hid ((HBw9.out.block _ z2).trans HTX.out)
        have HXB9 := Lib.hid ((HBw9.out.block _ z3).trans HXB.out)
        have y2 := block_lt HTX9.out
        have y3 := block_lt HXB9.out
        have y4 := block_lt HTt.out
        have ra := HFG.out _ xa0 xa1
        have rb := HFG.out _ xb0 xb1
        have KS : Hid (w9.drew.cell? ⟨w7.heap.size, 0, none⟩ = some (.int .i64 (insOf p f).op) ∧ w9.drew.cell? ⟨w7.heap.size, 2, none⟩ = some (.int .i64 (insOf p f).a) ∧ w9.drew.cell? ⟨w7.heap.size, 3, none⟩ = some (.int .i64 (insOf p f).b) ∧ w9.drew.cell? ⟨w7.heap.size, 4, none⟩ = some (.int .i64 (insOf p f).imm) ∧ w9.drew.cell? ⟨w6.heap.size, 2 + (insOf p f).a.toNat, none⟩ = some (.int .i64 (f.reg (insOf p f).a)) ∧ w9.drew.cell? ⟨w6.heap.size, 2 + (insOf p f).b.toNat, none⟩ = some (.int .i64 (f.reg (insOf p f).b))) := Lib.hid ⟨(cell_block HXB9.out 0).trans rfl, (cell_block HXB9.out 2).trans rfl, (cell_block HXB9.out 3).trans rfl, (cell_block HXB9.out 4).trans rfl, (cell_block HTX9.out _).trans (List.getElem?_toArray.trans ra), (cell_block HTX9.out _).trans (List.getElem?_toArray.trans rb)⟩
        clear t0 a2 v2 ra rb
        refine wp_region_held_drew (S := fun w' => w'.cell? ⟨w7.heap.size, 0, none⟩ = some (.int .i64 (insOf p f).op) ∧ w'.cell? ⟨w7.heap.size, 2, none⟩ = some (.int .i64 (insOf p f).a) ∧ w'.cell? ⟨w7.heap.size, 3, none⟩ = some (.int .i64 (insOf p f).b) ∧ w'.cell? ⟨w7.heap.size, 4, none⟩ = some (.int .i64 (insOf p f).imm) ∧ w'.cell? ⟨w6.heap.size, 2 + (insOf p f).a.toNat, none⟩ = some (.int .i64 (f.reg (insOf p f).a)) ∧ w'.cell? ⟨w6.heap.size, 2 + (insOf p f).b.toNat, none⟩ = some (.int .i64 (f.reg (insOf p f).b))) (by kernel_rfl) KS.out (fun hHeld => ?_)
        refine wpAnyH_take (i := 0) (v := .pointer (some ⟨w7.heap.size, 0, none⟩)) rfl (by kernel_rfl) (by kernel_rfl) (by kernel_rfl) (fun _ _ _ h => h) (Or.inl ⟨by rfl, ?_⟩) hHeld ?_
        · intro w hSw
          obtain ⟨q0, q1, q2, q3, q4, q5⟩ := hSw
          simp only [List.getElem_toArray, List.getElem_cons_zero]
          go_simp
        simp only [Act.put, List.getElem_toArray, List.getElem_cons_zero, List.setIfInBounds_toArray, List.set_cons_zero, List.set_cons_succ]
        refine wpAnyH_take (i := 1) (v := .int .i64 (insOf p f).op) rfl (by kernel_rfl) (by kernel_rfl) (by kernel_rfl) (fun _ _ _ h => h) (Or.inl ⟨by rfl, ?_⟩) hHeld ?_
        · intro w hSw
          obtain ⟨q0, q1, q2, q3, q4, q5⟩ := hSw
          simp only [List.getElem_toArray, List.getElem_cons_zero, List.getElem_cons_succ]
          go_simp
        simp only [Act.put, List.getElem_toArray, List.getElem_cons_zero, List.getElem_cons_succ, List.setIfInBounds_toArray, List.set_cons_zero, List.set_cons_succ]
        refine wpAnyH_take (i := 2) (v := .pointer (some ⟨w7.heap.size, 2, none⟩)) rfl (by kernel_rfl) (by kernel_rfl) (by kernel_rfl) (fun _ _ _ h => h) (Or.inl ⟨by rfl, ?_⟩) hHeld ?_
        · intro w hSw
          obtain ⟨q0, q1, q2, q3, q4, q5⟩ := hSw
          simp only [List.getElem_toArray, List.getElem_cons_zero, List.getElem_cons_succ]
          go_simp
        simp only [Act.put, List.getElem_toArray, List.getElem_cons_zero, List.getElem_cons_succ, List.setIfInBounds_toArray, List.set_cons_zero, List.set_cons_succ]
        refine wpAnyH_take (i := 3) (v := .int .i64 (insOf p f).a) rfl (by kernel_rfl) (by kernel_rfl) (by kernel_rfl) (fun _ _ _ h => h) (Or.inl ⟨by rfl, ?_⟩) hHeld ?_
        · intro w hSw
          obtain ⟨q0, q1, q2, q3, q4, q5⟩ := hSw
          simp only [List.getElem_toArray, List.getElem_cons_zero, List.getElem_cons_succ]
          go_simp
        simp only [Act.put, List.getElem_toArray, List.getElem_cons_zero, List.getElem_cons_succ, List.setIfInBounds_toArray, List.set_cons_zero, List.set_cons_succ]
        refine wpAnyH_take (i := 4) (v := .pointer (some ⟨w6.heap.size, 2, none⟩)) rfl (by kernel_rfl) (by kernel_rfl) (by kernel_rfl) (fun _ _ _ h => h) (Or.inl ⟨by rfl, ?_⟩) hHeld ?_
        · intro w hSw
          obtain ⟨q0, q1, q2, q3, q4, q5⟩ := hSw
          simp only [List.getElem_toArray, List.getElem_cons_zero, List.getElem_cons_succ]
          go_simp
        simp only [Act.put, List.getElem_toArray, List.getElem_cons_zero, List.getElem_cons_succ, List.setIfInBounds_toArray, List.set_cons_zero, List.set_cons_succ]
        refine wpAnyH_take (i := 5) (v := .pointer (some ⟨w6.heap.size, 2 + (insOf p f).a.toNat, none⟩)) rfl (by kernel_rfl) (by kernel_rfl) (by kernel_rfl) (fun _ _ _ h => h) (Or.inl ⟨by rfl, ?_⟩) hHeld ?_
        · intro w hSw
          obtain ⟨q0, q1, q2, q3, q4, q5⟩ := hSw
          simp only [List.getElem_toArray, List.getElem_cons_zero, List.getElem_cons_succ]
          go_simp
        simp only [Act.put, List.getElem_toArray, List.getElem_cons_zero, List.getElem_cons_succ, List.setIfInBounds_toArray, List.set_cons_zero, List.set_cons_succ]
        refine wpAnyH_take (i := 6) (v := .int .i64 (f.reg (insOf p f).a)) rfl (by kernel_rfl) (by kernel_rfl) (by kernel_rfl) (fun _ _ _ h => h) (Or.inl ⟨by rfl, ?_⟩) hHeld ?_
        · intro w hSw
          obtain ⟨q0, q1, q2, q3, q4, q5⟩ := hSw
          simp only [List.getElem_toArray, List.getElem_cons_zero, List.getElem_cons_succ]
          go_simp
        simp only [Act.put, List.getElem_toArray, List.getElem_cons_zero, List.getElem_cons_succ, List.setIfInBounds_toArray, List.set_cons_zero, List.set_cons_succ]
        refine wpAnyH_take (i := 7) (v := .pointer (some ⟨w7.heap.size, 3, none⟩)) rfl (by kernel_rfl) (by kernel_rfl) (by kernel_rfl) (fun _ _ _ h => h) (Or.inl ⟨by rfl, ?_⟩) hHeld ?_
        · intro w hSw
          obtain ⟨q0, q1, q2, q3, q4, q5⟩ := hSw
          simp only [List.getElem_toArray, List.getElem_cons_zero, List.getElem_cons_succ]
          go_simp
        simp only [Act.put, List.getElem_toArray, List.getElem_cons_zero, List.getElem_cons_succ, List.setIfInBounds_toArray, List.set_cons_zero, List.set_cons_succ]
        refine wpAnyH_take (i := 8) (v := .int .i64 (insOf p f).b) rfl (by kernel_rfl) (by kernel_rfl) (by kernel_rfl) (fun _ _ _ h => h) (Or.inl ⟨by rfl, ?_⟩) hHeld ?_
        · intro w hSw
          obtain ⟨q0, q1, q2, q3, q4, q5⟩ := hSw
          simp only [List.getElem_toArray, List.getElem_cons_zero, List.getElem_cons_succ]
          go_simp
        simp only [Act.put, List.getElem_toArray, List.getElem_cons_zero, List.getElem_cons_succ, List.setIfInBounds_toArray, List.set_cons_zero, List.set_cons_succ]
        refine wpAnyH_take (i := 9) (v := .pointer (some ⟨w6.heap.size, 2, none⟩)) rfl (by kernel_rfl) (by kernel_rfl) (by kernel_rfl) (fun _ _ _ h => h) (Or.inl ⟨by rfl, ?_⟩) hHeld ?_
        · intro w hSw
          obtain ⟨q0, q1, q2, q3, q4, q5⟩ := hSw
          simp only [List.getElem_toArray, List.getElem_cons_zero, List.getElem_cons_succ]
          go_simp
        simp only [Act.put, List.getElem_toArray, List.getElem_cons_zero, List.getElem_cons_succ, List.setIfInBounds_toArray, List.set_cons_zero, List.set_cons_succ]
        refine wpAnyH_take (i := 10) (v := .pointer (some ⟨w6.heap.size, 2 + (insOf p f).b.toNat, none⟩)) rfl (by kernel_rfl) (by kernel_rfl) (by kernel_rfl) (fun _ _ _ h => h) (Or.inl ⟨by rfl, ?_⟩) hHeld ?_
        · intro w hSw
          obtain ⟨q0, q1, q2, q3, q4, q5⟩ := hSw
          simp only [List.getElem_toArray, List.getElem_cons_zero, List.getElem_cons_succ]
          go_simp
        simp only [Act.put, List.getElem_toArray, List.getElem_cons_zero, List.getElem_cons_succ, List.setIfInBounds_toArray, List.set_cons_zero, List.set_cons_succ]
        refine wpAnyH_take (i := 11) (v := .int .i64 (f.reg (insOf p f).b)) rfl (by kernel_rfl) (by kernel_rfl) (by kernel_rfl) (fun _ _ _ h => h) (Or.inl ⟨by rfl, ?_⟩) hHeld ?_
        · intro w hSw
          obtain ⟨q0, q1, q2, q3, q4, q5⟩ := hSw
          simp only [List.getElem_toArray, List.getElem_cons_zero, List.getElem_cons_succ]
          go_simp
        simp only [Act.put, List.getElem_toArray, List.getElem_cons_zero, List.getElem_cons_succ, List.setIfInBounds_toArray, List.set_cons_zero, List.set_cons_succ]
        refine wpAnyH_take (i := 12) (v := .pointer (some ⟨w7.heap.size, 4, none⟩)) rfl (by kernel_rfl) (by kernel_rfl) (by kernel_rfl) (fun _ _ _ h => h) (Or.inl ⟨by rfl, ?_⟩) hHeld ?_
        · intro w hSw
          obtain ⟨q0, q1, q2, q3, q4, q5⟩ := hSw
          simp only [List.getElem_toArray, List.getElem_cons_zero, List.getElem_cons_succ]
          go_simp
        simp only [Act.put, List.getElem_toArray, List.getElem_cons_zero, List.getElem_cons_succ, List.setIfInBounds_toArray, List.set_cons_zero, List.set_cons_succ]
        refine wpAnyH_take (i := 13) (v := .int .i64 (insOf p f).imm) rfl (by kernel_rfl) (by kernel_rfl) (by kernel_rfl) (fun _ _ _ h => h) (Or.inl ⟨by rfl, ?_⟩) hHeld ?_
        · intro w hSw
          obtain ⟨q0, q1, q2, q3, q4, q5⟩ := hSw
          simp only [List.getElem_toArray, List.getElem_cons_zero, List.getElem_cons_succ]
          go_simp
        simp only [Act.put, List.getElem_toArray, List.getElem_cons_zero, List.getElem_cons_succ, List.setIfInBounds_toArray, List.set_cons_zero, List.set_cons_succ]
        refine wpAnyH_ready (rs := [14]) (by kernel_rfl) (by simp) ?_
        refine AllReadyH.cons rfl (fun K hK => ?_) AllReadyH.nil
        simp only [List.getElem_toArray, List.getElem_cons_zero, List.getElem_cons_succ]
        go_simp
        refine (HMK.out _).mono ?_
        rintro e w' ⟨rfl, rfl⟩
        refine hK.out _ _ hHeld (fun hHeld => ?_)
        clear hK K
        refine wpAnyH_take (i := 15) (v := .tuple #[.int .i64 mv, .int .i64 0]) rfl (by kernel_rfl) (by kernel_rfl) (by kernel_rfl) (fun _ _ _ h => h) (Or.inl ⟨by rfl, ?_⟩) hHeld ?_
        · intro w hSw
          obtain ⟨q0, q1, q2, q3, q4, q5⟩ := hSw
          simp only [List.getElem_toArray, List.getElem_cons_zero, List.getElem_cons_succ]
          go_simp
        simp only [Act.put, List.getElem_toArray, List.getElem_cons_zero, List.getElem_cons_succ, List.setIfInBounds_toArray, List.set_cons_zero, List.set_cons_succ]
        refine wpAnyH_take (i := 16) (v := .int .i64 mv) rfl (by kernel_rfl) (by kernel_rfl) (by kernel_rfl) (fun _ _ _ h => h) (Or.inl ⟨by rfl, ?_⟩) hHeld ?_
        · intro w hSw
          obtain ⟨q0, q1, q2, q3, q4, q5⟩ := hSw
          simp only [List.getElem_toArray, List.getElem_cons_zero, List.getElem_cons_succ]
          go_simp
        simp only [Act.put, List.getElem_toArray, List.getElem_cons_zero, List.getElem_cons_succ, List.setIfInBounds_toArray, List.set_cons_zero, List.set_cons_succ]
        refine wpAnyH_take (i := 17) (v := .int .i64 0) rfl (by kernel_rfl) (by kernel_rfl) (by kernel_rfl) (fun _ _ _ h => h) (Or.inl ⟨by rfl, ?_⟩) hHeld ?_
        · intro w hSw
          obtain ⟨q0, q1, q2, q3, q4, q5⟩ := hSw
          simp only [List.getElem_toArray, List.getElem_cons_zero, List.getElem_cons_succ]
          go_simp
        simp only [Act.put, List.getElem_toArray, List.getElem_cons_zero, List.getElem_cons_succ, List.setIfInBounds_toArray, List.set_cons_zero, List.set_cons_succ]
        refine wpAnyH_ready (rs := [18]) (by kernel_rfl) (by simp) ?_
        refine AllReadyH.cons rfl (fun K hK => ?_) AllReadyH.nil
        simp only [List.getElem_toArray, List.getElem_cons_zero, List.getElem_cons_succ]
        go_simp
        refine hK.out _ _ hHeld (fun hHeld => ?_)
        clear hK K
        refine wpAnyH_ready (rs := [19]) (by kernel_rfl) (by simp) ?_
        refine AllReadyH.cons rfl (fun K hK => ?_) AllReadyH.nil
        simp only [List.getElem_toArray, List.getElem_cons_zero, List.getElem_cons_succ]
        go_simp
        refine hK.out _ _ hHeld (fun hHeld => ?_)
        clear hK K
        clear hHeld
        refine wpAnyH_done (by kernel_rfl) ?_ _
        clear KS
        go_wp2_with fail
        go_loopw [19] (fun v wr => ∃ k : Nat, k ≤ 12 ∧ v = .int .i64 (k : Int) ∧ Below w9.heap.size w9 wr) (fun v _ => 12 - (intOf v).toNat)
        case atStart => exact ⟨0, by omega, rfl, (Below.refl _ _).drew⟩
        case round =>
          obtain ⟨k, hk, rfl, hbr⟩ := hrel
          have HBR := Lib.hid hbr
          have zr := hbr.size
          have e1 := (hbr.cell (p := ⟨w7.heap.size, 1, none⟩) y3).trans ((cell_block HXB9.out 1).trans rfl)
          have y2r : w6.heap.size < wr.heap.size := by omega
          have y3r : w7.heap.size < wr.heap.size := by omega
          have y4r : w8.heap.size < wr.heap.size := by omega
          by_cases hkn : k = 12
          · subst hkn
            have hxr := (HX9.out.keeps (HBR.out : Below w9.heap.size w9 wr))
            have HXr := Lib.hid hxr
            have x1 := hxr.lt (.head _)
            have x2 := hxr.lt (.tail _ (.head _))
            obtain ⟨FA1, fa1, EA, ea, AA1, aa1, hA⟩ := hxr.cin (.tail _ (.head _)) HI1.out
            obtain ⟨FB1, fb1, EB, eb, AB1, ab1, hB⟩ := hxr.cin (.head _) HI2.out
            have e5 := (hxr.cell (.head _) 20).trans hB.c20
            have e6 := (hxr.cell (.tail _ (.head _)) 20).trans hA.c20
            have rD := HGt'.out _ xd0 xd1
            rw [if_pos rfl] at rD
            have e2 := (hbr.cell (p := ⟨w8.heap.size, 2 + (insOf p f).dst.toNat, none⟩) y4).trans ((cell_block HTt.out _).trans (List.getElem?_toArray.trans rD))
            have e3 := (hbr.cell (p := ⟨w8.heap.size, 1, none⟩) y4).trans ((cell_block HTt.out 1).trans (List.getElem?_toArray.trans HPt'.out))
            have e4 := (hbr.cell (p := ⟨w8.heap.size, 0, none⟩) y4).trans ((cell_block HTt.out 0).trans (List.getElem?_toArray.trans HZt'.out))
            have e7 := (hbr.cell (p := ⟨w6.heap.size, 1, none⟩) y2).trans ((cell_block HTX9.out 1).trans (List.getElem?_toArray.trans HF1.out))
            have e8 := (hbr.cell (p := ⟨w6.heap.size, 0, none⟩) y2).trans ((cell_block HTX9.out 0).trans (List.getElem?_toArray.trans HF0.out))
            have HSE := Lib.hid (fun (W : World) (h1 : IntsAt W EA s1.events) (h2 : IntsAt W EB s1.events) => sameInts_any EA EB s1.events ea eb W h1 h2 (stinv_sm HI1.out).1)
            have HEA := Lib.hid hA.ev
            have HEB : Hid (IntsAt wr EB s1.events) := Lib.hid (by rw [← HEE.out]; exact hB.ev)
            have heq := fun W => eq_mem s1.mem HI1.out.mem W
            have HIM := Lib.hid (info_mem (C := intsV s1.mem) (by simp [intsV, HI1.out.mem]))
            have HR := Lib.hid (⟨range_mem (hxr.sts _ (.tail _ (.head _))).1 HI1.out.mem hA, by rw [HME.out]; exact range_mem (hxr.sts _ (.head _)).1 HI2.out.mem hB⟩ : wr.rangeAt w2.heap.size 3 (intsV s1.mem) ∧ wr.rangeAt w5.heap.size 3 (intsV s1.mem))
            rw [HEE.out] at e5
            obtain ⟨ne, hne⟩ : ∃ n, s1.events.length = n := ⟨_, rfl⟩
            rw [hne] at e5 e6 HSE
            obtain ⟨M, hM⟩ : ∃ M, intsV s1.mem = M := ⟨_, rfl⟩
            rw [hM] at HR HIM heq
            clear hxr hne hM hbr hA hB
            go_wp2_with (first
              | (refine wpList_load_midg (by rfl) 48 _ (by rfl) w2.heap.size 3 (by rfl) M _ HR.out.1 Tryd.underlying48 (by rfl) HIM.out ?_)
              | (refine wpList_load_midg (by rfl) 48 _ (by rfl) w5.heap.size 3 (by rfl) M _ HR.out.2 Tryd.underlying48 (by rfl) HIM.out ?_)
              | (go_at_call 34; go_must (refine (HSE.out _ HEA.out HEB.out).mono ?_; rintro e w11 ⟨rfl, hb11⟩; have HX11 := Lib.hid (HXr.out.keeps hb11); clear hb11)))
            go_ret
            exact ⟨rfl, HBW.out.trans (HX11.out.below.mono HBW.out.size)⟩
          · have hk1 : (k : Int) < 12 := by omega
            have hk0 : (0 : Int) ≤ k := by omega
            have hkw : IntKind.i64.wrap ((k : Int) + 1) = k + 1 := by rw [IntKind.wrap_i64]; omega
            have r1 := HGt'.out k hk0 hk1
            have r2 := HFG.out k hk0 hk1
            have u1 := (hbr.cell (p := ⟨w8.heap.size, 2 + (k : Int).toNat, none⟩) y4).trans ((cell_block HTt.out _).trans (List.getElem?_toArray.trans r1))
            have u2 := (hbr.cell (p := ⟨w6.heap.size, 2 + (k : Int).toNat, none⟩) y2).trans ((cell_block HTX9.out _).trans (List.getElem?_toArray.trans r2))
            rw [Int.toNat_natCast] at u1 u2
            clear r1 r2
            by_cases hkd : (k : Int) = (insOf p f).dst
            · rw [← hkd] at e1
              clear u1 u2
              go_wp2_with fail
              go_quiet (fail)
              go_wp2_with fail
              go_roundw
              case rel => exact ⟨k + 1, by omega, by go_num, HBR.out.trans (by have hb := Below.refl wr.heap.size wr; exact (Below.mono (by repeat (first | exact hb | exact Below.refl _ _ | apply Below.drew | apply below_drewN | refine Below.alloc ?_ (by first | omega | (simp; done) | (simp; omega)) _ | refine Below.setCell ?_ (by first | omega | (simp; done) | (simp; omega)) _)) (HBR.out.size)))⟩
              case measure => simp [intOf]; omega
            · rw [if_neg hkd] at u1
              have hkb : ((k : Int) != (insOf p f).dst) = true := by simpa using hkd
              generalize (insOf p f).dst = dst at *
              generalize f.reg (k : Int) = rk at *
              go_wp2_with fail
              go_quiet (fail)
              go_wp2_with fail
              go_roundw
              case rel => exact ⟨k + 1, by omega, by go_num, HBR.out.trans (by have hb := Below.refl wr.heap.size wr; exact (Below.mono (by repeat (first | exact hb | exact Below.refl _ _ | apply Below.drew | apply below_drewN | refine Below.alloc ?_ (by first | omega | (simp; done) | (simp; omega)) _ | refine Below.setCell ?_ (by first | omega | (simp; done) | (simp; omega)) _)) (HBR.out.size)))⟩
              case measure => simp [intOf]; omega
      · have hq : decide (12 < (insOf p f).op) = true := by simp; omega
        generalize (insOf p f).op = op at *
        go_wp2_with fail
        go_ret
        exact ⟨rfl, HBW.out.trans (HX8.out.below.mono HBW.out.size)⟩
end Go.Proofs.YtnbopmlemddakaaDoor
