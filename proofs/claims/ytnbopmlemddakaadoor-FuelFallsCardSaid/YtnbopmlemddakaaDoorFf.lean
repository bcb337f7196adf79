/-
  The walk of FuelFalls: it returns true.
-/
import Derived.Test.YtnbopmlemddakaaDoorRc
namespace Go.Proofs.YtnbopmlemddakaaDoor
open Go.RowKit Tier
set_option maxRecDepth 100000 in
set_option maxHeartbeats 8000000 in
theorem fuelFalls_walk (A : Option Addr) (l : List Fnc) (cap : Nat) (a0 a1 : Int) (YA : Option Addr) (ans : List Int) (ycap : Nat) (fuel : Int) (n : Int) (w : World) (ht : Tab w) (hraw : RawsAt w A l) (hln : (l.length : Int) ≤ 9223372036854775807) (hin : InOk w a0 a1 YA ans ycap fuel) (hn : In n) :
    Calls Tryd.prog 10 #[.slice A l.length cap, .agg #[.int .i64 a0, .int .i64 a1, .slice YA ans.length ycap, .int .i64 fuel], .int .i64 n] w fun e w' => e = .returned (.bool true) ∧ Below w.heap.size w w' := by
  have HT := Lib.hid ht
  have HR := Lib.hid hraw
  have HIN := Lib.hid hin
  have hright := mkP_right l
  clear ht hraw hin
  have pn := picked_in n 300 (by omega)
  have HKN := Lib.hid (fun (W : World) => picked_any n 300 W hn (by omega) (by omega))
  obtain ⟨u, hu⟩ : ∃ u : Nat, pickedI n 300 = u := ⟨(pickedI n 300).toNat, by omega⟩
  rw [hu] at pn HKN
  go_enter Tryd.func10, Tryd.ntmps10
  go_wp2_with fail
  obtain ⟨wi, hwi⟩ : ∃ wi, w.alloc (.cells #[.int .i64 a0, .int .i64 a1, .slice YA ans.length ycap, .int .i64 fuel] 46) = wi := ⟨_, rfl⟩
  have HBI : Hid (Below w.heap.size w wi) := Lib.hid (hwi ▸ (Below.refl _ w).alloc (Nat.le_refl _) _)
  have HIB : Hid (wi.heap[w.heap.size]? = some (.cells #[.int .i64 a0, .int .i64 a1, .slice YA ans.length ycap, .int .i64 fuel] 46 (0, 0))) := Lib.hid (hwi ▸ heap_alloc_new w _)
  rw [hwi]
  refine (program_any A cap l _ (HT.out.keeps HBI.out) hln (HR.out.keeps HBI.out)).mono ?_
  rintro e w1 ⟨⟨A1, cap1, vs, rfl, hpv⟩, hb1⟩
  have HP := Lib.hid hpv.at
  have HBW := Lib.hid (HBI.out.trans (hb1.mono HBI.out.size))
  have HT1 := Lib.hid (HT.out.keeps HBW.out)
  have hib := (hb1.block _ (block_lt HIB.out)).trans HIB.out
  have i0 := (cell_block hib 0).trans rfl
  have i1 := (cell_block hib 1).trans rfl
  have i2 := (cell_block hib 2).trans rfl
  have i3 := (cell_block hib 3).trans rfl
  have zi := block_lt hib
  clear hpv hb1 hwi HBI HIB hib vs
  generalize mkP l = p at *
  have hp := right_of hright
  have HG := Lib.hid (hright)
  have HRP := Lib.hid hp
  have HBG := Lib.hid (fun (W : World) (hb : Below w1.heap.size w1 W) => kbegin_any hright a0 a1 fuel ans YA ycap A1 cap1 W (HT1.out.keeps hb) (HP.out.keeps hb) ((HIN.out.row.keeps HBW.out).keeps hb) HIN.out.len HIN.out.cap HIN.out.fuel)
  have hi0 := inSt_inv hp a0 a1 ans fuel
  obtain ⟨s0, hs0⟩ : ∃ s0, inSt p a0 a1 ans fuel = s0 := ⟨_, rfl⟩
  rw [hs0] at HBG hi0
  obtain ⟨s1, hs1⟩ : ∃ s1, walkSt p u s0 = s1 := ⟨_, rfl⟩
  obtain ⟨s2, hs2⟩ : ∃ s2, nextSt p s1 = s2 := ⟨_, rfl⟩
  have HI0 := Lib.hid hi0
  have HI1 : Hid (StInv p s1) := Lib.hid (hs1 ▸ hi0.walk hp u)
  have HI2 : Hid (StInv p s2) := Lib.hid (hs2 ▸ HI1.out.next hp)
  have HWA := Lib.hid (fun (C : List Value) (W : World) (hb : Below w1.heap.size w1 W) (hC : CellsSt C W w1.heap.size s0) => swalk_c hright u (by omega) (HT1.out.keeps hb) (HP.out.keeps hb) HI0.out hC)
  have HNX := Lib.hid (fun (C : List Value) (W : World) (hb : Below w1.heap.size w1 W) (hC : CellsSt C W w1.heap.size s1) => snext_c hright (HT1.out.keeps hb) (HP.out.keeps hb) HI1.out hC)
  have HS2 := Lib.hid hs2
  have HS1 := Lib.hid hs1
  rw [hs1] at HWA
  rw [hs2] at HNX
  clear hs0 hs1 hs2 hi0 hp hu hn
  clear hright
  go_wp2_with fail
  refine (HBG.out _ ((Below.refl _ w1).alloc (Nat.le_refl _) _)).mono ?_
  rintro e w2 ⟨⟨C0, rfl, hC0⟩, hb2⟩
  have HX2 : Hid (Sx w1 w1.heap.size (.slice A1 p.length cap1) w2 []) := Lib.hid ((Sx.mk ((Below.refl _ w1).alloc (Nat.le_refl _) _) (heap_alloc_new w1 _) (fun x hx => by simp at hx)).keeps hb2)
  have HC0 := Lib.hid (hC0.base (by simp : w1.heap.size ≤ _))
  have HJ0 := Lib.hid (info_st (HC0.out.len HI0.out.mem))
  have hz := zero_st
  clear hC0 hb2 HBG i0 i1 i2 i3 zi
  go_wp2_with (refine wpList_store_mid (by rfl) 50 _ _ (by rfl) w2.heap.size 0 C0.toArray (by rfl) (by rfl) (there_new w2 zeroV _ (by simp [HC0.out.len HI0.out.mem, zeroV_length])) (by simpa using HJ0.out) HC0.out.one ?_; obtain ⟨w3, hw3⟩ : ∃ w3, (w2.alloc (.cells zeroV.toArray 50)).setCells w2.heap.size 0 C0.toArray.toList = w3 := ⟨_, rfl⟩; rw [hw3]; have HX3 : Hid (Sx w1 w1.heap.size (.slice A1 p.length cap1) w3 [(w2.heap.size, C0, s0)]) := Lib.hid (hw3 ▸ HX2.out.add HC0.out HI0.out.mem); have pc3 := HX3.out.pcell; clear hw3)
  have HLC0 := Lib.hid (HC0.out.len HI0.out.mem)
  have HBGC0 := Lib.hid HX2.out.below.size
  apply region_cut1 (α := List Value) (R := fun (C' : List Value) w' => Sx w1 w1.heap.size (.slice A1 p.length cap1) w' ((w2.heap.size, C', s1) :: []))
  case h1 =>
    refine wp_region_held_drew (S := fun w' => w'.cell? ⟨w1.heap.size, 0, none⟩ = some (.slice A1 p.length cap1)) (by kernel_rfl) HX3.out.drew.pcell (fun hHeld => ?_)
    refine wpAnyH_take (i := 0) (v := .agg #[(.slice A1 p.length cap1)]) rfl (by kernel_rfl) (by kernel_rfl) (by kernel_rfl) (fun _ _ _ h => h) (Or.inl ⟨by rfl, ?_⟩) hHeld ?_
    · intro w hSw
      have q0 := hSw
      simp only [List.getElem_toArray, List.getElem_cons_zero]
      go_simp
    simp only [Act.put, List.getElem_toArray, List.getElem_cons_zero, List.setIfInBounds_toArray, List.set_cons_zero, List.set_cons_succ]
    refine wpAnyH_take (i := 2) (v := .int .i64 n) rfl (by kernel_rfl) (by kernel_rfl) (by kernel_rfl) (fun _ _ _ h => h) (Or.inl ⟨by rfl, ?_⟩) hHeld ?_
    · intro w hSw
      simp only [List.getElem_toArray, List.getElem_cons_zero, List.getElem_cons_succ]
      go_simp
    simp only [Act.put, List.getElem_toArray, List.getElem_cons_zero, List.getElem_cons_succ, List.setIfInBounds_toArray, List.set_cons_zero, List.set_cons_succ]
    refine wpAnyH_ready (rs := [1, 3]) (by kernel_rfl) (by simp) ?_
    refine AllReadyH.cons rfl (fun K hK => ?_) (AllReadyH.cons rfl (fun K hK => ?_) AllReadyH.nil)
    · simp only [List.getElem_toArray, List.getElem_cons_zero, List.getElem_cons_succ]
      rw [if_pos (by rfl)]
      refine wp_load_mid 50 _ (by rfl) w2.heap.size 0 (by rfl) C0 _ (HX3.out.drew.range (.head _)) Tryd.underlying50 (by rfl) HJ0.out ?_
      refine hK.out _ _ hHeld (fun hHeld => ?_)
      clear hK K
      simp only [Act.put, List.setIfInBounds_toArray, List.set_cons_zero, List.set_cons_succ]
      refine wpAnyH_ready (rs := [3]) (by kernel_rfl) (by simp) ?_
      refine AllReadyH.cons rfl (fun K hK => ?_) AllReadyH.nil
      simp only [List.getElem_toArray, List.getElem_cons_zero, List.getElem_cons_succ]
      go_simp
      refine (HKN.out _).mono ?_
      rintro e w' ⟨rfl, rfl⟩
      refine hK.out _ _ hHeld (fun hHeld => ?_)
      clear hK K
      refine wpAnyH_ready (rs := [4]) (by kernel_rfl) (by simp) ?_
      refine AllReadyH.cons rfl (fun K hK => ?_) AllReadyH.nil
      simp only [List.getElem_toArray, List.getElem_cons_zero, List.getElem_cons_succ]
      go_simp
      refine (HWA.out C0 _ HX3.out.drew.below (HX3.out.drew.sts _ (.head _)).2).mono ?_
      rintro e wa ⟨⟨C1, rfl, hC⟩, hb⟩
      have HXA := Lib.hid (HX3.out.drew.keeps hb)
      have HC1 := Lib.hid (hC.base HX3.out.below.size)
      have HJ1 := Lib.hid (info_st (HC1.out.len HI1.out.mem))
      refine hK.out _ _ HXA.out.pcell (fun hHeld => ?_)
      clear hK K hC hb
      refine wpAnyH_take (i := 5) (v := .tuple #[.agg C1.toArray, .int .i64 0]) rfl (by kernel_rfl) (by kernel_rfl) (by kernel_rfl) (fun _ _ _ h => h) (Or.inl ⟨by rfl, ?_⟩) hHeld ?_
      · intro w hSw
        simp only [List.getElem_toArray, List.getElem_cons_zero, List.getElem_cons_succ]
        go_simp
      simp only [Act.put, List.getElem_toArray, List.getElem_cons_zero, List.getElem_cons_succ, List.setIfInBounds_toArray, List.set_cons_zero, List.set_cons_succ]
      refine wpAnyH_take (i := 6) (v := .agg C1.toArray) rfl (by kernel_rfl) (by kernel_rfl) (by kernel_rfl) (fun _ _ _ h => h) (Or.inl ⟨by rfl, ?_⟩) hHeld ?_
      · intro w hSw
        simp only [List.getElem_toArray, List.getElem_cons_zero, List.getElem_cons_succ]
        go_simp
      simp only [Act.put, List.getElem_toArray, List.getElem_cons_zero, List.getElem_cons_succ, List.setIfInBounds_toArray, List.set_cons_zero, List.set_cons_succ]
      refine wpAnyH_take (i := 7) (v := .int .i64 0) rfl (by kernel_rfl) (by kernel_rfl) (by kernel_rfl) (fun _ _ _ h => h) (Or.inl ⟨by rfl, ?_⟩) hHeld ?_
      · intro w hSw
        simp only [List.getElem_toArray, List.getElem_cons_zero, List.getElem_cons_succ]
        go_simp
      simp only [Act.put, List.getElem_toArray, List.getElem_cons_zero, List.getElem_cons_succ, List.setIfInBounds_toArray, List.set_cons_zero, List.set_cons_succ]
      refine wpAnyH_ready (rs := [8]) (by kernel_rfl) (by simp) ?_
      refine AllReadyH.cons rfl (fun K hK => ?_) AllReadyH.nil
      simp only [List.getElem_toArray, List.getElem_cons_zero, List.getElem_cons_succ]
      rw [if_pos (by rfl)]
      refine wp_store_mid 50 _ _ (by rfl) w2.heap.size 0 C1.toArray (by rfl) (by rfl) (HXA.out.there (.head _) (by simp [HC1.out.len HI1.out.mem, HLC0.out])) (by simpa using HJ1.out) HC1.out.one ?_
      obtain ⟨wb, hwb⟩ : ∃ wb, wa.setCells w2.heap.size 0 C1.toArray.toList = wb := ⟨_, rfl⟩
      rw [hwb]
      have HXB : Hid (Sx w1 w1.heap.size (.slice A1 p.length cap1) wb ((w2.heap.size, C1, s1) :: [])) := Lib.hid (hwb ▸ HXA.out.put (HXA.out.sts _ (.head _)).1 HLC0.out HBGC0.out HC1.out (HC1.out.len HI1.out.mem) (fun x hx => by simp at hx))
      refine hK.out _ _ HXB.out.pcell (fun hHeld => ?_)
      clear hK K hwb
      refine wpAnyH_ready (rs := [9]) (by kernel_rfl) (by simp) ?_
      refine AllReadyH.cons rfl (fun K hK => ?_) AllReadyH.nil
      simp only [List.getElem_toArray, List.getElem_cons_zero, List.getElem_cons_succ]
      go_simp
      refine hK.out _ _ hHeld (fun hHeld => ?_)
      clear hK K hHeld
      refine wpAnyH_done (by kernel_rfl) ?_ _
      exact ⟨C1, rfl, HXB.out⟩
    · simp only [List.getElem_toArray, List.getElem_cons_zero, List.getElem_cons_succ]
      go_simp
      refine (HKN.out _).mono ?_
      rintro e w' ⟨rfl, rfl⟩
      refine hK.out _ _ hHeld (fun hHeld => ?_)
      clear hK K
      refine wpAnyH_ready (rs := [1]) (by kernel_rfl) (by simp) ?_
      refine AllReadyH.cons rfl (fun K hK => ?_) AllReadyH.nil
      simp only [List.getElem_toArray, List.getElem_cons_zero, List.getElem_cons_succ]
      rw [if_pos (by rfl)]
      refine wp_load_mid 50 _ (by rfl) w2.heap.size 0 (by rfl) C0 _ (HX3.out.drew.range (.head _)) Tryd.underlying50 (by rfl) HJ0.out ?_
      refine hK.out _ _ hHeld (fun hHeld => ?_)
      clear hK K
      simp only [Act.put, List.setIfInBounds_toArray, List.set_cons_zero, List.set_cons_succ]
      refine wpAnyH_ready (rs := [4]) (by kernel_rfl) (by simp) ?_
      refine AllReadyH.cons rfl (fun K hK => ?_) AllReadyH.nil
      simp only [List.getElem_toArray, List.getElem_cons_zero, List.getElem_cons_succ]
      go_simp
      refine (HWA.out C0 _ HX3.out.drew.below (HX3.out.drew.sts _ (.head _)).2).mono ?_
      rintro e wa ⟨⟨C1, rfl, hC⟩, hb⟩
      have HXA := Lib.hid (HX3.out.drew.keeps hb)
      have HC1 := Lib.hid (hC.base HX3.out.below.size)
      have HJ1 := Lib.hid (info_st (HC1.out.len HI1.out.mem))
      refine hK.out _ _ HXA.out.pcell (fun hHeld => ?_)
      clear hK K hC hb
      refine wpAnyH_take (i := 5) (v := .tuple #[.agg C1.toArray, .int .i64 0]) rfl (by kernel_rfl) (by kernel_rfl) (by kernel_rfl) (fun _ _ _ h => h) (Or.inl ⟨by rfl, ?_⟩) hHeld ?_
      · intro w hSw
        simp only [List.getElem_toArray, List.getElem_cons_zero, List.getElem_cons_succ]
        go_simp
      simp only [Act.put, List.getElem_toArray, List.getElem_cons_zero, List.getElem_cons_succ, List.setIfInBounds_toArray, List.set_cons_zero, List.set_cons_succ]
      refine wpAnyH_take (i := 6) (v := .agg C1.toArray) rfl (by kernel_rfl) (by kernel_rfl) (by kernel_rfl) (fun _ _ _ h => h) (Or.inl ⟨by rfl, ?_⟩) hHeld ?_
      · intro w hSw
        simp only [List.getElem_toArray, List.getElem_cons_zero, List.getElem_cons_succ]
        go_simp
      simp only [Act.put, List.getElem_toArray, List.getElem_cons_zero, List.getElem_cons_succ, List.setIfInBounds_toArray, List.set_cons_zero, List.set_cons_succ]
      refine wpAnyH_take (i := 7) (v := .int .i64 0) rfl (by kernel_rfl) (by kernel_rfl) (by kernel_rfl) (fun _ _ _ h => h) (Or.inl ⟨by rfl, ?_⟩) hHeld ?_
      · intro w hSw
        simp only [List.getElem_toArray, List.getElem_cons_zero, List.getElem_cons_succ]
        go_simp
      simp only [Act.put, List.getElem_toArray, List.getElem_cons_zero, List.getElem_cons_succ, List.setIfInBounds_toArray, List.set_cons_zero, List.set_cons_succ]
      refine wpAnyH_ready (rs := [8]) (by kernel_rfl) (by simp) ?_
      refine AllReadyH.cons rfl (fun K hK => ?_) AllReadyH.nil
      simp only [List.getElem_toArray, List.getElem_cons_zero, List.getElem_cons_succ]
      rw [if_pos (by rfl)]
      refine wp_store_mid 50 _ _ (by rfl) w2.heap.size 0 C1.toArray (by rfl) (by rfl) (HXA.out.there (.head _) (by simp [HC1.out.len HI1.out.mem, HLC0.out])) (by simpa using HJ1.out) HC1.out.one ?_
      obtain ⟨wb, hwb⟩ : ∃ wb, wa.setCells w2.heap.size 0 C1.toArray.toList = wb := ⟨_, rfl⟩
      rw [hwb]
      have HXB : Hid (Sx w1 w1.heap.size (.slice A1 p.length cap1) wb ((w2.heap.size, C1, s1) :: [])) := Lib.hid (hwb ▸ HXA.out.put (HXA.out.sts _ (.head _)).1 HLC0.out HBGC0.out HC1.out (HC1.out.len HI1.out.mem) (fun x hx => by simp at hx))
      refine hK.out _ _ HXB.out.pcell (fun hHeld => ?_)
      clear hK K hwb
      refine wpAnyH_ready (rs := [9]) (by kernel_rfl) (by simp) ?_
      refine AllReadyH.cons rfl (fun K hK => ?_) AllReadyH.nil
      simp only [List.getElem_toArray, List.getElem_cons_zero, List.getElem_cons_succ]
      go_simp
      refine hK.out _ _ hHeld (fun hHeld => ?_)
      clear hK K hHeld
      refine wpAnyH_done (by kernel_rfl) ?_ _
      exact ⟨C1, rfl, HXB.out⟩
  case h2 =>
    intro C1 w4 hX
    have HX4 := Lib.hid hX
    have HC1 := Lib.hid (hX.sts _ (.head _)).2
    have HJ1 := Lib.hid (info_st (HC1.out.len HI1.out.mem))
    have pc4 := hX.pcell
    clear hX
    go_wp2_with (refine wpList_load_mid (by rfl) 50 _ (by rfl) w2.heap.size 0 (by rfl) C1 _ (HX4.out.range (.head _)) Tryd.underlying50 (by rfl) HJ1.out ?_)
    refine (HNX.out C1 _ HX4.out.below (HX4.out.sts _ (.head _)).2).mono ?_
    rintro e w5 ⟨⟨C2, rfl, hC2⟩, hb2⟩
    have HX5 := Lib.hid (HX4.out.keeps hb2)
    have HC2 := Lib.hid (hC2.base HX4.out.below.size)
    have HJ2 := Lib.hid (info_st (HC2.out.len HI2.out.mem))
    clear hC2 hb2 pc4
    have pc5 := HX5.out.pcell
    by_cases hst : s1.status = 0
    · obtain ⟨FA, fa, EA, ea, AA, aa, hA⟩ := HC1.out.cin HI1.out.mem (fun f hf => (HI1.out.fr f hf).regs)
      obtain ⟨FB, fb, EB, eb, AB, ab, hB⟩ := HC2.out.cin HI2.out.mem (fun f hf => (HI2.out.fr f hf).regs)
      have g0 := hA.c0
      have g19 := hA.c19
      have k0 := hB.c0
      have k19 := hB.c19
      clear hA hB
      have f0 := HI1.out.fuel0
      have f1 := HI1.out.fuel1
      have hcs := nxt_falls HI1.out hst
      rw [HS2.out] at hcs
      rw [hst] at g0
      obtain ⟨st, hst2⟩ : ∃ x, s2.status = x := ⟨_, rfl⟩
      obtain ⟨fu1, hf1⟩ : ∃ x, s1.fuel = x := ⟨_, rfl⟩
      obtain ⟨fu2, hf2⟩ : ∃ x, s2.fuel = x := ⟨_, rfl⟩
      rw [hst2] at hcs k0
      rw [hf1] at hcs g19 f0 f1
      rw [hf2] at hcs k19
      clear hst2 hf1 hf2
      rcases hcs with ⟨rfl, rfl | rfl | rfl⟩ | ⟨rfl, rfl, rfl⟩ | ⟨rfl, rfl | rfl⟩
      · have hw1 : IntKind.i64.wrap (fu1 - 1) = fu1 - 1 := by rw [IntKind.wrap_i64]; omega
        go_wp2_with (refine wpList_store_mid (by rfl) 50 _ _ (by rfl) w5.heap.size 0 C2.toArray (by rfl) (by rfl) (there_new w5 zeroV _ (by simp [HC2.out.len HI2.out.mem, zeroV_length])) (by simpa using HJ2.out) HC2.out.one ?_; obtain ⟨w6, hw6⟩ : ∃ w6, (w5.alloc (.cells zeroV.toArray 50)).setCells w5.heap.size 0 C2.toArray.toList = w6 := ⟨_, rfl⟩; rw [hw6]; have HX6 : Hid (Sx w1 w1.heap.size (.slice A1 p.length cap1) w6 [(w5.heap.size, C2, s2), (w2.heap.size, C1, s1)]) := Lib.hid (hw6 ▸ HX5.out.add HC2.out HI2.out.mem); have pc6 := HX6.out.pcell; clear hw6; have y0 := (HX6.out.cell (.tail _ (.head _)) 0).trans g0; have y19 := (HX6.out.cell (.tail _ (.head _)) 19).trans g19; have z0 := (HX6.out.cell (.head _) 0).trans k0; have z19 := (HX6.out.cell (.head _) 19).trans k19)
        go_ret
        exact ⟨rfl, HBW.out.trans (HX6.out.below.mono HBW.out.size)⟩
      · have hw1 : IntKind.i64.wrap (fu1 - 1) = fu1 - 1 := by rw [IntKind.wrap_i64]; omega
        go_wp2_with (refine wpList_store_mid (by rfl) 50 _ _ (by rfl) w5.heap.size 0 C2.toArray (by rfl) (by rfl) (there_new w5 zeroV _ (by simp [HC2.out.len HI2.out.mem, zeroV_length])) (by simpa using HJ2.out) HC2.out.one ?_; obtain ⟨w6, hw6⟩ : ∃ w6, (w5.alloc (.cells zeroV.toArray 50)).setCells w5.heap.size 0 C2.toArray.toList = w6 := ⟨_, rfl⟩; rw [hw6]; have HX6 : Hid (Sx w1 w1.heap.size (.slice A1 p.length cap1) w6 [(w5.heap.size, C2, s2), (w2.heap.size, C1, s1)]) := Lib.hid (hw6 ▸ HX5.out.add HC2.out HI2.out.mem); have pc6 := HX6.out.pcell; clear hw6; have y0 := (HX6.out.cell (.tail _ (.head _)) 0).trans g0; have y19 := (HX6.out.cell (.tail _ (.head _)) 19).trans g19; have z0 := (HX6.out.cell (.head _) 0).trans k0; have z19 := (HX6.out.cell (.head _) 19).trans k19)
        go_ret
        exact ⟨rfl, HBW.out.trans (HX6.out.below.mono HBW.out.size)⟩
      · have hw1 : IntKind.i64.wrap (fu1 - 1) = fu1 - 1 := by rw [IntKind.wrap_i64]; omega
        go_wp2_with (refine wpList_store_mid (by rfl) 50 _ _ (by rfl) w5.heap.size 0 C2.toArray (by rfl) (by rfl) (there_new w5 zeroV _ (by simp [HC2.out.len HI2.out.mem, zeroV_length])) (by simpa using HJ2.out) HC2.out.one ?_; obtain ⟨w6, hw6⟩ : ∃ w6, (w5.alloc (.cells zeroV.toArray 50)).setCells w5.heap.size 0 C2.toArray.toList = w6 := ⟨_, rfl⟩; rw [hw6]; have HX6 : Hid (Sx w1 w1.heap.size (.slice A1 p.length cap1) w6 [(w5.heap.size, C2, s2), (w2.heap.size, C1, s1)]) := Lib.hid (hw6 ▸ HX5.out.add HC2.out HI2.out.mem); have pc6 := HX6.out.pcell; clear hw6; have y0 := (HX6.out.cell (.tail _ (.head _)) 0).trans g0; have y19 := (HX6.out.cell (.tail _ (.head _)) 19).trans g19; have z0 := (HX6.out.cell (.head _) 0).trans k0; have z19 := (HX6.out.cell (.head _) 19).trans k19)
        go_ret
        exact ⟨rfl, HBW.out.trans (HX6.out.below.mono HBW.out.size)⟩
      · go_wp2_with (refine wpList_store_mid (by rfl) 50 _ _ (by rfl) w5.heap.size 0 C2.toArray (by rfl) (by rfl) (there_new w5 zeroV _ (by simp [HC2.out.len HI2.out.mem, zeroV_length])) (by simpa using HJ2.out) HC2.out.one ?_; obtain ⟨w6, hw6⟩ : ∃ w6, (w5.alloc (.cells zeroV.toArray 50)).setCells w5.heap.size 0 C2.toArray.toList = w6 := ⟨_, rfl⟩; rw [hw6]; have HX6 : Hid (Sx w1 w1.heap.size (.slice A1 p.length cap1) w6 [(w5.heap.size, C2, s2), (w2.heap.size, C1, s1)]) := Lib.hid (hw6 ▸ HX5.out.add HC2.out HI2.out.mem); have pc6 := HX6.out.pcell; clear hw6; have y0 := (HX6.out.cell (.tail _ (.head _)) 0).trans g0; have y19 := (HX6.out.cell (.tail _ (.head _)) 19).trans g19; have z0 := (HX6.out.cell (.head _) 0).trans k0; have z19 := (HX6.out.cell (.head _) 19).trans k19)
        go_ret
        exact ⟨rfl, HBW.out.trans (HX6.out.below.mono HBW.out.size)⟩
      · go_wp2_with (refine wpList_store_mid (by rfl) 50 _ _ (by rfl) w5.heap.size 0 C2.toArray (by rfl) (by rfl) (there_new w5 zeroV _ (by simp [HC2.out.len HI2.out.mem, zeroV_length])) (by simpa using HJ2.out) HC2.out.one ?_; obtain ⟨w6, hw6⟩ : ∃ w6, (w5.alloc (.cells zeroV.toArray 50)).setCells w5.heap.size 0 C2.toArray.toList = w6 := ⟨_, rfl⟩; rw [hw6]; have HX6 : Hid (Sx w1 w1.heap.size (.slice A1 p.length cap1) w6 [(w5.heap.size, C2, s2), (w2.heap.size, C1, s1)]) := Lib.hid (hw6 ▸ HX5.out.add HC2.out HI2.out.mem); have pc6 := HX6.out.pcell; clear hw6; have y0 := (HX6.out.cell (.tail _ (.head _)) 0).trans g0; have y19 := (HX6.out.cell (.tail _ (.head _)) 19).trans g19; have z0 := (HX6.out.cell (.head _) 0).trans k0; have z19 := (HX6.out.cell (.head _) 19).trans k19)
        go_ret
        exact ⟨rfl, HBW.out.trans (HX6.out.below.mono HBW.out.size)⟩
      · go_wp2_with (refine wpList_store_mid (by rfl) 50 _ _ (by rfl) w5.heap.size 0 C2.toArray (by rfl) (by rfl) (there_new w5 zeroV _ (by simp [HC2.out.len HI2.out.mem, zeroV_length])) (by simpa using HJ2.out) HC2.out.one ?_; obtain ⟨w6, hw6⟩ : ∃ w6, (w5.alloc (.cells zeroV.toArray 50)).setCells w5.heap.size 0 C2.toArray.toList = w6 := ⟨_, rfl⟩; rw [hw6]; have HX6 : Hid (Sx w1 w1.heap.size (.slice A1 p.length cap1) w6 [(w5.heap.size, C2, s2), (w2.heap.size, C1, s1)]) := Lib.hid (hw6 ▸ HX5.out.add HC2.out HI2.out.mem); have pc6 := HX6.out.pcell; clear hw6; have y0 := (HX6.out.cell (.tail _ (.head _)) 0).trans g0; have y19 := (HX6.out.cell (.tail _ (.head _)) 19).trans g19; have z0 := (HX6.out.cell (.head _) 0).trans k0; have z19 := (HX6.out.cell (.head _) 19).trans k19)
        go_ret
        exact ⟨rfl, HBW.out.trans (HX6.out.below.mono HBW.out.size)⟩
    · have h21 : s2 = s1 := by rw [← HS2.out, nxt_stop hst]
      subst h21
      obtain ⟨FA, fa, EA, ea, AA, aa, hA⟩ := HC1.out.cin HI1.out.mem (fun f hf => (HI1.out.fr f hf).regs)
      have g0 := hA.c0
      clear hA
      obtain ⟨st, hst2⟩ : ∃ x, s2.status = x := ⟨_, rfl⟩
      rw [hst2] at g0 hst
      have hq : (st == 0) = false := by simpa using hst
      clear hst2 hst
      go_wp2_with (first | (refine wpList_store_mid (by rfl) 50 _ _ (by rfl) w5.heap.size 0 C2.toArray (by rfl) (by rfl) (there_new w5 zeroV _ (by simp [HC2.out.len HI2.out.mem, zeroV_length])) (by simpa using HJ2.out) HC2.out.one ?_; obtain ⟨w6, hw6⟩ : ∃ w6, (w5.alloc (.cells zeroV.toArray 50)).setCells w5.heap.size 0 C2.toArray.toList = w6 := ⟨_, rfl⟩; rw [hw6]; have HX6 : Hid (Sx w1 w1.heap.size (.slice A1 p.length cap1) w6 [(w5.heap.size, C2, s2), (w2.heap.size, C1, s2)]) := Lib.hid (hw6 ▸ HX5.out.add HC2.out HI2.out.mem); have pc6 := HX6.out.pcell; clear hw6; have y0 := (HX6.out.cell (.tail _ (.head _)) 0).trans g0) | (refine wpList_load_mid (by rfl) 50 _ (by rfl) w2.heap.size 0 (by rfl) C1 _ (HX6.out.range (.tail _ (.head _))) Tryd.underlying50 (by rfl) HJ1.out ?_) | (refine wpList_load_mid (by rfl) 50 _ (by rfl) w5.heap.size 0 (by rfl) C2 _ (HX6.out.range (.head _)) Tryd.underlying50 (by rfl) HJ2.out ?_) | (go_at_call 30; go_must (refine (sameState_any s2 C1 C2 _ HI2.out (HX6.out.sts _ (.tail _ (.head _))).2 (HX6.out.sts _ (.head _)).2).mono ?_; rintro e w10 ⟨rfl, hb10⟩; have HX10 := Lib.hid (HX6.out.keeps hb10); clear hb10)))
      go_ret
      exact ⟨rfl, HBW.out.trans (HX10.out.below.mono HBW.out.size)⟩
end Go.Proofs.YtnbopmlemddakaaDoor
