/-
  The walk of RunMore: it returns true.
-/
import Derived.Test.YtnbopmlemddakaaDoorRm0
namespace Go.Proofs.YtnbopmlemddakaaDoor
open Go.RowKit Tier
set_option maxRecDepth 100000 in
set_option maxHeartbeats 8000000 in
theorem runMore_walk (A : Option Addr) (l : List Fnc) (cap : Nat) (a0 a1 : Int) (YA : Option Addr) (ans : List Int) (ycap : Nat) (fuel : Int) (x : Int) (w : World) (ht : Tab w) (hraw : RawsAt w A l) (hln : (l.length : Int) ≤ 9223372036854775807) (hin : InOk w a0 a1 YA ans ycap fuel) (hx : In x) :
    Calls Tryd.prog 5 #[.slice A l.length cap, .agg #[.int .i64 a0, .int .i64 a1, .slice YA ans.length ycap, .int .i64 fuel], .int .i64 x] w fun e w' => e = .returned (.bool true) ∧ Below w.heap.size w w' := by
  have HT := Lib.hid ht
  have HR := Lib.hid hraw
  have HIN := Lib.hid hin
  have hright := mkP_right l
  clear ht hraw hin
  have px := picked_in x 100 (by omega)
  have HKX := Lib.hid (fun (W : World) => picked_any x 100 W hx (by omega) (by omega))
  obtain ⟨k, hk⟩ : ∃ u : Int, pickedI x 100 = u := ⟨_, rfl⟩
  rw [hk] at px HKX
  have pf := picked_in fuel 300 (by omega)
  go_enter Tryd.func5, Tryd.ntmps5
  go_wp2_with fail
  obtain ⟨wi, hwi⟩ : ∃ wi, w.alloc (.cells #[.int .i64 a0, .int .i64 a1, .slice YA ans.length ycap, .int .i64 fuel] 46) = wi := ⟨_, rfl⟩
  have HBI : Hid (Below w.heap.size w wi) := Lib.hid (hwi ▸ (Below.refl _ w).alloc (Nat.le_refl _) _)
  have HIB : Hid (wi.heap[w.heap.size]? = some (.cells #[.int .i64 a0, .int .i64 a1, .slice YA ans.length ycap, .int .i64 fuel] 46 (0, 0))) := Lib.hid (hwi ▸ heap_alloc_new w _)
  rw [hwi]
  refine (program_any A cap l _ (HT.out.keeps HBI.out) hln (HR.out.keeps HBI.out)).mono ?_
  rintro e w1 ⟨⟨A1, cap1, vs, rfl, hpv⟩, hb1⟩
  have HP := Lib.hid hpv.at
  have HBW := Lib.hid (HBI.out.trans (hb1.mono HBI.out.size))
  have HT1 := Lib.hid (HT.out.keeps HBW.out)
  have hib := (hb1.block _ (block_lt HIB.out)).trans HIB.out
  have i0 := (cell_block hib 0).trans rfl
  have i1 := (cell_block hib 1).trans rfl
  have i2 := (cell_block hib 2).trans rfl
  have i3 := (cell_block hib 3).trans rfl
  have zi := block_lt hib
  clear hpv hb1 hwi HBI HIB hib vs
  generalize mkP l = p at *
  have hp := right_of hright
  have HG := Lib.hid (hright)
  have HRP := Lib.hid hp
  have HBG := Lib.hid (fun (W : World) (hb : Below w1.heap.size w1 W) => kbegin_any hright a0 a1 fuel ans YA ycap A1 cap1 W (HT1.out.keeps hb) (HP.out.keeps hb) ((HIN.out.row.keeps HBW.out).keeps hb) HIN.out.len HIN.out.cap HIN.out.fuel)
  have hi0 := inSt_inv hp a0 a1 ans fuel
  obtain ⟨s0, hs0⟩ : ∃ s0, inSt p a0 a1 ans fuel = s0 := ⟨_, rfl⟩
  have he0 : s0.events = [] := by rw [← hs0]; rfl
  have hst0 : s0.status = 0 := by rw [← hs0]; rfl
  have hf0 : s0.fuel = pickedI fuel 300 := by rw [← hs0]; rfl
  rw [hs0] at HBG hi0
  obtain ⟨f, hf⟩ : ∃ f : Nat, s0.fuel = f := ⟨s0.fuel.toNat, by have := hi0.fuel0; omega⟩
  have hf3 : (f : Int) < 300 := by omega
  have hft : s0.fuel.toNat = f := by omega
  have hit := addF_inv hi0 px.1 (by omega) he0
  obtain ⟨t0, ht0⟩ : ∃ t, addF s0 k = t := ⟨_, rfl⟩
  have htf : t0.fuel = f + k := by rw [← ht0, ← hf]; rfl
  obtain ⟨T, hT⟩ : ∃ T, (f : Int) + k = T := ⟨_, rfl⟩
  have hwT : IntKind.i64.wrap ((f : Int) + k) = T := by rw [IntKind.wrap_i64]; omega
  have hwK : IntKind.i64.wrap (T - (f : Int)) = k := by rw [IntKind.wrap_i64]; omega
  obtain ⟨s1, hs1⟩ : ∃ s1, walkSt p 400 s0 = s1 := ⟨_, rfl⟩
  obtain ⟨s2, hs2⟩ : ∃ s2, walkSt p f t0 = s2 := ⟨_, rfl⟩
  obtain ⟨s3, hs3⟩ : ∃ s3, walkSt p 500 t0 = s3 := ⟨_, rfl⟩
  have hcase : (s1.status ≠ 2 ∧ s3 = addF s1 k) ∨ (s1.status = 2 ∧ s2 = { s1 with status := 0, fuel := k }) := by
    by_cases h2 : s1.status = 2
    · right
      refine ⟨h2, ?_⟩
      have := more_empty hp px.1 400 hi0 hst0 (by omega) (by rw [hs1]; exact h2)
      rw [hft, hs1, ht0, hs2] at this
      exact this.2
    · left
      refine ⟨h2, ?_⟩
      have h3 := more_same hp px.1 400 hi0 (by omega) (by rw [hs1]; exact h2)
      rw [hs1, ht0] at h3
      have h4 := walk_same hp (n := 400) (m := 500) hit (by show s0.fuel + k < _; omega) (by omega)
      rw [ht0] at h4
      rw [← h3, ← hs3, h4]
  have HI0 := Lib.hid hi0
  have HIT : Hid (StInv p t0) := Lib.hid (ht0 ▸ hit)
  have HI1 : Hid (StInv p s1) := Lib.hid (hs1 ▸ hi0.walk hp 400)
  have HI2 : Hid (StInv p s2) := Lib.hid (hs2 ▸ HIT.out.walk hp f)
  have HI3 : Hid (StInv p s3) := Lib.hid (hs3 ▸ HIT.out.walk hp 500)
  have HWA := Lib.hid (fun (C : List Value) (W : World) (hb : Below w1.heap.size w1 W) (hC : CellsSt C W w1.heap.size s0) => swalk_c hright 400 (by omega) (HT1.out.keeps hb) (HP.out.keeps hb) HI0.out hC)
  have HWB := Lib.hid (fun (C : List Value) (W : World) (hb : Below w1.heap.size w1 W) (hC : CellsSt C W w1.heap.size t0) => swalk_c hright f (by omega) (HT1.out.keeps hb) (HP.out.keeps hb) HIT.out hC)
  have HWC := Lib.hid (fun (C : List Value) (W : World) (hb : Below w1.heap.size w1 W) (hC : CellsSt C W w1.heap.size t0) => swalk_c hright 500 (by omega) (HT1.out.keeps hb) (HP.out.keeps hb) HIT.out hC)
  rw [hs1] at HWA
  rw [hs2] at HWB
  rw [hs3] at HWC
  have HT0 := Lib.hid (show ({ s0 with fuel := T } : St) = t0 by rw [← ht0, ← hT, ← hf]; rfl)
  have HTF := Lib.hid (htf.trans hT)
  have HF0 := Lib.hid hf
  clear hs0 hs1 hs2 hs3 hi0 hp hk hx he0 hst0 hf0 hf hft hit ht0 htf hT pf
  clear hright
  go_wp2_with fail
  refine (HBG.out _ ((Below.refl _ w1).alloc (Nat.le_refl _) _)).mono ?_
  rintro e w2 ⟨⟨C0, rfl, hC0⟩, hb2⟩
  have HX2 : Hid (Sx w1 w1.heap.size (.slice A1 p.length cap1) w2 []) := Lib.hid ((Sx.mk ((Below.refl _ w1).alloc (Nat.le_refl _) _) (heap_alloc_new w1 _) (fun x hx => by simp at hx)).keeps hb2)
  have HC0 := Lib.hid (hC0.base (by simp : w1.heap.size ≤ _))
  have HJ0 := Lib.hid (info_st (HC0.out.len HI0.out.mem))
  have hz := zero_st
  clear hC0 hb2 HBG i0 i1 i2 i3 zi
  go_wp2_with (first | (refine wpList_store_mid (by rfl) 50 _ _ (by rfl) w2.heap.size 0 C0.toArray (by rfl) (by rfl) (there_new w2 zeroV _ (by simp [HC0.out.len HI0.out.mem, zeroV_length])) (by simpa using HJ0.out) HC0.out.one ?_; obtain ⟨w3, hw3⟩ : ∃ w3, (w2.alloc (.cells zeroV.toArray 50)).setCells w2.heap.size 0 C0.toArray.toList = w3 := ⟨_, rfl⟩; rw [hw3]; have HX3 : Hid (Sx w1 w1.heap.size (.slice A1 p.length cap1) w3 [(w2.heap.size, C0, s0)]) := Lib.hid (hw3 ▸ HX2.out.add HC0.out HI0.out.mem); have pc3 := HX3.out.pcell; clear hw3) | (refine wpList_load_mid (by rfl) 50 _ (by rfl) w2.heap.size 0 (by rfl) C0 _ (HX3.out.range (.head _)) Tryd.underlying50 (by rfl) HJ0.out ?_) | (refine wpList_store_mid (by rfl) 50 _ _ (by rfl) w3.heap.size 0 C0.toArray (by rfl) (by rfl) (there_new w3 zeroV _ (by simp [HC0.out.len HI0.out.mem, zeroV_length])) (by simpa using HJ0.out) HC0.out.one ?_; obtain ⟨w4, hw4⟩ : ∃ w4, (w3.alloc (.cells zeroV.toArray 50)).setCells w3.heap.size 0 C0.toArray.toList = w4 := ⟨_, rfl⟩; rw [hw4]; have HX4 : Hid (Sx w1 w1.heap.size (.slice A1 p.length cap1) w4 [(w3.heap.size, C0, s0), (w2.heap.size, C0, s0)]) := Lib.hid (hw4 ▸ HX3.out.add (HX3.out.sts _ (.head _)).2 HI0.out.mem); clear hw4))
  obtain ⟨FA, fa, EA, ea, AA, aa, hA⟩ := HC0.out.cin HI0.out.mem (fun f hf => (HI0.out.fr f hf).regs)
  have HCF : Hid (C0[19]? = some (.int .i64 (f : Int))) := Lib.hid (by rw [hA.c19, HF0.out])
  have d19 := (HX4.out.cell (.tail _ (.head _)) 19).trans HCF.out
  have t19 := (HX4.out.cell (.head _) 19).trans HCF.out
  have q19 := HX4.out.frozen (.head _) 19
  have zt := HX4.out.lt (.head _)
  have z2 := HX4.out.lt (.tail _ (.head _))
  have HN23 : Hid (w2.heap.size ≠ w3.heap.size) := Lib.hid (by have := HX3.out.lt (.head _); omega)
  have hn23 := HN23.out
  clear hA pc3
  refine wp_region_held_drew (S := fun w' => w'.cell? ⟨w2.heap.size, 19, none⟩ = some (.int .i64 (f : Int))) (by kernel_rfl) d19 (fun hHeld => ?_)
  refine wpAnyH_take (i := 0) (v := .pointer (some ⟨w2.heap.size, 19, none⟩)) rfl (by kernel_rfl) (by kernel_rfl) (by kernel_rfl) (fun _ _ _ h => h) (Or.inl ⟨by rfl, ?_⟩) hHeld ?_
  · intro w hSw
    simp only [List.getElem_toArray, List.getElem_cons_zero]
    go_simp
  simp only [Act.put, List.getElem_toArray, List.getElem_cons_zero, List.setIfInBounds_toArray, List.set_cons_zero, List.set_cons_succ]
  refine wpAnyH_take (i := 1) (v := .int .i64 (f : Int)) rfl (by kernel_rfl) (by kernel_rfl) (by kernel_rfl) (fun _ _ _ h => h) (Or.inl ⟨by rfl, ?_⟩) hHeld ?_
  · intro w hSw
    have q0 := hSw
    simp only [List.getElem_toArray, List.getElem_cons_zero, List.getElem_cons_succ]
    go_simp
  simp only [Act.put, List.getElem_toArray, List.getElem_cons_zero, List.getElem_cons_succ, List.setIfInBounds_toArray, List.set_cons_zero, List.set_cons_succ]
  refine wpAnyH_take (i := 2) (v := .int .i64 x) rfl (by kernel_rfl) (by kernel_rfl) (by kernel_rfl) (fun _ _ _ h => h) (Or.inl ⟨by rfl, ?_⟩) hHeld ?_
  · intro w hSw
    simp only [List.getElem_toArray, List.getElem_cons_zero, List.getElem_cons_succ]
    go_simp
  simp only [Act.put, List.getElem_toArray, List.getElem_cons_zero, List.getElem_cons_succ, List.setIfInBounds_toArray, List.set_cons_zero, List.set_cons_succ]
  refine wpAnyH_ready (rs := [3]) (by kernel_rfl) (by simp) ?_
  refine AllReadyH.cons rfl (fun K hK => ?_) AllReadyH.nil
  simp only [List.getElem_toArray, List.getElem_cons_zero, List.getElem_cons_succ]
  go_simp
  refine (HKX.out _).mono ?_
  rintro e w' ⟨rfl, rfl⟩
  refine hK.out _ _ hHeld (fun hHeld => ?_)
  clear hK K
  refine wpAnyH_take (i := 4) (v := .int .i64 T) rfl (by kernel_rfl) (by kernel_rfl) (by kernel_rfl) (fun _ _ _ h => h) (Or.inl ⟨by rfl, ?_⟩) hHeld ?_
  · intro w hSw
    simp only [List.getElem_toArray, List.getElem_cons_zero, List.getElem_cons_succ]
    go_simp
  simp only [Act.put, List.getElem_toArray, List.getElem_cons_zero, List.getElem_cons_succ, List.setIfInBounds_toArray, List.set_cons_zero, List.set_cons_succ]
  refine wpAnyH_take (i := 5) (v := .pointer (some ⟨w3.heap.size, 19, none⟩)) rfl (by kernel_rfl) (by kernel_rfl) (by kernel_rfl) (fun _ _ _ h => h) (Or.inl ⟨by rfl, ?_⟩) hHeld ?_
  · intro w hSw
    simp only [List.getElem_toArray, List.getElem_cons_zero, List.getElem_cons_succ]
    go_simp
  simp only [Act.put, List.getElem_toArray, List.getElem_cons_zero, List.getElem_cons_succ, List.setIfInBounds_toArray, List.set_cons_zero, List.set_cons_succ]
  refine wpAnyH_ready (rs := [6]) (by kernel_rfl) (by simp) ?_
  refine AllReadyH.cons rfl (fun K hK => ?_) AllReadyH.nil
  simp only [List.getElem_toArray, List.getElem_cons_zero, List.getElem_cons_succ]
  go_simp
  obtain ⟨w5, hw5⟩ : ∃ w5, (w4.setCell ⟨w3.heap.size, 19, none⟩ (.int .i64 T)).drew = w5 := ⟨_, rfl⟩
  rw [hw5]
  obtain ⟨CT, hCT⟩ : ∃ CT, C0.set 19 (.int .i64 T) = CT := ⟨_, rfl⟩
  have HX5 : Hid (Sx w1 w1.heap.size (.slice A1 p.length cap1) w5 [(w3.heap.size, CT, t0), (w2.heap.size, C0, s0)]) := Lib.hid (by rw [← hw5]; refine Sx.drew ?_; refine HX4.out.setc (.head _) (by have := HX2.out.below.size; have := HX3.out.lt (.head _); omega) hCT ?_ (fun x hx => ⟨.tail _ hx, by simp at hx; rw [hx]; exact HN23.out⟩); rw [← hCT, ← HT0.out]; exact (HX4.out.sts _ (.head _)).2.fuel HI0.out.mem T)
  have d5 := (HX5.out.cell (.tail _ (.head _)) 19).trans HCF.out
  refine hK.out _ _ d5 (fun hHeld => ?_)
  clear hK K hHeld hw5 hCT d19 t19 q19
  refine wpAnyH_done (by kernel_rfl) ?_ _
  have HCT := Lib.hid (HX5.out.sts _ (.head _)).2
  have HJT := Lib.hid (info_st (HCT.out.len HIT.out.mem))
  have pc5 := HX5.out.pcell
  go_wp2_with (refine wpList_load_mid (by rfl) 50 _ (by rfl) w2.heap.size 0 (by rfl) C0 _ (HX5.out.range (.tail _ (.head _))) Tryd.underlying50 (by rfl) HJ0.out ?_)
  refine (HWA.out C0 _ HX5.out.below (HX5.out.sts _ (.tail _ (.head _))).2).mono ?_
  rintro e w7 ⟨⟨C1, rfl, hC1⟩, hb1⟩
  have HX7 := Lib.hid (HX5.out.keeps hb1)
  have HC1 := Lib.hid (hC1.base HX5.out.below.size)
  have HJ1 := Lib.hid (info_st (HC1.out.len HI1.out.mem))
  clear hC1 hb1 pc5 d5
  have pc7 := HX7.out.pcell
  have e19 := (HX7.out.cell (.tail _ (.head _)) 19).trans HCF.out
  go_wp2_with (first | (refine wpList_store_mid (by rfl) 50 _ _ (by rfl) w7.heap.size 0 C1.toArray (by rfl) (by rfl) (there_new w7 zeroV _ (by simp [HC1.out.len HI1.out.mem, zeroV_length])) (by simpa using HJ1.out) HC1.out.one ?_; obtain ⟨w8, hw8⟩ : ∃ w8, (w7.alloc (.cells zeroV.toArray 50)).setCells w7.heap.size 0 C1.toArray.toList = w8 := ⟨_, rfl⟩; rw [hw8]; have HX8 : Hid (Sx w1 w1.heap.size (.slice A1 p.length cap1) w8 [(w7.heap.size, C1, s1), (w3.heap.size, CT, t0), (w2.heap.size, C0, s0)]) := Lib.hid (hw8 ▸ HX7.out.add HC1.out HI1.out.mem); have pc8 := HX8.out.pcell; clear hw8; have e8 := (HX8.out.cell (.tail _ (.tail _ (.head _))) 19).trans HCF.out; have z8 := HX8.out.lt (.tail _ (.tail _ (.head _)))) | (refine wpList_load_mid (by rfl) 50 _ (by rfl) w3.heap.size 0 (by rfl) CT _ (HX8.out.range (.tail _ (.head _))) Tryd.underlying50 (by rfl) HJT.out ?_))
  refine (HWB.out CT _ HX8.out.below (HX8.out.sts _ (.tail _ (.head _))).2).mono ?_
  rintro e w9 ⟨⟨C2, rfl, hC2⟩, hb2⟩
  have HX9 := Lib.hid (HX8.out.keeps hb2)
  have HC2 := Lib.hid (hC2.base HX8.out.below.size)
  have HJ2 := Lib.hid (info_st (HC2.out.len HI2.out.mem))
  clear hC2 hb2 pc7 e19 pc8 e8 z8
  have pc9 := HX9.out.pcell
  go_wp2_with (first | (refine wpList_store_mid (by rfl) 50 _ _ (by rfl) w9.heap.size 0 C2.toArray (by rfl) (by rfl) (there_new w9 zeroV _ (by simp [HC2.out.len HI2.out.mem, zeroV_length])) (by simpa using HJ2.out) HC2.out.one ?_; obtain ⟨w10, hw10⟩ : ∃ w10, (w9.alloc (.cells zeroV.toArray 50)).setCells w9.heap.size 0 C2.toArray.toList = w10 := ⟨_, rfl⟩; rw [hw10]; have HX10 : Hid (Sx w1 w1.heap.size (.slice A1 p.length cap1) w10 [(w9.heap.size, C2, s2), (w7.heap.size, C1, s1), (w3.heap.size, CT, t0), (w2.heap.size, C0, s0)]) := Lib.hid (hw10 ▸ HX9.out.add HC2.out HI2.out.mem); have pc10 := HX10.out.pcell; clear hw10) | (refine wpList_load_mid (by rfl) 50 _ (by rfl) w3.heap.size 0 (by rfl) CT _ (HX10.out.range (.tail _ (.tail _ (.head _)))) Tryd.underlying50 (by rfl) HJT.out ?_))
  refine (HWC.out CT _ HX10.out.below (HX10.out.sts _ (.tail _ (.tail _ (.head _)))).2).mono ?_
  rintro e w11 ⟨⟨C3, rfl, hC3⟩, hb3⟩
  have HX11 := Lib.hid (HX10.out.keeps hb3)
  have HC3 := Lib.hid (hC3.base HX10.out.below.size)
  have HJ3 := Lib.hid (info_st (HC3.out.len HI3.out.mem))
  clear hC3 hb3 pc9 pc10
  have pc11 := HX11.out.pcell
  obtain ⟨FA, fa, EA, ea, AA, aa, hA⟩ := HC1.out.cin HI1.out.mem (fun f hf => (HI1.out.fr f hf).regs)
  obtain ⟨FB, fb, EB, eb, AB, ab, hB⟩ := HCT.out.cin HIT.out.mem (fun f hf => (HIT.out.fr f hf).regs)
  have g0 := hA.c0
  have g19 := hA.c19
  have k19 := hB.c19
  rw [HTF.out] at k19
  clear hA hB
  have HO1 : Hid (w2.heap.size ≠ w7.heap.size ∧ w3.heap.size ≠ w7.heap.size ∧ w9.heap.size ≠ w7.heap.size ∧ w11.heap.size ≠ w7.heap.size) := Lib.hid (by
    have a1 := HX7.out.lt (.head _)
    have a2 := HX7.out.lt (.tail _ (.head _))
    have a3 := HX8.out.lt (.head _)
    have a4 := HX9.out.lt (.head _)
    have a5 := HX11.out.lt (.tail _ (.head _))
    have a6 := HX10.out.lt (.head _)
    have a7 := HX11.out.lt (.head _)
    exact ⟨by omega, by omega, by omega, by omega⟩)
  have HB7 : Hid (w1.heap.size ≤ w7.heap.size) := Lib.hid HX7.out.below.size
  rcases hcase with ⟨hst, h3⟩ | ⟨hst, h2⟩
  · obtain ⟨st, hst'⟩ : ∃ x, s1.status = x := ⟨_, rfl⟩
    rw [hst'] at g0 hst
    have hq : (st == 2) = false := by simpa using hst
    clear hst hst'
    obtain ⟨fu, hfu⟩ : ∃ x, s1.fuel = x := ⟨_, rfl⟩
    have hb0 := HI1.out.fuel0
    have hb1 := HI1.out.fuel1
    rw [hfu] at g19 hb0 hb1
    have HS3 : Hid (({ s1 with fuel := fu + k } : St) = s3) := Lib.hid (by rw [h3, ← hfu]; rfl)
    clear h3 hfu
    obtain ⟨F2, hF2⟩ : ∃ F2, fu + k = F2 := ⟨_, rfl⟩
    rw [hF2] at HS3
    have hwF : IntKind.i64.wrap (fu + k) = F2 := by rw [IntKind.wrap_i64]; omega
    clear hF2
    obtain ⟨CF, hCF⟩ : ∃ CF, C1.set 19 (.int .i64 F2) = CF := ⟨_, rfl⟩
    have HCF2 := Lib.hid hCF
    go_wp2_with (first | (refine wpList_store_mid (by rfl) 50 _ _ (by rfl) w11.heap.size 0 C3.toArray (by rfl) (by rfl) (there_new w11 zeroV _ (by simp [HC3.out.len HI3.out.mem, zeroV_length])) (by simpa using HJ3.out) HC3.out.one ?_; obtain ⟨w12, hw12⟩ : ∃ w12, (w11.alloc (.cells zeroV.toArray 50)).setCells w11.heap.size 0 C3.toArray.toList = w12 := ⟨_, rfl⟩; rw [hw12]; have HX12 : Hid (Sx w1 w1.heap.size (.slice A1 p.length cap1) w12 [(w11.heap.size, C3, s3), (w9.heap.size, C2, s2), (w7.heap.size, C1, s1), (w3.heap.size, CT, t0), (w2.heap.size, C0, s0)]) := Lib.hid (hw12 ▸ HX11.out.add HC3.out HI3.out.mem); have pc12 := HX12.out.pcell; clear hw12; have y0 := (HX12.out.cell (.tail _ (.tail _ (.head _))) 0).trans g0; have y19 := (HX12.out.cell (.tail _ (.tail _ (.head _))) 19).trans g19; have yT := (HX12.out.cell (.tail _ (.tail _ (.tail _ (.head _)))) 19).trans k19; have yS := (HX12.out.cell (.tail _ (.tail _ (.tail _ (.tail _ (.head _))))) 19).trans HCF.out; have v0 := HX12.out.frozen (.tail _ (.tail _ (.head _))) 0; have v19 := HX12.out.frozen (.tail _ (.tail _ (.head _))) 19; have x1 := HX12.out.lt (.tail _ (.tail _ (.head _))); have x2 := HX12.out.lt (.tail _ (.tail _ (.tail _ (.head _)))); have x3 := HX12.out.lt (.tail _ (.tail _ (.tail _ (.tail _ (.head _))))); clear g0 g19 k19) | (obtain ⟨w13, hw13⟩ : ∃ w13, w12.setCell ⟨w7.heap.size, 19, none⟩ (.int .i64 F2) = w13 := ⟨_, rfl⟩; rw [hw13]; have HX13 : Hid (Sx w1 w1.heap.size (.slice A1 p.length cap1) w13 [(w7.heap.size, CF, s3), (w11.heap.size, C3, s3), (w9.heap.size, C2, s2), (w3.heap.size, CT, t0), (w2.heap.size, C0, s0)]) := Lib.hid (by rw [← hw13]; refine HX12.out.setc (.tail _ (.tail _ (.head _))) HB7.out HCF2.out ?_ (fun x hx => ⟨by simp only [List.mem_cons, List.not_mem_nil, or_false] at hx ⊢; rcases hx with rfl | rfl | rfl | rfl <;> simp, by simp only [List.mem_cons, List.not_mem_nil, or_false] at hx; rcases hx with rfl | rfl | rfl | rfl <;> first | exact HO1.out.2.2.2 | exact HO1.out.2.2.1 | exact HO1.out.2.1 | exact HO1.out.1⟩); rw [← HCF2.out, ← HS3.out]; exact (HX12.out.sts _ (.tail _ (.tail _ (.head _)))).2.fuel HI1.out.mem F2); have HJF := Lib.hid (info_st ((HX13.out.sts _ (.head _)).2.len HI3.out.mem)); clear hw13 y0 y19 yT yS v0 v19) | (refine wpList_load_mid (by rfl) 50 _ (by rfl) w7.heap.size 0 (by rfl) CF _ (HX13.out.range (.head _)) Tryd.underlying50 (by rfl) HJF.out ?_) | (refine wpList_load_mid (by rfl) 50 _ (by rfl) w11.heap.size 0 (by rfl) C3 _ (HX13.out.range (.tail _ (.head _))) Tryd.underlying50 (by rfl) HJ3.out ?_) | (go_at_call 30; go_must (refine (sameState_any s3 CF C3 _ HI3.out (HX13.out.sts _ (.head _)).2 (HX13.out.sts _ (.tail _ (.head _))).2).mono ?_; rintro e w14 ⟨rfl, hb14⟩; have HX14 := Lib.hid (HX13.out.keeps hb14); clear hb14)))
    go_ret
    exact ⟨rfl, HBW.out.trans (HX14.out.below.mono HBW.out.size)⟩
  · rw [hst] at g0
    obtain ⟨CF, hCF⟩ : ∃ CF, (C1.set 0 (.int .i64 0)).set 19 (.int .i64 k) = CF := ⟨_, rfl⟩
    have HCF2 := Lib.hid hCF
    have HS2 := Lib.hid h2.symm
    clear hst h2
    have HK19 := Lib.hid k19
    have HG19 := Lib.hid g19
    go_wp2_with (first | (refine wpList_store_mid (by rfl) 50 _ _ (by rfl) w11.heap.size 0 C3.toArray (by rfl) (by rfl) (there_new w11 zeroV _ (by simp [HC3.out.len HI3.out.mem, zeroV_length])) (by simpa using HJ3.out) HC3.out.one ?_; obtain ⟨w12, hw12⟩ : ∃ w12, (w11.alloc (.cells zeroV.toArray 50)).setCells w11.heap.size 0 C3.toArray.toList = w12 := ⟨_, rfl⟩; rw [hw12]; have HX12 : Hid (Sx w1 w1.heap.size (.slice A1 p.length cap1) w12 [(w11.heap.size, C3, s3), (w9.heap.size, C2, s2), (w7.heap.size, C1, s1), (w3.heap.size, CT, t0), (w2.heap.size, C0, s0)]) := Lib.hid (hw12 ▸ HX11.out.add HC3.out HI3.out.mem); have pc12 := HX12.out.pcell; clear hw12; have y0 := (HX12.out.cell (.tail _ (.tail _ (.head _))) 0).trans g0; have y19 := (HX12.out.cell (.tail _ (.tail _ (.head _))) 19).trans g19; have yT := (HX12.out.cell (.tail _ (.tail _ (.tail _ (.head _)))) 19).trans k19; have yS := (HX12.out.cell (.tail _ (.tail _ (.tail _ (.tail _ (.head _))))) 19).trans HCF.out; have v0 := HX12.out.frozen (.tail _ (.tail _ (.head _))) 0; have v19 := HX12.out.frozen (.tail _ (.tail _ (.head _))) 19; have x1 := HX12.out.lt (.tail _ (.tail _ (.head _))); have x2 := HX12.out.lt (.tail _ (.tail _ (.tail _ (.head _)))); have x3 := HX12.out.lt (.tail _ (.tail _ (.tail _ (.tail _ (.head _))))); clear g0 g19 k19) | (obtain ⟨w14, hw14⟩ : ∃ w14, w13.setCell ⟨w7.heap.size, 19, none⟩ (.int .i64 k) = w14 := ⟨_, rfl⟩; rw [hw14]; have HX14 : Hid (Sx w1 w1.heap.size (.slice A1 p.length cap1) w14 [(w7.heap.size, CF, s2), (w11.heap.size, C3, s3), (w9.heap.size, C2, s2), (w3.heap.size, CT, t0), (w2.heap.size, C0, s0)]) := Lib.hid (by rw [← hw14]; refine HX13.out.setc (.head _) HB7.out HCF2.out ?_ (fun x hx => ⟨.tail _ hx, by simp only [List.mem_cons, List.not_mem_nil, or_false] at hx; rcases hx with rfl | rfl | rfl | rfl <;> first | exact HO1.out.2.2.2 | exact HO1.out.2.2.1 | exact HO1.out.2.1 | exact HO1.out.1⟩); rw [← HCF2.out, ← HS2.out]; exact (HX13.out.sts _ (.head _)).2.fuel HI1.out.mem k); have HJF := Lib.hid (info_st ((HX14.out.sts _ (.head _)).2.len HI2.out.mem)); clear hw14 a19 aT aS a9) | (obtain ⟨w13, hw13⟩ : ∃ w13, w12.setCell ⟨w7.heap.size, 0, none⟩ (.int .i64 0) = w13 := ⟨_, rfl⟩; rw [hw13]; have HX13 : Hid (Sx w1 w1.heap.size (.slice A1 p.length cap1) w13 [(w7.heap.size, C1.set 0 (.int .i64 0), { s1 with status := 0 }), (w11.heap.size, C3, s3), (w9.heap.size, C2, s2), (w3.heap.size, CT, t0), (w2.heap.size, C0, s0)]) := Lib.hid (by rw [← hw13]; refine HX12.out.setc (.tail _ (.tail _ (.head _))) HB7.out rfl ?_ (fun x hx => ⟨by simp only [List.mem_cons, List.not_mem_nil, or_false] at hx ⊢; rcases hx with rfl | rfl | rfl | rfl <;> simp, by simp only [List.mem_cons, List.not_mem_nil, or_false] at hx; rcases hx with rfl | rfl | rfl | rfl <;> first | exact HO1.out.2.2.2 | exact HO1.out.2.2.1 | exact HO1.out.2.1 | exact HO1.out.1⟩); exact (HX12.out.sts _ (.tail _ (.tail _ (.head _)))).2.status 0); have a19 : w13.cell? ⟨w7.heap.size, 19, none⟩ = some (.int .i64 s1.fuel) := ((HX13.out.cell (.head _) 19).trans (by rw [List.getElem?_set_ne (by omega)]; exact HG19.out)); have aT := (HX13.out.cell (.tail _ (.tail _ (.tail _ (.head _)))) 19).trans (HK19.out); have aS := (HX13.out.cell (.tail _ (.tail _ (.tail _ (.tail _ (.head _))))) 19).trans HCF.out; have a9 := HX13.out.frozen (.head _) 19; clear hw13 y0 y19 yT yS v0 v19) | (refine wpList_load_mid (by rfl) 50 _ (by rfl) w7.heap.size 0 (by rfl) CF _ (HX14.out.range (.head _)) Tryd.underlying50 (by rfl) HJF.out ?_) | (refine wpList_load_mid (by rfl) 50 _ (by rfl) w9.heap.size 0 (by rfl) C2 _ (HX14.out.range (.tail _ (.tail _ (.head _)))) Tryd.underlying50 (by rfl) HJ2.out ?_) | (go_at_call 30; go_must (refine (sameState_any s2 CF C2 _ HI2.out (HX14.out.sts _ (.head _)).2 (HX14.out.sts _ (.tail _ (.tail _ (.head _)))).2).mono ?_; rintro e w15 ⟨rfl, hb15⟩; have HX15 := Lib.hid (HX14.out.keeps hb15); clear hb15)))
    go_ret
    exact ⟨rfl, HBW.out.trans (HX15.out.below.mono HBW.out.size)⟩
end Go.Proofs.YtnbopmlemddakaaDoor
