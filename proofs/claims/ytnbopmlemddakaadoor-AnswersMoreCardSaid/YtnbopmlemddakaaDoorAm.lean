/-
  The walk of AnswersMore: it returns true.
-/
import Derived.Test.YtnbopmlemddakaaDoorOpI
namespace Go.Proofs.YtnbopmlemddakaaDoor
open Go.RowKit Tier
set_option maxRecDepth 100000 in
set_option maxHeartbeats 8000000 in
theorem answersMore_walk (A : Option Addr) (l : List Fnc) (cap : Nat) (a0 a1 : Int) (YA : Option Addr) (ans : List Int) (ycap : Nat) (fuel : Int) (MA : Option Addr) (mo : List Int) (mcap : Nat) (w : World) (ht : Tab w) (hraw : RawsAt w A l) (hln : (l.length : Int) ≤ 9223372036854775807) (hin : InOk w a0 a1 YA ans ycap fuel) (hmr : IntRow w MA mo) (hml : (mo.length : Int) ≤ 9223372036854775807 ∧ mo.length ≤ mcap) :
    Calls Tryd.prog 9 #[.slice A l.length cap, .agg #[.int .i64 a0, .int .i64 a1, .slice YA ans.length ycap, .int .i64 fuel], .slice MA mo.length mcap] w fun e w' => e = .returned (.bool true) ∧ Below w.heap.size w w' := by
  have HT := Lib.hid ht
  have HR := Lib.hid hraw
  have HIN := Lib.hid hin
  have hright := mkP_right l
  clear ht hraw hin
  have HMR := Lib.hid (ints_of_row hmr)
  have hkb := List.length_take (i := 10) (l := mo)
  have hml1 := hml.1
  have hml2 := hml.2
  clear hmr hml
  go_enter Tryd.func9, Tryd.ntmps9
  go_wp2_with fail
  obtain ⟨wi, hwi⟩ : ∃ wi, w.alloc (.cells #[.int .i64 a0, .int .i64 a1, .slice YA ans.length ycap, .int .i64 fuel] 46) = wi := ⟨_, rfl⟩
  have HBI : Hid (Below w.heap.size w wi) := Lib.hid (hwi ▸ (Below.refl _ w).alloc (Nat.le_refl _) _)
  have HIB : Hid (wi.heap[w.heap.size]? = some (.cells #[.int .i64 a0, .int .i64 a1, .slice YA ans.length ycap, .int .i64 fuel] 46 (0, 0))) := Lib.hid (hwi ▸ heap_alloc_new w _)
  rw [hwi]
  refine (program_any A cap l _ (HT.out.keeps HBI.out) hln (HR.out.keeps HBI.out)).mono ?_
  rintro e w1 ⟨⟨A1, cap1, vs, rfl, hpv⟩, hb1⟩
  have HP := Lib.hid hpv.at
  have HBW := Lib.hid (HBI.out.trans (hb1.mono HBI.out.size))
  have HT1 := Lib.hid (HT.out.keeps HBW.out)
  have hib := (hb1.block _ (block_lt HIB.out)).trans HIB.out
  have HIB1 := Lib.hid hib
  have i0 := (cell_block hib 0).trans rfl
  have i1 := (cell_block hib 1).trans rfl
  have i2 := (cell_block hib 2).trans rfl
  have i3 := (cell_block hib 3).trans rfl
  have zi := block_lt hib
  clear hpv hb1 hwi HBI HIB hib vs
  generalize mkP l = p at *
  have hp := right_of hright
  have HG := Lib.hid (hright)
  have HRP := Lib.hid hp
  have HBG := Lib.hid (fun (W : World) (hb : Below w1.heap.size w1 W) => kbegin_any hright a0 a1 fuel ans YA ycap A1 cap1 W (HT1.out.keeps hb) (HP.out.keeps hb) ((HIN.out.row.keeps HBW.out).keeps hb) HIN.out.len HIN.out.cap HIN.out.fuel)
  have hi0 := inSt_inv hp a0 a1 ans fuel
  obtain ⟨g0, hg0, hgz, hc00⟩ := params_cell hp HP.out a0 a1
  have HA1 := Lib.hid hg0
  have HGZ := Lib.hid hgz
  have HC00 := Lib.hid (fun (W : World) (hb : Below w1.heap.size w1 W) => (hb.cell (p := ⟨g0, 0, none⟩) hgz).trans hc00)
  have HKF := Lib.hid (fun (W : World) => picked_any fuel 300 W HIN.out.fuel (by omega) (by omega))
  have HRN := Lib.hid (fun (W : World) (hb : Below w1.heap.size w1 W) => srun_k hright a0 a1 fuel ans YA ycap A1 cap1 W (HT1.out.keeps hb) (HP.out.keeps hb) ((hb.block _ (block_lt HIB1.out)).trans HIB1.out) ((HIN.out.row.keeps HBW.out).keeps hb))
  have hl1 := hp.ok.l1
  have hm2 : (inArgs p a0 a1).length ≤ 2 := by unfold inArgs; simp; omega
  have hka := List.length_take (i := 10) (l := ans)
  have hcy := HIN.out.cap
  have hly := HIN.out.len
  obtain ⟨m, hm⟩ : ∃ m, (inArgs p a0 a1).length = m := ⟨_, rfl⟩
  obtain ⟨ka, hk⟩ : ∃ k, (ans.take 10).length = k := ⟨_, rfl⟩
  obtain ⟨q, hq⟩ : ∃ q, pickedI fuel 300 = q := ⟨_, rfl⟩
  have HQ := Lib.hid hq
  have HML := Lib.hid hm
  have HKA := Lib.hid hk
  rw [hm] at HC00 HRN hm2
  rw [hk] at HRN hka
  rw [hq] at HRN HKF
  rw [HA1.out] at HRN
  have hN0 : 0 < p.length := by omega
  have hm3 : (m : Int) ≤ 2 := by omega
  have hm0 : (0 : Int) ≤ m := by omega
  have hkm : min (ans.length : Int) 10 = ka := by omega
  have hk0 : (0 : Int) ≤ ka := by omega
  have hk3 : (ka : Int) ≤ ycap := by omega
  clear hg0 hgz hc00 hm hk hq hl1 hka hcy hly
  obtain ⟨s0, hs0⟩ : ∃ s0, inSt p a0 a1 ans fuel = s0 := ⟨_, rfl⟩
  have hf0 : s0.fuel = q := by rw [← hs0, ← HQ.out]; rfl
  have ha0 : s0.answers = ans.take 10 := by rw [← hs0]; rfl
  have he0 : s0.events = [] := by rw [← hs0]; rfl
  have pq := picked_in fuel 300 (by omega)
  rw [HQ.out] at pq
  obtain ⟨kb, hkb'⟩ : ∃ k, (mo.take 10).length = k := ⟨_, rfl⟩
  have hmore := inSt_more (p := p) a0 a1 ans fuel (mo.take 10)
  rw [hs0, HQ.out] at hmore
  have hal : (inArgs p a0 a1).length = m := HML.out
  have hla := inArgs_len hp a0 a1
  have HRM := Lib.hid (fun (W : World) (hb : Below w1.heap.size w1 W) (YB : Option Addr) (yc : Nat) (hy : IntsAt W YB (ans.take 10 ++ mo.take 10)) => srun_any hright (inArgs p a0 a1) (ans.take 10 ++ mo.take 10) (some ⟨w.heap.size, 0, none⟩) 2 YB yc q A1 cap1 W (HT1.out.keeps hb) (HP.out.keeps hb) (args_at p ((hb.block _ (block_lt HIB1.out)).trans HIB1.out)) hla hy (by simp; omega) pq.1 (by omega))
  rw [hmore] at HRM
  rw [hs0] at HRN hi0
  have hea := (List.length_append : (ans.take 10 ++ mo.take 10).length = _)
  rw [HKA.out, hkb'] at hea
  rw [hea, hal, HA1.out] at HRM
  obtain ⟨s1, hs1⟩ : ∃ s1, walkSt p 10001 s0 = s1 := ⟨_, rfl⟩
  obtain ⟨s2, hs2⟩ : ∃ s2, walkSt p 10001 (addA s0 (mo.take 10)) = s2 := ⟨_, rfl⟩
  have HIR : Hid (StInv p s1) := Lib.hid (hs1 ▸ hi0.walk hp 10001)
  have hgl := grew_len (hs1 ▸ walk_grew 10001 s0 : Grew s0 s1) he0
  have hmo : s1.events.length ≤ ka → s2 = addA s1 (mo.take 10) ∧ s1.events.length + s1.answers.length = ka := fun h => by
    have := more_answers hp (mo.take 10) ka 10001 hi0 (by rw [ha0, he0, HKA.out]; simp) (by rw [hs1]; exact h)
    rw [hs1, hs2] at this
    exact this
  have hend : s1.status ≠ 0 := by rw [← hs1]; exact walk_ends hp 10001 hi0 (by omega)
  have HMO := Lib.hid hmo
  have HEND := Lib.hid hend
  have HGL : Hid (s1.answers.length = ka - s1.events.length) := Lib.hid (by rw [hgl, ha0, HKA.out])
  have HKB := Lib.hid hkb'
  have HKAL := Lib.hid HKA.out
  rw [hs1] at HRN
  rw [hs2] at HRM
  have HADI : Hid (s2 = addA s1 (mo.take 10) → StInv p s2) := Lib.hid (fun h => by
    have h1 := HIR.out
    refine ⟨by rw [h]; exact h1.mem, by rw [h]; exact h1.fuel0, by rw [h]; exact h1.fuel1, by rw [h]; exact h1.stat0, by rw [h]; exact h1.stat1, by rw [h]; exact h1.val, by rw [h]; exact h1.done, by rw [h]; exact h1.deep, ?_, by rw [h]; exact h1.ev, by rw [h]; exact h1.fr, by rw [h]; exact h1.calls⟩
    rw [h]
    have e := HGL.out
    have e2 : (addA s1 (mo.take 10)).answers = s1.answers ++ mo.take 10 := rfl
    rw [e2, List.length_append, hkb']
    omega)
  rw [hkb'] at hkb
  have hkmb : min (mo.length : Int) 10 = kb := by omega
  have hkb0 : (0 : Int) ≤ kb := by omega
  have hkb3 : (kb : Int) ≤ mcap := by omega
  have hkb4 : kb ≤ 10 := by omega
  have hka4 : ka ≤ 10 := by have := HKA.out; rw [List.length_take] at this; omega
  have HBG := HT1
  clear hs0 hs1 hs2 hi0 hp hf0 pq ha0 he0 hgl hmo hend hkb hkb' hmore hal hla hea hml1 hml2
  clear hright
  have hz := zero_st
  go_wp2_with fail
  obtain ⟨w2, hw2⟩ : ∃ w2, w1.alloc (.cells #[(.slice A1 p.length cap1)] 25) = w2 := ⟨_, rfl⟩
  rw [hw2]
  have HX2 : Hid (Sx w1 w1.heap.size (.slice A1 p.length cap1) w2 []) := Lib.hid (hw2 ▸ Sx.mk ((Below.refl _ w1).alloc (Nat.le_refl _) _) (heap_alloc_new w1 _) (fun x hx => by simp at hx))
  clear hw2 i0 i1 i2 i3 zi
  have ep := HX2.out.pcell
  rw [HA1.out] at ep
  have eib := (HX2.out.below.block _ (block_lt HIB1.out)).trans HIB1.out
  have e2 := (cell_block eib 2).trans rfl
  have e3 := (cell_block eib 3).trans rfl
  have e0 := HC00.out _ HX2.out.below
  have z0 := block_lt HX2.out.pblk
  have z1 := block_lt eib
  have z2 := HX2.out.below.size
  have HGZ3 := Lib.hid (Nat.lt_of_lt_of_le HGZ.out z2)
  have KS := Lib.hid (fun (w' : World) (hb : Below w2.heap.size w2 w') => (⟨(hb.cell (p := ⟨w1.heap.size, 0, none⟩) z0).trans ep, (hb.cell (p := ⟨g0, 0, none⟩) HGZ3.out).trans e0, (hb.cell (p := ⟨w.heap.size, 2, none⟩) z1).trans e2, (hb.cell (p := ⟨w.heap.size, 3, none⟩) z1).trans e3⟩ : w'.cell? ⟨w1.heap.size, 0, none⟩ = some (.slice (some ⟨g0, 0, none⟩) p.length cap1) ∧ w'.cell? ⟨g0, 0, none⟩ = some (.int .i64 (m : Int)) ∧ w'.cell? ⟨w.heap.size, 2, none⟩ = some (.slice YA ans.length ycap) ∧ w'.cell? ⟨w.heap.size, 3, none⟩ = some (.int .i64 fuel)))
  clear ep eib e2 e3 e0 z0 z1 z2 HGZ3
  apply region_cut2 (α := Nat) (β := List Value) (R := fun (b' : Nat) (C' : List Value) w' => Sx w1 w1.heap.size (.slice A1 p.length cap1) w' [(b', C', s1)])
  case h1 =>
    refine wp_region_held_drew (S := fun w' => w'.cell? ⟨w1.heap.size, 0, none⟩ = some (.slice (some ⟨g0, 0, none⟩) p.length cap1) ∧ w'.cell? ⟨g0, 0, none⟩ = some (.int .i64 (m : Int)) ∧ w'.cell? ⟨w.heap.size, 2, none⟩ = some (.slice YA ans.length ycap) ∧ w'.cell? ⟨w.heap.size, 3, none⟩ = some (.int .i64 fuel)) (by kernel_rfl) (KS.out _ (Below.refl _ _).drew) (fun hHeld => ?_)
    refine wpAnyH_take (i := 0) (v := .agg #[.slice (some ⟨g0, 0, none⟩) p.length cap1]) rfl (by kernel_rfl) (by kernel_rfl) (by kernel_rfl) (fun _ _ _ h => h) (Or.inl ⟨by rfl, ?_⟩) hHeld ?_
    · intro w hSw
      obtain ⟨q0, q1, q2, q3⟩ := hSw
      simp only [List.getElem_toArray, List.getElem_cons_zero]
      go_simp
    simp only [Act.put, List.getElem_toArray, List.getElem_cons_zero, List.setIfInBounds_toArray, List.set_cons_zero, List.set_cons_succ]
    refine wpAnyH_take (i := 1) (v := .pointer (some ⟨w.heap.size, 0, none⟩)) rfl (by kernel_rfl) (by kernel_rfl) (by kernel_rfl) (fun _ _ _ h => h) (Or.inl ⟨by rfl, ?_⟩) hHeld ?_
    · intro w hSw
      obtain ⟨q0, q1, q2, q3⟩ := hSw
      simp only [List.getElem_toArray, List.getElem_cons_zero, List.getElem_cons_succ]
      go_simp
    simp only [Act.put, List.getElem_toArray, List.getElem_cons_zero, List.getElem_cons_succ, List.setIfInBounds_toArray, List.set_cons_zero, List.set_cons_succ]
    refine wpAnyH_take (i := 2) (v := .pointer (some ⟨w1.heap.size, 0, none⟩)) rfl (by kernel_rfl) (by kernel_rfl) (by kernel_rfl) (fun _ _ _ h => h) (Or.inl ⟨by rfl, ?_⟩) hHeld ?_
    · intro w hSw
      obtain ⟨q0, q1, q2, q3⟩ := hSw
      simp only [List.getElem_toArray, List.getElem_cons_zero, List.getElem_cons_succ]
      go_simp
    simp only [Act.put, List.getElem_toArray, List.getElem_cons_zero, List.getElem_cons_succ, List.setIfInBounds_toArray, List.set_cons_zero, List.set_cons_succ]
    refine wpAnyH_take (i := 3) (v := .slice (some ⟨g0, 0, none⟩) p.length cap1) rfl (by kernel_rfl) (by kernel_rfl) (by kernel_rfl) (fun _ _ _ h => h) (Or.inl ⟨by rfl, ?_⟩) hHeld ?_
    · intro w hSw
      obtain ⟨q0, q1, q2, q3⟩ := hSw
      simp only [List.getElem_toArray, List.getElem_cons_zero, List.getElem_cons_succ]
      go_simp
    simp only [Act.put, List.getElem_toArray, List.getElem_cons_zero, List.getElem_cons_succ, List.setIfInBounds_toArray, List.set_cons_zero, List.set_cons_succ]
    refine wpAnyH_take (i := 4) (v := .pointer (some ⟨g0, 0, none⟩)) rfl (by kernel_rfl) (by kernel_rfl) (by kernel_rfl) (fun _ _ _ h => h) (Or.inl ⟨by rfl, ?_⟩) hHeld ?_
    · intro w hSw
      obtain ⟨q0, q1, q2, q3⟩ := hSw
      simp only [List.getElem_toArray, List.getElem_cons_zero, List.getElem_cons_succ]
      go_simp
    simp only [Act.put, List.getElem_toArray, List.getElem_cons_zero, List.getElem_cons_succ, List.setIfInBounds_toArray, List.set_cons_zero, List.set_cons_succ]
    refine wpAnyH_take (i := 5) (v := .pointer (some ⟨g0, 0, none⟩)) rfl (by kernel_rfl) (by kernel_rfl) (by kernel_rfl) (fun _ _ _ h => h) (Or.inl ⟨by rfl, ?_⟩) hHeld ?_
    · intro w hSw
      obtain ⟨q0, q1, q2, q3⟩ := hSw
      simp only [List.getElem_toArray, List.getElem_cons_zero, List.getElem_cons_succ]
      go_simp
    simp only [Act.put, List.getElem_toArray, List.getElem_cons_zero, List.getElem_cons_succ, List.setIfInBounds_toArray, List.set_cons_zero, List.set_cons_succ]
    refine wpAnyH_take (i := 6) (v := .int .i64 (m : Int)) rfl (by kernel_rfl) (by kernel_rfl) (by kernel_rfl) (fun _ _ _ h => h) (Or.inl ⟨by rfl, ?_⟩) hHeld ?_
    · intro w hSw
      obtain ⟨q0, q1, q2, q3⟩ := hSw
      simp only [List.getElem_toArray, List.getElem_cons_zero, List.getElem_cons_succ]
      go_simp
    simp only [Act.put, List.getElem_toArray, List.getElem_cons_zero, List.getElem_cons_succ, List.setIfInBounds_toArray, List.set_cons_zero, List.set_cons_succ]
    refine wpAnyH_take (i := 7) (v := .slice (some ⟨w.heap.size, 0, none⟩) m 2) rfl (by kernel_rfl) (by kernel_rfl) (by kernel_rfl) (fun _ _ _ h => h) (Or.inl ⟨by rfl, ?_⟩) hHeld ?_
    · intro w hSw
      obtain ⟨q0, q1, q2, q3⟩ := hSw
      simp only [List.getElem_toArray, List.getElem_cons_zero, List.getElem_cons_succ]
      go_simp
    simp only [Act.put, List.getElem_toArray, List.getElem_cons_zero, List.getElem_cons_succ, List.setIfInBounds_toArray, List.set_cons_zero, List.set_cons_succ]
    refine wpAnyH_take (i := 8) (v := .slice YA ka ycap) rfl (by kernel_rfl) (by kernel_rfl) (by kernel_rfl) (fun _ _ _ h => h) (Or.inl ⟨by rfl, ?_⟩) hHeld ?_
    · intro w hSw
      simp only [List.getElem_toArray, List.getElem_cons_zero, List.getElem_cons_succ]
      go_simp
    simp only [Act.put, List.getElem_toArray, List.getElem_cons_zero, List.getElem_cons_succ, List.setIfInBounds_toArray, List.set_cons_zero, List.set_cons_succ]
    refine wpAnyH_take (i := 9) (v := .pointer (some ⟨w.heap.size, 3, none⟩)) rfl (by kernel_rfl) (by kernel_rfl) (by kernel_rfl) (fun _ _ _ h => h) (Or.inl ⟨by rfl, ?_⟩) hHeld ?_
    · intro w hSw
      obtain ⟨q0, q1, q2, q3⟩ := hSw
      simp only [List.getElem_toArray, List.getElem_cons_zero, List.getElem_cons_succ]
      go_simp
    simp only [Act.put, List.getElem_toArray, List.getElem_cons_zero, List.getElem_cons_succ, List.setIfInBounds_toArray, List.set_cons_zero, List.set_cons_succ]
    refine wpAnyH_take (i := 10) (v := .int .i64 fuel) rfl (by kernel_rfl) (by kernel_rfl) (by kernel_rfl) (fun _ _ _ h => h) (Or.inl ⟨by rfl, ?_⟩) hHeld ?_
    · intro w hSw
      obtain ⟨q0, q1, q2, q3⟩ := hSw
      simp only [List.getElem_toArray, List.getElem_cons_zero, List.getElem_cons_succ]
      go_simp
    simp only [Act.put, List.getElem_toArray, List.getElem_cons_zero, List.getElem_cons_succ, List.setIfInBounds_toArray, List.set_cons_zero, List.set_cons_succ]
    refine wpAnyH_ready (rs := [11, 16]) (by kernel_rfl) (by simp) ?_
    refine AllReadyH.cons rfl (fun K hK => ?_) (AllReadyH.cons rfl (fun K hK => ?_) (AllReadyH.nil))
    · simp only [List.getElem_toArray, List.getElem_cons_zero, List.getElem_cons_succ]
      go_simp
      refine (HKF.out _).mono ?_
      rintro e w' ⟨rfl, rfl⟩
      refine hK.out _ _ hHeld (fun hHeld => ?_)
      clear hK K
      refine wpAnyH_ready (rs := [12, 16]) (by kernel_rfl) (by simp) ?_
      refine AllReadyH.cons rfl (fun K hK => ?_) (AllReadyH.cons rfl (fun K hK => ?_) (AllReadyH.nil))
      · simp only [List.getElem_toArray, List.getElem_cons_zero, List.getElem_cons_succ]
        go_simp
        refine (HRN.out _ (HX2.out.below.trans ((Below.refl w2.heap.size w2).drew.mono HX2.out.below.size))).mono ?_
        rintro e wa ⟨⟨CR, rfl, hC⟩, hb⟩
        have HBa : Hid (Below w2.heap.size w2 wa) := Lib.hid ((Below.refl w2.heap.size w2).drew.trans (hb.mono (Below.refl w2.heap.size w2).drew.size))
        have HCR := Lib.hid (hC.base (HX2.out.below.trans ((Below.refl w2.heap.size w2).drew.mono HX2.out.below.size)).size)
        have HJR := Lib.hid (info_st (HCR.out.len HIR.out.mem))
        refine hK.out _ _ (KS.out _ HBa.out) (fun hHeld => ?_)
        clear hK K hC hb
        refine wpAnyH_take (i := 13) (v := .tuple #[.agg CR.toArray, .int .i64 0]) rfl (by kernel_rfl) (by kernel_rfl) (by kernel_rfl) (fun _ _ _ h => h) (Or.inl ⟨by rfl, ?_⟩) hHeld ?_
        · intro w hSw
          simp only [List.getElem_toArray, List.getElem_cons_zero, List.getElem_cons_succ]
          go_simp
        simp only [Act.put, List.getElem_toArray, List.getElem_cons_zero, List.getElem_cons_succ, List.setIfInBounds_toArray, List.set_cons_zero, List.set_cons_succ]
        refine wpAnyH_take (i := 14) (v := .agg CR.toArray) rfl (by kernel_rfl) (by kernel_rfl) (by kernel_rfl) (fun _ _ _ h => h) (Or.inl ⟨by rfl, ?_⟩) hHeld ?_
        · intro w hSw
          simp only [List.getElem_toArray, List.getElem_cons_zero, List.getElem_cons_succ]
          go_simp
        simp only [Act.put, List.getElem_toArray, List.getElem_cons_zero, List.getElem_cons_succ, List.setIfInBounds_toArray, List.set_cons_zero, List.set_cons_succ]
        refine wpAnyH_take (i := 15) (v := .int .i64 0) rfl (by kernel_rfl) (by kernel_rfl) (by kernel_rfl) (fun _ _ _ h => h) (Or.inl ⟨by rfl, ?_⟩) hHeld ?_
        · intro w hSw
          simp only [List.getElem_toArray, List.getElem_cons_zero, List.getElem_cons_succ]
          go_simp
        simp only [Act.put, List.getElem_toArray, List.getElem_cons_zero, List.getElem_cons_succ, List.setIfInBounds_toArray, List.set_cons_zero, List.set_cons_succ]
        refine wpAnyH_ready (rs := [16]) (by kernel_rfl) (by simp) ?_
        refine AllReadyH.cons rfl (fun K hK => ?_) AllReadyH.nil
        simp only [List.getElem_toArray, List.getElem_cons_zero, List.getElem_cons_succ]
        go_simp
        have HZB : Hid ((wa.alloc (.cells zeroV.toArray 50)).heap[wa.heap.size]? = some (.cells zeroV.toArray 50 (0, 0))) := Lib.hid (heap_alloc_new wa _)
        have HNB : Hid (w1.heap.size ≤ wa.heap.size ∧ w2.heap.size ≤ wa.heap.size ∧ ∀ x ∈ ([] : List (Nat × List Value × St)), x.1 ≠ wa.heap.size) := Lib.hid (by have h1 : w2.heap.size ≤ wa.heap.size := HBa.out.size; have h2 := HX2.out.below.size; exact ⟨by omega, h1, fun x hx => by have := block_lt (HX2.out.sts x hx).1; omega⟩)
        refine hK.out _ _ (KS.out _ (HBa.out.alloc HBa.out.size _)) (fun hHeld => ?_)
        clear hK K
        have HCR := Lib.hid (HCR.out.below ((Below.refl wa.heap.size wa).alloc (Nat.le_refl _) (.cells zeroV.toArray 50)))
        refine wpAnyH_ready (rs := [17]) (by kernel_rfl) (by simp) ?_
        refine AllReadyH.cons rfl (fun K hK => ?_) AllReadyH.nil
        simp only [List.getElem_toArray, List.getElem_cons_zero, List.getElem_cons_succ]
        rw [if_pos (by rfl)]
        refine wp_store_mid 50 _ _ (by rfl) wa.heap.size 0 CR.toArray (by rfl) (by rfl) (there_block HZB.out (by simp [HCR.out.len HIR.out.mem, zeroV_length])) (by simpa using HJR.out) HCR.out.one ?_
        obtain ⟨wb, hwb⟩ : ∃ wb, (wa.alloc (.cells zeroV.toArray 50)).setCells wa.heap.size 0 CR.toArray.toList = wb := ⟨_, rfl⟩
        rw [hwb]
        obtain ⟨br, hbr⟩ : ∃ b, wa.heap.size = b := ⟨_, rfl⟩
        have HXB : Hid (Sx w1 w1.heap.size (.slice A1 p.length cap1) wb [(br, CR, s1)]) := Lib.hid (by rw [← hwb, ← hbr]; exact (HX2.out.keeps (HBa.out.alloc HBa.out.size (.cells zeroV.toArray 50))).put HZB.out zeroV_length HNB.out.1 (HCR.out) (HCR.out.len HIR.out.mem) (fun x hx => ⟨hx, HNB.out.2.2 x hx⟩))
        have HBB : Hid (Below w2.heap.size w2 wb) := Lib.hid (by rw [← hwb]; exact below_setCells HNB.out.2.1 _ _ _ (HBa.out.alloc HBa.out.size (.cells zeroV.toArray 50)))
        rw [hbr]
        refine hK.out _ _ (KS.out _ HBB.out) (fun hHeld => ?_)
        clear hK K hwb
        refine wpAnyH_ready (rs := [18]) (by kernel_rfl) (by simp) ?_
        refine AllReadyH.cons rfl (fun K hK => ?_) AllReadyH.nil
        simp only [List.getElem_toArray, List.getElem_cons_zero, List.getElem_cons_succ]
        go_simp
        refine hK.out _ _ hHeld (fun hHeld => ?_)
        clear hK K
        clear hHeld
        refine wpAnyH_done (by kernel_rfl) ?_ _
        exact ⟨br, CR, rfl, HXB.out⟩
      · simp only [List.getElem_toArray, List.getElem_cons_zero, List.getElem_cons_succ]
        go_simp
        have HZB : Hid ((w2.drew.alloc (.cells zeroV.toArray 50)).heap[w2.heap.size]? = some (.cells zeroV.toArray 50 (0, 0))) := Lib.hid (heap_alloc_new w2.drew _)
        have HNB : Hid (w1.heap.size ≤ w2.heap.size ∧ w2.heap.size ≤ w2.heap.size ∧ ∀ x ∈ ([] : List (Nat × List Value × St)), x.1 ≠ w2.heap.size) := Lib.hid (by have h1 : w2.heap.size ≤ w2.heap.size := (Below.refl w2.heap.size w2).drew.size; have h2 := HX2.out.below.size; exact ⟨by omega, h1, fun x hx => by have := block_lt (HX2.out.sts x hx).1; omega⟩)
        refine hK.out _ _ (KS.out _ ((Below.refl w2.heap.size w2).drew.alloc (Below.refl w2.heap.size w2).drew.size _)) (fun hHeld => ?_)
        clear hK K
        refine wpAnyH_ready (rs := [12]) (by kernel_rfl) (by simp) ?_
        refine AllReadyH.cons rfl (fun K hK => ?_) AllReadyH.nil
        simp only [List.getElem_toArray, List.getElem_cons_zero, List.getElem_cons_succ]
        go_simp
        refine (HRN.out _ (HX2.out.below.trans (((Below.refl w2.heap.size w2).drew.alloc (Below.refl w2.heap.size w2).drew.size (.cells zeroV.toArray 50)).mono HX2.out.below.size))).mono ?_
        rintro e wa ⟨⟨CR, rfl, hC⟩, hb⟩
        have HBa : Hid (Below w2.heap.size w2 wa) := Lib.hid (((Below.refl w2.heap.size w2).drew.alloc (Below.refl w2.heap.size w2).drew.size (.cells zeroV.toArray 50)).trans (hb.mono ((Below.refl w2.heap.size w2).drew.alloc (Below.refl w2.heap.size w2).drew.size (.cells zeroV.toArray 50)).size))
        have HCR := Lib.hid (hC.base (HX2.out.below.trans (((Below.refl w2.heap.size w2).drew.alloc (Below.refl w2.heap.size w2).drew.size (.cells zeroV.toArray 50)).mono HX2.out.below.size)).size)
        have HJR := Lib.hid (info_st (HCR.out.len HIR.out.mem))
        have HZB := Lib.hid ((hb.block _ (block_lt HZB.out)).trans HZB.out)
        refine hK.out _ _ (KS.out _ HBa.out) (fun hHeld => ?_)
        clear hK K hC hb
        refine wpAnyH_take (i := 13) (v := .tuple #[.agg CR.toArray, .int .i64 0]) rfl (by kernel_rfl) (by kernel_rfl) (by kernel_rfl) (fun _ _ _ h => h) (Or.inl ⟨by rfl, ?_⟩) hHeld ?_
        · intro w hSw
          simp only [List.getElem_toArray, List.getElem_cons_zero, List.getElem_cons_succ]
          go_simp
        simp only [Act.put, List.getElem_toArray, List.getElem_cons_zero, List.getElem_cons_succ, List.setIfInBounds_toArray, List.set_cons_zero, List.set_cons_succ]
        refine wpAnyH_take (i := 14) (v := .agg CR.toArray) rfl (by kernel_rfl) (by kernel_rfl) (by kernel_rfl) (fun _ _ _ h => h) (Or.inl ⟨by rfl, ?_⟩) hHeld ?_
        · intro w hSw
          simp only [List.getElem_toArray, List.getElem_cons_zero, List.getElem_cons_succ]
          go_simp
        simp only [Act.put, List.getElem_toArray, List.getElem_cons_zero, List.getElem_cons_succ, List.setIfInBounds_toArray, List.set_cons_zero, List.set_cons_succ]
        refine wpAnyH_take (i := 15) (v := .int .i64 0) rfl (by kernel_rfl) (by kernel_rfl) (by kernel_rfl) (fun _ _ _ h => h) (Or.inl ⟨by rfl, ?_⟩) hHeld ?_
        · intro w hSw
          simp only [List.getElem_toArray, List.getElem_cons_zero, List.getElem_cons_succ]
          go_simp
        simp only [Act.put, List.getElem_toArray, List.getElem_cons_zero, List.getElem_cons_succ, List.setIfInBounds_toArray, List.set_cons_zero, List.set_cons_succ]
        refine wpAnyH_ready (rs := [17]) (by kernel_rfl) (by simp) ?_
        refine AllReadyH.cons rfl (fun K hK => ?_) AllReadyH.nil
        simp only [List.getElem_toArray, List.getElem_cons_zero, List.getElem_cons_succ]
        rw [if_pos (by rfl)]
        refine wp_store_mid 50 _ _ (by rfl) w2.heap.size 0 CR.toArray (by rfl) (by rfl) (there_block HZB.out (by simp [HCR.out.len HIR.out.mem, zeroV_length])) (by simpa using HJR.out) HCR.out.one ?_
        obtain ⟨wb, hwb⟩ : ∃ wb, wa.setCells w2.heap.size 0 CR.toArray.toList = wb := ⟨_, rfl⟩
        rw [hwb]
        obtain ⟨br, hbr⟩ : ∃ b, w2.heap.size = b := ⟨_, rfl⟩
        have HXB : Hid (Sx w1 w1.heap.size (.slice A1 p.length cap1) wb [(br, CR, s1)]) := Lib.hid (by rw [← hwb, ← hbr]; exact (HX2.out.keeps HBa.out).put HZB.out zeroV_length HNB.out.1 (HCR.out) (HCR.out.len HIR.out.mem) (fun x hx => ⟨hx, HNB.out.2.2 x hx⟩))
        have HBB : Hid (Below w2.heap.size w2 wb) := Lib.hid (by rw [← hwb]; exact below_setCells HNB.out.2.1 _ _ _ HBa.out)
        rw [hbr]
        refine hK.out _ _ (KS.out _ HBB.out) (fun hHeld => ?_)
        clear hK K hwb
        refine wpAnyH_ready (rs := [18]) (by kernel_rfl) (by simp) ?_
        refine AllReadyH.cons rfl (fun K hK => ?_) AllReadyH.nil
        simp only [List.getElem_toArray, List.getElem_cons_zero, List.getElem_cons_succ]
        go_simp
        refine hK.out _ _ hHeld (fun hHeld => ?_)
        clear hK K
        clear hHeld
        refine wpAnyH_done (by kernel_rfl) ?_ _
        exact ⟨br, CR, rfl, HXB.out⟩
    · simp only [List.getElem_toArray, List.getElem_cons_zero, List.getElem_cons_succ]
      go_simp
      have HZB : Hid ((w2.drew.alloc (.cells zeroV.toArray 50)).heap[w2.heap.size]? = some (.cells zeroV.toArray 50 (0, 0))) := Lib.hid (heap_alloc_new w2.drew _)
      have HNB : Hid (w1.heap.size ≤ w2.heap.size ∧ w2.heap.size ≤ w2.heap.size ∧ ∀ x ∈ ([] : List (Nat × List Value × St)), x.1 ≠ w2.heap.size) := Lib.hid (by have h1 : w2.heap.size ≤ w2.heap.size := (Below.refl w2.heap.size w2).drew.size; have h2 := HX2.out.below.size; exact ⟨by omega, h1, fun x hx => by have := block_lt (HX2.out.sts x hx).1; omega⟩)
      refine hK.out _ _ (KS.out _ ((Below.refl w2.heap.size w2).drew.alloc (Below.refl w2.heap.size w2).drew.size _)) (fun hHeld => ?_)
      clear hK K
      refine wpAnyH_ready (rs := [11]) (by kernel_rfl) (by simp) ?_
      refine AllReadyH.cons rfl (fun K hK => ?_) AllReadyH.nil
      simp only [List.getElem_toArray, List.getElem_cons_zero, List.getElem_cons_succ]
      go_simp
      refine (HKF.out _).mono ?_
      rintro e w' ⟨rfl, rfl⟩
      refine hK.out _ _ hHeld (fun hHeld => ?_)
      clear hK K
      refine wpAnyH_ready (rs := [12]) (by kernel_rfl) (by simp) ?_
      refine AllReadyH.cons rfl (fun K hK => ?_) AllReadyH.nil
      simp only [List.getElem_toArray, List.getElem_cons_zero, List.getElem_cons_succ]
      go_simp
      refine (HRN.out _ (HX2.out.below.trans (((Below.refl w2.heap.size w2).drew.alloc (Below.refl w2.heap.size w2).drew.size (.cells zeroV.toArray 50)).mono HX2.out.below.size))).mono ?_
      rintro e wa ⟨⟨CR, rfl, hC⟩, hb⟩
      have HBa : Hid (Below w2.heap.size w2 wa) := Lib.hid (((Below.refl w2.heap.size w2).drew.alloc (Below.refl w2.heap.size w2).drew.size (.cells zeroV.toArray 50)).trans (hb.mono ((Below.refl w2.heap.size w2).drew.alloc (Below.refl w2.heap.size w2).drew.size (.cells zeroV.toArray 50)).size))
      have HCR := Lib.hid (hC.base (HX2.out.below.trans (((Below.refl w2.heap.size w2).drew.alloc (Below.refl w2.heap.size w2).drew.size (.cells zeroV.toArray 50)).mono HX2.out.below.size)).size)
      have HJR := Lib.hid (info_st (HCR.out.len HIR.out.mem))
      have HZB := Lib.hid ((hb.block _ (block_lt HZB.out)).trans HZB.out)
      refine hK.out _ _ (KS.out _ HBa.out) (fun hHeld => ?_)
      clear hK K hC hb
      refine wpAnyH_take (i := 13) (v := .tuple #[.agg CR.toArray, .int .i64 0]) rfl (by kernel_rfl) (by kernel_rfl) (by kernel_rfl) (fun _ _ _ h => h) (Or.inl ⟨by rfl, ?_⟩) hHeld ?_
      · intro w hSw
        simp only [List.getElem_toArray, List.getElem_cons_zero, List.getElem_cons_succ]
        go_simp
      simp only [Act.put, List.getElem_toArray, List.getElem_cons_zero, List.getElem_cons_succ, List.setIfInBounds_toArray, List.set_cons_zero, List.set_cons_succ]
      refine wpAnyH_take (i := 14) (v := .agg CR.toArray) rfl (by kernel_rfl) (by kernel_rfl) (by kernel_rfl) (fun _ _ _ h => h) (Or.inl ⟨by rfl, ?_⟩) hHeld ?_
      · intro w hSw
        simp only [List.getElem_toArray, List.getElem_cons_zero, List.getElem_cons_succ]
        go_simp
      simp only [Act.put, List.getElem_toArray, List.getElem_cons_zero, List.getElem_cons_succ, List.setIfInBounds_toArray, List.set_cons_zero, List.set_cons_succ]
      refine wpAnyH_take (i := 15) (v := .int .i64 0) rfl (by kernel_rfl) (by kernel_rfl) (by kernel_rfl) (fun _ _ _ h => h) (Or.inl ⟨by rfl, ?_⟩) hHeld ?_
      · intro w hSw
        simp only [List.getElem_toArray, List.getElem_cons_zero, List.getElem_cons_succ]
        go_simp
      simp only [Act.put, List.getElem_toArray, List.getElem_cons_zero, List.getElem_cons_succ, List.setIfInBounds_toArray, List.set_cons_zero, List.set_cons_succ]
      refine wpAnyH_ready (rs := [17]) (by kernel_rfl) (by simp) ?_
      refine AllReadyH.cons rfl (fun K hK => ?_) AllReadyH.nil
      simp only [List.getElem_toArray, List.getElem_cons_zero, List.getElem_cons_succ]
      rw [if_pos (by rfl)]
      refine wp_store_mid 50 _ _ (by rfl) w2.heap.size 0 CR.toArray (by rfl) (by rfl) (there_block HZB.out (by simp [HCR.out.len HIR.out.mem, zeroV_length])) (by simpa using HJR.out) HCR.out.one ?_
      obtain ⟨wb, hwb⟩ : ∃ wb, wa.setCells w2.heap.size 0 CR.toArray.toList = wb := ⟨_, rfl⟩
      rw [hwb]
      obtain ⟨br, hbr⟩ : ∃ b, w2.heap.size = b := ⟨_, rfl⟩
      have HXB : Hid (Sx w1 w1.heap.size (.slice A1 p.length cap1) wb [(br, CR, s1)]) := Lib.hid (by rw [← hwb, ← hbr]; exact (HX2.out.keeps HBa.out).put HZB.out zeroV_length HNB.out.1 (HCR.out) (HCR.out.len HIR.out.mem) (fun x hx => ⟨hx, HNB.out.2.2 x hx⟩))
      have HBB : Hid (Below w2.heap.size w2 wb) := Lib.hid (by rw [← hwb]; exact below_setCells HNB.out.2.1 _ _ _ HBa.out)
      rw [hbr]
      refine hK.out _ _ (KS.out _ HBB.out) (fun hHeld => ?_)
      clear hK K hwb
      refine wpAnyH_ready (rs := [18]) (by kernel_rfl) (by simp) ?_
      refine AllReadyH.cons rfl (fun K hK => ?_) AllReadyH.nil
      simp only [List.getElem_toArray, List.getElem_cons_zero, List.getElem_cons_succ]
      go_simp
      refine hK.out _ _ hHeld (fun hHeld => ?_)
      clear hK K
      clear hHeld
      refine wpAnyH_done (by kernel_rfl) ?_ _
      exact ⟨br, CR, rfl, HXB.out⟩
  case h2 =>
    intro br CR w4 hX
    have HX4 := Lib.hid hX
    have HCR := Lib.hid (hX.sts _ (.head _)).2
    have HJR := Lib.hid (info_st (HCR.out.len HIR.out.mem))
    obtain ⟨FA, fa, EA, ea, AA, aa, hA⟩ := HX4.out.cin (.head _) HIR.out
    have c5 := (HX4.out.cell (.head _) 20).trans hA.c20
    have c6 := (HX4.out.cell (.head _) 21).trans hA.c21
    have z4 := HX4.out.lt (.head _)
    obtain ⟨ne, hne⟩ : ∃ n, s1.events.length = n := ⟨_, rfl⟩
    obtain ⟨na, hna⟩ : ∃ n, s1.answers.length = n := ⟨_, rfl⟩
    have HNE := Lib.hid hne
    have HNA := Lib.hid hna
    rw [hne] at c5
    rw [hna] at c6
    have hgl := HGL.out
    rw [hna, hne] at hgl
    clear hX hA hne hna
    by_cases hmor : ka < ne
    · have hq1 : (ka : Int) < ne := by omega
      have hq0 : na = 0 := by omega
      rw [hq0] at c6
      clear hgl hq0 hkm hkmb
      go_wp2_with fail
      go_ret
      exact ⟨rfl, HBW.out.trans (HX4.out.below.mono HBW.out.size)⟩
    have hq1 : decide ((ka : Int) < ne) = false := by simp; omega
    obtain ⟨he2, hs2⟩ := HMO.out (by rw [HNE.out]; omega)
    rw [HNE.out, HNA.out] at hs2
    have HI2 := Lib.hid (HADI.out he2)
    have HE2 := Lib.hid he2
    clear he2 hmor hgl
    go_wp2_with fail
    clear c5 c6 z4
    have HMB := Lib.hid (HMR.out.keeps (HBW.out.trans (HX4.out.below.mono HBW.out.size)))
    have HYB := Lib.hid ((HIN.out.row.keeps (HBW.out.trans (HX4.out.below.mono HBW.out.size))).take 10)
    have HMT := Lib.hid (HMB.out.take 10)
    apply region_cut2 (α := Value) (β := Value) (R := fun _ v' w' => w'.ownsRow w4.heap.size 3 1 v' (ka + kb) (intsV (ans.take 10 ++ mo.take 10)) ∧ Below w4.heap.size w4 w')
    case h1 =>
      refine wp_region_held_drew (S := fun _ => True) (by kernel_rfl) trivial (fun hHeld => ?_)
      refine wpAnyH_take (i := 0) (v := .slice YA ka ycap) rfl (by kernel_rfl) (by kernel_rfl) (by kernel_rfl) (fun _ _ _ h => h) (Or.inl ⟨by rfl, ?_⟩) hHeld ?_
      · intro w hSw
        simp only [List.getElem_toArray, List.getElem_cons_zero]
        go_simp
      simp only [Act.put, List.getElem_toArray, List.getElem_cons_zero, List.setIfInBounds_toArray, List.set_cons_zero, List.set_cons_succ]
      refine wpAnyH_take (i := 2) (v := .slice MA mo.length mcap) rfl (by kernel_rfl) (by kernel_rfl) (by kernel_rfl) (fun _ _ _ h => h) (Or.inl ⟨by rfl, ?_⟩) hHeld ?_
      · intro w hSw
        simp only [List.getElem_toArray, List.getElem_cons_zero, List.getElem_cons_succ]
        go_simp
      simp only [Act.put, List.getElem_toArray, List.getElem_cons_zero, List.getElem_cons_succ, List.setIfInBounds_toArray, List.set_cons_zero, List.set_cons_succ]
      refine wpAnyH_take (i := 3) (v := .slice MA mo.length mcap) rfl (by kernel_rfl) (by kernel_rfl) (by kernel_rfl) (fun _ _ _ h => h) (Or.inl ⟨by rfl, ?_⟩) hHeld ?_
      · intro w hSw
        simp only [List.getElem_toArray, List.getElem_cons_zero, List.getElem_cons_succ]
        go_simp
      simp only [Act.put, List.getElem_toArray, List.getElem_cons_zero, List.getElem_cons_succ, List.setIfInBounds_toArray, List.set_cons_zero, List.set_cons_succ]
      refine wpAnyH_take (i := 4) (v := .int .i64 (mo.length : Int)) rfl (by kernel_rfl) (by kernel_rfl) (by kernel_rfl) (fun _ _ _ h => h) (Or.inl ⟨by rfl, ?_⟩) hHeld ?_
      · intro w hSw
        simp only [List.getElem_toArray, List.getElem_cons_zero, List.getElem_cons_succ]
        go_simp
      simp only [Act.put, List.getElem_toArray, List.getElem_cons_zero, List.getElem_cons_succ, List.setIfInBounds_toArray, List.set_cons_zero, List.set_cons_succ]
      refine wpAnyH_take (i := 5) (v := .int .i64 (kb : Int)) rfl (by kernel_rfl) (by kernel_rfl) (by kernel_rfl) (fun _ _ _ h => h) (Or.inl ⟨by rfl, ?_⟩) hHeld ?_
      · intro w hSw
        simp only [List.getElem_toArray, List.getElem_cons_zero, List.getElem_cons_succ]
        go_simp
      simp only [Act.put, List.getElem_toArray, List.getElem_cons_zero, List.getElem_cons_succ, List.setIfInBounds_toArray, List.set_cons_zero, List.set_cons_succ]
      refine wpAnyH_take (i := 6) (v := .slice MA kb mcap) rfl (by kernel_rfl) (by kernel_rfl) (by kernel_rfl) (fun _ _ _ h => h) (Or.inl ⟨by rfl, ?_⟩) hHeld ?_
      · intro w hSw
        simp only [List.getElem_toArray, List.getElem_cons_zero, List.getElem_cons_succ]
        go_simp
      simp only [Act.put, List.getElem_toArray, List.getElem_cons_zero, List.getElem_cons_succ, List.setIfInBounds_toArray, List.set_cons_zero, List.set_cons_succ]
      refine wpAnyH_ready (rs := [1]) (by kernel_rfl) (by simp) ?_
      refine AllReadyH.cons rfl (fun K hK => ?_) AllReadyH.nil
      simp only [List.getElem_toArray, List.getElem_cons_zero, List.getElem_cons_succ]
      rw [if_pos (by rfl)]
      refine wp_append_ints _ _ (by rfl) w4.heap.size (.slice none 0 0) 0 [] (by rfl) (World.ownsRow_nil _ _ _ _) YA (ans.take 10) ka ycap HKAL.out (by rfl) (HYB.out.keeps (Below.refl _ _).drew) (by omega) (Nat.le_refl _) ?_
      intro v1 wa hown1 hgr
      have HBa : Hid (Below w4.heap.size w4 wa) := Lib.hid ((Below.refl _ w4).drew.grown hgr (Nat.le_refl _) (by intro k hk; simp [Value.ownBlock] at hk))
      rw [Nat.zero_add, List.nil_append] at hown1
      have HOW := Lib.hid hown1
      refine hK.out _ _ trivial (fun hHeld => ?_)
      clear hK K hown1 hgr
      refine wpAnyH_ready (rs := [7]) (by kernel_rfl) (by simp) ?_
      refine AllReadyH.cons rfl (fun K hK => ?_) AllReadyH.nil
      simp only [List.getElem_toArray, List.getElem_cons_zero, List.getElem_cons_succ]
      rw [if_pos (by rfl)]
      refine wp_append_ints _ _ (by rfl) w4.heap.size v1 ka (intsV (ans.take 10)) (by rfl) HOW.out MA (mo.take 10) kb mcap HKB.out (by rfl) (HMT.out.keeps HBa.out) (by omega) HBa.out.size ?_
      intro v2 wb hown2 hgr
      have HBb : Hid (Below w4.heap.size w4 wb) := Lib.hid (HBa.out.grown hgr HBa.out.size (fun k hk => (HOW.out.lt k hk).1))
      have HOX : Hid (wb.ownsRow w4.heap.size 3 1 v2 (ka + kb) (intsV (ans.take 10 ++ mo.take 10))) := Lib.hid (by have e : intsV (ans.take 10 ++ mo.take 10) = intsV (ans.take 10) ++ intsV (mo.take 10) := List.map_append; rw [e]; exact hown2)
      refine hK.out _ _ trivial (fun hHeld => ?_)
      clear hK K hown2 hgr
      refine wpAnyH_ready (rs := [8]) (by kernel_rfl) (by simp) ?_
      refine AllReadyH.cons rfl (fun K hK => ?_) AllReadyH.nil
      simp only [List.getElem_toArray, List.getElem_cons_zero, List.getElem_cons_succ]
      go_simp
      refine hK.out _ _ hHeld (fun hHeld => ?_)
      clear hK K
      clear hHeld
      refine wpAnyH_done (by kernel_rfl) ?_ _
      exact ⟨v1, v2, rfl, HOX.out, HBb.out⟩
    case h2 =>
      rintro v1 v2 w5 ⟨hown, hb5⟩
      have HX5 := Lib.hid (HX4.out.keeps hb5)
      obtain ⟨YB, yc, rfl, hYB⟩ := own_ints hown
      have hea := (List.length_append : (ans.take 10 ++ mo.take 10).length = _)
      rw [HKAL.out, HKB.out] at hea
      rw [hea]
      have HYC := Lib.hid hYB
      have HRM2 := Lib.hid (fun (W : World) (hb : Below w1.heap.size w1 W) (h : Below w5.heap.size w5 W) => HRM.out W hb YB yc (HYC.out.keeps h))
      clear hown hb5 hYB hea KS
      go_wp2_with fail
      have ep := HX5.out.pcell
      rw [HA1.out] at ep
      have eib := (HX5.out.below.block _ (block_lt HIB1.out)).trans HIB1.out
      have e2 := (cell_block eib 2).trans rfl
      have e3 := (cell_block eib 3).trans rfl
      have e0 := HC00.out _ HX5.out.below
      have z0 := block_lt HX5.out.pblk
      have z1 := block_lt eib
      have z2 := HX5.out.below.size
      have HGZ3 := Lib.hid (Nat.lt_of_lt_of_le HGZ.out z2)
      have KS := Lib.hid (fun (w' : World) (hb : Below w5.heap.size w5 w') => (⟨(hb.cell (p := ⟨w1.heap.size, 0, none⟩) z0).trans ep, (hb.cell (p := ⟨g0, 0, none⟩) HGZ3.out).trans e0, (hb.cell (p := ⟨w.heap.size, 2, none⟩) z1).trans e2, (hb.cell (p := ⟨w.heap.size, 3, none⟩) z1).trans e3⟩ : w'.cell? ⟨w1.heap.size, 0, none⟩ = some (.slice (some ⟨g0, 0, none⟩) p.length cap1) ∧ w'.cell? ⟨g0, 0, none⟩ = some (.int .i64 (m : Int)) ∧ w'.cell? ⟨w.heap.size, 2, none⟩ = some (.slice YA ans.length ycap) ∧ w'.cell? ⟨w.heap.size, 3, none⟩ = some (.int .i64 fuel)))
      clear ep eib e2 e3 e0 z0 z1 z2 HGZ3
      apply region_cut2 (α := Nat) (β := List Value) (R := fun (b' : Nat) (C' : List Value) w' => Sx w1 w1.heap.size (.slice A1 p.length cap1) w' [(b', C', s2), (br, CR, s1)])
      case h1 =>
        refine wp_region_held_drew (S := fun w' => w'.cell? ⟨w1.heap.size, 0, none⟩ = some (.slice (some ⟨g0, 0, none⟩) p.length cap1) ∧ w'.cell? ⟨g0, 0, none⟩ = some (.int .i64 (m : Int)) ∧ w'.cell? ⟨w.heap.size, 2, none⟩ = some (.slice YA ans.length ycap) ∧ w'.cell? ⟨w.heap.size, 3, none⟩ = some (.int .i64 fuel)) (by kernel_rfl) (KS.out _ (Below.refl _ _).drew) (fun hHeld => ?_)
        refine wpAnyH_take (i := 0) (v := .agg #[.slice (some ⟨g0, 0, none⟩) p.length cap1]) rfl (by kernel_rfl) (by kernel_rfl) (by kernel_rfl) (fun _ _ _ h => h) (Or.inl ⟨by rfl, ?_⟩) hHeld ?_
        · intro w hSw
          obtain ⟨q0, q1, q2, q3⟩ := hSw
          simp only [List.getElem_toArray, List.getElem_cons_zero]
          go_simp
        simp only [Act.put, List.getElem_toArray, List.getElem_cons_zero, List.setIfInBounds_toArray, List.set_cons_zero, List.set_cons_succ]
        refine wpAnyH_take (i := 1) (v := .pointer (some ⟨w.heap.size, 0, none⟩)) rfl (by kernel_rfl) (by kernel_rfl) (by kernel_rfl) (fun _ _ _ h => h) (Or.inl ⟨by rfl, ?_⟩) hHeld ?_
        · intro w hSw
          obtain ⟨q0, q1, q2, q3⟩ := hSw
          simp only [List.getElem_toArray, List.getElem_cons_zero, List.getElem_cons_succ]
          go_simp
        simp only [Act.put, List.getElem_toArray, List.getElem_cons_zero, List.getElem_cons_succ, List.setIfInBounds_toArray, List.set_cons_zero, List.set_cons_succ]
        refine wpAnyH_take (i := 2) (v := .pointer (some ⟨w1.heap.size, 0, none⟩)) rfl (by kernel_rfl) (by kernel_rfl) (by kernel_rfl) (fun _ _ _ h => h) (Or.inl ⟨by rfl, ?_⟩) hHeld ?_
        · intro w hSw
          obtain ⟨q0, q1, q2, q3⟩ := hSw
          simp only [List.getElem_toArray, List.getElem_cons_zero, List.getElem_cons_succ]
          go_simp
        simp only [Act.put, List.getElem_toArray, List.getElem_cons_zero, List.getElem_cons_succ, List.setIfInBounds_toArray, List.set_cons_zero, List.set_cons_succ]
        refine wpAnyH_take (i := 3) (v := .slice (some ⟨g0, 0, none⟩) p.length cap1) rfl (by kernel_rfl) (by kernel_rfl) (by kernel_rfl) (fun _ _ _ h => h) (Or.inl ⟨by rfl, ?_⟩) hHeld ?_
        · intro w hSw
          obtain ⟨q0, q1, q2, q3⟩ := hSw
          simp only [List.getElem_toArray, List.getElem_cons_zero, List.getElem_cons_succ]
          go_simp
        simp only [Act.put, List.getElem_toArray, List.getElem_cons_zero, List.getElem_cons_succ, List.setIfInBounds_toArray, List.set_cons_zero, List.set_cons_succ]
        refine wpAnyH_take (i := 4) (v := .pointer (some ⟨g0, 0, none⟩)) rfl (by kernel_rfl) (by kernel_rfl) (by kernel_rfl) (fun _ _ _ h => h) (Or.inl ⟨by rfl, ?_⟩) hHeld ?_
        · intro w hSw
          obtain ⟨q0, q1, q2, q3⟩ := hSw
          simp only [List.getElem_toArray, List.getElem_cons_zero, List.getElem_cons_succ]
          go_simp
        simp only [Act.put, List.getElem_toArray, List.getElem_cons_zero, List.getElem_cons_succ, List.setIfInBounds_toArray, List.set_cons_zero, List.set_cons_succ]
        refine wpAnyH_take (i := 5) (v := .pointer (some ⟨g0, 0, none⟩)) rfl (by kernel_rfl) (by kernel_rfl) (by kernel_rfl) (fun _ _ _ h => h) (Or.inl ⟨by rfl, ?_⟩) hHeld ?_
        · intro w hSw
          obtain ⟨q0, q1, q2, q3⟩ := hSw
          simp only [List.getElem_toArray, List.getElem_cons_zero, List.getElem_cons_succ]
          go_simp
        simp only [Act.put, List.getElem_toArray, List.getElem_cons_zero, List.getElem_cons_succ, List.setIfInBounds_toArray, List.set_cons_zero, List.set_cons_succ]
        refine wpAnyH_take (i := 6) (v := .int .i64 (m : Int)) rfl (by kernel_rfl) (by kernel_rfl) (by kernel_rfl) (fun _ _ _ h => h) (Or.inl ⟨by rfl, ?_⟩) hHeld ?_
        · intro w hSw
          obtain ⟨q0, q1, q2, q3⟩ := hSw
          simp only [List.getElem_toArray, List.getElem_cons_zero, List.getElem_cons_succ]
          go_simp
        simp only [Act.put, List.getElem_toArray, List.getElem_cons_zero, List.getElem_cons_succ, List.setIfInBounds_toArray, List.set_cons_zero, List.set_cons_succ]
        refine wpAnyH_take (i := 7) (v := .slice (some ⟨w.heap.size, 0, none⟩) m 2) rfl (by kernel_rfl) (by kernel_rfl) (by kernel_rfl) (fun _ _ _ h => h) (Or.inl ⟨by rfl, ?_⟩) hHeld ?_
        · intro w hSw
          obtain ⟨q0, q1, q2, q3⟩ := hSw
          simp only [List.getElem_toArray, List.getElem_cons_zero, List.getElem_cons_succ]
          go_simp
        simp only [Act.put, List.getElem_toArray, List.getElem_cons_zero, List.getElem_cons_succ, List.setIfInBounds_toArray, List.set_cons_zero, List.set_cons_succ]
        refine wpAnyH_take (i := 8) (v := .slice YB (ka + kb) yc) rfl (by kernel_rfl) (by kernel_rfl) (by kernel_rfl) (fun _ _ _ h => h) (Or.inl ⟨by rfl, ?_⟩) hHeld ?_
        · intro w hSw
          simp only [List.getElem_toArray, List.getElem_cons_zero, List.getElem_cons_succ]
          go_simp
        simp only [Act.put, List.getElem_toArray, List.getElem_cons_zero, List.getElem_cons_succ, List.setIfInBounds_toArray, List.set_cons_zero, List.set_cons_succ]
        refine wpAnyH_take (i := 9) (v := .pointer (some ⟨w.heap.size, 3, none⟩)) rfl (by kernel_rfl) (by kernel_rfl) (by kernel_rfl) (fun _ _ _ h => h) (Or.inl ⟨by rfl, ?_⟩) hHeld ?_
        · intro w hSw
          obtain ⟨q0, q1, q2, q3⟩ := hSw
          simp only [List.getElem_toArray, List.getElem_cons_zero, List.getElem_cons_succ]
          go_simp
        simp only [Act.put, List.getElem_toArray, List.getElem_cons_zero, List.getElem_cons_succ, List.setIfInBounds_toArray, List.set_cons_zero, List.set_cons_succ]
        refine wpAnyH_take (i := 10) (v := .int .i64 fuel) rfl (by kernel_rfl) (by kernel_rfl) (by kernel_rfl) (fun _ _ _ h => h) (Or.inl ⟨by rfl, ?_⟩) hHeld ?_
        · intro w hSw
          obtain ⟨q0, q1, q2, q3⟩ := hSw
          simp only [List.getElem_toArray, List.getElem_cons_zero, List.getElem_cons_succ]
          go_simp
        simp only [Act.put, List.getElem_toArray, List.getElem_cons_zero, List.getElem_cons_succ, List.setIfInBounds_toArray, List.set_cons_zero, List.set_cons_succ]
        refine wpAnyH_ready (rs := [11, 16]) (by kernel_rfl) (by simp) ?_
        refine AllReadyH.cons rfl (fun K hK => ?_) (AllReadyH.cons rfl (fun K hK => ?_) (AllReadyH.nil))
        · simp only [List.getElem_toArray, List.getElem_cons_zero, List.getElem_cons_succ]
          go_simp
          refine (HKF.out _).mono ?_
          rintro e w' ⟨rfl, rfl⟩
          refine hK.out _ _ hHeld (fun hHeld => ?_)
          clear hK K
          refine wpAnyH_ready (rs := [12, 16]) (by kernel_rfl) (by simp) ?_
          refine AllReadyH.cons rfl (fun K hK => ?_) (AllReadyH.cons rfl (fun K hK => ?_) (AllReadyH.nil))
          · simp only [List.getElem_toArray, List.getElem_cons_zero, List.getElem_cons_succ]
            go_simp
            refine (HRM2.out _ (HX5.out.below.trans ((Below.refl w5.heap.size w5).drew.mono HX5.out.below.size)) ((Below.refl w5.heap.size w5).drew)).mono ?_
            rintro e wa ⟨⟨C2, rfl, hC⟩, hb⟩
            have HBa : Hid (Below w5.heap.size w5 wa) := Lib.hid ((Below.refl w5.heap.size w5).drew.trans (hb.mono (Below.refl w5.heap.size w5).drew.size))
            have HC2 := Lib.hid (hC.base (HX5.out.below.trans ((Below.refl w5.heap.size w5).drew.mono HX5.out.below.size)).size)
            have HJ2 := Lib.hid (info_st (HC2.out.len HI2.out.mem))
            refine hK.out _ _ (KS.out _ HBa.out) (fun hHeld => ?_)
            clear hK K hC hb
            refine wpAnyH_take (i := 13) (v := .tuple #[.agg C2.toArray, .int .i64 0]) rfl (by kernel_rfl) (by kernel_rfl) (by kernel_rfl) (fun _ _ _ h => h) (Or.inl ⟨by rfl, ?_⟩) hHeld ?_
            · intro w hSw
              simp only [List.getElem_toArray, List.getElem_cons_zero, List.getElem_cons_succ]
              go_simp
            simp only [Act.put, List.getElem_toArray, List.getElem_cons_zero, List.getElem_cons_succ, List.setIfInBounds_toArray, List.set_cons_zero, List.set_cons_succ]
            refine wpAnyH_take (i := 14) (v := .agg C2.toArray) rfl (by kernel_rfl) (by kernel_rfl) (by kernel_rfl) (fun _ _ _ h => h) (Or.inl ⟨by rfl, ?_⟩) hHeld ?_
            · intro w hSw
              simp only [List.getElem_toArray, List.getElem_cons_zero, List.getElem_cons_succ]
              go_simp
            simp only [Act.put, List.getElem_toArray, List.getElem_cons_zero, List.getElem_cons_succ, List.setIfInBounds_toArray, List.set_cons_zero, List.set_cons_succ]
            refine wpAnyH_take (i := 15) (v := .int .i64 0) rfl (by kernel_rfl) (by kernel_rfl) (by kernel_rfl) (fun _ _ _ h => h) (Or.inl ⟨by rfl, ?_⟩) hHeld ?_
            · intro w hSw
              simp only [List.getElem_toArray, List.getElem_cons_zero, List.getElem_cons_succ]
              go_simp
            simp only [Act.put, List.getElem_toArray, List.getElem_cons_zero, List.getElem_cons_succ, List.setIfInBounds_toArray, List.set_cons_zero, List.set_cons_succ]
            refine wpAnyH_ready (rs := [16]) (by kernel_rfl) (by simp) ?_
            refine AllReadyH.cons rfl (fun K hK => ?_) AllReadyH.nil
            simp only [List.getElem_toArray, List.getElem_cons_zero, List.getElem_cons_succ]
            go_simp
            have HZB : Hid ((wa.alloc (.cells zeroV.toArray 50)).heap[wa.heap.size]? = some (.cells zeroV.toArray 50 (0, 0))) := Lib.hid (heap_alloc_new wa _)
            have HNB : Hid (w1.heap.size ≤ wa.heap.size ∧ w5.heap.size ≤ wa.heap.size ∧ ∀ x ∈ ([(br, CR, s1)] : List (Nat × List Value × St)), x.1 ≠ wa.heap.size) := Lib.hid (by have h1 : w5.heap.size ≤ wa.heap.size := HBa.out.size; have h2 := HX5.out.below.size; exact ⟨by omega, h1, fun x hx => by have := block_lt (HX5.out.sts x hx).1; omega⟩)
            refine hK.out _ _ (KS.out _ (HBa.out.alloc HBa.out.size _)) (fun hHeld => ?_)
            clear hK K
            have HC2 := Lib.hid (HC2.out.below ((Below.refl wa.heap.size wa).alloc (Nat.le_refl _) (.cells zeroV.toArray 50)))
            refine wpAnyH_ready (rs := [17]) (by kernel_rfl) (by simp) ?_
            refine AllReadyH.cons rfl (fun K hK => ?_) AllReadyH.nil
            simp only [List.getElem_toArray, List.getElem_cons_zero, List.getElem_cons_succ]
            rw [if_pos (by rfl)]
            refine wp_store_mid 50 _ _ (by rfl) wa.heap.size 0 C2.toArray (by rfl) (by rfl) (there_block HZB.out (by simp [HC2.out.len HI2.out.mem, zeroV_length])) (by simpa using HJ2.out) HC2.out.one ?_
            obtain ⟨wb, hwb⟩ : ∃ wb, (wa.alloc (.cells zeroV.toArray 50)).setCells wa.heap.size 0 C2.toArray.toList = wb := ⟨_, rfl⟩
            rw [hwb]
            obtain ⟨b2, hb2⟩ : ∃ b, wa.heap.size = b := ⟨_, rfl⟩
            have HXB : Hid (Sx w1 w1.heap.size (.slice A1 p.length cap1) wb [(b2, C2, s2), (br, CR, s1)]) := Lib.hid (by rw [← hwb, ← hb2]; exact (HX5.out.keeps (HBa.out.alloc HBa.out.size (.cells zeroV.toArray 50))).put HZB.out zeroV_length HNB.out.1 (HC2.out) (HC2.out.len HI2.out.mem) (fun x hx => ⟨hx, HNB.out.2.2 x hx⟩))
            have HBB : Hid (Below w5.heap.size w5 wb) := Lib.hid (by rw [← hwb]; exact below_setCells HNB.out.2.1 _ _ _ (HBa.out.alloc HBa.out.size (.cells zeroV.toArray 50)))
            rw [hb2]
            refine hK.out _ _ (KS.out _ HBB.out) (fun hHeld => ?_)
            clear hK K hwb
            refine wpAnyH_ready (rs := [18]) (by kernel_rfl) (by simp) ?_
            refine AllReadyH.cons rfl (fun K hK => ?_) AllReadyH.nil
            simp only [List.getElem_toArray, List.getElem_cons_zero, List.getElem_cons_succ]
            go_simp
            refine hK.out _ _ hHeld (fun hHeld => ?_)
            clear hK K
            clear hHeld
            refine wpAnyH_done (by kernel_rfl) ?_ _
            exact ⟨b2, C2, rfl, HXB.out⟩
          · simp only [List.getElem_toArray, List.getElem_cons_zero, List.getElem_cons_succ]
            go_simp
            have HZB : Hid ((w5.drew.alloc (.cells zeroV.toArray 50)).heap[w5.heap.size]? = some (.cells zeroV.toArray 50 (0, 0))) := Lib.hid (heap_alloc_new w5.drew _)
            have HNB : Hid (w1.heap.size ≤ w5.heap.size ∧ w5.heap.size ≤ w5.heap.size ∧ ∀ x ∈ ([(br, CR, s1)] : List (Nat × List Value × St)), x.1 ≠ w5.heap.size) := Lib.hid (by have h1 : w5.heap.size ≤ w5.heap.size := (Below.refl w5.heap.size w5).drew.size; have h2 := HX5.out.below.size; exact ⟨by omega, h1, fun x hx => by have := block_lt (HX5.out.sts x hx).1; omega⟩)
            refine hK.out _ _ (KS.out _ ((Below.refl w5.heap.size w5).drew.alloc (Below.refl w5.heap.size w5).drew.size _)) (fun hHeld => ?_)
            clear hK K
            refine wpAnyH_ready (rs := [12]) (by kernel_rfl) (by simp) ?_
            refine AllReadyH.cons rfl (fun K hK => ?_) AllReadyH.nil
            simp only [List.getElem_toArray, List.getElem_cons_zero, List.getElem_cons_succ]
            go_simp
            refine (HRM2.out _ (HX5.out.below.trans (((Below.refl w5.heap.size w5).drew.alloc (Below.refl w5.heap.size w5).drew.size (.cells zeroV.toArray 50)).mono HX5.out.below.size)) (((Below.refl w5.heap.size w5).drew.alloc (Below.refl w5.heap.size w5).drew.size (.cells zeroV.toArray 50)))).mono ?_
            rintro e wa ⟨⟨C2, rfl, hC⟩, hb⟩
            have HBa : Hid (Below w5.heap.size w5 wa) := Lib.hid (((Below.refl w5.heap.size w5).drew.alloc (Below.refl w5.heap.size w5).drew.size (.cells zeroV.toArray 50)).trans (hb.mono ((Below.refl w5.heap.size w5).drew.alloc (Below.refl w5.heap.size w5).drew.size (.cells zeroV.toArray 50)).size))
            have HC2 := Lib.hid (hC.base (HX5.out.below.trans (((Below.refl w5.heap.size w5).drew.alloc (Below.refl w5.heap.size w5).drew.size (.cells zeroV.toArray 50)).mono HX5.out.below.size)).size)
            have HJ2 := Lib.hid (info_st (HC2.out.len HI2.out.mem))
            have HZB := Lib.hid ((hb.block _ (block_lt HZB.out)).trans HZB.out)
            refine hK.out _ _ (KS.out _ HBa.out) (fun hHeld => ?_)
            clear hK K hC hb
            refine wpAnyH_take (i := 13) (v := .tuple #[.agg C2.toArray, .int .i64 0]) rfl (by kernel_rfl) (by kernel_rfl) (by kernel_rfl) (fun _ _ _ h => h) (Or.inl ⟨by rfl, ?_⟩) hHeld ?_
            · intro w hSw
              simp only [List.getElem_toArray, List.getElem_cons_zero, List.getElem_cons_succ]
              go_simp
            simp only [Act.put, List.getElem_toArray, List.getElem_cons_zero, List.getElem_cons_succ, List.setIfInBounds_toArray, List.set_cons_zero, List.set_cons_succ]
            refine wpAnyH_take (i := 14) (v := .agg C2.toArray) rfl (by kernel_rfl) (by kernel_rfl) (by kernel_rfl) (fun _ _ _ h => h) (Or.inl ⟨by rfl, ?_⟩) hHeld ?_
            · intro w hSw
              simp only [List.getElem_toArray, List.getElem_cons_zero, List.getElem_cons_succ]
              go_simp
            simp only [Act.put, List.getElem_toArray, List.getElem_cons_zero, List.getElem_cons_succ, List.setIfInBounds_toArray, List.set_cons_zero, List.set_cons_succ]
            refine wpAnyH_take (i := 15) (v := .int .i64 0) rfl (by kernel_rfl) (by kernel_rfl) (by kernel_rfl) (fun _ _ _ h => h) (Or.inl ⟨by rfl, ?_⟩) hHeld ?_
            · intro w hSw
              simp only [List.getElem_toArray, List.getElem_cons_zero, List.getElem_cons_succ]
              go_simp
            simp only [Act.put, List.getElem_toArray, List.getElem_cons_zero, List.getElem_cons_succ, List.setIfInBounds_toArray, List.set_cons_zero, List.set_cons_succ]
            refine wpAnyH_ready (rs := [17]) (by kernel_rfl) (by simp) ?_
            refine AllReadyH.cons rfl (fun K hK => ?_) AllReadyH.nil
            simp only [List.getElem_toArray, List.getElem_cons_zero, List.getElem_cons_succ]
            rw [if_pos (by rfl)]
            refine wp_store_mid 50 _ _ (by rfl) w5.heap.size 0 C2.toArray (by rfl) (by rfl) (there_block HZB.out (by simp [HC2.out.len HI2.out.mem, zeroV_length])) (by simpa using HJ2.out) HC2.out.one ?_
            obtain ⟨wb, hwb⟩ : ∃ wb, wa.setCells w5.heap.size 0 C2.toArray.toList = wb := ⟨_, rfl⟩
            rw [hwb]
            obtain ⟨b2, hb2⟩ : ∃ b, w5.heap.size = b := ⟨_, rfl⟩
            have HXB : Hid (Sx w1 w1.heap.size (.slice A1 p.length cap1) wb [(b2, C2, s2), (br, CR, s1)]) := Lib.hid (by rw [← hwb, ← hb2]; exact (HX5.out.keeps HBa.out).put HZB.out zeroV_length HNB.out.1 (HC2.out) (HC2.out.len HI2.out.mem) (fun x hx => ⟨hx, HNB.out.2.2 x hx⟩))
            have HBB : Hid (Below w5.heap.size w5 wb) := Lib.hid (by rw [← hwb]; exact below_setCells HNB.out.2.1 _ _ _ HBa.out)
            rw [hb2]
            refine hK.out _ _ (KS.out _ HBB.out) (fun hHeld => ?_)
            clear hK K hwb
            refine wpAnyH_ready (rs := [18]) (by kernel_rfl) (by simp) ?_
            refine AllReadyH.cons rfl (fun K hK => ?_) AllReadyH.nil
            simp only [List.getElem_toArray, List.getElem_cons_zero, List.getElem_cons_succ]
            go_simp
            refine hK.out _ _ hHeld (fun hHeld => ?_)
            clear hK K
            clear hHeld
            refine wpAnyH_done (by kernel_rfl) ?_ _
            exact ⟨b2, C2, rfl, HXB.out⟩
        · simp only [List.getElem_toArray, List.getElem_cons_zero, List.getElem_cons_succ]
          go_simp
          have HZB : Hid ((w5.drew.alloc (.cells zeroV.toArray 50)).heap[w5.heap.size]? = some (.cells zeroV.toArray 50 (0, 0))) := Lib.hid (heap_alloc_new w5.drew _)
          have HNB : Hid (w1.heap.size ≤ w5.heap.size ∧ w5.heap.size ≤ w5.heap.size ∧ ∀ x ∈ ([(br, CR, s1)] : List (Nat × List Value × St)), x.1 ≠ w5.heap.size) := Lib.hid (by have h1 : w5.heap.size ≤ w5.heap.size := (Below.refl w5.heap.size w5).drew.size; have h2 := HX5.out.below.size; exact ⟨by omega, h1, fun x hx => by have := block_lt (HX5.out.sts x hx).1; omega⟩)
          refine hK.out _ _ (KS.out _ ((Below.refl w5.heap.size w5).drew.alloc (Below.refl w5.heap.size w5).drew.size _)) (fun hHeld => ?_)
          clear hK K
          refine wpAnyH_ready (rs := [11]) (by kernel_rfl) (by simp) ?_
          refine AllReadyH.cons rfl (fun K hK => ?_) AllReadyH.nil
          simp only [List.getElem_toArray, List.getElem_cons_zero, List.getElem_cons_succ]
          go_simp
          refine (HKF.out _).mono ?_
          rintro e w' ⟨rfl, rfl⟩
          refine hK.out _ _ hHeld (fun hHeld => ?_)
          clear hK K
          refine wpAnyH_ready (rs := [12]) (by kernel_rfl) (by simp) ?_
          refine AllReadyH.cons rfl (fun K hK => ?_) AllReadyH.nil
          simp only [List.getElem_toArray, List.getElem_cons_zero, List.getElem_cons_succ]
          go_simp
          refine (HRM2.out _ (HX5.out.below.trans (((Below.refl w5.heap.size w5).drew.alloc (Below.refl w5.heap.size w5).drew.size (.cells zeroV.toArray 50)).mono HX5.out.below.size)) (((Below.refl w5.heap.size w5).drew.alloc (Below.refl w5.heap.size w5).drew.size (.cells zeroV.toArray 50)))).mono ?_
          rintro e wa ⟨⟨C2, rfl, hC⟩, hb⟩
          have HBa : Hid (Below w5.heap.size w5 wa) := Lib.hid (((Below.refl w5.heap.size w5).drew.alloc (Below.refl w5.heap.size w5).drew.size (.cells zeroV.toArray 50)).trans (hb.mono ((Below.refl w5.heap.size w5).drew.alloc (Below.refl w5.heap.size w5).drew.size (.cells zeroV.toArray 50)).size))
          have HC2 := Lib.hid (hC.base (HX5.out.below.trans (((Below.refl w5.heap.size w5).drew.alloc (Below.refl w5.heap.size w5).drew.size (.cells zeroV.toArray 50)).mono HX5.out.below.size)).size)
          have HJ2 := Lib.hid (info_st (HC2.out.len HI2.out.mem))
          have HZB := Lib.hid ((hb.block _ (block_lt HZB.out)).trans HZB.out)
          refine hK.out _ _ (KS.out _ HBa.out) (fun hHeld => ?_)
          clear hK K hC hb
          refine wpAnyH_take (i := 13) (v := .tuple #[.agg C2.toArray, .int .i64 0]) rfl (by kernel_rfl) (by kernel_rfl) (by kernel_rfl) (fun _ _ _ h => h) (Or.inl ⟨by rfl, ?_⟩) hHeld ?_
          · intro w hSw
            simp only [List.getElem_toArray, List.getElem_cons_zero, List.getElem_cons_succ]
            go_simp
          simp only [Act.put, List.getElem_toArray, List.getElem_cons_zero, List.getElem_cons_succ, List.setIfInBounds_toArray, List.set_cons_zero, List.set_cons_succ]
          refine wpAnyH_take (i := 14) (v := .agg C2.toArray) rfl (by kernel_rfl) (by kernel_rfl) (by kernel_rfl) (fun _ _ _ h => h) (Or.inl ⟨by rfl, ?_⟩) hHeld ?_
          · intro w hSw
            simp only [List.getElem_toArray, List.getElem_cons_zero, List.getElem_cons_succ]
            go_simp
          simp only [Act.put, List.getElem_toArray, List.getElem_cons_zero, List.getElem_cons_succ, List.setIfInBounds_toArray, List.set_cons_zero, List.set_cons_succ]
          refine wpAnyH_take (i := 15) (v := .int .i64 0) rfl (by kernel_rfl) (by kernel_rfl) (by kernel_rfl) (fun _ _ _ h => h) (Or.inl ⟨by rfl, ?_⟩) hHeld ?_
          · intro w hSw
            simp only [List.getElem_toArray, List.getElem_cons_zero, List.getElem_cons_succ]
            go_simp
          simp only [Act.put, List.getElem_toArray, List.getElem_cons_zero, List.getElem_cons_succ, List.setIfInBounds_toArray, List.set_cons_zero, List.set_cons_succ]
          refine wpAnyH_ready (rs := [17]) (by kernel_rfl) (by simp) ?_
          refine AllReadyH.cons rfl (fun K hK => ?_) AllReadyH.nil
          simp only [List.getElem_toArray, List.getElem_cons_zero, List.getElem_cons_succ]
          rw [if_pos (by rfl)]
          refine wp_store_mid 50 _ _ (by rfl) w5.heap.size 0 C2.toArray (by rfl) (by rfl) (there_block HZB.out (by simp [HC2.out.len HI2.out.mem, zeroV_length])) (by simpa using HJ2.out) HC2.out.one ?_
          obtain ⟨wb, hwb⟩ : ∃ wb, wa.setCells w5.heap.size 0 C2.toArray.toList = wb := ⟨_, rfl⟩
          rw [hwb]
          obtain ⟨b2, hb2⟩ : ∃ b, w5.heap.size = b := ⟨_, rfl⟩
          have HXB : Hid (Sx w1 w1.heap.size (.slice A1 p.length cap1) wb [(b2, C2, s2), (br, CR, s1)]) := Lib.hid (by rw [← hwb, ← hb2]; exact (HX5.out.keeps HBa.out).put HZB.out zeroV_length HNB.out.1 (HC2.out) (HC2.out.len HI2.out.mem) (fun x hx => ⟨hx, HNB.out.2.2 x hx⟩))
          have HBB : Hid (Below w5.heap.size w5 wb) := Lib.hid (by rw [← hwb]; exact below_setCells HNB.out.2.1 _ _ _ HBa.out)
          rw [hb2]
          refine hK.out _ _ (KS.out _ HBB.out) (fun hHeld => ?_)
          clear hK K hwb
          refine wpAnyH_ready (rs := [18]) (by kernel_rfl) (by simp) ?_
          refine AllReadyH.cons rfl (fun K hK => ?_) AllReadyH.nil
          simp only [List.getElem_toArray, List.getElem_cons_zero, List.getElem_cons_succ]
          go_simp
          refine hK.out _ _ hHeld (fun hHeld => ?_)
          clear hK K
          clear hHeld
          refine wpAnyH_done (by kernel_rfl) ?_ _
          exact ⟨b2, C2, rfl, HXB.out⟩
      case h2 =>
        intro b2 C2 w6 hX
        have HX6 := Lib.hid hX
        have he2 := HE2.out
        obtain ⟨FA1, fa1, EA1, ea1, AA1, aa1, hA⟩ := hX.cin (.tail _ (.head _)) HIR.out
        obtain ⟨FB1, fb1, EB1, eb1, AB1, ab1, hB⟩ := hX.cin (.head _) HI2.out
        have x1 := hX.lt (.head _)
        have x2 := hX.lt (.tail _ (.head _))
        have a0' := (hX.cell (.tail _ (.head _)) 0).trans hA.c0
        have a1' := (hX.cell (.tail _ (.head _)) 1).trans hA.c1
        have a19 := (hX.cell (.tail _ (.head _)) 19).trans hA.c19
        have a20 := (hX.cell (.tail _ (.head _)) 20).trans hA.c20
        have b0' := (hX.cell (.head _) 0).trans hB.c0
        have b1' := (hX.cell (.head _) 1).trans hB.c1
        have b19 := (hX.cell (.head _) 19).trans hB.c19
        have b20 := (hX.cell (.head _) 20).trans hB.c20
        have b21 := (hX.cell (.head _) 21).trans hB.c21
        have hss : s2.status = s1.status := by rw [he2]; rfl
        have hsv : s2.value = s1.value := by rw [he2]; rfl
        have hsf : s2.fuel = s1.fuel := by rw [he2]; rfl
        have hse : s2.events = s1.events := by rw [he2]; rfl
        have hsm : s2.mem = s1.mem := by rw [he2]; rfl
        have hsa : s2.answers.length = na + kb := by rw [he2]; show (s1.answers ++ mo.take 10).length = _; rw [List.length_append, HNA.out, HKB.out]
        rw [hss] at b0'
        rw [hsv] at b1'
        rw [hsf] at b19
        rw [hse, HNE.out] at b20
        rw [HNE.out] at a20
        rw [hsa] at b21
        have HEA := Lib.hid hA.ev
        have HEB : Hid (IntsAt w6 EB1 s1.events) := Lib.hid (hse ▸ hB.ev)
        have HSE := Lib.hid (fun (W : World) (h1 : IntsAt W EA1 s1.events) (h2 : IntsAt W EB1 s1.events) => sameInts_any EA1 EB1 s1.events ea1 eb1 W h1 h2 (stinv_sm HIR.out).1)
        rw [HNE.out] at HSE
        have heq := fun W => eq_mem s1.mem HIR.out.mem W
        have HIM := Lib.hid (info_mem (C := intsV s1.mem) (by simp [intsV, HIR.out.mem]))
        have HR := Lib.hid (⟨range_mem (hX.sts _ (.tail _ (.head _))).1 HIR.out.mem hA, by rw [← hsm]; exact range_mem (hX.sts _ (.head _)).1 HI2.out.mem hB⟩ : w6.rangeAt br 3 (intsV s1.mem) ∧ w6.rangeAt b2 3 (intsV s1.mem))
        obtain ⟨M, hM⟩ : ∃ M, intsV s1.mem = M := ⟨_, rfl⟩
        rw [hM] at HR HIM heq
        have hst := HEND.out
        obtain ⟨st, hst'⟩ : ∃ x, s1.status = x := ⟨_, rfl⟩
        rw [hst'] at a0' b0' hst
        have hq2 : (st != 0) = true := by simpa using hst
        have hw1 : IntKind.i64.wrap (((ka + kb : Nat) : Int) - ne) = ((na + kb : Nat) : Int) := by rw [IntKind.wrap_i64]; omega
        generalize s1.value = va at *
        generalize s1.fuel = fu at *
        have HX7 : Hid (∀ W, Below w6.heap.size w6 W → W.cell? ⟨b2, 21, none⟩ = some (.slice AB1 (na + kb) ab1) ∧ W.cell? ⟨b2, 20, none⟩ = some (.slice EB1 ne eb1) ∧ b2 < W.heap.size) := Lib.hid (fun W hb => ⟨(hb.cell (p := ⟨b2, _, none⟩) x1).trans b21, (hb.cell (p := ⟨b2, _, none⟩) x1).trans b20, by have := hb.size; omega⟩)
        obtain ⟨kab, hkab⟩ : ∃ k, ka + kb = k := ⟨_, rfl⟩
        obtain ⟨nab, hnab⟩ : ∃ k, na + kb = k := ⟨_, rfl⟩
        rw [hkab, hnab] at hw1
        rw [hkab]
        rw [hnab] at HX7 b21
        clear hX he2 hA hB hss hsv hsf hse hsm hsa hM hst hst' hs2 hkm hkmb hkab hnab KS
        go_wp2_with (first
          | (refine wpList_load_midg (by rfl) 48 _ (by rfl) br 3 (by rfl) M _ HR.out.1 Tryd.underlying48 (by rfl) HIM.out ?_)
          | (refine wpList_load_midg (by rfl) 48 _ (by rfl) b2 3 (by rfl) M _ HR.out.2 Tryd.underlying48 (by rfl) HIM.out ?_)
          | (go_at_call 34; go_must (refine (HSE.out _ HEA.out HEB.out).mono ?_; rintro e w11 ⟨rfl, hb11⟩; have HX11 := Lib.hid (HX6.out.keeps hb11); obtain ⟨e21, e20, z11⟩ := HX7.out _ hb11; clear hb11 b20 b21)))
        go_ret
        exact ⟨rfl, HBW.out.trans (HX11.out.below.mono HBW.out.size)⟩
end Go.Proofs.YtnbopmlemddakaaDoor
