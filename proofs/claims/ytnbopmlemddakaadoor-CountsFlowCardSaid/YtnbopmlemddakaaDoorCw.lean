/-
  The walk of CountsFlow: it returns true.
-/
import Derived.Test.YtnbopmlemddakaaDoorCt
import Derived.Test.YtnbopmlemddakaaDoorCtQ
namespace Go.Proofs.YtnbopmlemddakaaDoor
open Go.RowKit Tier
set_option maxRecDepth 100000 in
set_option maxHeartbeats 8000000 in
theorem countsFlow_walk (A : Option Addr) (l : List Fnc) (cap : Nat) (a0 a1 : Int) (YA : Option Addr) (ans : List Int) (ycap : Nat) (fuel : Int) (w : World) (ht : Tab w) (hraw : RawsAt w A l) (hln : (l.length : Int) ≤ 9223372036854775807) (hin : InOk w a0 a1 YA ans ycap fuel) :
    Calls Tryd.prog 14 #[.slice A l.length cap, .agg #[.int .i64 a0, .int .i64 a1, .slice YA ans.length ycap, .int .i64 fuel]] w fun e w' => e = .returned (.bool true) ∧ Below w.heap.size w w' := by
  have HT := Lib.hid ht
  have HR := Lib.hid hraw
  have HIN := Lib.hid hin
  have hright := mkP_right l
  clear ht hraw hin
  go_enter Tryd.func14, Tryd.ntmps14
  go_wp2_with fail
  obtain ⟨wi, hwi⟩ : ∃ wi, w.alloc (.cells #[.int .i64 a0, .int .i64 a1, .slice YA ans.length ycap, .int .i64 fuel] 46) = wi := ⟨_, rfl⟩
  have HBI : Hid (Below w.heap.size w wi) := Lib.hid (hwi ▸ (Below.refl _ w).alloc (Nat.le_refl _) _)
  have HIB : Hid (wi.heap[w.heap.size]? = some (.cells #[.int .i64 a0, .int .i64 a1, .slice YA ans.length ycap, .int .i64 fuel] 46 (0, 0))) := Lib.hid (hwi ▸ heap_alloc_new w _)
  rw [hwi]
  refine (program_any A cap l _ (HT.out.keeps HBI.out) hln (HR.out.keeps HBI.out)).mono ?_
  rintro e w1 ⟨⟨A1, cap1, vs, rfl, hpv⟩, hb1⟩
  have HP := Lib.hid hpv.at
  have HBW := Lib.hid (HBI.out.trans (hb1.mono HBI.out.size))
  have HT1 := Lib.hid (HT.out.keeps HBW.out)
  have hib := (hb1.block _ (block_lt HIB.out)).trans HIB.out
  have HIB1 := Lib.hid hib
  have i0 := (cell_block hib 0).trans rfl
  have i1 := (cell_block hib 1).trans rfl
  have i2 := (cell_block hib 2).trans rfl
  have i3 := (cell_block hib 3).trans rfl
  have zi := block_lt hib
  clear hpv hb1 hwi HBI HIB hib vs
  generalize mkP l = p at *
  have hp := right_of hright
  have HG := Lib.hid (hright)
  have HRP := Lib.hid hp
  have HBG := Lib.hid (fun (W : World) (hb : Below w1.heap.size w1 W) => kbegin_any hright a0 a1 fuel ans YA ycap A1 cap1 W (HT1.out.keeps hb) (HP.out.keeps hb) ((HIN.out.row.keeps HBW.out).keeps hb) HIN.out.len HIN.out.cap HIN.out.fuel)
  have hi0 := inSt_inv hp a0 a1 ans fuel
  obtain ⟨g0, hg0, hgz, hc00⟩ := params_cell hp HP.out a0 a1
  subst hg0
  have HKF := Lib.hid (fun (W : World) => picked_any fuel 300 W HIN.out.fuel (by omega) (by omega))
  have HRN := Lib.hid (fun (W : World) (hb : Below w1.heap.size w1 W) => srun_k hright a0 a1 fuel ans YA ycap (some ⟨g0, 0, none⟩) cap1 W (HT1.out.keeps hb) (HP.out.keeps hb) ((hb.block _ (block_lt HIB1.out)).trans HIB1.out) ((HIN.out.row.keeps HBW.out).keeps hb))
  have HCT := Lib.hid (fun (W : World) (hb : Below w1.heap.size w1 W) => counts_k hright a0 a1 fuel ans YA ycap (some ⟨g0, 0, none⟩) cap1 W (HT1.out.keeps hb) (HP.out.keeps hb) ((hb.block _ (block_lt HIB1.out)).trans HIB1.out) ((HIN.out.row.keeps HBW.out).keeps hb))
  have hl1 := hp.ok.l1
  have hl4 := hp.ok.l2
  have hm2 : (inArgs p a0 a1).length ≤ 2 := by unfold inArgs; simp; omega
  have hka := List.length_take (i := 10) (l := ans)
  have hcy := HIN.out.cap
  have hly := HIN.out.len
  have pq := picked_in fuel 300 (by omega)
  obtain ⟨m, hm⟩ : ∃ m, (inArgs p a0 a1).length = m := ⟨_, rfl⟩
  obtain ⟨ka, hk⟩ : ∃ k, (ans.take 10).length = k := ⟨_, rfl⟩
  obtain ⟨q, hq⟩ : ∃ q, pickedI fuel 300 = q := ⟨_, rfl⟩
  obtain ⟨s0, hs0⟩ : ∃ s0, inSt p a0 a1 ans fuel = s0 := ⟨_, rfl⟩
  have hf0 : s0.fuel = q := by rw [← hs0, ← hq]; rfl
  have hcn := fun k => cnt_inv hp hi0 rfl _ rfl rfl k
  rw [hs0] at hcn
  rw [hf0] at hcn
  rw [hm] at hc00 HRN HCT hm2
  rw [hk] at HRN HCT hka
  rw [hq] at HRN HCT HKF pq
  rw [hs0] at HRN HCT hi0
  have hN0 : 0 < p.length := by omega
  have hm3 : (m : Int) ≤ 2 := by omega
  have hm0 : (0 : Int) ≤ m := by omega
  have hkm : min (ans.length : Int) 10 = ka := by omega
  have hk0 : (0 : Int) ≤ ka := by omega
  have hk3 : (ka : Int) ≤ ycap := by omega
  obtain ⟨s1, hs1⟩ : ∃ s1, walkSt p 10001 s0 = s1 := ⟨_, rfl⟩
  have HI0 := Lib.hid hi0
  have HIR : Hid (StInv p s1) := Lib.hid (hs1 ▸ hi0.walk hp 10001)
  have HE := Lib.hid (fun (k : Nat) (hk : k ≤ 10001) (h : (walkSt p k s0).status ≠ 0) => (walk_end_eq hk h).symm.trans hs1)
  have HCN := Lib.hid hcn
  have HST1 : Hid (s1.status ≠ 0) := Lib.hid (hs1 ▸ walk_ends hp 10001 hi0 (by omega))
  have HFN : Hid (∀ (i : Nat) (F : Fnc), p[i]? = some F → FnOk F p.length) := Lib.hid (fun i F h => hp.ok.fn F (List.mem_of_getElem? h))
  rw [hs1] at HRN
  clear hs1 hs0 hi0 hp hf0 hm hk hq hl1 hka hcy hly hcn HBG
  have HC00 := Lib.hid (fun (W : World) (hb : Below w1.heap.size w1 W) => (hb.cell (p := ⟨g0, 0, none⟩) hgz).trans hc00)
  have HGZ := Lib.hid hgz
  clear hright
  have hz := zero_st
  go_wp2_with fail
  have hb2 := (Below.refl w1.heap.size w1).alloc (Nat.le_refl _) (.cells #[(.slice (some ⟨g0, 0, none⟩) p.length cap1)] 25)
  have hx2 : Sx w1 w1.heap.size (.slice (some ⟨g0, 0, none⟩) p.length cap1) (w1.alloc (.cells #[(.slice (some ⟨g0, 0, none⟩) p.length cap1)] 25)) [] := Sx.mk hb2 (heap_alloc_new w1 _) (fun x hx => by simp at hx)
  have HX2 := Lib.hid hx2
  clear hb2 hx2
  obtain ⟨w2, hw2⟩ : ∃ w2, w1.alloc (.cells #[(.slice (some ⟨g0, 0, none⟩) p.length cap1)] 25) = w2 := ⟨_, rfl⟩
  rw [hw2] at HX2 ⊢
  clear hw2 hc00 hgz i0 i1 i2 i3 zi
  have ep := HX2.out.pcell
  have eib := (HX2.out.below.block _ (block_lt HIB1.out)).trans HIB1.out
  have e2 := (cell_block eib 2).trans rfl
  have e3 := (cell_block eib 3).trans rfl
  have e0 := HC00.out _ HX2.out.below
  have z0 := block_lt HX2.out.pblk
  have z1 := block_lt eib
  have z2 := HX2.out.below.size
  have HGZ3 := Lib.hid (Nat.lt_of_lt_of_le HGZ.out z2)
  have KS := Lib.hid (fun (w' : World) (hb : Below w2.heap.size w2 w') => (⟨(hb.cell (p := ⟨w1.heap.size, 0, none⟩) z0).trans ep, (hb.cell (p := ⟨g0, 0, none⟩) HGZ3.out).trans e0, (hb.cell (p := ⟨w.heap.size, 2, none⟩) z1).trans e2, (hb.cell (p := ⟨w.heap.size, 3, none⟩) z1).trans e3⟩ : w'.cell? ⟨w1.heap.size, 0, none⟩ = some (.slice (some ⟨g0, 0, none⟩) p.length cap1) ∧ w'.cell? ⟨g0, 0, none⟩ = some (.int .i64 (m : Int)) ∧ w'.cell? ⟨w.heap.size, 2, none⟩ = some (.slice YA ans.length ycap) ∧ w'.cell? ⟨w.heap.size, 3, none⟩ = some (.int .i64 fuel)))
  clear ep eib e2 e3 e0 z0 z1 z2 HGZ3
  refine wp_region_held_drew (S := fun w' => w'.cell? ⟨w1.heap.size, 0, none⟩ = some (.slice (some ⟨g0, 0, none⟩) p.length cap1) ∧ w'.cell? ⟨g0, 0, none⟩ = some (.int .i64 (m : Int)) ∧ w'.cell? ⟨w.heap.size, 2, none⟩ = some (.slice YA ans.length ycap) ∧ w'.cell? ⟨w.heap.size, 3, none⟩ = some (.int .i64 fuel)) (by kernel_rfl) (KS.out _ (Below.refl _ _).drew) (fun hHeld => ?_)
  refine wpAnyH_take (i := 0) (v := .agg #[.slice (some ⟨g0, 0, none⟩) p.length cap1]) rfl (by kernel_rfl) (by kernel_rfl) (by kernel_rfl) (fun _ _ _ h => h) (Or.inl ⟨by rfl, ?_⟩) hHeld ?_
  · intro w hSw
    obtain ⟨q0, q1, q2, q3⟩ := hSw
    simp only [List.getElem_toArray, List.getElem_cons_zero]
    go_simp
  simp only [Act.put, List.getElem_toArray, List.getElem_cons_zero, List.setIfInBounds_toArray, List.set_cons_zero, List.set_cons_succ]
  refine wpAnyH_take (i := 1) (v := .pointer (some ⟨w.heap.size, 0, none⟩)) rfl (by kernel_rfl) (by kernel_rfl) (by kernel_rfl) (fun _ _ _ h => h) (Or.inl ⟨by rfl, ?_⟩) hHeld ?_
  · intro w hSw
    obtain ⟨q0, q1, q2, q3⟩ := hSw
    simp only [List.getElem_toArray, List.getElem_cons_zero, List.getElem_cons_succ]
    go_simp
  simp only [Act.put, List.getElem_toArray, List.getElem_cons_zero, List.getElem_cons_succ, List.setIfInBounds_toArray, List.set_cons_zero, List.set_cons_succ]
  refine wpAnyH_take (i := 2) (v := .pointer (some ⟨w1.heap.size, 0, none⟩)) rfl (by kernel_rfl) (by kernel_rfl) (by kernel_rfl) (fun _ _ _ h => h) (Or.inl ⟨by rfl, ?_⟩) hHeld ?_
  · intro w hSw
    obtain ⟨q0, q1, q2, q3⟩ := hSw
    simp only [List.getElem_toArray, List.getElem_cons_zero, List.getElem_cons_succ]
    go_simp
  simp only [Act.put, List.getElem_toArray, List.getElem_cons_zero, List.getElem_cons_succ, List.setIfInBounds_toArray, List.set_cons_zero, List.set_cons_succ]
  refine wpAnyH_take (i := 3) (v := .slice (some ⟨g0, 0, none⟩) p.length cap1) rfl (by kernel_rfl) (by kernel_rfl) (by kernel_rfl) (fun _ _ _ h => h) (Or.inl ⟨by rfl, ?_⟩) hHeld ?_
  · intro w hSw
    obtain ⟨q0, q1, q2, q3⟩ := hSw
    simp only [List.getElem_toArray, List.getElem_cons_zero, List.getElem_cons_succ]
    go_simp
  simp only [Act.put, List.getElem_toArray, List.getElem_cons_zero, List.getElem_cons_succ, List.setIfInBounds_toArray, List.set_cons_zero, List.set_cons_succ]
  refine wpAnyH_take (i := 4) (v := .pointer (some ⟨g0, 0, none⟩)) rfl (by kernel_rfl) (by kernel_rfl) (by kernel_rfl) (fun _ _ _ h => h) (Or.inl ⟨by rfl, ?_⟩) hHeld ?_
  · intro w hSw
    obtain ⟨q0, q1, q2, q3⟩ := hSw
    simp only [List.getElem_toArray, List.getElem_cons_zero, List.getElem_cons_succ]
    go_simp
  simp only [Act.put, List.getElem_toArray, List.getElem_cons_zero, List.getElem_cons_succ, List.setIfInBounds_toArray, List.set_cons_zero, List.set_cons_succ]
  refine wpAnyH_take (i := 5) (v := .pointer (some ⟨g0, 0, none⟩)) rfl (by kernel_rfl) (by kernel_rfl) (by kernel_rfl) (fun _ _ _ h => h) (Or.inl ⟨by rfl, ?_⟩) hHeld ?_
  · intro w hSw
    obtain ⟨q0, q1, q2, q3⟩ := hSw
    simp only [List.getElem_toArray, List.getElem_cons_zero, List.getElem_cons_succ]
    go_simp
  simp only [Act.put, List.getElem_toArray, List.getElem_cons_zero, List.getElem_cons_succ, List.setIfInBounds_toArray, List.set_cons_zero, List.set_cons_succ]
  refine wpAnyH_take (i := 6) (v := .int .i64 (m : Int)) rfl (by kernel_rfl) (by kernel_rfl) (by kernel_rfl) (fun _ _ _ h => h) (Or.inl ⟨by rfl, ?_⟩) hHeld ?_
  · intro w hSw
    obtain ⟨q0, q1, q2, q3⟩ := hSw
    simp only [List.getElem_toArray, List.getElem_cons_zero, List.getElem_cons_succ]
    go_simp
  simp only [Act.put, List.getElem_toArray, List.getElem_cons_zero, List.getElem_cons_succ, List.setIfInBounds_toArray, List.set_cons_zero, List.set_cons_succ]
  refine wpAnyH_take (i := 7) (v := .slice (some ⟨w.heap.size, 0, none⟩) m 2) rfl (by kernel_rfl) (by kernel_rfl) (by kernel_rfl) (fun _ _ _ h => h) (Or.inl ⟨by rfl, ?_⟩) hHeld ?_
  · intro w hSw
    obtain ⟨q0, q1, q2, q3⟩ := hSw
    simp only [List.getElem_toArray, List.getElem_cons_zero, List.getElem_cons_succ]
    go_simp
  simp only [Act.put, List.getElem_toArray, List.getElem_cons_zero, List.getElem_cons_succ, List.setIfInBounds_toArray, List.set_cons_zero, List.set_cons_succ]
  refine wpAnyH_take (i := 8) (v := .pointer (some ⟨w.heap.size, 2, none⟩)) rfl (by kernel_rfl) (by kernel_rfl) (by kernel_rfl) (fun _ _ _ h => h) (Or.inl ⟨by rfl, ?_⟩) hHeld ?_
  · intro w hSw
    obtain ⟨q0, q1, q2, q3⟩ := hSw
    simp only [List.getElem_toArray, List.getElem_cons_zero, List.getElem_cons_succ]
    go_simp
  simp only [Act.put, List.getElem_toArray, List.getElem_cons_zero, List.getElem_cons_succ, List.setIfInBounds_toArray, List.set_cons_zero, List.set_cons_succ]
  refine wpAnyH_take (i := 9) (v := .slice YA ans.length ycap) rfl (by kernel_rfl) (by kernel_rfl) (by kernel_rfl) (fun _ _ _ h => h) (Or.inl ⟨by rfl, ?_⟩) hHeld ?_
  · intro w hSw
    obtain ⟨q0, q1, q2, q3⟩ := hSw
    simp only [List.getElem_toArray, List.getElem_cons_zero, List.getElem_cons_succ]
    go_simp
  simp only [Act.put, List.getElem_toArray, List.getElem_cons_zero, List.getElem_cons_succ, List.setIfInBounds_toArray, List.set_cons_zero, List.set_cons_succ]
  refine wpAnyH_take (i := 10) (v := .pointer (some ⟨w.heap.size, 2, none⟩)) rfl (by kernel_rfl) (by kernel_rfl) (by kernel_rfl) (fun _ _ _ h => h) (Or.inl ⟨by rfl, ?_⟩) hHeld ?_
  · intro w hSw
    obtain ⟨q0, q1, q2, q3⟩ := hSw
    simp only [List.getElem_toArray, List.getElem_cons_zero, List.getElem_cons_succ]
    go_simp
  simp only [Act.put, List.getElem_toArray, List.getElem_cons_zero, List.getElem_cons_succ, List.setIfInBounds_toArray, List.set_cons_zero, List.set_cons_succ]
  refine wpAnyH_take (i := 11) (v := .slice YA ans.length ycap) rfl (by kernel_rfl) (by kernel_rfl) (by kernel_rfl) (fun _ _ _ h => h) (Or.inl ⟨by rfl, ?_⟩) hHeld ?_
  · intro w hSw
    obtain ⟨q0, q1, q2, q3⟩ := hSw
    simp only [List.getElem_toArray, List.getElem_cons_zero, List.getElem_cons_succ]
    go_simp
  simp only [Act.put, List.getElem_toArray, List.getElem_cons_zero, List.getElem_cons_succ, List.setIfInBounds_toArray, List.set_cons_zero, List.set_cons_succ]
  refine wpAnyH_take (i := 12) (v := .int .i64 (ans.length : Int)) rfl (by kernel_rfl) (by kernel_rfl) (by kernel_rfl) (fun _ _ _ h => h) (Or.inl ⟨by rfl, ?_⟩) hHeld ?_
  · intro w hSw
    obtain ⟨q0, q1, q2, q3⟩ := hSw
    simp only [List.getElem_toArray, List.getElem_cons_zero, List.getElem_cons_succ]
    go_simp
  simp only [Act.put, List.getElem_toArray, List.getElem_cons_zero, List.getElem_cons_succ, List.setIfInBounds_toArray, List.set_cons_zero, List.set_cons_succ]
  refine wpAnyH_take (i := 13) (v := .int .i64 (ka : Int)) rfl (by kernel_rfl) (by kernel_rfl) (by kernel_rfl) (fun _ _ _ h => h) (Or.inl ⟨by rfl, ?_⟩) hHeld ?_
  · intro w hSw
    obtain ⟨q0, q1, q2, q3⟩ := hSw
    simp only [List.getElem_toArray, List.getElem_cons_zero, List.getElem_cons_succ]
    go_simp
  simp only [Act.put, List.getElem_toArray, List.getElem_cons_zero, List.getElem_cons_succ, List.setIfInBounds_toArray, List.set_cons_zero, List.set_cons_succ]
  refine wpAnyH_take (i := 14) (v := .slice YA ka ycap) rfl (by kernel_rfl) (by kernel_rfl) (by kernel_rfl) (fun _ _ _ h => h) (Or.inl ⟨by rfl, ?_⟩) hHeld ?_
  · intro w hSw
    obtain ⟨q0, q1, q2, q3⟩ := hSw
    simp only [List.getElem_toArray, List.getElem_cons_zero, List.getElem_cons_succ]
    go_simp
  simp only [Act.put, List.getElem_toArray, List.getElem_cons_zero, List.getElem_cons_succ, List.setIfInBounds_toArray, List.set_cons_zero, List.set_cons_succ]
  refine wpAnyH_take (i := 15) (v := .pointer (some ⟨w.heap.size, 3, none⟩)) rfl (by kernel_rfl) (by kernel_rfl) (by kernel_rfl) (fun _ _ _ h => h) (Or.inl ⟨by rfl, ?_⟩) hHeld ?_
  · intro w hSw
    obtain ⟨q0, q1, q2, q3⟩ := hSw
    simp only [List.getElem_toArray, List.getElem_cons_zero, List.getElem_cons_succ]
    go_simp
  simp only [Act.put, List.getElem_toArray, List.getElem_cons_zero, List.getElem_cons_succ, List.setIfInBounds_toArray, List.set_cons_zero, List.set_cons_succ]
  refine wpAnyH_take (i := 16) (v := .int .i64 fuel) rfl (by kernel_rfl) (by kernel_rfl) (by kernel_rfl) (fun _ _ _ h => h) (Or.inl ⟨by rfl, ?_⟩) hHeld ?_
  · intro w hSw
    obtain ⟨q0, q1, q2, q3⟩ := hSw
    simp only [List.getElem_toArray, List.getElem_cons_zero, List.getElem_cons_succ]
    go_simp
  simp only [Act.put, List.getElem_toArray, List.getElem_cons_zero, List.getElem_cons_succ, List.setIfInBounds_toArray, List.set_cons_zero, List.set_cons_succ]
  refine wpAnyH_ready (rs := [17]) (by kernel_rfl) (by simp) ?_
  refine AllReadyH.cons rfl (fun K hK => ?_) AllReadyH.nil
  simp only [List.getElem_toArray, List.getElem_cons_zero, List.getElem_cons_succ]
  go_simp
  refine (HKF.out _).mono ?_
  rintro e w' ⟨rfl, rfl⟩
  refine hK.out _ _ hHeld (fun hHeld => ?_)
  clear hK K
  refine wpAnyH_ready (rs := [18]) (by kernel_rfl) (by simp) ?_
  refine AllReadyH.cons rfl (fun K hK => ?_) AllReadyH.nil
  simp only [List.getElem_toArray, List.getElem_cons_zero, List.getElem_cons_succ]
  go_simp
  refine (HCT.out _ (HX2.out.below.trans ((Below.refl w2.heap.size w2).drew.mono HX2.out.below.size))).mono ?_
  rintro e w4 ⟨⟨og, bs, kk, rfl, hkk, hks, hout⟩, hb4⟩
  have hcn := HCN.out kk
  rw [HE.out kk hkk hks] at hcn
  obtain ⟨cs, hcs⟩ : ∃ cs, cntK p s0 kk = cs := ⟨_, rfl⟩
  rw [hcs] at hout hcn
  have HCI := Lib.hid hcn
  have HO4 := Lib.hid hout
  have HB24 := Lib.hid ((Below.refl w2.heap.size w2).drew.trans (hb4.mono (Below.refl w2.heap.size w2).drew.size))
  have HX4 := Lib.hid (HX2.out.keeps HB24.out)
  have HCL := Lib.hid hcn.len
  refine hK.out _ _ (KS.out _ HB24.out) (fun hHeld => ?_)
  clear hK K hcn hout hb4 hkk hks hcs
  refine wpAnyH_take (i := 19) (v := .tuple #[.slice (some ⟨og, 0, none⟩) p.length p.length, .int .i64 0]) rfl (by kernel_rfl) (by kernel_rfl) (by kernel_rfl) (fun _ _ _ h => h) (Or.inl ⟨by rfl, ?_⟩) hHeld ?_
  · intro w hSw
    simp only [List.getElem_toArray, List.getElem_cons_zero, List.getElem_cons_succ]
    go_simp
  simp only [Act.put, List.getElem_toArray, List.getElem_cons_zero, List.getElem_cons_succ, List.setIfInBounds_toArray, List.set_cons_zero, List.set_cons_succ]
  refine wpAnyH_take (i := 20) (v := .slice (some ⟨og, 0, none⟩) p.length p.length) rfl (by kernel_rfl) (by kernel_rfl) (by kernel_rfl) (fun _ _ _ h => h) (Or.inl ⟨by rfl, ?_⟩) hHeld ?_
  · intro w hSw
    simp only [List.getElem_toArray, List.getElem_cons_zero, List.getElem_cons_succ]
    go_simp
  simp only [Act.put, List.getElem_toArray, List.getElem_cons_zero, List.getElem_cons_succ, List.setIfInBounds_toArray, List.set_cons_zero, List.set_cons_succ]
  refine wpAnyH_take (i := 21) (v := .int .i64 0) rfl (by kernel_rfl) (by kernel_rfl) (by kernel_rfl) (fun _ _ _ h => h) (Or.inl ⟨by rfl, ?_⟩) hHeld ?_
  · intro w hSw
    simp only [List.getElem_toArray, List.getElem_cons_zero, List.getElem_cons_succ]
    go_simp
  simp only [Act.put, List.getElem_toArray, List.getElem_cons_zero, List.getElem_cons_succ, List.setIfInBounds_toArray, List.set_cons_zero, List.set_cons_succ]
  refine wpAnyH_ready (rs := [22]) (by kernel_rfl) (by simp) ?_
  refine AllReadyH.cons rfl (fun K hK => ?_) AllReadyH.nil
  simp only [List.getElem_toArray, List.getElem_cons_zero, List.getElem_cons_succ]
  go_simp
  refine hK.out _ _ hHeld (fun hHeld => ?_)
  clear hK K
  refine wpAnyH_ready (rs := [23]) (by kernel_rfl) (by simp) ?_
  refine AllReadyH.cons rfl (fun K hK => ?_) AllReadyH.nil
  simp only [List.getElem_toArray, List.getElem_cons_zero, List.getElem_cons_succ]
  go_simp
  refine hK.out _ _ hHeld (fun hHeld => ?_)
  clear hK K
  clear hHeld
  refine wpAnyH_done (by kernel_rfl) ?_ _
  clear KS
  have HC0 := Lib.hid HC00.out
  have pc4 := HX4.out.pcell
  have zp := block_lt HX4.out.pblk
  have HFNC : Hid (∀ (i : Nat) (F : Fnc), p[i]? = some F → ∃ (CA : Option Addr) (ccap : Nat), w1.cell? ⟨g0, i * 3, none⟩ = some (.int .i64 F.params) ∧ w1.cell? ⟨g0, i * 3 + 1, none⟩ = some (.int .i64 F.regs) ∧ w1.cell? ⟨g0, i * 3 + 2, none⟩ = some (.slice CA F.code.length ccap) ∧ CodeAt w1 (.slice CA F.code.length ccap) F.code) := Lib.hid (fun i F hF => by
    obtain ⟨A0, cap0, hA0, hA⟩ := HP.out.slice
    simp only [Value.slice.injEq, true_and] at hA0
    obtain ⟨gp, hAg, hgp, hfn⟩ := hA (by omega)
    obtain ⟨e1, e2⟩ := hA0
    have e3 : gp = g0 := by have := e1.trans hAg; simp at this; exact this.symm
    subst e3
    obtain ⟨u, hu, c0, c1, c2⟩ := hfn i F hF
    obtain ⟨CA, ccap, rfl, -⟩ := hu.slice
    exact ⟨CA, ccap, c0, c1, c2, hu⟩)
  go_wp2_with fail
  go_loopw [8, 9] (fun vs v wr => ∃ (i : Nat) (sh : Int), i ≤ p.length ∧ v = .int .i64 (i : Int) ∧ vs = .int .i64 sh ∧ Short s1 i 1 sh ∧ Below w4.heap.size w4 wr) (fun _ v _ => p.length - (intOf v).toNat)
  case atStart => exact ⟨0, 0, by omega, rfl, rfl, .inl rfl, Below.refl _ _⟩
  case round =>
    obtain ⟨i, sh, hi, rfl, rfl, hsh, hbr⟩ := hrel
    have HSH := Lib.hid hsh
    have hsl := hsh.le
    have HBR := Lib.hid hbr
    have HXr := Lib.hid (HX4.out.keeps hbr)
    have pcr := HXr.out.pcell
    have zpr := block_lt HXr.out.pblk
    have HOr := Lib.hid (HO4.out.keeps hbr)
    clear pc4 zp hsh
    by_cases hin : i = p.length
    · subst hin
      have hq1 : decide (sh ≤ 1) = true := by simp; omega
      clear hbr
      go_wp2_with fail
      go_ret
      exact ⟨rfl, HBW.out.trans (HXr.out.below.mono HBW.out.size)⟩
    · have hi1 : i < p.length := by omega
      have hi2 : (i : Int) < p.length := by omega
      have hi3 : (0 : Int) ≤ i := by omega
      have hiw : IntKind.i64.wrap ((i : Int) + 1) = i + 1 := by rw [IntKind.wrap_i64]; omega
      obtain ⟨F, hF⟩ : ∃ F, p[i]? = some F := ⟨p[i], List.getElem?_eq_getElem hi1⟩
      obtain ⟨c, hc⟩ : ∃ c, cs[i]? = some c := ⟨cs[i]'(by rw [HCL.out]; exact hi1), List.getElem?_eq_getElem _⟩
      have hcl := HCI.out.lens i F c hF hc
      have hFO := HFN.out i F hF
      have hM40 := hFO.c2
      have hM1 := hFO.c1
      have HFI := Lib.hid hFO
      obtain ⟨CA, ccap, x0, x1, x2, hcode⟩ := HFNC.out i F hF
      have HBwr := Lib.hid (HX4.out.below.trans (hbr.mono HX4.out.below.size))
      rw [← HBwr.out.cell (p := ⟨g0, _, none⟩) HGZ.out] at x0 x1 x2
      have zg0 : g0 < wr.heap.size := Nat.lt_of_lt_of_le HGZ.out HBwr.out.size
      obtain ⟨A0, cap0, hA0, hA⟩ := hcode.slice
      obtain ⟨gc, hgc, hgcz, hins⟩ := hA (by omega)
      simp only [Value.slice.injEq, true_and] at hA0
      obtain ⟨rfl, rfl⟩ := hA0
      subst hgc
      have HINS := Lib.hid hins
      have HFi := Lib.hid hF
      have HCi := Lib.hid hc
      have HCLi := Lib.hid hcl
      have HPOS := Lib.hid (fun x hx => HCI.out.bound (List.mem_of_getElem? hc) (x := x) hx)
      have hfu0 := HIR.out.fuel0
      have HGCZ := Lib.hid hgcz
      obtain ⟨b, hbb, e1, zg, zb, hib⟩ := HOr.out.of hc
      have HIC := Lib.hid hib
      rw [hcl] at e1
      obtain ⟨M, hM⟩ : ∃ M, F.code.length = M := ⟨_, rfl⟩
      have HML := Lib.hid hM
      rw [hM] at x2 hM40 hM1 hcl HCLi e1
      have HGC := Lib.hid (fun (W : World) (hb : Below wr.heap.size wr W) => (hb.cell (p := ⟨og, i, none⟩) zg).trans e1)
      obtain ⟨w5, hw5⟩ : ∃ w5, wr.alloc (.cells #[.int .i64 F.params, .int .i64 F.regs, .slice (some ⟨gc, 0, none⟩) M ccap] 36) = w5 := ⟨_, rfl⟩
      have HB5 : Hid (Below wr.heap.size wr w5) := Lib.hid (hw5 ▸ (Below.refl _ _).alloc (Nat.le_refl _) _)
      have HFB : Hid (w5.heap[wr.heap.size]? = some (.cells #[.int .i64 F.params, .int .i64 F.regs, .slice (some ⟨gc, 0, none⟩) M ccap] 36 (0, 0))) := Lib.hid (hw5 ▸ heap_alloc_new wr _)
      clear hF hc hFO hcode hA hins hgcz hM hin hbr hbb hib
      go_wp2_with fail
      clear hw5 x0 x1 x2 pcr zpr
      have f2 := cell_block HFB.out 2
      have zf := block_lt HFB.out
      have e15 := HGC.out _ HB5.out
      have zg5 : og < w5.heap.size := by omega
      go_quiet (fail)
      go_wp2_with fail
      have HB5d := Lib.hid (fun (W : World) (hb : Below w5.heap.size w5 W) => HB5.out.trans (hb.mono HB5.out.size))
      clear f2 zf e15 zg5 e1
      obtain ⟨wo, hwo⟩ : ∃ wo : World, wo = wr := ⟨_, rfl⟩
      subst hwo
      go_loopw [8, 11] (fun vs v wr => ∃ (pc : Nat) (sh2 : Int), 1 ≤ pc ∧ pc ≤ M ∧ v = .int .i64 (pc : Int) ∧ vs = .int .i64 sh2 ∧ Short s1 i pc sh2 ∧ Below w5.heap.size w5 wr) (fun _ v _ => M - (intOf v).toNat)
      case atStart => exact ⟨1, sh, by omega, hM1, rfl, rfl, HSH.out, below_drewN (Below.refl _ _) _⟩
      case round =>
        obtain ⟨pc, sh2, hp1, hp2, rfl, rfl, hsh2, hbp⟩ := hrel
        have HSH2 := Lib.hid hsh2
        have hsl2 := hsh2.le
        have HBP := Lib.hid hbp
        have HFBr := Lib.hid ((hbp.block _ (block_lt HFB.out)).trans HFB.out)
        have f2 := cell_block HFBr.out 2
        have zf := block_lt HFBr.out
        clear hsh2 hsl
        by_cases hpm : pc = M
        · have HFIN := Lib.hid (HBR.out.trans ((HB5d.out _ hbp).mono HBR.out.size))
          have HSF := Lib.hid HSH2.out.fn
          subst hpm
          clear hbp
          go_wp2_with fail
          go_roundw
          case rel => exact ⟨i + 1, sh2, by omega, by go_num, rfl, HSF.out, HFIN.out⟩
          case measure => simp [intOf]; omega
        · have hp3 : (pc : Int) < M := by omega
          have hpw : IntKind.i64.wrap ((pc : Int) + 1) = pc + 1 := by rw [IntKind.wrap_i64]; omega
          go_wp2_with fail
          obtain ⟨wq, hwq⟩ : ∃ wo : World, wo = wr := ⟨_, rfl⟩
          subst hwq
          go_loopw [12, 13] (fun vt v wr => ∃ (k : Nat) (tg : Bool), k ≤ M ∧ v = .int .i64 (k : Int) ∧ vt = .bool tg ∧ (tg = false → ∀ j x, j < k → F.code[j]? = some x → (x.op = 15 ∨ x.op = 16) → x.imm ≠ (pc : Int)) ∧ Below wq.heap.size wq wr) (fun _ v _ => M - (intOf v).toNat)
          case atStart => exact ⟨0, false, by omega, rfl, rfl, fun _ j x h => by omega, Below.refl _ _⟩
          case round =>
            obtain ⟨k, tg, hk, rfl, rfl, htg, hbk⟩ := hrel
            have HTG := Lib.hid htg
            have HBK := Lib.hid hbk
            have HBx := Lib.hid (HBP.out.trans (hbk.mono HBP.out.size))
            rw [← hbk.cell (p := ⟨wo.heap.size, 2, none⟩) zf] at f2
            have zf2 : wo.heap.size < wr.heap.size := Nat.lt_of_lt_of_le zf hbk.size
            have hgcr : gc < wr.heap.size := by
              have h1 := HGCZ.out
              have h2 := HBwr.out.size
              have h3 := (HB5d.out _ HBx.out).size
              omega
            have HINr := Lib.hid (fun (j : Nat) (x : Ins) (hj : F.code[j]? = some x) => by
              have h1 := HINS.out j x hj
              have hb := HBwr.out.trans ((HB5d.out _ HBx.out).mono HBwr.out.size)
              exact (⟨(hb.cell (p := ⟨gc, _, none⟩) HGCZ.out).trans h1.1, (hb.cell (p := ⟨gc, _, none⟩) HGCZ.out).trans h1.2.2.2.2⟩ : wr.cell? ⟨gc, j * 5, none⟩ = some (.int .i64 x.op) ∧ wr.cell? ⟨gc, j * 5 + 4, none⟩ = some (.int .i64 x.imm)))
            clear htg hbk
            by_cases hkM : k = M
            · -- the target is known
              obtain ⟨z, hz2⟩ : ∃ z, F.code[pc - 1]? = some z := ⟨F.code[pc - 1]'(by rw [HML.out]; omega), List.getElem?_eq_getElem _⟩
              have hp4 : IntKind.i64.wrap ((pc : Int) - 1) = ((pc - 1 : Nat) : Int) := by rw [IntKind.wrap_i64]; omega
              have hp5 : ((pc - 1 : Nat) : Int) < M := by omega
              obtain ⟨pm, hpm'⟩ : ∃ pm, pc - 1 = pm := ⟨_, rfl⟩
              have hpm1 : pc = pm + 1 := by omega
              rw [hpm'] at hz2 hp4 hp5
              have hp6 : (0 : Int) ≤ pm := by omega
              have HZ := Lib.hid hz2
              obtain ⟨o1, -⟩ := HINr.out pm z hz2
              subst hkM
              have HFIN := Lib.hid (HBK.out.trans (Below.refl _ _) : Below wq.heap.size wq wr)
              clear hpm' hz2
              cases tg with
              | true =>
                have HSN := Lib.hid HSH2.out.on
                clear o1 hpm1
                go_wp2_with fail
                go_roundw
                case rel => exact ⟨pc + 1, sh2, by omega, by omega, by go_num, rfl, HSN.out, HBx.out⟩
                case measure => simp [intOf]; omega
              | false =>
                by_cases hz15 : 15 ≤ z.op
                · have HSN := Lib.hid HSH2.out.on
                  clear hpm1
                  have hzb : decide ((15 : Int) ≤ z.op) = true := by simpa using hz15
                  go_wp2_with fail
                  go_roundw
                  case rel => exact ⟨pc + 1, sh2, by omega, by omega, by go_num, rfl, HSN.out, HBx.out⟩
                  case measure => simp [intOf]; omega
                · have hzb : decide ((15 : Int) ≤ z.op) = false := by simpa using hz15
                  obtain ⟨x, hx⟩ : ∃ x, c[pm]? = some x := ⟨c[pm]'(by rw [HCLi.out]; omega), List.getElem?_eq_getElem _⟩
                  obtain ⟨y, hy⟩ : ∃ y, c[pm + 1]? = some y := ⟨c[pm + 1]'(by rw [HCLi.out]; omega), List.getElem?_eq_getElem _⟩
                  have hflow := HCI.out.flow i F c pm z x y HFi.out HCi.out HZ.out (by omega) (fun u hu ho => by
                    obtain ⟨j, hj⟩ := List.mem_iff_getElem?.1 hu
                    have := HTG.out rfl j u (by have := (List.getElem?_eq_some_iff.1 hj).1; rw [HML.out] at this; exact this) hj ho
                    rw [← hpm1]; exact this) hx hy
                  rw [← hpm1] at hflow hy
                  have HSN := Lib.hid (HSH2.out.add hflow)
                  have hb0 := HPOS.out x (List.mem_of_getElem? hx)
                  have hb1 := HPOS.out y (List.mem_of_getElem? hy)
                  have h01 := pend_01 s1 i pc
                  have hwd : IntKind.i64.wrap (x - y) = x - y := by rw [IntKind.wrap_i64]; omega
                  have hws : IntKind.i64.wrap (sh2 + (x - y)) = sh2 + (x - y) := by rw [IntKind.wrap_i64]; omega
                  have hdn : decide (x - y < 0) = false := by simp; omega
                  have hbw := HB5d.out _ HBx.out
                  have ex := (hbw.cell (p := ⟨b, _, none⟩) zb).trans (HIC.out.cell hx)
                  have ey := (hbw.cell (p := ⟨b, _, none⟩) zb).trans (HIC.out.cell hy)
                  have eg := HGC.out _ hbw
                  have zbr : b < wr.heap.size := Nat.lt_of_lt_of_le zb hbw.size
                  have zgr : og < wr.heap.size := Nat.lt_of_lt_of_le zg hbw.size
                  clear hx hy hflow hb0 hb1 h01 hbw hpm1 HFIN
                  go_wp2_with fail
                  go_quiet (fail)
                  go_wp2_with fail
                  go_roundw
                  case rel => exact ⟨pc + 1, sh2 + (x - y), by omega, by omega, by go_num, rfl, HSN.out, HBx.out.trans (by have hb := Below.refl wr.heap.size wr; exact (Below.mono (by repeat (first | exact hb | exact Below.refl _ _ | apply Below.drew | apply below_drewN | refine Below.alloc ?_ (by first | omega | (simp; done) | (simp; omega)) _ | refine Below.setCell ?_ (by first | omega | (simp; done) | (simp; omega)) _)) (HBx.out.size)))⟩
                  case measure => simp [intOf]; omega
            · have hk1 : (k : Int) < M := by omega
              have hk2 : (0 : Int) ≤ k := by omega
              have hkw : IntKind.i64.wrap ((k : Int) + 1) = k + 1 := by rw [IntKind.wrap_i64]; omega
              obtain ⟨x, hx⟩ : ∃ x, F.code[k]? = some x := ⟨F.code[k]'(by rw [HML.out]; omega), List.getElem?_eq_getElem _⟩
              obtain ⟨o1, o2⟩ := HINr.out k x hx
              have HX := Lib.hid hx
              clear hx hkM
              cases tg with
              | true =>
                go_wp2_with fail
                go_roundw
                case rel => exact ⟨k + 1, true, by omega, by go_num, rfl, (fun h => absurd h (by simp)), HBK.out⟩
                case measure => simp [intOf]; omega
              | false =>
                obtain ⟨t, ht⟩ : ∃ t, ((x.op == 15 || x.op == 16) && x.imm == (pc : Int)) = t := ⟨_, rfl⟩
                have HT2 : Hid (t = false → ∀ j y, j < k + 1 → F.code[j]? = some y → (y.op = 15 ∨ y.op = 16) → y.imm ≠ (pc : Int)) := Lib.hid (fun h j y hj hy ho => by
                  by_cases hjk : j = k
                  · subst hjk
                    rw [HX.out] at hy; obtain rfl := Option.some.inj hy
                    rw [h] at ht
                    intro he
                    rcases ho with ho | ho <;> simp [ho, he] at ht
                  · exact HTG.out rfl j y (by omega) hy ho)
                have HT := Lib.hid ht
                by_cases h15 : x.op = 15
                · rw [h15] at o1
                  have hte : (x.imm == (pc : Int)) = t := by rw [← ht, h15]; simp
                  clear ht h15
                  go_wp2_with fail
                  go_roundw
                  case rel => exact ⟨k + 1, t, by omega, by go_num, by rw [← hte], HT2.out, HBK.out⟩
                  case measure => simp [intOf]; omega
                · by_cases h16 : x.op = 16
                  · rw [h16] at o1
                    have hte : (x.imm == (pc : Int)) = t := by rw [← ht, h16]; simp
                    clear ht h15 h16
                    go_wp2_with fail
                    go_roundw
                    case rel => exact ⟨k + 1, t, by omega, by go_num, by rw [← hte], HT2.out, HBK.out⟩
                    case measure => simp [intOf]; omega
                  · have hf : t = false := by rw [← ht]; simp [h15, h16]
                    have g15 : (x.op == 15) = false := by simpa using h15
                    have g16 : (x.op == 16) = false := by simpa using h16
                    have HF2 := Lib.hid (HT2.out hf)
                    clear ht h15 h16
                    go_wp2_with fail
                    go_roundw
                    case rel => exact ⟨k + 1, false, by omega, by go_num, rfl, fun _ => HF2.out, HBK.out⟩
                    case measure => simp [intOf]; omega
end Go.Proofs.YtnbopmlemddakaaDoor
