/-
  The walk of RunEnds: it returns true.
-/
import Derived.Test.YtnbopmlemddakaaDoorRg
namespace Go.Proofs.YtnbopmlemddakaaDoor
open Go.RowKit Tier
set_option maxRecDepth 100000 in
set_option maxHeartbeats 8000000 in
theorem runEnds_walk (A : Option Addr) (l : List Fnc) (cap : Nat) (a0 a1 : Int) (YA : Option Addr) (ans : List Int) (ycap : Nat) (fuel : Int) (w : World) (ht : Tab w) (hraw : RawsAt w A l) (hln : (l.length : Int) ≤ 9223372036854775807) (hin : InOk w a0 a1 YA ans ycap fuel) :
    Calls Tryd.prog 15 #[.slice A l.length cap, .agg #[.int .i64 a0, .int .i64 a1, .slice YA ans.length ycap, .int .i64 fuel]] w fun e w' => e = .returned (.bool true) ∧ Below w.heap.size w w' := by
  have HT := Lib.hid ht
  have HR := Lib.hid hraw
  have HIN := Lib.hid hin
  have hright := mkP_right l
  clear ht hraw hin
  go_enter Tryd.func15, Tryd.ntmps15
  go_wp2_with fail
  obtain ⟨wi, hwi⟩ : ∃ wi, w.alloc (.cells #[.int .i64 a0, .int .i64 a1, .slice YA ans.length ycap, .int .i64 fuel] 46) = wi := ⟨_, rfl⟩
  have HBI : Hid (Below w.heap.size w wi) := Lib.hid (hwi ▸ (Below.refl _ w).alloc (Nat.le_refl _) _)
  have HIB : Hid (wi.heap[w.heap.size]? = some (.cells #[.int .i64 a0, .int .i64 a1, .slice YA ans.length ycap, .int .i64 fuel] 46 (0, 0))) := Lib.hid (hwi ▸ heap_alloc_new w _)
  rw [hwi]
  refine (program_any A cap l _ (HT.out.keeps HBI.out) hln (HR.out.keeps HBI.out)).mono ?_
  rintro e w1 ⟨⟨A1, cap1, vs, rfl, hpv⟩, hb1⟩
  have HP := Lib.hid hpv.at
  have HBW := Lib.hid (HBI.out.trans (hb1.mono HBI.out.size))
  have HT1 := Lib.hid (HT.out.keeps HBW.out)
  have hib := (hb1.block _ (block_lt HIB.out)).trans HIB.out
  have HIB1 := Lib.hid hib
  have i0 := (cell_block hib 0).trans rfl
  have i1 := (cell_block hib 1).trans rfl
  have i2 := (cell_block hib 2).trans rfl
  have i3 := (cell_block hib 3).trans rfl
  have zi := block_lt hib
  clear hpv hb1 hwi HBI HIB hib vs
  generalize mkP l = p at *
  have hp := right_of hright
  have HG := Lib.hid (hright)
  have HRP := Lib.hid hp
  have HBG := Lib.hid (fun (W : World) (hb : Below w1.heap.size w1 W) => kbegin_any hright a0 a1 fuel ans YA ycap A1 cap1 W (HT1.out.keeps hb) (HP.out.keeps hb) ((HIN.out.row.keeps HBW.out).keeps hb) HIN.out.len HIN.out.cap HIN.out.fuel)
  have hi0 := inSt_inv hp a0 a1 ans fuel
  obtain ⟨g0, hg0, hgz, hc00⟩ := params_cell hp HP.out a0 a1
  have HA1 := Lib.hid hg0
  have HGZ := Lib.hid hgz
  have HC00 := Lib.hid (fun (W : World) (hb : Below w1.heap.size w1 W) => (hb.cell (p := ⟨g0, 0, none⟩) hgz).trans hc00)
  have HKF := Lib.hid (fun (W : World) => picked_any fuel 300 W HIN.out.fuel (by omega) (by omega))
  have HRN := Lib.hid (fun (W : World) (hb : Below w1.heap.size w1 W) => srun_k hright a0 a1 fuel ans YA ycap A1 cap1 W (HT1.out.keeps hb) (HP.out.keeps hb) ((hb.block _ (block_lt HIB1.out)).trans HIB1.out) ((HIN.out.row.keeps HBW.out).keeps hb))
  have hl1 := hp.ok.l1
  have hm2 : (inArgs p a0 a1).length ≤ 2 := by unfold inArgs; simp; omega
  have hka := List.length_take (i := 10) (l := ans)
  have hcy := HIN.out.cap
  have hly := HIN.out.len
  obtain ⟨m, hm⟩ : ∃ m, (inArgs p a0 a1).length = m := ⟨_, rfl⟩
  obtain ⟨ka, hk⟩ : ∃ k, (ans.take 10).length = k := ⟨_, rfl⟩
  obtain ⟨q, hq⟩ : ∃ q, pickedI fuel 300 = q := ⟨_, rfl⟩
  have HQ := Lib.hid hq
  have HKA := Lib.hid hk
  rw [hm] at HC00 HRN hm2
  rw [hk] at HRN hka
  rw [hq] at HRN HKF
  rw [HA1.out] at HRN
  have hN0 : 0 < p.length := by omega
  have hm3 : (m : Int) ≤ 2 := by omega
  have hm0 : (0 : Int) ≤ m := by omega
  have hkm : min (ans.length : Int) 10 = ka := by omega
  have hk0 : (0 : Int) ≤ ka := by omega
  have hk3 : (ka : Int) ≤ ycap := by omega
  clear hg0 hgz hc00 hm hk hq hl1 hka hcy hly
  obtain ⟨s0, hs0⟩ : ∃ s0, inSt p a0 a1 ans fuel = s0 := ⟨_, rfl⟩
  have hf0 : s0.fuel = q := by rw [← hs0, ← HQ.out]; rfl
  have pq := picked_in fuel 300 (by omega)
  rw [HQ.out] at pq
  rw [hs0] at HBG HRN hi0
  obtain ⟨s1, hs1⟩ : ∃ s1, walkSt p 10001 s0 = s1 := ⟨_, rfl⟩
  have HI0 := Lib.hid hi0
  have HIR : Hid (StInv p s1) := Lib.hid (hs1 ▸ hi0.walk hp 10001)
  have HE := Lib.hid (fun (k : Nat) (hk : k ≤ 300) (h : (walkSt p k s0).status ≠ 0) => (walk_end_eq (show k ≤ 10001 by omega) h).symm.trans hs1)
  have HE3 := Lib.hid (walk_ends hp 300 hi0 (by omega))
  have HIK := Lib.hid (fun (k : Nat) => hi0.walk hp k)
  have HNX := Lib.hid (fun (s : St) (hs : StInv p s) (C : List Value) (W : World) (hb : Below w1.heap.size w1 W) (hC : CellsSt C W w1.heap.size s) => snext_c hright (HT1.out.keeps hb) (HP.out.keeps hb) hs hC)
  have HCK := Lib.hid (fun (s : St) (hs : StInv p s) (C : List Value) (W : World) (hb : Below w1.heap.size w1 W) (hC : CellsSt C W w1.heap.size s) => scheck_c hright (HT1.out.keeps hb) (HP.out.keeps hb) hs hC)
  rw [hs1] at HRN
  clear hs0 hs1 hi0 hp hf0 pq
  clear hright
  go_wp2_with fail
  refine (HBG.out _ ((Below.refl _ w1).alloc (Nat.le_refl _) _)).mono ?_
  rintro e w2 ⟨⟨C0, rfl, hC0⟩, hb2⟩
  have HX2 : Hid (Sx w1 w1.heap.size (.slice A1 p.length cap1) w2 []) := Lib.hid ((Sx.mk ((Below.refl _ w1).alloc (Nat.le_refl _) _) (heap_alloc_new w1 _) (fun x hx => by simp at hx)).keeps hb2)
  have HC0 := Lib.hid (hC0.base (by simp : w1.heap.size ≤ _))
  have HJ0 := Lib.hid (info_st (HC0.out.len HI0.out.mem))
  have hz := zero_st
  clear hC0 hb2 HBG i0 i1 i2 i3 zi
  go_wp2_with (refine wpList_store_mid (by rfl) 50 _ _ (by rfl) w2.heap.size 0 C0.toArray (by rfl) (by rfl) (there_new w2 zeroV _ (by simp [HC0.out.len HI0.out.mem, zeroV_length])) (by simpa using HJ0.out) HC0.out.one ?_; obtain ⟨w3, hw3⟩ : ∃ w3, (w2.alloc (.cells zeroV.toArray 50)).setCells w2.heap.size 0 C0.toArray.toList = w3 := ⟨_, rfl⟩; rw [hw3]; have HX3 : Hid (Sx w1 w1.heap.size (.slice A1 p.length cap1) w3 [(w2.heap.size, C0, s0)]) := Lib.hid (hw3 ▸ HX2.out.add HC0.out HI0.out.mem); have pc3 := HX3.out.pcell; clear hw3)
  have ep := HX3.out.pcell
  rw [HA1.out] at ep
  have eib := (HX3.out.below.block _ (block_lt HIB1.out)).trans HIB1.out
  have e2 := (cell_block eib 2).trans rfl
  have e3 := (cell_block eib 3).trans rfl
  have e0 := HC00.out _ HX3.out.below
  have z0 := block_lt HX3.out.pblk
  have z1 := block_lt eib
  have z2 := HX3.out.below.size
  have HGZ3 := Lib.hid (Nat.lt_of_lt_of_le HGZ.out z2)
  have KS := Lib.hid (fun (w' : World) (hb : Below w3.heap.size w3 w') => (⟨(hb.cell (p := ⟨w1.heap.size, 0, none⟩) z0).trans ep, (hb.cell (p := ⟨g0, 0, none⟩) HGZ3.out).trans e0, (hb.cell (p := ⟨w.heap.size, 2, none⟩) z1).trans e2, (hb.cell (p := ⟨w.heap.size, 3, none⟩) z1).trans e3⟩ : w'.cell? ⟨w1.heap.size, 0, none⟩ = some (.slice (some ⟨g0, 0, none⟩) p.length cap1) ∧ w'.cell? ⟨g0, 0, none⟩ = some (.int .i64 (m : Int)) ∧ w'.cell? ⟨w.heap.size, 2, none⟩ = some (.slice YA ans.length ycap) ∧ w'.cell? ⟨w.heap.size, 3, none⟩ = some (.int .i64 fuel)))
  clear ep eib e2 e3 e0 z0 z1 z2 HGZ3
  apply region_cut2 (α := Nat) (β := List Value) (R := fun (b' : Nat) (C' : List Value) w' => b' ≠ w2.heap.size ∧ Sx w1 w1.heap.size (.slice A1 p.length cap1) w' ((b', C', s1) :: [(w2.heap.size, C0, s0)]))
  case h1 =>
    refine wp_region_held_drew (S := fun w' => w'.cell? ⟨w1.heap.size, 0, none⟩ = some (.slice (some ⟨g0, 0, none⟩) p.length cap1) ∧ w'.cell? ⟨g0, 0, none⟩ = some (.int .i64 (m : Int)) ∧ w'.cell? ⟨w.heap.size, 2, none⟩ = some (.slice YA ans.length ycap) ∧ w'.cell? ⟨w.heap.size, 3, none⟩ = some (.int .i64 fuel)) (by kernel_rfl) (KS.out _ (Below.refl _ _).drew) (fun hHeld => ?_)
    refine wpAnyH_take (i := 0) (v := .agg #[.slice (some ⟨g0, 0, none⟩) p.length cap1]) rfl (by kernel_rfl) (by kernel_rfl) (by kernel_rfl) (fun _ _ _ h => h) (Or.inl ⟨by rfl, ?_⟩) hHeld ?_
    · intro w hSw
      obtain ⟨q0, q1, q2, q3⟩ := hSw
      simp only [List.getElem_toArray, List.getElem_cons_zero]
      go_simp
    simp only [Act.put, List.getElem_toArray, List.getElem_cons_zero, List.setIfInBounds_toArray, List.set_cons_zero, List.set_cons_succ]
    refine wpAnyH_take (i := 1) (v := .pointer (some ⟨w.heap.size, 0, none⟩)) rfl (by kernel_rfl) (by kernel_rfl) (by kernel_rfl) (fun _ _ _ h => h) (Or.inl ⟨by rfl, ?_⟩) hHeld ?_
    · intro w hSw
      obtain ⟨q0, q1, q2, q3⟩ := hSw
      simp only [List.getElem_toArray, List.getElem_cons_zero, List.getElem_cons_succ]
      go_simp
    simp only [Act.put, List.getElem_toArray, List.getElem_cons_zero, List.getElem_cons_succ, List.setIfInBounds_toArray, List.set_cons_zero, List.set_cons_succ]
    refine wpAnyH_take (i := 2) (v := .pointer (some ⟨w1.heap.size, 0, none⟩)) rfl (by kernel_rfl) (by kernel_rfl) (by kernel_rfl) (fun _ _ _ h => h) (Or.inl ⟨by rfl, ?_⟩) hHeld ?_
    · intro w hSw
      obtain ⟨q0, q1, q2, q3⟩ := hSw
      simp only [List.getElem_toArray, List.getElem_cons_zero, List.getElem_cons_succ]
      go_simp
    simp only [Act.put, List.getElem_toArray, List.getElem_cons_zero, List.getElem_cons_succ, List.setIfInBounds_toArray, List.set_cons_zero, List.set_cons_succ]
    refine wpAnyH_take (i := 3) (v := .slice (some ⟨g0, 0, none⟩) p.length cap1) rfl (by kernel_rfl) (by kernel_rfl) (by kernel_rfl) (fun _ _ _ h => h) (Or.inl ⟨by rfl, ?_⟩) hHeld ?_
    · intro w hSw
      obtain ⟨q0, q1, q2, q3⟩ := hSw
      simp only [List.getElem_toArray, List.getElem_cons_zero, List.getElem_cons_succ]
      go_simp
    simp only [Act.put, List.getElem_toArray, List.getElem_cons_zero, List.getElem_cons_succ, List.setIfInBounds_toArray, List.set_cons_zero, List.set_cons_succ]
    refine wpAnyH_take (i := 4) (v := .pointer (some ⟨g0, 0, none⟩)) rfl (by kernel_rfl) (by kernel_rfl) (by kernel_rfl) (fun _ _ _ h => h) (Or.inl ⟨by rfl, ?_⟩) hHeld ?_
    · intro w hSw
      obtain ⟨q0, q1, q2, q3⟩ := hSw
      simp only [List.getElem_toArray, List.getElem_cons_zero, List.getElem_cons_succ]
      go_simp
    simp only [Act.put, List.getElem_toArray, List.getElem_cons_zero, List.getElem_cons_succ, List.setIfInBounds_toArray, List.set_cons_zero, List.set_cons_succ]
    refine wpAnyH_take (i := 5) (v := .pointer (some ⟨g0, 0, none⟩)) rfl (by kernel_rfl) (by kernel_rfl) (by kernel_rfl) (fun _ _ _ h => h) (Or.inl ⟨by rfl, ?_⟩) hHeld ?_
    · intro w hSw
      obtain ⟨q0, q1, q2, q3⟩ := hSw
      simp only [List.getElem_toArray, List.getElem_cons_zero, List.getElem_cons_succ]
      go_simp
    simp only [Act.put, List.getElem_toArray, List.getElem_cons_zero, List.getElem_cons_succ, List.setIfInBounds_toArray, List.set_cons_zero, List.set_cons_succ]
    refine wpAnyH_take (i := 6) (v := .int .i64 (m : Int)) rfl (by kernel_rfl) (by kernel_rfl) (by kernel_rfl) (fun _ _ _ h => h) (Or.inl ⟨by rfl, ?_⟩) hHeld ?_
    · intro w hSw
      obtain ⟨q0, q1, q2, q3⟩ := hSw
      simp only [List.getElem_toArray, List.getElem_cons_zero, List.getElem_cons_succ]
      go_simp
    simp only [Act.put, List.getElem_toArray, List.getElem_cons_zero, List.getElem_cons_succ, List.setIfInBounds_toArray, List.set_cons_zero, List.set_cons_succ]
    refine wpAnyH_take (i := 7) (v := .slice (some ⟨w.heap.size, 0, none⟩) m 2) rfl (by kernel_rfl) (by kernel_rfl) (by kernel_rfl) (fun _ _ _ h => h) (Or.inl ⟨by rfl, ?_⟩) hHeld ?_
    · intro w hSw
      obtain ⟨q0, q1, q2, q3⟩ := hSw
      simp only [List.getElem_toArray, List.getElem_cons_zero, List.getElem_cons_succ]
      go_simp
    simp only [Act.put, List.getElem_toArray, List.getElem_cons_zero, List.getElem_cons_succ, List.setIfInBounds_toArray, List.set_cons_zero, List.set_cons_succ]
    refine wpAnyH_take (i := 8) (v := .pointer (some ⟨w.heap.size, 2, none⟩)) rfl (by kernel_rfl) (by kernel_rfl) (by kernel_rfl) (fun _ _ _ h => h) (Or.inl ⟨by rfl, ?_⟩) hHeld ?_
    · intro w hSw
      obtain ⟨q0, q1, q2, q3⟩ := hSw
      simp only [List.getElem_toArray, List.getElem_cons_zero, List.getElem_cons_succ]
      go_simp
    simp only [Act.put, List.getElem_toArray, List.getElem_cons_zero, List.getElem_cons_succ, List.setIfInBounds_toArray, List.set_cons_zero, List.set_cons_succ]
    refine wpAnyH_take (i := 9) (v := .slice YA ans.length ycap) rfl (by kernel_rfl) (by kernel_rfl) (by kernel_rfl) (fun _ _ _ h => h) (Or.inl ⟨by rfl, ?_⟩) hHeld ?_
    · intro w hSw
      obtain ⟨q0, q1, q2, q3⟩ := hSw
      simp only [List.getElem_toArray, List.getElem_cons_zero, List.getElem_cons_succ]
      go_simp
    simp only [Act.put, List.getElem_toArray, List.getElem_cons_zero, List.getElem_cons_succ, List.setIfInBounds_toArray, List.set_cons_zero, List.set_cons_succ]
    refine wpAnyH_take (i := 10) (v := .pointer (some ⟨w.heap.size, 2, none⟩)) rfl (by kernel_rfl) (by kernel_rfl) (by kernel_rfl) (fun _ _ _ h => h) (Or.inl ⟨by rfl, ?_⟩) hHeld ?_
    · intro w hSw
      obtain ⟨q0, q1, q2, q3⟩ := hSw
      simp only [List.getElem_toArray, List.getElem_cons_zero, List.getElem_cons_succ]
      go_simp
    simp only [Act.put, List.getElem_toArray, List.getElem_cons_zero, List.getElem_cons_succ, List.setIfInBounds_toArray, List.set_cons_zero, List.set_cons_succ]
    refine wpAnyH_take (i := 11) (v := .slice YA ans.length ycap) rfl (by kernel_rfl) (by kernel_rfl) (by kernel_rfl) (fun _ _ _ h => h) (Or.inl ⟨by rfl, ?_⟩) hHeld ?_
    · intro w hSw
      obtain ⟨q0, q1, q2, q3⟩ := hSw
      simp only [List.getElem_toArray, List.getElem_cons_zero, List.getElem_cons_succ]
      go_simp
    simp only [Act.put, List.getElem_toArray, List.getElem_cons_zero, List.getElem_cons_succ, List.setIfInBounds_toArray, List.set_cons_zero, List.set_cons_succ]
    refine wpAnyH_take (i := 12) (v := .int .i64 (ans.length : Int)) rfl (by kernel_rfl) (by kernel_rfl) (by kernel_rfl) (fun _ _ _ h => h) (Or.inl ⟨by rfl, ?_⟩) hHeld ?_
    · intro w hSw
      obtain ⟨q0, q1, q2, q3⟩ := hSw
      simp only [List.getElem_toArray, List.getElem_cons_zero, List.getElem_cons_succ]
      go_simp
    simp only [Act.put, List.getElem_toArray, List.getElem_cons_zero, List.getElem_cons_succ, List.setIfInBounds_toArray, List.set_cons_zero, List.set_cons_succ]
    refine wpAnyH_take (i := 13) (v := .int .i64 (ka : Int)) rfl (by kernel_rfl) (by kernel_rfl) (by kernel_rfl) (fun _ _ _ h => h) (Or.inl ⟨by rfl, ?_⟩) hHeld ?_
    · intro w hSw
      obtain ⟨q0, q1, q2, q3⟩ := hSw
      simp only [List.getElem_toArray, List.getElem_cons_zero, List.getElem_cons_succ]
      go_simp
    simp only [Act.put, List.getElem_toArray, List.getElem_cons_zero, List.getElem_cons_succ, List.setIfInBounds_toArray, List.set_cons_zero, List.set_cons_succ]
    refine wpAnyH_take (i := 14) (v := .slice YA ka ycap) rfl (by kernel_rfl) (by kernel_rfl) (by kernel_rfl) (fun _ _ _ h => h) (Or.inl ⟨by rfl, ?_⟩) hHeld ?_
    · intro w hSw
      obtain ⟨q0, q1, q2, q3⟩ := hSw
      simp only [List.getElem_toArray, List.getElem_cons_zero, List.getElem_cons_succ]
      go_simp
    simp only [Act.put, List.getElem_toArray, List.getElem_cons_zero, List.getElem_cons_succ, List.setIfInBounds_toArray, List.set_cons_zero, List.set_cons_succ]
    refine wpAnyH_take (i := 15) (v := .pointer (some ⟨w.heap.size, 3, none⟩)) rfl (by kernel_rfl) (by kernel_rfl) (by kernel_rfl) (fun _ _ _ h => h) (Or.inl ⟨by rfl, ?_⟩) hHeld ?_
    · intro w hSw
      obtain ⟨q0, q1, q2, q3⟩ := hSw
      simp only [List.getElem_toArray, List.getElem_cons_zero, List.getElem_cons_succ]
      go_simp
    simp only [Act.put, List.getElem_toArray, List.getElem_cons_zero, List.getElem_cons_succ, List.setIfInBounds_toArray, List.set_cons_zero, List.set_cons_succ]
    refine wpAnyH_take (i := 16) (v := .int .i64 fuel) rfl (by kernel_rfl) (by kernel_rfl) (by kernel_rfl) (fun _ _ _ h => h) (Or.inl ⟨by rfl, ?_⟩) hHeld ?_
    · intro w hSw
      obtain ⟨q0, q1, q2, q3⟩ := hSw
      simp only [List.getElem_toArray, List.getElem_cons_zero, List.getElem_cons_succ]
      go_simp
    simp only [Act.put, List.getElem_toArray, List.getElem_cons_zero, List.getElem_cons_succ, List.setIfInBounds_toArray, List.set_cons_zero, List.set_cons_succ]
    refine wpAnyH_ready (rs := [17, 22]) (by kernel_rfl) (by simp) ?_
    refine AllReadyH.cons rfl (fun K hK => ?_) (AllReadyH.cons rfl (fun K hK => ?_) (AllReadyH.nil))
    · simp only [List.getElem_toArray, List.getElem_cons_zero, List.getElem_cons_succ]
      go_simp
      refine (HKF.out _).mono ?_
      rintro e w' ⟨rfl, rfl⟩
      refine hK.out _ _ hHeld (fun hHeld => ?_)
      clear hK K
      refine wpAnyH_ready (rs := [18, 22]) (by kernel_rfl) (by simp) ?_
      refine AllReadyH.cons rfl (fun K hK => ?_) (AllReadyH.cons rfl (fun K hK => ?_) (AllReadyH.nil))
      · simp only [List.getElem_toArray, List.getElem_cons_zero, List.getElem_cons_succ]
        go_simp
        refine (HRN.out _ (HX3.out.below.trans ((Below.refl w3.heap.size w3).drew.mono HX3.out.below.size))).mono ?_
        rintro e wa ⟨⟨CR, rfl, hC⟩, hb⟩
        have HBa : Hid (Below w3.heap.size w3 wa) := Lib.hid ((Below.refl w3.heap.size w3).drew.trans (hb.mono (Below.refl w3.heap.size w3).drew.size))
        have HCR := Lib.hid (hC.base (HX3.out.below.trans ((Below.refl w3.heap.size w3).drew.mono HX3.out.below.size)).size)
        have HJR := Lib.hid (info_st (HCR.out.len HIR.out.mem))
        refine hK.out _ _ (KS.out _ HBa.out) (fun hHeld => ?_)
        clear hK K hC hb
        refine wpAnyH_take (i := 19) (v := .tuple #[.agg CR.toArray, .int .i64 0]) rfl (by kernel_rfl) (by kernel_rfl) (by kernel_rfl) (fun _ _ _ h => h) (Or.inl ⟨by rfl, ?_⟩) hHeld ?_
        · intro w hSw
          simp only [List.getElem_toArray, List.getElem_cons_zero, List.getElem_cons_succ]
          go_simp
        simp only [Act.put, List.getElem_toArray, List.getElem_cons_zero, List.getElem_cons_succ, List.setIfInBounds_toArray, List.set_cons_zero, List.set_cons_succ]
        refine wpAnyH_take (i := 20) (v := .agg CR.toArray) rfl (by kernel_rfl) (by kernel_rfl) (by kernel_rfl) (fun _ _ _ h => h) (Or.inl ⟨by rfl, ?_⟩) hHeld ?_
        · intro w hSw
          simp only [List.getElem_toArray, List.getElem_cons_zero, List.getElem_cons_succ]
          go_simp
        simp only [Act.put, List.getElem_toArray, List.getElem_cons_zero, List.getElem_cons_succ, List.setIfInBounds_toArray, List.set_cons_zero, List.set_cons_succ]
        refine wpAnyH_take (i := 21) (v := .int .i64 0) rfl (by kernel_rfl) (by kernel_rfl) (by kernel_rfl) (fun _ _ _ h => h) (Or.inl ⟨by rfl, ?_⟩) hHeld ?_
        · intro w hSw
          simp only [List.getElem_toArray, List.getElem_cons_zero, List.getElem_cons_succ]
          go_simp
        simp only [Act.put, List.getElem_toArray, List.getElem_cons_zero, List.getElem_cons_succ, List.setIfInBounds_toArray, List.set_cons_zero, List.set_cons_succ]
        refine wpAnyH_ready (rs := [22]) (by kernel_rfl) (by simp) ?_
        refine AllReadyH.cons rfl (fun K hK => ?_) AllReadyH.nil
        simp only [List.getElem_toArray, List.getElem_cons_zero, List.getElem_cons_succ]
        go_simp
        have HZB : Hid ((wa.alloc (.cells zeroV.toArray 50)).heap[wa.heap.size]? = some (.cells zeroV.toArray 50 (0, 0))) := Lib.hid (heap_alloc_new wa _)
        have HNB : Hid (w1.heap.size ≤ wa.heap.size ∧ w3.heap.size ≤ wa.heap.size ∧ ∀ x ∈ [(w2.heap.size, C0, s0)], x.1 ≠ wa.heap.size) := Lib.hid (by have h1 : w3.heap.size ≤ wa.heap.size := HBa.out.size; have h2 := HX3.out.below.size; exact ⟨by omega, h1, fun x hx => by have := block_lt (HX3.out.sts x hx).1; omega⟩)
        refine hK.out _ _ (KS.out _ (HBa.out.alloc HBa.out.size _)) (fun hHeld => ?_)
        clear hK K
        have HCR := Lib.hid (HCR.out.below ((Below.refl wa.heap.size wa).alloc (Nat.le_refl _) (.cells zeroV.toArray 50)))
        refine wpAnyH_ready (rs := [23]) (by kernel_rfl) (by simp) ?_
        refine AllReadyH.cons rfl (fun K hK => ?_) AllReadyH.nil
        simp only [List.getElem_toArray, List.getElem_cons_zero, List.getElem_cons_succ]
        rw [if_pos (by rfl)]
        refine wp_store_mid 50 _ _ (by rfl) wa.heap.size 0 CR.toArray (by rfl) (by rfl) (there_block HZB.out (by simp [HCR.out.len HIR.out.mem, zeroV_length])) (by simpa using HJR.out) HCR.out.one ?_
        obtain ⟨wb, hwb⟩ : ∃ wb, (wa.alloc (.cells zeroV.toArray 50)).setCells wa.heap.size 0 CR.toArray.toList = wb := ⟨_, rfl⟩
        rw [hwb]
        obtain ⟨br, hbr⟩ : ∃ b, wa.heap.size = b := ⟨_, rfl⟩
        have HXB : Hid (Sx w1 w1.heap.size (.slice A1 p.length cap1) wb [(br, CR, s1), (w2.heap.size, C0, s0)]) := Lib.hid (by rw [← hwb, ← hbr]; exact (HX3.out.keeps (HBa.out.alloc HBa.out.size (.cells zeroV.toArray 50))).put HZB.out zeroV_length HNB.out.1 (HCR.out) (HCR.out.len HIR.out.mem) (fun x hx => ⟨hx, HNB.out.2.2 x hx⟩))
        have HBB : Hid (Below w3.heap.size w3 wb) := Lib.hid (by rw [← hwb]; exact below_setCells HNB.out.2.1 _ _ _ (HBa.out.alloc HBa.out.size (.cells zeroV.toArray 50)))
        rw [hbr]
        refine hK.out _ _ (KS.out _ HBB.out) (fun hHeld => ?_)
        clear hK K hwb
        refine wpAnyH_ready (rs := [24]) (by kernel_rfl) (by simp) ?_
        refine AllReadyH.cons rfl (fun K hK => ?_) AllReadyH.nil
        simp only [List.getElem_toArray, List.getElem_cons_zero, List.getElem_cons_succ]
        go_simp
        refine hK.out _ _ hHeld (fun hHeld => ?_)
        clear hK K
        clear hHeld
        refine wpAnyH_done (by kernel_rfl) ?_ _
        exact ⟨br, CR, rfl, fun e => HNB.out.2.2 _ (.head _) (e.symm.trans hbr.symm), HXB.out⟩
      · simp only [List.getElem_toArray, List.getElem_cons_zero, List.getElem_cons_succ]
        go_simp
        have HZB : Hid ((w3.drew.alloc (.cells zeroV.toArray 50)).heap[w3.heap.size]? = some (.cells zeroV.toArray 50 (0, 0))) := Lib.hid (heap_alloc_new w3.drew _)
        have HNB : Hid (w1.heap.size ≤ w3.heap.size ∧ w3.heap.size ≤ w3.heap.size ∧ ∀ x ∈ [(w2.heap.size, C0, s0)], x.1 ≠ w3.heap.size) := Lib.hid (by have h1 : w3.heap.size ≤ w3.heap.size := (Below.refl w3.heap.size w3).drew.size; have h2 := HX3.out.below.size; exact ⟨by omega, h1, fun x hx => by have := block_lt (HX3.out.sts x hx).1; omega⟩)
        refine hK.out _ _ (KS.out _ ((Below.refl w3.heap.size w3).drew.alloc (Below.refl w3.heap.size w3).drew.size _)) (fun hHeld => ?_)
        clear hK K
        refine wpAnyH_ready (rs := [18]) (by kernel_rfl) (by simp) ?_
        refine AllReadyH.cons rfl (fun K hK => ?_) AllReadyH.nil
        simp only [List.getElem_toArray, List.getElem_cons_zero, List.getElem_cons_succ]
        go_simp
        refine (HRN.out _ (HX3.out.below.trans (((Below.refl w3.heap.size w3).drew.alloc (Below.refl w3.heap.size w3).drew.size (.cells zeroV.toArray 50)).mono HX3.out.below.size))).mono ?_
        rintro e wa ⟨⟨CR, rfl, hC⟩, hb⟩
        have HBa : Hid (Below w3.heap.size w3 wa) := Lib.hid (((Below.refl w3.heap.size w3).drew.alloc (Below.refl w3.heap.size w3).drew.size (.cells zeroV.toArray 50)).trans (hb.mono ((Below.refl w3.heap.size w3).drew.alloc (Below.refl w3.heap.size w3).drew.size (.cells zeroV.toArray 50)).size))
        have HCR := Lib.hid (hC.base (HX3.out.below.trans (((Below.refl w3.heap.size w3).drew.alloc (Below.refl w3.heap.size w3).drew.size (.cells zeroV.toArray 50)).mono HX3.out.below.size)).size)
        have HJR := Lib.hid (info_st (HCR.out.len HIR.out.mem))
        have HZB := Lib.hid ((hb.block _ (block_lt HZB.out)).trans HZB.out)
        refine hK.out _ _ (KS.out _ HBa.out) (fun hHeld => ?_)
        clear hK K hC hb
        refine wpAnyH_take (i := 19) (v := .tuple #[.agg CR.toArray, .int .i64 0]) rfl (by kernel_rfl) (by kernel_rfl) (by kernel_rfl) (fun _ _ _ h => h) (Or.inl ⟨by rfl, ?_⟩) hHeld ?_
        · intro w hSw
          simp only [List.getElem_toArray, List.getElem_cons_zero, List.getElem_cons_succ]
          go_simp
        simp only [Act.put, List.getElem_toArray, List.getElem_cons_zero, List.getElem_cons_succ, List.setIfInBounds_toArray, List.set_cons_zero, List.set_cons_succ]
        refine wpAnyH_take (i := 20) (v := .agg CR.toArray) rfl (by kernel_rfl) (by kernel_rfl) (by kernel_rfl) (fun _ _ _ h => h) (Or.inl ⟨by rfl, ?_⟩) hHeld ?_
        · intro w hSw
          simp only [List.getElem_toArray, List.getElem_cons_zero, List.getElem_cons_succ]
          go_simp
        simp only [Act.put, List.getElem_toArray, List.getElem_cons_zero, List.getElem_cons_succ, List.setIfInBounds_toArray, List.set_cons_zero, List.set_cons_succ]
        refine wpAnyH_take (i := 21) (v := .int .i64 0) rfl (by kernel_rfl) (by kernel_rfl) (by kernel_rfl) (fun _ _ _ h => h) (Or.inl ⟨by rfl, ?_⟩) hHeld ?_
        · intro w hSw
          simp only [List.getElem_toArray, List.getElem_cons_zero, List.getElem_cons_succ]
          go_simp
        simp only [Act.put, List.getElem_toArray, List.getElem_cons_zero, List.getElem_cons_succ, List.setIfInBounds_toArray, List.set_cons_zero, List.set_cons_succ]
        refine wpAnyH_ready (rs := [23]) (by kernel_rfl) (by simp) ?_
        refine AllReadyH.cons rfl (fun K hK => ?_) AllReadyH.nil
        simp only [List.getElem_toArray, List.getElem_cons_zero, List.getElem_cons_succ]
        rw [if_pos (by rfl)]
        refine wp_store_mid 50 _ _ (by rfl) w3.heap.size 0 CR.toArray (by rfl) (by rfl) (there_block HZB.out (by simp [HCR.out.len HIR.out.mem, zeroV_length])) (by simpa using HJR.out) HCR.out.one ?_
        obtain ⟨wb, hwb⟩ : ∃ wb, wa.setCells w3.heap.size 0 CR.toArray.toList = wb := ⟨_, rfl⟩
        rw [hwb]
        obtain ⟨br, hbr⟩ : ∃ b, w3.heap.size = b := ⟨_, rfl⟩
        have HXB : Hid (Sx w1 w1.heap.size (.slice A1 p.length cap1) wb [(br, CR, s1), (w2.heap.size, C0, s0)]) := Lib.hid (by rw [← hwb, ← hbr]; exact (HX3.out.keeps HBa.out).put HZB.out zeroV_length HNB.out.1 (HCR.out) (HCR.out.len HIR.out.mem) (fun x hx => ⟨hx, HNB.out.2.2 x hx⟩))
        have HBB : Hid (Below w3.heap.size w3 wb) := Lib.hid (by rw [← hwb]; exact below_setCells HNB.out.2.1 _ _ _ HBa.out)
        rw [hbr]
        refine hK.out _ _ (KS.out _ HBB.out) (fun hHeld => ?_)
        clear hK K hwb
        refine wpAnyH_ready (rs := [24]) (by kernel_rfl) (by simp) ?_
        refine AllReadyH.cons rfl (fun K hK => ?_) AllReadyH.nil
        simp only [List.getElem_toArray, List.getElem_cons_zero, List.getElem_cons_succ]
        go_simp
        refine hK.out _ _ hHeld (fun hHeld => ?_)
        clear hK K
        clear hHeld
        refine wpAnyH_done (by kernel_rfl) ?_ _
        exact ⟨br, CR, rfl, fun e => HNB.out.2.2 _ (.head _) (e.symm.trans hbr.symm), HXB.out⟩
    · simp only [List.getElem_toArray, List.getElem_cons_zero, List.getElem_cons_succ]
      go_simp
      have HZB : Hid ((w3.drew.alloc (.cells zeroV.toArray 50)).heap[w3.heap.size]? = some (.cells zeroV.toArray 50 (0, 0))) := Lib.hid (heap_alloc_new w3.drew _)
      have HNB : Hid (w1.heap.size ≤ w3.heap.size ∧ w3.heap.size ≤ w3.heap.size ∧ ∀ x ∈ [(w2.heap.size, C0, s0)], x.1 ≠ w3.heap.size) := Lib.hid (by have h1 : w3.heap.size ≤ w3.heap.size := (Below.refl w3.heap.size w3).drew.size; have h2 := HX3.out.below.size; exact ⟨by omega, h1, fun x hx => by have := block_lt (HX3.out.sts x hx).1; omega⟩)
      refine hK.out _ _ (KS.out _ ((Below.refl w3.heap.size w3).drew.alloc (Below.refl w3.heap.size w3).drew.size _)) (fun hHeld => ?_)
      clear hK K
      refine wpAnyH_ready (rs := [17]) (by kernel_rfl) (by simp) ?_
      refine AllReadyH.cons rfl (fun K hK => ?_) AllReadyH.nil
      simp only [List.getElem_toArray, List.getElem_cons_zero, List.getElem_cons_succ]
      go_simp
      refine (HKF.out _).mono ?_
      rintro e w' ⟨rfl, rfl⟩
      refine hK.out _ _ hHeld (fun hHeld => ?_)
      clear hK K
      refine wpAnyH_ready (rs := [18]) (by kernel_rfl) (by simp) ?_
      refine AllReadyH.cons rfl (fun K hK => ?_) AllReadyH.nil
      simp only [List.getElem_toArray, List.getElem_cons_zero, List.getElem_cons_succ]
      go_simp
      refine (HRN.out _ (HX3.out.below.trans (((Below.refl w3.heap.size w3).drew.alloc (Below.refl w3.heap.size w3).drew.size (.cells zeroV.toArray 50)).mono HX3.out.below.size))).mono ?_
      rintro e wa ⟨⟨CR, rfl, hC⟩, hb⟩
      have HBa : Hid (Below w3.heap.size w3 wa) := Lib.hid (((Below.refl w3.heap.size w3).drew.alloc (Below.refl w3.heap.size w3).drew.size (.cells zeroV.toArray 50)).trans (hb.mono ((Below.refl w3.heap.size w3).drew.alloc (Below.refl w3.heap.size w3).drew.size (.cells zeroV.toArray 50)).size))
      have HCR := Lib.hid (hC.base (HX3.out.below.trans (((Below.refl w3.heap.size w3).drew.alloc (Below.refl w3.heap.size w3).drew.size (.cells zeroV.toArray 50)).mono HX3.out.below.size)).size)
      have HJR := Lib.hid (info_st (HCR.out.len HIR.out.mem))
      have HZB := Lib.hid ((hb.block _ (block_lt HZB.out)).trans HZB.out)
      refine hK.out _ _ (KS.out _ HBa.out) (fun hHeld => ?_)
      clear hK K hC hb
      refine wpAnyH_take (i := 19) (v := .tuple #[.agg CR.toArray, .int .i64 0]) rfl (by kernel_rfl) (by kernel_rfl) (by kernel_rfl) (fun _ _ _ h => h) (Or.inl ⟨by rfl, ?_⟩) hHeld ?_
      · intro w hSw
        simp only [List.getElem_toArray, List.getElem_cons_zero, List.getElem_cons_succ]
        go_simp
      simp only [Act.put, List.getElem_toArray, List.getElem_cons_zero, List.getElem_cons_succ, List.setIfInBounds_toArray, List.set_cons_zero, List.set_cons_succ]
      refine wpAnyH_take (i := 20) (v := .agg CR.toArray) rfl (by kernel_rfl) (by kernel_rfl) (by kernel_rfl) (fun _ _ _ h => h) (Or.inl ⟨by rfl, ?_⟩) hHeld ?_
      · intro w hSw
        simp only [List.getElem_toArray, List.getElem_cons_zero, List.getElem_cons_succ]
        go_simp
      simp only [Act.put, List.getElem_toArray, List.getElem_cons_zero, List.getElem_cons_succ, List.setIfInBounds_toArray, List.set_cons_zero, List.set_cons_succ]
      refine wpAnyH_take (i := 21) (v := .int .i64 0) rfl (by kernel_rfl) (by kernel_rfl) (by kernel_rfl) (fun _ _ _ h => h) (Or.inl ⟨by rfl, ?_⟩) hHeld ?_
      · intro w hSw
        simp only [List.getElem_toArray, List.getElem_cons_zero, List.getElem_cons_succ]
        go_simp
      simp only [Act.put, List.getElem_toArray, List.getElem_cons_zero, List.getElem_cons_succ, List.setIfInBounds_toArray, List.set_cons_zero, List.set_cons_succ]
      refine wpAnyH_ready (rs := [23]) (by kernel_rfl) (by simp) ?_
      refine AllReadyH.cons rfl (fun K hK => ?_) AllReadyH.nil
      simp only [List.getElem_toArray, List.getElem_cons_zero, List.getElem_cons_succ]
      rw [if_pos (by rfl)]
      refine wp_store_mid 50 _ _ (by rfl) w3.heap.size 0 CR.toArray (by rfl) (by rfl) (there_block HZB.out (by simp [HCR.out.len HIR.out.mem, zeroV_length])) (by simpa using HJR.out) HCR.out.one ?_
      obtain ⟨wb, hwb⟩ : ∃ wb, wa.setCells w3.heap.size 0 CR.toArray.toList = wb := ⟨_, rfl⟩
      rw [hwb]
      obtain ⟨br, hbr⟩ : ∃ b, w3.heap.size = b := ⟨_, rfl⟩
      have HXB : Hid (Sx w1 w1.heap.size (.slice A1 p.length cap1) wb [(br, CR, s1), (w2.heap.size, C0, s0)]) := Lib.hid (by rw [← hwb, ← hbr]; exact (HX3.out.keeps HBa.out).put HZB.out zeroV_length HNB.out.1 (HCR.out) (HCR.out.len HIR.out.mem) (fun x hx => ⟨hx, HNB.out.2.2 x hx⟩))
      have HBB : Hid (Below w3.heap.size w3 wb) := Lib.hid (by rw [← hwb]; exact below_setCells HNB.out.2.1 _ _ _ HBa.out)
      rw [hbr]
      refine hK.out _ _ (KS.out _ HBB.out) (fun hHeld => ?_)
      clear hK K hwb
      refine wpAnyH_ready (rs := [24]) (by kernel_rfl) (by simp) ?_
      refine AllReadyH.cons rfl (fun K hK => ?_) AllReadyH.nil
      simp only [List.getElem_toArray, List.getElem_cons_zero, List.getElem_cons_succ]
      go_simp
      refine hK.out _ _ hHeld (fun hHeld => ?_)
      clear hK K
      clear hHeld
      refine wpAnyH_done (by kernel_rfl) ?_ _
      exact ⟨br, CR, rfl, fun e => HNB.out.2.2 _ (.head _) (e.symm.trans hbr.symm), HXB.out⟩
  case h2 =>
    rintro br CR w4 ⟨hne, hX⟩
    have HNE := Lib.hid hne
    clear hne
    have HX4 := Lib.hid hX
    have HCR := Lib.hid (hX.sts _ (.head _)).2
    have HJR := Lib.hid (info_st (HCR.out.len HIR.out.mem))
    have HLC0 := Lib.hid (HC0.out.len HI0.out.mem)
    have HBG0 := Lib.hid HX2.out.below.size
    have HIDS := Lib.hid (rfl : walkSt p 0 s0 = s0)
    clear hX pc3
    go_wp2_with fail
    clear KS
    go_loopw [10] (fun v wr => ∃ (k : Nat) (C : List Value), k ≤ 300 ∧ v = .int .i64 (k : Int) ∧ Sx w1 w1.heap.size (.slice A1 p.length cap1) wr [(w2.heap.size, C, walkSt p k s0), (br, CR, s1)]) (fun v _ => 300 - (intOf v).toNat)
    case atStart => exact ⟨0, C0, by omega, rfl, HX4.out.swap⟩
    case round =>
      obtain ⟨k, C, hk, rfl, hX⟩ := hrel
      have HXr := Lib.hid hX
      have HIk0 := HIK.out k
      have hwk := walkSt_succ k s0 (p := p)
      have hE := HE.out k hk
      have hk3 : (walkSt p k s0).status = 0 → k < 300 := fun h => by
        rcases Nat.lt_or_ge k 300 with h1 | h1
        · exact h1
        · obtain rfl : k = 300 := by omega
          exact absurd h HE3.out
      obtain ⟨sk, hsk⟩ : ∃ s, walkSt p k s0 = s := ⟨_, rfl⟩
      rw [hsk] at HXr HIk0 hwk hE hk3
      have HIk := Lib.hid HIk0
      have HCk := Lib.hid (HXr.out.sts _ (.head _)).2
      have HJk := Lib.hid (info_st (HCk.out.len HIk.out.mem))
      have pcr := HXr.out.pcell
      obtain ⟨FA, fa, EA, ea, AA, aa, hA⟩ := HCk.out.cin HIk.out.mem (fun f hf => (HIk.out.fr f hf).regs)
      have c0 := (HXr.out.cell (.head _) 0).trans hA.c0
      have zk := HXr.out.lt (.head _)
      have zr := HXr.out.lt (.tail _ (.head _))
      clear hX HIk0 hsk hA
      by_cases hst : sk.status = 0
      · have hk1 := hk3 hst
        have hk2 : (k : Int) ≤ 300 := by omega
        have hkw : IntKind.i64.wrap ((k : Int) + 1) = k + 1 := by rw [IntKind.wrap_i64]; omega
        obtain ⟨s2, hs2⟩ : ∃ s, nextSt p sk = s := ⟨_, rfl⟩
        have HI2 : Hid (StInv p s2) := Lib.hid (by rw [← hs2, ← hwk]; exact HIK.out (k + 1))
        have HN1 := Lib.hid (HNX.out sk HIk.out)
        have HK1 := Lib.hid (HCK.out s2 HI2.out)
        rw [hs2] at HN1 hwk
        have HW2 := Lib.hid hwk
        rw [hst] at c0
        clear hwk hs2 hE hk3
        go_wp2_with (refine wpList_load_mid (by rfl) 50 _ (by rfl) w2.heap.size 0 (by rfl) C _ (HXr.out.range (.head _)) Tryd.underlying50 (by rfl) HJk.out ?_)
        refine (HN1.out C _ HXr.out.below (HXr.out.sts _ (.head _)).2).mono ?_
        rintro e w5 ⟨⟨C2, rfl, hC2⟩, hb2⟩
        have HX5 := Lib.hid (HXr.out.keeps hb2)
        have HC2 := Lib.hid (hC2.base HXr.out.below.size)
        have HJ2 := Lib.hid (info_st (HC2.out.len HI2.out.mem))
        clear hC2 hb2 pcr c0
        have pc5 := HX5.out.pcell
        go_wp2_with (first | (refine wpList_store_mid (by rfl) 50 _ _ (by rfl) w5.heap.size 0 C2.toArray (by rfl) (by rfl) (there_new w5 zeroV _ (by simp [HC2.out.len HI2.out.mem, zeroV_length])) (by simpa using HJ2.out) HC2.out.one ?_; obtain ⟨w6, hw6⟩ : ∃ w6, (w5.alloc (.cells zeroV.toArray 50)).setCells w5.heap.size 0 C2.toArray.toList = w6 := ⟨_, rfl⟩; rw [hw6]; have HX6 : Hid (Sx w1 w1.heap.size (.slice A1 p.length cap1) w6 [(w5.heap.size, C2, s2), (w2.heap.size, C, sk), (br, CR, s1)]) := Lib.hid (hw6 ▸ HX5.out.add HC2.out HI2.out.mem); have pc6 := HX6.out.pcell; clear hw6) | (refine wpList_load_mid (by rfl) 50 _ (by rfl) w5.heap.size 0 (by rfl) C2 _ (HX6.out.range (.head _)) Tryd.underlying50 (by rfl) HJ2.out ?_) | (refine wpList_load_midg (by rfl) 50 _ (by rfl) w5.heap.size 0 (by rfl) C2 _ (HX6.out.range (.head _)) Tryd.underlying50 (by rfl) HJ2.out ?_))
        refine (HK1.out C2 _ HX6.out.below (HX6.out.sts _ (.head _)).2).mono ?_
        rintro e w7 ⟨rfl, hb7⟩
        have HX7 := Lib.hid (HX6.out.keeps hb7)
        clear hb7 pc5 pc6
        go_wp2_with (first | (refine wpList_load_mid (by rfl) 50 _ (by rfl) w5.heap.size 0 (by rfl) C2 _ (HX7.out.range (.head _)) Tryd.underlying50 (by rfl) HJ2.out ?_) | (refine wpList_store_mid (by rfl) 50 _ _ (by rfl) w2.heap.size 0 C2.toArray (by rfl) (by rfl) (HX7.out.there (.tail _ (.head _)) (by simp [HC2.out.len HI2.out.mem, HCk.out.len HIk.out.mem])) (by simpa using HJ2.out) HC2.out.one ?_; obtain ⟨w8, hw8⟩ : ∃ w8, w7.setCells w2.heap.size 0 C2.toArray.toList = w8 := ⟨_, rfl⟩; rw [hw8]; have HX8 : Hid (Sx w1 w1.heap.size (.slice A1 p.length cap1) w8 [(w2.heap.size, C2, s2), (br, CR, s1)]) := Lib.hid (hw8 ▸ HX7.out.put (HX7.out.sts _ (.tail _ (.head _))).1 (HCk.out.len HIk.out.mem) HBG0.out (HX7.out.sts _ (.head _)).2 (HC2.out.len HI2.out.mem) (fun x hx => ⟨.tail _ (.tail _ hx), by simp at hx; rw [hx]; exact HNE.out⟩)); clear hw8))
        go_roundw
        case rel => exact ⟨k + 1, C2, by omega, by go_num, by rw [HW2.out]; exact HX8.out⟩
        case measure => simp [intOf]; omega
      · have he := hE hst
        subst he
        obtain ⟨FB, fb, EB, eb, AB, ab, hB⟩ := HCR.out.cin HIk.out.mem (fun f hf => (HIk.out.fr f hf).regs)
        have d0 := (HXr.out.cell (.tail _ (.head _)) 0).trans hB.c0
        obtain ⟨st, hst'⟩ : ∃ x, sk.status = x := ⟨_, rfl⟩
        rw [hst'] at c0 d0 hst
        have hq1 : (st == 0) = false := by simpa using hst
        have hq2 : (st != 0) = true := by simpa using hst
        have hk2 : (k : Int) ≤ 300 := by omega
        clear hB hst hst' hE hk3 hwk
        go_wp2_with (first | (go_at_call 30; go_must (refine (sameState_any sk CR C _ HIk.out (HXr.out.sts _ (.tail _ (.head _))).2 (HXr.out.sts _ (.head _)).2).mono ?_; rintro e w10 ⟨rfl, hb10⟩; have HX10 := Lib.hid (HXr.out.keeps hb10); clear hb10)) | (refine wpList_load_midg (by rfl) 50 _ (by rfl) br 0 (by rfl) CR _ (HXr.out.range (.tail _ (.head _))) Tryd.underlying50 (by rfl) HJR.out ?_) | (refine wpList_load_midg (by rfl) 50 _ (by rfl) w2.heap.size 0 (by rfl) C _ (HXr.out.range (.head _)) Tryd.underlying50 (by rfl) HJk.out ?_))
        go_ret
        exact ⟨rfl, HBW.out.trans (HX10.out.below.mono HBW.out.size)⟩
end Go.Proofs.YtnbopmlemddakaaDoor
