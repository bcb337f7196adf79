/-
  The walk of CpuMakes: it returns true.
-/
import Derived.Test.YtjjpgkjjiooieaaDoorJmp
import Derived.Test.YtjjpgkjjiooieaaDoorBlk
import Derived.Test.YtjjpgkjjiooieaaDoorMkS
namespace Go.Proofs.YtjjpgkjjiooieaaDoor
open Go.RowKit Tier
def makD (a b v : Int) : Cpu := ⟨(((List.replicate 32 0).set 5 a).set 6 b).set 7 v, 1, List.replicate 64 0, false⟩
theorem makD_ok (a b v : Int) : (makD a b v).Ok := ⟨by simp [makD], by simp [makD]⟩
def makP : List (Int × Int) := [(1, 2), (2, 3), (3, 4), (4, 5), (5, 6), (6, 7), (7, 8), (8, 9), (9, 10), (10, 11)]
theorem mak_step (p a b : Int) (h : p ≤ 11) : cstepM [⟨p, 7, 5, 6, 0⟩] (jmpC a b) = (makD a b (arM p a b), 0) := by
  simp [cstepM, stepM, doM, jmpC, makD, regs0, Cpu.put, Cpu.reg, h]
/-- The machine makes what byte code makes. -/
theorem mak_eq (a b : Int) (i : Nat) (p q : Int) (h : makP[i]? = some (p, q)) : arM p a b = if mkErr q b = 0 then mk q a b 0 else -1 := by
  have hi : i < 10 := (List.getElem?_eq_some_iff.1 h).1
  have hc : i = 0 ∨ i = 1 ∨ i = 2 ∨ i = 3 ∨ i = 4 ∨ i = 5 ∨ i = 6 ∨ i = 7 ∨ i = 8 ∨ i = 9 := by omega
  rcases hc with rfl | rfl | rfl | rfl | rfl | rfl | rfl | rfl | rfl | rfl <;> simp [makP] at h <;> obtain ⟨rfl, rfl⟩ := h
  case inr.inr.inr.inl => by_cases hb : b = 0 <;> simp [arM, mkErr, mk, divM, hb]
  all_goals simp [arM, mkErr, mk, flM, flagI]
theorem mak_ok (i : Nat) (p q : Int) (h : makP[i]? = some (p, q)) : ∀ z ∈ [(⟨p, 7, 5, 6, 0⟩ : Rv5)], z.ok := by
  have hi : i < 10 := (List.getElem?_eq_some_iff.1 h).1
  intro z hz
  simp only [List.mem_cons, List.not_mem_nil, or_false] at hz
  subst hz
  have hc : i = 0 ∨ i = 1 ∨ i = 2 ∨ i = 3 ∨ i = 4 ∨ i = 5 ∨ i = 6 ∨ i = 7 ∨ i = 8 ∨ i = 9 := by omega
  rcases hc with rfl | rfl | rfl | rfl | rfl | rfl | rfl | rfl | rfl | rfl <;> simp [makP] at h <;> obtain ⟨rfl, rfl⟩ := h <;> (unfold Rv5.ok; decide +kernel)
set_option maxRecDepth 100000 in
set_option maxHeartbeats 4000000 in
theorem cpuMakes_walk (o a b : Int) (w : World) (ht : Tab w) (ho : In o) (_ha : In a) (_hb : In b) :
    Calls Tryd.prog 11 #[.int .i64 o, .int .i64 a, .int .i64 b] w fun e w' => e = .returned (.bool true) ∧ Below w.heap.size w w' := by
  have HT := Lib.hid ht
  have p0 := picked_in o 10 (by omega)
  have HPA := Lib.hid (fun (W : World) => picked_any o 10 W ho (by omega) (by omega))
  obtain ⟨k, hk⟩ : ∃ k : Nat, pickedI o 10 = k := ⟨(pickedI o 10).toNat, by omega⟩
  rw [hk] at p0 HPA
  have hz := zero_cpu
  clear ht hk ho
  have hz5 : zeroC.cells[5]? = some (.int .i64 0) := by rw [cells_reg zeroC_ok (by omega)]; rfl
  have hz6 : (zeroC.cells.set 5 (.int .i64 a))[6]? = some (.int .i64 0) := by rw [List.getElem?_set_ne (by omega), cells_reg zeroC_ok (by omega)]; rfl
  have he := jmpC_cells a b
  have HCO := Lib.hid (jmpC_ok a b)
  have HZL := Lib.hid (cells_length zeroC_ok)
  have hlz := cells_length zeroC_ok
  have hlc := cells_length HCO.out
  obtain ⟨⟨p, q⟩, hpq⟩ : ∃ x, makP[k]? = some x := ⟨makP[k]'(by simp [makP]; omega), List.getElem?_eq_getElem _⟩
  have HPQ := Lib.hid hpq
  have hkk : k = 0 ∨ k = 1 ∨ k = 2 ∨ k = 3 ∨ k = 4 ∨ k = 5 ∨ k = 6 ∨ k = 7 ∨ k = 8 ∨ k = 9 := by omega
  have hx0 : [Value.int .i64 1, .int .i64 2, .int .i64 2, .int .i64 3, .int .i64 3, .int .i64 4, .int .i64 4, .int .i64 5, .int .i64 5, .int .i64 6, .int .i64 6, .int .i64 7, .int .i64 7, .int .i64 8, .int .i64 8, .int .i64 9, .int .i64 9, .int .i64 10, .int .i64 10, .int .i64 11][k * 2]? = some (.int .i64 p) := by
    rcases hkk with rfl | rfl | rfl | rfl | rfl | rfl | rfl | rfl | rfl | rfl <;> simp [makP] at hpq <;> obtain ⟨rfl, rfl⟩ := hpq <;> rfl
  have hx1 : [Value.int .i64 1, .int .i64 2, .int .i64 2, .int .i64 3, .int .i64 3, .int .i64 4, .int .i64 4, .int .i64 5, .int .i64 5, .int .i64 6, .int .i64 6, .int .i64 7, .int .i64 7, .int .i64 8, .int .i64 8, .int .i64 9, .int .i64 9, .int .i64 10, .int .i64 10, .int .i64 11][k * 2 + 1]? = some (.int .i64 q) := by
    rcases hkk with rfl | rfl | rfl | rfl | rfl | rfl | rfl | rfl | rfl | rfl <;> simp [makP] at hpq <;> obtain ⟨rfl, rfl⟩ := hpq <;> rfl
  clear hpq hkk
  go_enter Tryd.func11, Tryd.ntmps11
  go_wp2_with (first | (go_at_call 12; (refine (HPA.out _).mono ?_; rintro e w' ⟨rfl, rfl⟩; clear HPA)))
  have HOK := Lib.hid (mak_ok k p q HPQ.out)
  have HEQ := Lib.hid (mak_eq a b k p q HPQ.out)
  have hp11 : p ≤ 11 := by
    have h := HPQ.out
    have hkk : k = 0 ∨ k = 1 ∨ k = 2 ∨ k = 3 ∨ k = 4 ∨ k = 5 ∨ k = 6 ∨ k = 7 ∨ k = 8 ∨ k = 9 := by omega
    rcases hkk with rfl | rfl | rfl | rfl | rfl | rfl | rfl | rfl | rfl | rfl <;> simp [makP] at h <;> omega
  have HST := Lib.hid (mak_step p a b hp11)
  clear hx0 hx1 hp11 HPQ
  generalize hT : Obj.cells #[.int .i64 1, .int .i64 2, .int .i64 2, .int .i64 3, .int .i64 3, .int .i64 4, .int .i64 4, .int .i64 5, .int .i64 5, .int .i64 6, .int .i64 6, .int .i64 7, .int .i64 7, .int .i64 8, .int .i64 8, .int .i64 9, .int .i64 9, .int .i64 10, .int .i64 10, .int .i64 11] 50 = T0
  clear hT
  have hlen : [(⟨p, 7, 5, 6, 0⟩ : Rv5)].length = 1 := rfl
  refine (words_any [⟨p, 7, 5, 6, 0⟩] (w.heap.size + 1 + 1) 1 _ (((HT.out.alloc _).alloc _).alloc _) HOK.out (by simp) (rvs_block (t := 27) (fr := (0, 0)) (by simpa [rvCells] using heap_alloc_new ((w.alloc T0).alloc (.cells #[.int .i64 p, .int .i64 q] 50)) _))).mono ?_
  rintro e w1 ⟨⟨A1, cap1, rfl, hown⟩, hb1⟩
  have HWA := Lib.hid (words_at hown)
  have HB1 := Lib.hid (show Below w.heap.size w w1 from ((((Below.refl _ _).alloc (Nat.le_refl _) _).alloc (by simp) _).alloc (by simp; omega) _).trans (hb1.mono (by simp; omega)))
  have HKB := Lib.hid ((hb1.block (w.heap.size + 1) (by simp)).trans (show _ = some (Obj.cells #[.int .i64 p, .int .i64 q] 50 (0, 0)) from (Below.heap_alloc _ _ _ (by simp)).trans (heap_alloc_new1 _ _ _)))
  have HRU := Lib.hid (fun (W : World) (h1 : Tab W) (h2 : WordsAt W A1 [⟨p, 7, 5, 6, 0⟩]) => cstep_any (jmpC a b) (jmpC_ok a b) [⟨p, 7, 5, 6, 0⟩] A1 cap1 W h1 HOK.out (by rw [hlen]; omega) h2)
  rw [HST.out] at HRU
  rw [hlen] at HRU
  rw [hlen]
  clear hown hb1 HST
  have HD7 := Lib.hid (show (makD a b (arM p a b)).cells[7]? = some (.int .i64 (arM p a b)) by rw [cells_reg (makD_ok _ _ _) (by omega)]; rfl)
  have HD5 := Lib.hid (show (makD a b (arM p a b)).cells[5]? = some (.int .i64 a) by rw [cells_reg (makD_ok _ _ _) (by omega)]; rfl)
  have HDP := Lib.hid (show (makD a b (arM p a b)).cells[32]? = some (.int .i64 1) by rw [cells_pc (makD_ok _ _ _)]; rfl)
  have HDO := Lib.hid (makD_ok a b (arM p a b))
  generalize makD a b (arM p a b) = d at *
  generalize hxs : [(⟨p, 7, 5, 6, 0⟩ : Rv5)] = xs at *
  clear hxs
  generalize jmpC a b = c0 at *
  generalize zeroC.cells = Z at *
  go_wp2_with (refine wpList_load_mid (by rfl) 31 _ (by rfl) w1.heap.size 0 (by rfl) c0.cells _ (range_block (t := 31) (fr := (0, 0)) (heap_alloc_new _ _)) Tryd.underlying31 (by rfl) (info_cpu HCO.out) ?_)
  refine (HRU.out _ (HT.out.keeps (HB1.out.alloc HB1.out.size _)) (HWA.out.keeps ((Below.refl _ _).alloc (Nat.le_refl _) _))).mono ?_
  rintro e w2 ⟨rfl, -, hb2⟩
  have HB2 := Lib.hid ((HB1.out.alloc HB1.out.size _).trans (hb2.mono (by have := HB1.out.size; simp; omega)))
  have HKC := Lib.hid ((hb2.block (w.heap.size + 1) (by have := (Array.getElem?_eq_some_iff.1 HKB.out).1; simp; omega)).trans ((Below.heap_alloc _ _ _ (Array.getElem?_eq_some_iff.1 HKB.out).1).trans HKB.out))
  have hkl := block_lt HKC.out
  have HTH := Lib.hid (there_block (t := 31) (n := d.cells.length) (heap_alloc_new w2 (.cells Z.toArray 31)) (by simp [HZL.out, cells_length HDO.out]))
  have H5 := Lib.hid (fun (w5 : World) (h : (w2.alloc (.cells Z.toArray 31)).setCells w2.heap.size 0 d.cells = w5) => (⟨by rw [← h]; exact block_full (heap_alloc_new _ _) _ (by simp [HZL.out, cells_length HDO.out]), by rw [← h]; exact block_setCells_ne _ (block_alloc HKC.out _) (by omega) _, by rw [← h]; exact below_setCells HB2.out.size _ _ _ (HB2.out.alloc HB2.out.size _)⟩ : w5.heap[w2.heap.size]? = some (.cells d.cells.toArray 31 (0, 0)) ∧ w5.heap[w.heap.size + 1]? = some (Obj.cells #[.int .i64 p, .int .i64 q] 50 (0, 0)) ∧ Below w.heap.size w w5))
  have HMA := Lib.hid (fun (W : World) => smake_any q a b 0 W)
  clear hb2 hz5 hz6 he hlc hlz
  by_cases hq : mkErr q b = 0
  · rw [hq] at HMA
    rw [if_pos hq] at HEQ
    rw [HEQ.out] at HD7
    clear hq
    go_wp2_with (first | (refine wpList_store_mid (by rfl) 31 _ _ (by rfl) w2.heap.size 0 d.cells.toArray (by rfl) (by rfl) HTH.out (by simpa using info_cpu HDO.out) (cells_one d) ?_; obtain ⟨w5, hw5⟩ : ∃ w5, (w2.alloc (.cells Z.toArray 31)).setCells w2.heap.size 0 d.cells.toArray.toList = w5 := ⟨_, rfl⟩; rw [hw5]; have HW5 := Lib.hid (H5.out w5 hw5); clear hw5; have k1 := (cell_block HW5.out.2.1 1); have d7 := (cell_block HW5.out.1 7).trans ((by simp) : d.cells.toArray[7]? = d.cells[7]?) |>.trans HD7.out; have d5 := (cell_block HW5.out.1 5).trans ((by simp) : d.cells.toArray[5]? = d.cells[5]?) |>.trans HD5.out; have dp := (cell_block HW5.out.1 32).trans ((by simp) : d.cells.toArray[32]? = d.cells[32]?) |>.trans HDP.out) | (go_at_call 18; refine (HMA.out _).mono ?_; rintro e w6 ⟨rfl, rfl⟩))
    go_ret
    exact ⟨rfl, HW5.out.2.2⟩
  · rw [if_neg hq] at HEQ
    rw [HEQ.out] at HD7
    have hqn : (mkErr q b != 0) = true := by simpa using hq
    clear hq
    go_wp2_with (first | (refine wpList_store_mid (by rfl) 31 _ _ (by rfl) w2.heap.size 0 d.cells.toArray (by rfl) (by rfl) HTH.out (by simpa using info_cpu HDO.out) (cells_one d) ?_; obtain ⟨w5, hw5⟩ : ∃ w5, (w2.alloc (.cells Z.toArray 31)).setCells w2.heap.size 0 d.cells.toArray.toList = w5 := ⟨_, rfl⟩; rw [hw5]; have HW5 := Lib.hid (H5.out w5 hw5); clear hw5; have k1 := (cell_block HW5.out.2.1 1); have d7 := (cell_block HW5.out.1 7).trans ((by simp) : d.cells.toArray[7]? = d.cells[7]?) |>.trans HD7.out; have d5 := (cell_block HW5.out.1 5).trans ((by simp) : d.cells.toArray[5]? = d.cells[5]?) |>.trans HD5.out; have dp := (cell_block HW5.out.1 32).trans ((by simp) : d.cells.toArray[32]? = d.cells[32]?) |>.trans HDP.out) | (go_at_call 18; refine (HMA.out _).mono ?_; rintro e w6 ⟨rfl, rfl⟩))
    go_ret
    exact ⟨rfl, HW5.out.2.2⟩
end Go.Proofs.YtjjpgkjjiooieaaDoor
