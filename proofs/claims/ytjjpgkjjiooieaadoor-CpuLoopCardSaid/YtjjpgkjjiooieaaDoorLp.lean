/-
  The walk of CpuLoop: it returns true.
-/
import Derived.Test.YtjjpgkjjiooieaaDoorEq
namespace Go.Proofs.YtjjpgkjjiooieaaDoor
open Go.RowKit Tier
def lopX : List Rv5 := [⟨22, 0, 5, 0, 16⟩, ⟨1, 6, 6, 5, 0⟩, ⟨12, 5, 5, 0, -1⟩, ⟨26, 0, 0, 0, -12⟩, ⟨29, 0, 0, 0, 0⟩]
theorem lopX_ok : ∀ z ∈ lopX, z.ok := by
  intro z hz
  simp only [lopX, List.mem_cons, List.not_mem_nil, or_false] at hz
  rcases hz with rfl | rfl | rfl | rfl | rfl <;> (unfold Rv5.ok; decide +kernel)
/-- The machine, with its counter and its sum. -/
def lopC (a b : Int) (p : Int) (h : Bool) : Cpu := ⟨((List.replicate 32 0).set 5 a).set 6 b, p, List.replicate 64 0, h⟩
theorem lopC_ok (a b p : Int) (h : Bool) : (lopC a b p h).Ok := ⟨by simp [lopC], by simp [lopC]⟩
theorem lop_round (a b : Int) (h1 : 0 < a) (h2 : a ≤ 200) (h3 : 0 ≤ b) (h4 : b ≤ 100000) (k n : Nat) :
    runM lopX (k + 4) n (lopC a b 0 false) = runM lopX k (n + 4) (lopC (a - 1) (b + a) 0 false) := by
  have hw1 : wrap64 (b + a) = b + a := by unfold wrap64; omega
  have hw2 : wrap64 (a + -1) = a - 1 := by unfold wrap64; omega
  have hn : ¬ a = 0 := by omega
  simp [runM, stepM, doM, lopX, lopC, Cpu.put, Cpu.reg, arM, brM, hw1, hw2, hn]
theorem lop_end (b : Int) (k n : Nat) : runM lopX (k + 2) n (lopC 0 b 0 false) = (lopC 0 b 4 true, (n : Int) + 2, 0) := by
  rw [show k + 2 = k + 1 + 1 from rfl, runM_step rfl rfl]
  have h1 : (stepM lopX (lopC 0 b 0 false)).1 = lopC 0 b 4 false := rfl
  rw [h1, runM_step rfl rfl]
  rw [runM_halted rfl]
  rfl
set_option maxRecDepth 20000 in
theorem lop_all : ∀ (a : Nat) (b : Int) (k n : Nat), a ≤ 200 → 0 ≤ b → b ≤ (200 - (a : Int)) * 400 → runM lopX (k + 2 + 4 * a) n (lopC a b 0 false) = (lopC 0 (b + (a : Int) * (a + 1) / 2) 4 true, (n : Int) + 4 * a + 2, 0)
  | 0, b, k, n, _, _, _ => by
    have := lop_end b k n
    simpa using this
  | a + 1, b, k, n, ha, hb, hbb => by
    have h := lop_round ((a + 1 : Nat) : Int) b (by omega) (by omega) hb (by omega) (k + 2 + 4 * a) n
    rw [show k + 2 + 4 * (a + 1) = k + 2 + 4 * a + 4 by omega, h]
    have ih := lop_all a (b + ((a + 1 : Nat) : Int)) k (n + 4) (by omega) (by omega) (by push_cast; omega)
    rw [show ((a + 1 : Nat) : Int) - 1 = (a : Int) by omega, ih]
    have hs : (((a : Int) + 1) * ((a : Int) + 1 + 1)) / 2 = ((a : Int) + 1) + (a : Int) * ((a : Int) + 1) / 2 := by
      rw [show (a : Int) + 1 + 1 = (a : Int) + 2 by omega, Int.mul_add, Int.mul_comm ((a : Int) + 1) a]
      omega
    refine Prod.ext ?_ (Prod.ext ?_ rfl)
    · show lopC 0 _ 4 true = lopC 0 _ 4 true
      congr 1
      push_cast
      omega
    · show ((n + 4 : Nat) : Int) + 4 * (a : Int) + 2 = (n : Int) + 4 * ((a + 1 : Nat) : Int) + 2
      omega
set_option maxRecDepth 20000 in
theorem lop_short : ∀ (a : Nat) (b : Int) (n : Nat), a ≤ 200 → 0 ≤ b → b ≤ (200 - (a : Int)) * 400 → runM lopX (4 * a + 1) n (lopC a b 0 false) = (zeroC, 0, 10)
  | 0, b, n, _, _, _ => by
    have h1 : (stepM lopX (lopC 0 b 0 false)).1 = lopC 0 b 4 false := rfl
    have h2 : (stepM lopX (lopC 0 b 0 false)).2 = 0 := rfl
    show runM lopX (0 + 1) n (lopC 0 b 0 false) = _
    rw [runM_step rfl h2, h1]
    exact runM_out rfl
  | a + 1, b, n, ha, hb, hbb => by
    have h := lop_round ((a + 1 : Nat) : Int) b (by omega) (by omega) hb (by omega) (4 * a + 1) n
    rw [show 4 * (a + 1) + 1 = 4 * a + 1 + 4 by omega, h, show ((a + 1 : Nat) : Int) - 1 = (a : Int) by omega]
    exact lop_short a _ (n + 4) (by omega) (by omega) (by push_cast; omega)
theorem lop_regs0 (a b p : Int) (h : Bool) : regs0 (lopC a b p h) = lopC a b p h := rfl
set_option maxRecDepth 20000 in
theorem lop_run (k : Nat) (hk : k < 200) : runM lopX 1000 0 (regs0 (lopC k 0 0 false)) = (lopC 0 ((k : Int) * (k + 1) / 2) 4 true, 4 * (k : Int) + 2, 0) := by
  have h := lop_all k 0 (998 - 4 * k) 0 (by omega) (by omega) (by omega)
  rw [show 998 - 4 * k + 2 + 4 * k = 1000 by omega] at h
  rw [lop_regs0, h]
  simp
theorem lop_run2 (k : Nat) (hk : k < 200) : runM lopX (4 * k + 1) 0 (regs0 (lopC k 0 0 false)) = (zeroC, 0, 10) := by
  rw [lop_regs0]
  exact lop_short k 0 0 (by omega) (by omega) (by omega)
theorem lopC_cells (a : Int) : zeroC.cells.set 5 (.int .i64 a) = (lopC a 0 0 false).cells := by
  rw [set_reg zeroC_ok (r := 5) (by omega)]
  rfl
set_option maxRecDepth 100000 in
set_option maxHeartbeats 4000000 in
theorem cpuLoop_walk (a : Int) (w : World) (ht : Tab w) (ha : In a) :
    Calls Tryd.prog 8 #[.int .i64 a] w fun e w' => e = .returned (.bool true) ∧ Below w.heap.size w w' := by
  have HT := Lib.hid ht
  have p0 := picked_in a 200 (by omega)
  have HPA := Lib.hid (fun (W : World) => picked_any a 200 W ha (by omega) (by omega))
  obtain ⟨k, hk⟩ : ∃ k : Nat, pickedI a 200 = k := ⟨(pickedI a 200).toNat, by omega⟩
  rw [hk] at p0 HPA
  have hz := zero_cpu
  clear ht hk ha
  have hz5 : zeroC.cells[5]? = some (.int .i64 0) := by rw [cells_reg zeroC_ok (by omega)]; rfl
  have he := lopC_cells k
  have HCO := Lib.hid (lopC_ok k 0 0 false)
  have HZL := Lib.hid (cells_length zeroC_ok)
  have HZ1 := Lib.hid (cells_one zeroC)
  have HZI := Lib.hid (info_cpu zeroC_ok)
  have hlz := cells_length zeroC_ok
  have hlc := cells_length HCO.out
  go_enter Tryd.func8, Tryd.ntmps8
  go_wp2_with (first | (go_at_call 12; (refine (HPA.out _).mono ?_; rintro e w' ⟨rfl, rfl⟩; clear HPA)))
  have HOK := Lib.hid lopX_ok
  have HRN := Lib.hid (lop_run k (by omega))
  have HRM := Lib.hid (lop_run2 k (by omega))
  refine (words_any lopX w.heap.size 5 _ (HT.out.alloc _) HOK.out (by simp [lopX]) (rvs_block (t := 27) (fr := (0, 0)) (heap_alloc_new w _))).mono ?_
  rintro e w1 ⟨⟨A1, cap1, rfl, hown⟩, hb1⟩
  have HWA := Lib.hid (words_at hown)
  have HB1 := Lib.hid (show Below w.heap.size w w1 from ((Below.refl _ _).alloc (Nat.le_refl _) _).trans (hb1.mono (by simp)))
  have hlen : lopX.length = 5 := rfl
  have HRU := Lib.hid (fun (W : World) (h1 : Tab W) (h2 : WordsAt W A1 lopX) => crun_any (lopC k 0 0 false) (lopC_ok k 0 0 false) lopX A1 cap1 1000 W h1 HOK.out (by rw [hlen]; omega) h2 (by omega))
  have HRV := Lib.hid (fun (W : World) (h1 : Tab W) (h2 : WordsAt W A1 lopX) => crun_any (lopC k 0 0 false) (lopC_ok k 0 0 false) lopX A1 cap1 (4 * k + 1) W h1 HOK.out (by rw [hlen]; omega) h2 (by omega))
  rw [HRN.out] at HRU
  rw [HRM.out, show ((4 * k + 1 : Nat) : Int) = 4 * (k : Int) + 1 by omega] at HRV
  rw [hlen] at HRU HRV
  rw [hlen]
  clear hown hb1 HRN HRM
  generalize lopX = xs at *
  generalize lopC k 0 0 false = c0 at *
  generalize zeroC.cells = Z at *
  obtain ⟨d, hd⟩ : ∃ d, lopC 0 ((k : Int) * (k + 1) / 2) 4 true = d := ⟨_, rfl⟩
  have HDO := Lib.hid (lopC_ok 0 ((k : Int) * (k + 1) / 2) 4 true)
  have HD6 := Lib.hid (show (lopC 0 ((k : Int) * (k + 1) / 2) 4 true).cells[6]? = some (.int .i64 ((k : Int) * (k + 1) / 2)) by rw [cells_reg (lopC_ok _ _ _ _) (by omega)]; rfl)
  have HD5 := Lib.hid (show (lopC 0 ((k : Int) * (k + 1) / 2) 4 true).cells[5]? = some (.int .i64 0) by rw [cells_reg (lopC_ok _ _ _ _) (by omega)]; rfl)
  rw [hd] at HRU HDO HD6 HD5
  clear hd
  go_wp2_with (refine wpList_load_mid (by rfl) 31 _ (by rfl) w1.heap.size 0 (by rfl) c0.cells _ (range_block (t := 31) (fr := (0, 0)) (heap_alloc_new _ _)) Tryd.underlying31 (by rfl) (info_cpu HCO.out) ?_)
  refine (HRU.out _ (HT.out.keeps (HB1.out.alloc HB1.out.size _)) (HWA.out.keeps ((Below.refl _ _).alloc (Nat.le_refl _) _))).mono ?_
  rintro e w2 ⟨rfl, -, hb2⟩
  have HB2 := Lib.hid (((Below.refl w1.heap.size w1).alloc (Nat.le_refl _) _).trans (hb2.mono (by simp)))
  have HCB := Lib.hid ((hb2.block w1.heap.size (by simp)).trans (heap_alloc_new _ _))
  have hlt1 : w1.heap.size < w2.heap.size := block_lt HCB.out
  have H3 := Lib.hid (fun (w3 : World) (h : (w2.alloc (.cells Z.toArray 31)).setCells w2.heap.size 0 d.cells = w3) => (⟨by rw [← h]; exact block_setCells_ne _ (block_alloc HCB.out _) (by omega) _, by rw [← h]; exact block_full (heap_alloc_new _ _) _ (by simp [HZL.out, cells_length HDO.out]), by rw [← h]; exact below_setCells HB2.out.size _ _ _ (HB2.out.alloc HB2.out.size _)⟩ : w3.heap[w1.heap.size]? = some (.cells c0.cells.toArray 31 (0, 0)) ∧ w3.heap[w2.heap.size]? = some (.cells d.cells.toArray 31 (0, 0)) ∧ Below w1.heap.size w1 w3))
  have HTH := Lib.hid (there_block (t := 31) (n := d.cells.length) (heap_alloc_new w2 (.cells Z.toArray 31)) (by simp [HZL.out, cells_length HDO.out]))
  clear hb2 hz5 he hlc hlz
  have hk1 : wrap64 (4 * (k : Int)) = 4 * (k : Int) := by unfold wrap64; omega
  have hk2 : wrap64 (4 * (k : Int) + 1) = 4 * (k : Int) + 1 := by unfold wrap64; omega
  go_wp2_with (first | (refine wpList_store_mid (by rfl) 31 _ _ (by rfl) w2.heap.size 0 d.cells.toArray (by rfl) (by rfl) HTH.out (by simpa using info_cpu HDO.out) (cells_one d) ?_; obtain ⟨w3, hw3⟩ : ∃ w3, (w2.alloc (.cells Z.toArray 31)).setCells w2.heap.size 0 d.cells.toArray.toList = w3 := ⟨_, rfl⟩; rw [hw3]; have HW3 := Lib.hid (H3.out w3 hw3); clear hw3) | (refine wpList_load_mid (by rfl) 31 _ (by rfl) w1.heap.size 0 (by rfl) c0.cells _ (range_block HW3.out.1) Tryd.underlying31 (by rfl) (info_cpu HCO.out) ?_))
  refine (HRV.out _ (HT.out.keeps (HB1.out.trans (HW3.out.2.2.mono HB1.out.size))) (HWA.out.keeps HW3.out.2.2)).mono ?_
  rintro e w6 ⟨rfl, -, hb6⟩
  have HBD := Lib.hid ((hb6.block _ (block_lt HW3.out.2.1)).trans HW3.out.2.1)
  have HB6 := Lib.hid (HB1.out.trans ((HW3.out.2.2.trans (hb6.mono HW3.out.2.2.size)).mono HB1.out.size))
  clear hb6
  have ld := block_lt HBD.out
  have H7 := Lib.hid (fun (w7 : World) (h : (w6.alloc (.cells Z.toArray 31)).setCells w6.heap.size 0 Z.toArray.toList = w7) => (⟨by rw [← h]; exact block_setCells_ne _ (block_alloc HBD.out _) (by omega) _, by rw [← h]; exact below_setCells HB6.out.size _ _ _ (HB6.out.alloc HB6.out.size _)⟩ : w7.heap[w2.heap.size]? = some (.cells d.cells.toArray 31 (0, 0)) ∧ Below w.heap.size w w7))
  have hk3 : wrap64 ((k : Int) + 1) = (k : Int) + 1 := by unfold wrap64; omega
  have hq0 : 0 ≤ (k : Int) * (k + 1) := Int.mul_nonneg (by omega) (by omega)
  have hq1 : (k : Int) * (k + 1) ≤ 200 * 200 := Int.mul_le_mul (by omega) (by omega) (by omega) (by omega)
  have hk4 : wrap64 ((k : Int) * (k + 1)) = (k : Int) * (k + 1) := by generalize (k : Int) * (k + 1) = q at *; unfold wrap64; omega
  have hk5 : ((k : Int) * (k + 1)).tdiv 2 = (k : Int) * (k + 1) / 2 := Int.tdiv_eq_ediv_of_nonneg hq0
  have hk6 : wrap64 ((k : Int) * (k + 1) / 2) = (k : Int) * (k + 1) / 2 := by generalize (k : Int) * (k + 1) = q at *; unfold wrap64; omega
  have hk7 : wrap64 (4 * (k : Int) + 2) = 4 * (k : Int) + 2 := by unfold wrap64; omega
  clear hq0 hq1
  go_wp2_with (refine wpList_store_mid (by rfl) 31 _ _ (by rfl) w6.heap.size 0 Z.toArray (by rfl) (by rfl) (there_block (t := 31) (cs := Z.toArray) (heap_alloc_new _ _) (by simp)) (by simpa using HZI.out) HZ1.out ?_; obtain ⟨w7, hw7⟩ : ∃ w7, (w6.alloc (.cells Z.toArray 31)).setCells w6.heap.size 0 Z.toArray.toList = w7 := ⟨_, rfl⟩; rw [hw7]; have HW7 := Lib.hid (H7.out w7 hw7); clear hw7; have d6 := (cell_block HW7.out.1 6).trans ((by simp) : d.cells.toArray[6]? = d.cells[6]?) |>.trans HD6.out; have d5 := (cell_block HW7.out.1 5).trans ((by simp) : d.cells.toArray[5]? = d.cells[5]?) |>.trans HD5.out)
  go_ret
  exact ⟨rfl, HW7.out.2⟩
end Go.Proofs.YtjjpgkjjiooieaaDoor
