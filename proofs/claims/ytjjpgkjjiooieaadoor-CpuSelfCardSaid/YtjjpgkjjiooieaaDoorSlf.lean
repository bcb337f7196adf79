/-
  The walk of CpuSelf: it returns true.
-/
import Derived.Test.YtjjpgkjjiooieaaDoorLui
namespace Go.Proofs.YtjjpgkjjiooieaaDoor
open Go.RowKit Tier
def slfX (n : Int) : List Rv5 := [⟨1, n, n, n, 0⟩, ⟨12, 0, n, 0, 5⟩, ⟨29, 0, 0, 0, 0⟩]
theorem slfX_ok (n : Int) (h0 : 0 ≤ n) (h1 : n < 32) : ∀ z ∈ slfX n, z.ok := by
  intro z hz
  simp only [slfX, List.mem_cons, List.not_mem_nil, or_false] at hz
  rcases hz with rfl | rfl | rfl
  · unfold Rv5.ok chkI
    rw [if_neg (by simp), if_neg (by simp)]
    change chk (shapeOf 1) n n n 0 (fieldOf (shapeOf 1).toNat 0) (fieldOf (shapeOf 1).toNat 1) (fieldOf (shapeOf 1).toNat 2) = 0
    exact chk_ok (bad_no h0 (by omega) (.inl (by decide +kernel))) (bad_no h0 (by omega) (.inl (by decide +kernel))) (bad_no h0 (by omega) (.inl (by decide +kernel))) (by decide +kernel) (by decide +kernel) (by decide +kernel)
  · unfold Rv5.ok chkI
    rw [if_neg (by simp), if_neg (by simp)]
    change chk (shapeOf 12) 0 n 0 5 (fieldOf (shapeOf 12).toNat 0) (fieldOf (shapeOf 12).toNat 1) (fieldOf (shapeOf 12).toNat 2) = 0
    exact chk_ok (bad_no (by simp) (by simp) (.inl (by decide +kernel))) (bad_no h0 (by omega) (.inl (by decide +kernel))) (bad_no (by simp) (by simp) (.inr (by simp))) (by decide +kernel) (by decide +kernel) (by decide +kernel)
  · show chkI 29 0 0 0 0 = 0
    decide +kernel
/-- The machine that it begins with. -/
def slfC (k : Nat) (a b : Int) : Cpu := ⟨((List.replicate 32 0).set k a).set 0 b, 0, List.replicate 64 0, false⟩
def slfD (k : Nat) (a : Int) : Cpu := ⟨if k = 0 then List.replicate 32 0 else (List.replicate 32 0).set k (wrap64 (a + a)), 2, List.replicate 64 0, true⟩
theorem slf_from (L D : List Int) (hL : L.length = 32) (k : Nat) (a : Int) (hk : k < 32) (h : k ≠ 0) : runM (slfX k) 9 0 ⟨L.set k a, 0, D, false⟩ = (⟨L.set k (wrap64 (a + a)), 2, D, true⟩, 3, 0) := by
  have hz : (k : Int) ≠ 0 := by omega
  simp [runM, stepM, doM, slfX, Cpu.put, Cpu.reg, arM, hz, h, hL, hk]
theorem slf_run (k : Nat) (a b : Int) (hk : k < 32) : runM (slfX k) 9 0 (regs0 (slfC k a b)) = (slfD k a, 3, 0) := by
  by_cases h : k = 0
  · subst h
    simp [runM, stepM, doM, slfX, slfC, slfD, regs0, Cpu.put, Cpu.reg, arM]
  · have hs : (((List.replicate 32 (0 : Int)).set k a).set 0 b).set 0 0 = (List.replicate 32 0).set k a := by
      rw [List.set_set, List.set_comm _ _ h]
      rfl
    unfold regs0 slfC slfD
    dsimp only
    rw [hs, if_neg h]
    exact slf_from _ _ (by simp) k a hk h
theorem slfC_ok (k : Nat) (a b : Int) : (slfC k a b).Ok := ⟨by simp [slfC], by simp [slfC]⟩
theorem slfD_ok (k : Nat) (a : Int) : (slfD k a).Ok := ⟨by unfold slfD; dsimp only; split <;> simp, by simp [slfD]⟩
theorem zero_regs (k : Nat) (hk : k < 32) : zeroC.cells[k]? = some (.int .i64 0) := by
  rw [cells_reg zeroC_ok hk]
  have : ∀ j : Fin 32, zeroC.regs.getD j 0 = 0 := by decide +kernel
  rw [this ⟨k, hk⟩]
theorem slfC_cells (k : Nat) (a b : Int) (hk : k < 32) : (zeroC.cells.set k (.int .i64 a)).set 0 (.int .i64 b) = (slfC k a b).cells := by
  rw [set_reg zeroC_ok hk, set_reg (c := { zeroC with regs := zeroC.regs.set k a }) ⟨by simp [zeroC], by simp [zeroC]⟩ (r := 0) (by omega)]
  rfl
theorem zero_regs_set (k : Nat) (a : Int) : ∃ v, (zeroC.cells.set k (.int .i64 a))[0]? = some v := by
  rw [List.getElem?_eq_getElem (by simp [cells_length zeroC_ok])]
  exact ⟨_, rfl⟩
theorem slfD_reg (k : Nat) (a : Int) (hk : k < 32) : (slfD k a).cells[k]? = some (.int .i64 (if k = 0 then 0 else wrap64 (a + a))) := by
  rw [cells_reg (slfD_ok k a) hk]
  unfold slfD
  by_cases h : k = 0
  · subst h; rfl
  · simp [h, hk]
theorem slfD_reg0 (k : Nat) (a : Int) : (slfD k a).cells[0]? = some (.int .i64 0) := by
  rw [cells_reg (slfD_ok k a) (by omega)]
  unfold slfD
  by_cases h : k = 0
  · subst h; rfl
  · simp [h]
set_option maxRecDepth 100000 in
set_option maxHeartbeats 4000000 in
theorem cpuSelf_walk (a b r : Int) (w : World) (ht : Tab w) (ha : In a) (hb : In b) (hr : In r) :
    Calls Tryd.prog 3 #[.int .i64 a, .int .i64 b, .int .i64 r] w fun e w' => e = .returned (.bool true) ∧ Below w.heap.size w w' := by
  have HT := Lib.hid ht
  have p0 := picked_in r 32 (by omega)
  have HPA := Lib.hid (fun (W : World) => picked_any r 32 W hr (by omega) (by omega))
  obtain ⟨k, hk⟩ : ∃ k : Nat, pickedI r 32 = k := ⟨(pickedI r 32).toNat, by omega⟩
  rw [hk] at p0 HPA
  have HOK := Lib.hid (slfX_ok k p0.1 p0.2)
  have HRN := Lib.hid (slf_run k a b (by omega))
  have hz := zero_cpu
  clear ht hk hr
  go_enter Tryd.func3, Tryd.ntmps3
  go_wp2_with (first | (go_at_call 12; (refine (HPA.out _).mono ?_; rintro e w' ⟨rfl, rfl⟩; clear HPA)))
  refine (words_any (slfX k) w.heap.size 3 _ (HT.out.alloc _) HOK.out (by simp [slfX]) (rvs_block (t := 27) (fr := (0, 0)) (heap_alloc_new w _))).mono ?_
  rintro e w1 ⟨⟨A1, cap1, rfl, ho⟩, hb1⟩
  have HWA := Lib.hid (words_at ho)
  have HB1 := Lib.hid (show Below w.heap.size w w1 from ((Below.refl _ _).alloc (Nat.le_refl _) _).trans (hb1.mono (by simp)))
  have hlen : (slfX k).length = 3 := rfl
  have HRU := Lib.hid (fun (W : World) (h1 : Tab W) (h2 : WordsAt W A1 (slfX k)) => crun_any (slfC k a b) (slfC_ok k a b) (slfX k) A1 cap1 9 W h1 HOK.out (by rw [hlen]; omega) h2 (by omega))
  rw [HRN.out] at HRU
  rw [hlen] at HRU
  rw [hlen]
  clear ho hb1 HRN
  generalize slfX k = xs at *
  have HZL := Lib.hid (cells_length zeroC_ok)
  have hlz := cells_length zeroC_ok
  have HCO := Lib.hid (slfC_ok k a b)
  have hlc := cells_length HCO.out
  have hz1 := zero_regs k (by omega)
  obtain ⟨v0, hz0⟩ := zero_regs_set k a
  have he := (slfC_cells k a b (by omega)) 
  generalize slfC k a b = c0 at *
  generalize zeroC.cells = Z at *
  obtain ⟨d, hd⟩ : ∃ d, slfD k a = d := ⟨_, rfl⟩
  have HDO := Lib.hid (slfD_ok k a)
  have hdk := slfD_reg k a (by omega)
  have hd0 := slfD_reg0 k a
  have hdp : (slfD k a).cells[32]? = some (.int .i64 2) := cells_pc (slfD_ok k a)
  have hdh : (slfD k a).cells[97]? = some (.bool true) := cells_halted (slfD_ok k a)
  rw [hd] at HRU HDO hdk hd0 hdp hdh
  clear hd
  have HDK := Lib.hid hdk
  have HD0 := Lib.hid hd0
  have HDP := Lib.hid hdp
  have HDH := Lib.hid hdh
  clear hdk hd0 hdp hdh
  go_wp2_with (refine wpList_load_mid (by rfl) 31 _ (by rfl) w1.heap.size 0 (by rfl) c0.cells _ (range_block (t := 31) (fr := (0, 0)) (heap_alloc_new _ _)) Tryd.underlying31 (by rfl) (info_cpu HCO.out) ?_)
  refine (HRU.out _ (HT.out.keeps (HB1.out.alloc HB1.out.size _)) (HWA.out.keeps ((Below.refl _ _).alloc (Nat.le_refl _) _))).mono ?_
  rintro e w2 ⟨rfl, -, hb2⟩
  have HB2 := Lib.hid ((HB1.out.alloc HB1.out.size _).trans (hb2.mono (by have := HB1.out.size; simp; omega)))
  have q3 := boxed w2 Z d HDO.out HZL.out k _ HDK.out
  have q4 := boxed w2 Z d HDO.out HZL.out 0 _ HD0.out
  have q5 := boxed w2 Z d HDO.out HZL.out 32 _ HDP.out
  have q6 := boxed w2 Z d HDO.out HZL.out 97 _ HDH.out
  have HTH := Lib.hid (there_block (t := 31) (n := d.cells.length) (heap_alloc_new w2 (.cells Z.toArray 31)) (by simp [HZL.out, cells_length HDO.out]))
  clear hb2 hz1 hz0 he hlc hlz
  by_cases hk0 : k = 0
  · subst hk0
    go_wp2_with (refine wpList_store_mid (by rfl) 31 _ _ (by rfl) w2.heap.size 0 d.cells.toArray (by rfl) (by rfl) HTH.out (by simpa using info_cpu HDO.out) (cells_one d) ?_)
    go_ret
    exact ⟨rfl, below_setCells HB2.out.size _ _ _ (HB2.out.alloc HB2.out.size _)⟩
  · have hk1 : ((k : Int) == 0) = false := by simp; omega
    rw [if_neg hk0] at q3
    go_wp2_with (refine wpList_store_mid (by rfl) 31 _ _ (by rfl) w2.heap.size 0 d.cells.toArray (by rfl) (by rfl) HTH.out (by simpa using info_cpu HDO.out) (cells_one d) ?_)
    go_ret
    exact ⟨rfl, below_setCells HB2.out.size _ _ _ (HB2.out.alloc HB2.out.size _)⟩
end Go.Proofs.YtjjpgkjjiooieaaDoor
