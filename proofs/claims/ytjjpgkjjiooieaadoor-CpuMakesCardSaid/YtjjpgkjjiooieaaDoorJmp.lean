/-
  The walk of CpuJumps: it returns true.
-/
import Derived.Test.YtjjpgkjjiooieaaDoorLui
namespace Go.Proofs.YtjjpgkjjiooieaaDoor
open Go.RowKit Tier
def jmpX (o : Int) : List Rv5 := [⟨o, 0, 5, 6, 8⟩, ⟨29, 0, 0, 0, 0⟩, ⟨26, 1, 0, 0, 8⟩, ⟨29, 0, 0, 0, 0⟩, ⟨27, 2, 1, 0, 0⟩]
theorem jmpX_ok (o : Int) (h : o = 22 ∨ o = 23 ∨ o = 24 ∨ o = 25) : ∀ z ∈ jmpX o, z.ok := by
  intro z hz
  simp only [jmpX, List.mem_cons, List.not_mem_nil, or_false] at hz
  rcases hz with rfl | rfl | rfl | rfl | rfl
  · unfold Rv5.ok
    rcases h with rfl | rfl | rfl | rfl <;> decide +kernel
  all_goals (unfold Rv5.ok; decide +kernel)
/-- The machine that it begins with. -/
def jmpC (a b : Int) : Cpu := ⟨((List.replicate 32 0).set 5 a).set 6 b, 0, List.replicate 64 0, false⟩
def jmpD (a b : Int) (g : Bool) : Cpu := if g then ⟨((((List.replicate 32 0).set 5 a).set 6 b).set 1 12).set 2 20, 3, List.replicate 64 0, true⟩ else ⟨((List.replicate 32 0).set 5 a).set 6 b, 1, List.replicate 64 0, true⟩
def jmpN (g : Bool) : Int := if g then 4 else 2
theorem jmpC_ok (a b : Int) : (jmpC a b).Ok := ⟨by simp [jmpC], by simp [jmpC]⟩
theorem jmpD_ok (a b : Int) (g : Bool) : (jmpD a b g).Ok := by cases g <;> exact ⟨by simp [jmpD], by simp [jmpD]⟩
theorem jmp_run (o a b : Int) (h : o = 22 ∨ o = 23 ∨ o = 24 ∨ o = 25) : runM (jmpX o) 9 0 (regs0 (jmpC a b)) = (jmpD a b (brM o a b), jmpN (brM o a b), 0) := by
  have h1 : ¬ o ≤ 11 := by omega
  have h2 : ¬ o ≤ 19 := by omega
  have h3 : ¬ o = 20 := by omega
  have h4 : ¬ o = 21 := by omega
  have h5 : o ≤ 25 := by omega
  have hb : bits .andNot .i64 (wrap64 12) 1 = 12 := by decide +kernel
  have hw : wrap64 3 = 3 := by decide +kernel
  cases hg : brM o a b <;> simp [runM, stepM, doM, jmpX, jmpC, jmpD, jmpN, regs0, Cpu.put, Cpu.reg, h1, h2, h3, h4, h5, hg, hb, hw]
theorem jmpC_cells (a b : Int) : (zeroC.cells.set 5 (.int .i64 a)).set 6 (.int .i64 b) = (jmpC a b).cells := by
  rw [set_reg zeroC_ok (r := 5) (by omega), set_reg (c := { zeroC with regs := zeroC.regs.set 5 a }) ⟨by simp [zeroC], by simp [zeroC]⟩ (r := 6) (by omega)]
  rfl
theorem jmp_at {o a b : Int} (g : Bool) (hg : brM o a b = g) : runM (jmpX o) 9 0 (regs0 (jmpC a b)) = (jmpD a b (brM o a b), jmpN (brM o a b), 0) → runM (jmpX o) 9 0 (regs0 (jmpC a b)) = (jmpD a b g, jmpN g, 0) := by subst hg; exact id
theorem jmpD_pc (a b : Int) (g : Bool) : (jmpD a b g).cells[32]? = some (.int .i64 (if g = true then 3 else 1)) := by
  rw [cells_pc (jmpD_ok a b g)]; cases g <;> rfl
theorem jmpD_1 (a b : Int) (g : Bool) : (jmpD a b g).cells[1]? = some (.int .i64 (if g = true then 12 else 0)) := by
  rw [cells_reg (jmpD_ok a b g) (by omega)]; cases g <;> rfl
theorem jmpD_2 (a b : Int) (g : Bool) : (jmpD a b g).cells[2]? = some (.int .i64 (if g = true then 20 else 0)) := by
  rw [cells_reg (jmpD_ok a b g) (by omega)]; cases g <;> rfl
/-- The same, another block behind it. -/
theorem boxed2 (W : World) (Z : List Value) (d : Cpu) (hd : d.Ok) (hZ : Z.length = 98) (i : Nat) (v : Value) (h : d.cells[i]? = some v) (o : Obj) : (((W.alloc (.cells Z.toArray 31)).setCells W.heap.size 0 d.cells).alloc o).cell? ⟨W.heap.size, i, none⟩ = some v := by
  have h1 : W.heap.size < ((W.alloc (.cells Z.toArray 31)).setCells W.heap.size 0 d.cells).heap.size := by
    have := (below_setCells (Nat.le_refl W.heap.size) d.cells 0 _ (Below.refl W.heap.size (W.alloc (.cells Z.toArray 31)))).size
    simp at this; omega
  exact (((Below.refl (W.heap.size + 1) _).alloc h1 o).cell (p := ⟨W.heap.size, i, none⟩) (Nat.lt_succ_self _)).trans (boxed W Z d hd hZ i v h)
set_option maxRecDepth 100000 in
set_option maxHeartbeats 4000000 in
theorem cpuJumps_walk (a b r : Int) (w : World) (ht : Tab w) (_ha : In a) (_hb : In b) (hr : In r) :
    Calls Tryd.prog 5 #[.int .i64 a, .int .i64 b, .int .i64 r] w fun e w' => e = .returned (.bool true) ∧ Below w.heap.size w w' := by
  have HT := Lib.hid ht
  have p0 := picked_in r 4 (by omega)
  have HPA := Lib.hid (fun (W : World) => picked_any r 4 W hr (by omega) (by omega))
  obtain ⟨k, hk⟩ : ∃ k, pickedI r 4 = k := ⟨_, rfl⟩
  rw [hk] at p0 HPA
  have hz := zero_cpu
  clear ht hk hr
  have hkk : k = 0 ∨ k = 1 ∨ k = 2 ∨ k = 3 := by omega
  clear p0
  have hz5 : zeroC.cells[5]? = some (.int .i64 0) := by rw [cells_reg zeroC_ok (by omega)]; rfl
  have hz6 : (zeroC.cells.set 5 (.int .i64 a))[6]? = some (.int .i64 0) := by rw [List.getElem?_set_ne (by omega), cells_reg zeroC_ok (by omega)]; rfl
  have he := jmpC_cells a b
  have HCO := Lib.hid (jmpC_ok a b)
  have HZL := Lib.hid (cells_length zeroC_ok)
  have hlz := cells_length zeroC_ok
  have hlc := cells_length HCO.out
  go_enter Tryd.func5, Tryd.ntmps5
  go_wp2_with (first | (go_at_call 12; (refine (HPA.out _).mono ?_; rintro e w' ⟨rfl, rfl⟩; clear HPA)))
  have ho4 : 22 + k = 22 ∨ 22 + k = 23 ∨ 22 + k = 24 ∨ 22 + k = 25 := by omega
  have HOK := Lib.hid (jmpX_ok _ ho4)
  have HRN := Lib.hid (jmp_run _ a b ho4)
  refine (words_any (jmpX (22 + k)) w.heap.size 5 _ (HT.out.alloc _) HOK.out (by simp [jmpX]) (rvs_block (t := 27) (fr := (0, 0)) (heap_alloc_new w _))).mono ?_
  rintro e w1 ⟨⟨A1, cap1, rfl, hown⟩, hb1⟩
  have HWA := Lib.hid (words_at hown)
  have HB1 := Lib.hid (show Below w.heap.size w w1 from ((Below.refl _ _).alloc (Nat.le_refl _) _).trans (hb1.mono (by simp)))
  have hlen : (jmpX (22 + k)).length = 5 := rfl
  have HRU := Lib.hid (fun (W : World) (h1 : Tab W) (h2 : WordsAt W A1 (jmpX (22 + k))) => crun_any (jmpC a b) (jmpC_ok a b) (jmpX (22 + k)) A1 cap1 9 W h1 HOK.out (by rw [hlen]; omega) h2 (by omega))
  rw [HRN.out] at HRU
  rw [hlen] at HRU
  rw [hlen]
  clear hown hb1 HRN ho4
  have HG := Lib.hid (rfl : brM (22 + k) a b = brM (22 + k) a b)
  generalize jmpX (22 + k) = xs at *
  generalize jmpC a b = c0 at *
  generalize zeroC.cells = Z at *
  generalize hg : brM (22 + k) a b = g at *
  clear HG
  go_wp2_with (refine wpList_load_mid (by rfl) 31 _ (by rfl) w1.heap.size 0 (by rfl) c0.cells _ (range_block (t := 31) (fr := (0, 0)) (heap_alloc_new _ _)) Tryd.underlying31 (by rfl) (info_cpu HCO.out) ?_)
  obtain ⟨d, hd⟩ : ∃ d, jmpD a b g = d := ⟨_, rfl⟩
  have HDO := Lib.hid (jmpD_ok a b g)
  have HDP := Lib.hid (jmpD_pc a b g)
  have HD1 := Lib.hid (jmpD_1 a b g)
  have HD2 := Lib.hid (jmpD_2 a b g)
  rw [hd] at HRU HDO HDP HD1 HD2
  clear hd
  refine (HRU.out _ (HT.out.keeps (HB1.out.alloc HB1.out.size _)) (HWA.out.keeps ((Below.refl _ _).alloc (Nat.le_refl _) _))).mono ?_
  rintro e w2 ⟨rfl, -, hb2⟩
  have HB2 := Lib.hid ((HB1.out.alloc HB1.out.size _).trans (hb2.mono (by have := HB1.out.size; simp; omega)))
  have q3 := boxed2 w2 Z d HDO.out HZL.out 32 _ HDP.out
  have q4 := boxed2 w2 Z d HDO.out HZL.out 1 _ HD1.out
  have q5 := boxed2 w2 Z d HDO.out HZL.out 2 _ HD2.out
  have HTH := Lib.hid (there_block (t := 31) (n := d.cells.length) (heap_alloc_new w2 (.cells Z.toArray 31)) (by simp [HZL.out, cells_length HDO.out]))
  clear hb2 hz5 hz6 he hlc hlz
  have hx : ∀ h : k.toNat < 4, [Value.bool (a == b), .bool (a != b), .bool (decide (a < b)), .bool (decide (b ≤ a))][k.toNat]'h = .bool g := by
    rw [← hg]
    intro h
    rcases hkk with rfl | rfl | rfl | rfl <;> rfl
  have hx2 : [Value.bool (a == b), .bool (a != b), .bool (decide (a < b)), .bool (decide (b ≤ a))][k.toNat]? = some (.bool g) := by
    rw [← hg]
    rcases hkk with rfl | rfl | rfl | rfl <;> rfl
  have hw : wrap64 (22 + k - 22) = k := by unfold wrap64; omega
  have hk0 : 0 ≤ k := by omega
  have hn : (22 + k - 22).toNat = k.toNat := by omega
  have hk4 : k < 4 := by omega
  clear hg hkk
  cases g <;> simp only [if_true, if_false, Bool.false_eq_true, jmpN] at q3 q4 q5 ⊢
  all_goals (go_wp2_with (refine wpList_store_mid (by rfl) 31 _ _ (by rfl) w2.heap.size 0 d.cells.toArray (by rfl) (by rfl) HTH.out (by simpa using info_cpu HDO.out) (cells_one d) ?_))
  all_goals go_ret
  all_goals exact ⟨rfl, (below_setCells HB2.out.size _ _ _ (HB2.out.alloc HB2.out.size _)).alloc (below_setCells HB2.out.size _ _ _ (HB2.out.alloc HB2.out.size _)).size _⟩
end Go.Proofs.YtjjpgkjjiooieaaDoor
