/-
  The walk of CpuData: it returns true.
-/
import Derived.Test.YtjjpgkjjiooieaaDoorJmp
import Derived.Test.YtjjpgkjjiooieaaDoorEq
namespace Go.Proofs.YtjjpgkjjiooieaaDoor
open Go.RowKit Tier
def datX : List Rv5 := [⟨21, 0, 5, 6, -8⟩, ⟨20, 7, 5, 0, -8⟩, ⟨29, 0, 0, 0, 0⟩]
theorem datX_ok : ∀ z ∈ datX, z.ok := by
  intro z hz
  simp only [datX, List.mem_cons, List.not_mem_nil, or_false] at hz
  rcases hz with rfl | rfl | rfl <;> (unfold Rv5.ok; decide +kernel)
/-- The machine that it begins with. -/
def datC (a b : Int) : Cpu := ⟨((List.replicate 32 0).set 5 a).set 6 b, 0, List.replicate 64 0, false⟩
def datD (k : Nat) (a b : Int) : Cpu := ⟨(((List.replicate 32 0).set 5 a).set 6 b).set 7 b, 2, (List.replicate 64 0).set k b, true⟩
theorem datC_ok (a b : Int) : (datC a b).Ok := ⟨by simp [datC], by simp [datC]⟩
theorem datD_ok (k : Nat) (a b : Int) : (datD k a b).Ok := ⟨by simp [datD], by simp [datD]⟩
theorem dat_from (L D : List Int) (_hL : L.length = 32) (hD : D.length = 64) (k : Nat) (b : Int) (hk : k < 64) (h5 : L[5]? = some (8 * (k : Int) + 8)) (h6 : L[6]? = some b) : runM datX 9 0 ⟨L, 0, D, false⟩ = (⟨L.set 7 b, 2, D.set k b, true⟩, 3, 0) := by
  have hw : wrap64 (8 * (k : Int) + 8 + -8) = 8 * (k : Int) := by unfold wrap64; omega
  have ho : wordOk (8 * (k : Int)) = true := by unfold wordOk; simp; omega
  have hd : (8 * (k : Int) / 8).toNat = k := by omega
  have hg5 : L[5]?.getD 0 = 8 * (k : Int) + 8 := by rw [h5]; rfl
  have hg6 : L[6]?.getD 0 = b := by rw [h6]; rfl
  simp [runM, stepM, doM, datX, Cpu.put, Cpu.reg, hg5, hg6, hw, ho, hD, hk]
theorem dat_bad (L D : List Int) (x : Int) (h5 : L[5]? = some (8 + x)) (hw : wrap64 (8 + x + -8) = x) (ho : wordOk x = false) : runM datX 9 0 ⟨L, 0, D, false⟩ = (zeroC, 0, 2) := by
  have hg5 : L[5]?.getD 0 = 8 + x := by rw [h5]; rfl
  simp [runM, stepM, doM, datX, Cpu.reg, hg5, hw, ho]
theorem dat_run (k : Nat) (b : Int) (hk : k < 64) : runM datX 9 0 (regs0 (datC (8 * (k : Int) + 8) b)) = (datD k (8 * (k : Int) + 8) b, 3, 0) :=
  dat_from (((List.replicate 32 0).set 5 (8 * (k : Int) + 8)).set 6 b) (List.replicate 64 0) (by simp) (by simp) k b hk rfl rfl
theorem dat_run2 (x b : Int) (hw : wrap64 (8 + x + -8) = x) (ho : wordOk x = false) : runM datX 9 0 (regs0 (datC (8 + x) b)) = (zeroC, 0, 2) :=
  dat_bad (((List.replicate 32 0).set 5 (8 + x)).set 6 b) (List.replicate 64 0) x rfl hw ho
theorem datC_cells (a b : Int) : (zeroC.cells.set 5 (.int .i64 a)).set 6 (.int .i64 b) = (datC a b).cells := jmpC_cells a b
theorem datC_set (a a' b : Int) : (datC a b).cells.set 5 (.int .i64 a') = (datC a' b).cells := by
  rw [set_reg (datC_ok a b) (r := 5) (by omega)]
  rfl
theorem datC_zero (a b : Int) {k : Nat} (hk : k < 64) : ((datC a b).data.map (Value.int .i64)).toArray[k]? = some (.int .i64 0) := by
  show ((List.replicate 64 (0 : Int)).map (Value.int .i64)).toArray[k]? = _
  rw [List.map_replicate, List.getElem?_toArray, List.getElem?_replicate, if_pos hk]
theorem datD_7 (k : Nat) (a b : Int) : (datD k a b).cells[7]? = some (.int .i64 b) := by
  rw [cells_reg (datD_ok k a b) (by omega)]; rfl
theorem range_data {W : World} {b : Nat} {c : Cpu} {t : TypeId} {fr : Nat × Nat} (h : W.heap[b]? = some (.cells c.cells.toArray t fr)) (hc : c.Ok) : W.rangeAt b 33 (c.data.map (Value.int .i64)) := fun j v hv => by
  rw [cell_block h]
  rw [List.getElem?_map] at hv
  obtain ⟨x, hx, rfl⟩ := Option.map_eq_some_iff.1 hv
  have hj : j < 64 := by have := (List.getElem?_eq_some_iff.1 hx).1; rw [hc.data] at this; exact this
  have := cells_data hc hj
  rw [List.getD_eq_getElem?_getD, hx] at this
  simpa using this
theorem info_arr {E : List Int} (h : E.length = 64) : (Tryd.prog.info? 29).map (·.size) = some (E.map (Value.int .i64)).length := by
  rw [List.length_map, h]; kernel_rfl
theorem ints_one (E : List Int) : (E.map (Value.int .i64)).toArray.all (·.oneCell') = true := all_oneCell_toArray (fun v hv => by
  obtain ⟨x, -, rfl⟩ := List.mem_map.1 hv
  rfl)
/-- The blocks of the machine, of what it comes to, and of the data that are wanted. -/
structure DatW (w : World) (w' : World) (bc bd : Nat) (C D : List Value) (E : List Int) : Prop where
  c : w'.heap[bc]? = some (.cells C.toArray 31 (0, 0))
  d : w'.heap[bd]? = some (.cells D.toArray 31 (0, 0))
  e : w'.heap[bd + 1]? = some (.cells (E.map (Value.int .i64)).toArray 29 (0, 0))
  size : w'.heap.size = bd + 2
  below : Below w.heap.size w w'
theorem datW_mk {w w3 : World} {bc bd : Nat} {C D ZD : List Value} {E : List Int} (h : w3.heap[bc]? = some (.cells C.toArray 31 (0, 0)) ∧ w3.heap[bd]? = some (.cells D.toArray 31 (0, 0)) ∧ w3.heap.size = bd + 1 ∧ Below w.heap.size w w3) (hz : ZD.length = 64) (hE : E.length = 64) :
    DatW w ((w3.alloc (.cells ZD.toArray 29)).setCells (bd + 1) 0 (E.map (Value.int .i64))) bc bd C D E := by
  obtain ⟨h1, h2, h3, h4⟩ := h
  have l1 := block_lt h1
  have l2 := block_lt h2
  refine ⟨block_setCells_ne _ (block_alloc h1 _) (by omega) _, block_setCells_ne _ (block_alloc h2 _) (by omega) _, block_full (cs := ZD.toArray) (by rw [← h3]; exact heap_alloc_new _ _) _ (by simp [hz, hE]), by rw [size_setCells]; simp [h3], below_setCells (by have := h4.size; omega) _ _ _ (h4.alloc h4.size _)⟩
/-- Behind the two stores. -/
structure DatV (w : World) (w' : World) (bc bd : Nat) (C D : List Value) (E : List Int) : Prop where
  c : w'.heap[bc]? = some (.cells C.toArray 31 (0, 0))
  d : w'.heap[bd]? = some (.cells D.toArray 31 (0, 0))
  e : w'.heap[bd + 1]? = some (.cells (E.map (Value.int .i64)).toArray 29 (0, 0))
  below : Below w.heap.size w w'
theorem datV_mk {w w4 : World} {bc bd : Nat} {C D : List Value} {E : List Int} (h : DatW w w4 bc bd C D E) (hl : bc < bd) (hw : w.heap.size ≤ bc) (k : Nat) (b : Int) (o : Obj) (v : Value) :
    DatV w (((w4.setCell ⟨bd + 1, k, none⟩ (.int .i64 b)).alloc o).setCell ⟨bc, 5, none⟩ v) bc bd (C.set 5 v) D (E.set k b) := by
  have h1 := block_alloc (block_set_ne h.c (b' := bd + 1) (by omega) k (.int .i64 b)) o
  have h2 := block_alloc (block_set_ne h.d (b' := bd + 1) (by omega) k (.int .i64 b)) o
  have h3 := block_alloc (block_set h.e k (.int .i64 b)) o
  have hb : Below w.heap.size w (w4.setCell ⟨bd + 1, k, none⟩ (.int .i64 b)) := h.below.setCell (by show w.heap.size ≤ bd + 1; omega) _
  refine ⟨?_, block_set_ne h2 (by omega) _ _, ?_, (hb.alloc hb.size o).setCell hw v⟩
  · rw [block_set h1]; simp
  · rw [block_set_ne h3 (by omega)]
    simp [List.map_set]
theorem datW_c {w w4 : World} {bc bd : Nat} {C D : List Value} {E : List Int} (h : DatW w w4 bc bd C D E) (hl : bc < bd) (k i : Nat) (v x : Value) (o : Obj) (hi : C[i]? = some x) :
    ((w4.setCell ⟨bd + 1, k, none⟩ v).alloc o).cell? ⟨bc, i, none⟩ = some x := by
  rw [cell_block (block_alloc (block_set_ne h.c (b' := bd + 1) (by omega) k v) o)]
  simpa using hi
theorem datW_f {w w4 : World} {bc bd : Nat} {C D : List Value} {E : List Int} (h : DatW w w4 bc bd C D E) (hl : bc < bd) (k i : Nat) (v : Value) (o : Obj) :
    ((w4.setCell ⟨bd + 1, k, none⟩ v).alloc o).frozen? ⟨bc, i, none⟩ = false :=
  frozen_block (block_alloc (block_set_ne h.c (b' := bd + 1) (by omega) k v) o) i
/-- The addresses that there are not. -/
theorem dat_lit {j : Int} (h : 0 ≤ j ∧ j < 6) : ∃ x : Int, (∀ g : j.toNat < 6, [Value.int .i64 (-8), .int .i64 512, .int .i64 4, .int .i64 1, .int .i64 (-1), .int .i64 1099511627776][j.toNat]'g = .int .i64 x) ∧ [Value.int .i64 (-8), .int .i64 512, .int .i64 4, .int .i64 1, .int .i64 (-1), .int .i64 1099511627776][j.toNat]? = some (.int .i64 x) ∧ wrap64 (8 + x) = 8 + x ∧ wrap64 (8 + x + -8) = x ∧ wordOk x = false := by
  have hc : j = 0 ∨ j = 1 ∨ j = 2 ∨ j = 3 ∨ j = 4 ∨ j = 5 := by omega
  rcases hc with rfl | rfl | rfl | rfl | rfl | rfl
  · exact ⟨-8, fun _ => rfl, rfl, by decide +kernel, by decide +kernel, by decide +kernel⟩
  · exact ⟨512, fun _ => rfl, rfl, by decide +kernel, by decide +kernel, by decide +kernel⟩
  · exact ⟨4, fun _ => rfl, rfl, by decide +kernel, by decide +kernel, by decide +kernel⟩
  · exact ⟨1, fun _ => rfl, rfl, by decide +kernel, by decide +kernel, by decide +kernel⟩
  · exact ⟨-1, fun _ => rfl, rfl, by decide +kernel, by decide +kernel, by decide +kernel⟩
  · exact ⟨1099511627776, fun _ => rfl, rfl, by decide +kernel, by decide +kernel, by decide +kernel⟩
set_option maxRecDepth 100000 in
theorem zero_arr (W : World) : (zeroValue 29).run Tryd.prog W = .ok (.agg (zeroC.data.map (Value.int .i64)).toArray) W := by kernel_rfl
set_option maxRecDepth 100000 in
set_option maxHeartbeats 4000000 in
theorem cpuData_walk (a b r : Int) (w : World) (ht : Tab w) (ha : In a) (_hb : In b) (hr : In r) :
    Calls Tryd.prog 4 #[.int .i64 a, .int .i64 b, .int .i64 r] w fun e w' => e = .returned (.bool true) ∧ Below w.heap.size w w' := by
  have HT := Lib.hid ht
  have p0 := picked_in a 64 (by omega)
  have HPA := Lib.hid (fun (W : World) => picked_any a 64 W ha (by omega) (by omega))
  obtain ⟨k, hk⟩ : ∃ k : Nat, pickedI a 64 = k := ⟨(pickedI a 64).toNat, by omega⟩
  rw [hk] at p0 HPA
  have p1 := picked_in r 6 (by omega)
  have HPB := Lib.hid (fun (W : World) => picked_any r 6 W hr (by omega) (by omega))
  obtain ⟨j, hj⟩ : ∃ j, pickedI r 6 = j := ⟨_, rfl⟩
  rw [hj] at p1 HPB
  obtain ⟨x, hx1, hx2, hx3, HX4, HX5⟩ := dat_lit p1
  have HX4 := Lib.hid HX4
  have HX5 := Lib.hid HX5
  have hz := zero_cpu
  have hza := zero_arr
  have HZD := Lib.hid (show (zeroC.data.map (Value.int .i64)).length = 64 by simp [zeroC])
  generalize zeroC.data.map (Value.int .i64) = ZD at *
  clear ht hk hr hj
  have hz5 : zeroC.cells[5]? = some (.int .i64 0) := by rw [cells_reg zeroC_ok (by omega)]; rfl
  have hz6 : (zeroC.cells.set 5 (.int .i64 (8 * (k : Int) + 8)))[6]? = some (.int .i64 0) := by rw [List.getElem?_set_ne (by omega), cells_reg zeroC_ok (by omega)]; rfl
  have he := datC_cells (8 * (k : Int) + 8) b
  have HCO := Lib.hid (datC_ok (8 * (k : Int) + 8) b)
  have HZL := Lib.hid (cells_length zeroC_ok)
  have hlz := cells_length zeroC_ok
  have hlc := cells_length HCO.out
  have hw1 : wrap64 (8 * (k : Int) + 8) = 8 * (k : Int) + 8 := by unfold wrap64; omega
  have hw2 : wrap64 (8 * (k : Int)) = 8 * (k : Int) := by unfold wrap64; omega
  go_enter Tryd.func4, Tryd.ntmps4
  go_wp2_with (first | (go_at_call 12; (refine (HPA.out _).mono ?_; rintro e w' ⟨rfl, rfl⟩; clear HPA)))
  have HOK := Lib.hid datX_ok
  have HRN := Lib.hid (dat_run k b (by omega))
  refine (words_any datX w.heap.size 3 _ (HT.out.alloc _) HOK.out (by simp [datX]) (rvs_block (t := 27) (fr := (0, 0)) (heap_alloc_new w _))).mono ?_
  rintro e w1 ⟨⟨A1, cap1, rfl, hown⟩, hb1⟩
  have HWA := Lib.hid (words_at hown)
  have HB1 := Lib.hid (show Below w.heap.size w w1 from ((Below.refl _ _).alloc (Nat.le_refl _) _).trans (hb1.mono (by simp)))
  have hlen : datX.length = 3 := rfl
  have HRU := Lib.hid (fun (W : World) (h1 : Tab W) (h2 : WordsAt W A1 datX) => crun_any (datC (8 * (k : Int) + 8) b) (datC_ok (8 * (k : Int) + 8) b) datX A1 cap1 9 W h1 HOK.out (by rw [hlen]; omega) h2 (by omega))
  have HRV := Lib.hid (fun (W : World) (x : Int) (hw : wrap64 (8 + x + -8) = x) (ho : wordOk x = false) (h1 : Tab W) (h2 : WordsAt W A1 datX) => (crun_any (datC (8 + x) b) (datC_ok (8 + x) b) datX A1 cap1 9 W h1 HOK.out (by rw [hlen]; omega) h2 (by omega)).mono (fun e w' h => (by rw [dat_run2 x b hw ho] at h; exact h : e = .returned (.tuple #[.agg zeroC.cells.toArray, .int .i64 0, .int .i64 2]) ∧ zeroC.Ok ∧ Below W.heap.size W w')))
  rw [HRN.out] at HRU
  rw [hlen] at HRU HRV
  rw [hlen]
  clear hown hb1 HRN
  generalize datX = xs at *
  have HCS := Lib.hid (fun a' => datC_set (8 * (k : Int) + 8) a' b)
  have HC5 := Lib.hid (show (datC (8 * (k : Int) + 8) b).cells[5]? = some (.int .i64 (8 * (k : Int) + 8)) by rw [cells_reg HCO.out (by omega)]; rfl)
  have HEK := Lib.hid (datC_zero (8 * (k : Int) + 8) b (k := k) (by omega))
  generalize hc0 : datC (8 * (k : Int) + 8) b = c0 at *
  generalize hZ : zeroC.cells = Z at *
  go_wp2_with (refine wpList_load_mid (by rfl) 31 _ (by rfl) w1.heap.size 0 (by rfl) c0.cells _ (range_block (t := 31) (fr := (0, 0)) (heap_alloc_new _ _)) Tryd.underlying31 (by rfl) (info_cpu HCO.out) ?_)
  obtain ⟨d, hd⟩ : ∃ d, datD k (8 * (k : Int) + 8) b = d := ⟨_, rfl⟩
  have HDO := Lib.hid (datD_ok k (8 * (k : Int) + 8) b)
  have HD7 := Lib.hid (datD_7 k (8 * (k : Int) + 8) b)
  have HDD := Lib.hid (show (datD k (8 * (k : Int) + 8) b).data = c0.data.set k b by rw [← hc0]; rfl)
  rw [hd] at HRU HDO HD7 HDD
  clear hd
  refine (HRU.out _ (HT.out.keeps (HB1.out.alloc HB1.out.size _)) (HWA.out.keeps ((Below.refl _ _).alloc (Nat.le_refl _) _))).mono ?_
  rintro e w2 ⟨rfl, -, hb2⟩
  have HB2 := Lib.hid (((Below.refl w1.heap.size w1).alloc (Nat.le_refl _) _).trans (hb2.mono (by simp)))
  have HCB := Lib.hid ((hb2.block w1.heap.size (by simp)).trans (heap_alloc_new _ _))
  have HTH := Lib.hid (there_block (t := 31) (n := d.cells.length) (heap_alloc_new w2 (.cells Z.toArray 31)) (by simp [HZL.out, cells_length HDO.out]))
  have hlt1 : w1.heap.size < w2.heap.size := block_lt HCB.out
  have H3 := Lib.hid (fun (w3 : World) (h : (w2.alloc (.cells Z.toArray 31)).setCells w2.heap.size 0 d.cells = w3) => (⟨by rw [← h]; exact block_setCells_ne _ (block_alloc HCB.out _) (by omega) _, by rw [← h]; exact block_full (heap_alloc_new _ _) _ (by simp [HZL.out, cells_length HDO.out]), by rw [← h, size_setCells]; simp, by rw [← h]; exact below_setCells HB2.out.size _ _ _ (HB2.out.alloc HB2.out.size _)⟩ : w3.heap[w1.heap.size]? = some (.cells c0.cells.toArray 31 (0, 0)) ∧ w3.heap[w2.heap.size]? = some (.cells d.cells.toArray 31 (0, 0)) ∧ w3.heap.size = w2.heap.size + 1 ∧ Below w1.heap.size w1 w3))
  clear hb2 hz5 hz6 he hlc hlz
  go_wp2_with (first | (refine wpList_store_mid (by rfl) 31 _ _ (by rfl) w2.heap.size 0 d.cells.toArray (by rfl) (by rfl) HTH.out (by simpa using info_cpu HDO.out) (cells_one d) ?_; obtain ⟨w3, hw3⟩ : ∃ w3, (w2.alloc (.cells Z.toArray 31)).setCells w2.heap.size 0 d.cells.toArray.toList = w3 := ⟨_, rfl⟩; rw [hw3]; have HW3 := Lib.hid (H3.out w3 hw3); have hlt3 := HW3.out.2.2.1; clear hw3) | (refine wpList_load_mid (by rfl) 29 _ (by rfl) w1.heap.size 33 (by rfl) (c0.data.map (Value.int .i64)) _ (range_data HW3.out.1 HCO.out) Tryd.underlying29 (by rfl) (info_arr HCO.out.data) ?_) | (refine wpList_store_mid (by rfl) 29 _ _ (by rfl) (w2.heap.size + 1) 0 (c0.data.map (Value.int .i64)).toArray (by rfl) (by rfl) (there_block (t := 29) (cs := ZD.toArray) (by rw [← hlt3]; exact heap_alloc_new _ _) (by simp [HZD.out, HCO.out.data])) (by simpa using info_arr HCO.out.data) (ints_one _) ?_; obtain ⟨w4, hw4⟩ : ∃ w4, (w3.alloc (.cells ZD.toArray 29)).setCells (w2.heap.size + 1) 0 (c0.data.map (Value.int .i64)).toArray.toList = w4 := ⟨_, rfl⟩; rw [hw4]; have HW4 := Lib.hid (show DatW w1 w4 w1.heap.size w2.heap.size c0.cells d.cells c0.data from hw4 ▸ datW_mk HW3.out HZD.out HCO.out.data); clear hw4; have e0 := (cell_block HW4.out.e k).trans (HEK.out); have f0 := frozen_block HW4.out.e) | (go_at_call 12; (refine (HPB.out _).mono ?_; rintro e w' ⟨rfl, rfl⟩; clear HPB; have c5 := fun o => datW_c HW4.out hlt1 k 5 (.int .i64 b) _ o HC5.out; have f5 := fun o => datW_f HW4.out hlt1 k 5 (.int .i64 b) o)) | (refine wpList_load_mid (by rfl) 31 _ (by rfl) w1.heap.size 0 (by rfl) (datC (8 + x) b).cells _ (by rw [← HCS.out]; exact range_block (datV_mk HW4.out hlt1 (Nat.le_refl _) k b _ (.int .i64 (8 + x))).c) Tryd.underlying31 (by rfl) (info_cpu (datC_ok _ _)) ?_))
  have HV := Lib.hid (datV_mk HW4.out hlt1 (Nat.le_refl _) k b (.cells #[.int .i64 (-8), .int .i64 512, .int .i64 4, .int .i64 1, .int .i64 (-1), .int .i64 1099511627776] 3) (.int .i64 (8 + x)))
  refine (HRV.out _ x HX4.out HX5.out (HT.out.keeps (HB1.out.trans (HV.out.below.mono HB1.out.size))) (HWA.out.keeps HV.out.below)).mono ?_
  rintro e w6 ⟨rfl, -, hb6⟩
  have HD7' := HD7.out
  have HBD := Lib.hid ((hb6.block _ (block_lt HV.out.d)).trans HV.out.d)
  have HBE := Lib.hid ((hb6.block _ (block_lt HV.out.e)).trans HV.out.e)
  have HB6 := Lib.hid (HB1.out.trans ((HV.out.below.trans (hb6.mono HV.out.below.size)).mono HB1.out.size))
  clear hb6 c5 f5 e0 f0
  have HZ1 := Lib.hid (cells_one zeroC)
  have HZI := Lib.hid (info_cpu zeroC_ok)
  rw [hZ] at HZ1 HZI
  have HDE := Lib.hid (show (c0.data.set k b).length = 64 by simp [HCO.out.data])
  have heq : ∀ W : World, (Op.equalIn 10000 29 (.agg (d.data.map (Value.int .i64)).toArray) (.agg ((c0.data.map (Value.int .i64)).set k (.int .i64 b)).toArray)).run Tryd.prog W = .ok true W := fun W => by
    rw [HDD.out, List.map_set]
    rw [← List.map_set]
    exact eq_data _ (by simp [HCO.out.data]) W
  have ld := block_lt HBD.out
  have le := block_lt HBE.out
  have H7 := Lib.hid (fun (w7 : World) (h : (w6.alloc (.cells Z.toArray 31)).setCells w6.heap.size 0 Z.toArray.toList = w7) => (⟨by rw [← h]; exact block_setCells_ne _ (block_alloc HBD.out _) (by omega) _, by rw [← h]; exact block_setCells_ne _ (block_alloc HBE.out _) (by omega) _, by rw [← h]; exact below_setCells HB6.out.size _ _ _ (HB6.out.alloc HB6.out.size _)⟩ : w7.heap[w2.heap.size]? = some (.cells d.cells.toArray 31 (0, 0)) ∧ w7.heap[w2.heap.size + 1]? = some (.cells ((c0.data.set k b).map (Value.int .i64)).toArray 29 (0, 0)) ∧ Below w.heap.size w w7))
  go_wp2_with (first | (refine wpList_store_mid (by rfl) 31 _ _ (by rfl) w6.heap.size 0 Z.toArray (by rfl) (by rfl) (there_block (t := 31) (cs := Z.toArray) (heap_alloc_new _ _) (by simp)) (by simpa using HZI.out) HZ1.out ?_; obtain ⟨w7, hw7⟩ : ∃ w7, (w6.alloc (.cells Z.toArray 31)).setCells w6.heap.size 0 Z.toArray.toList = w7 := ⟨_, rfl⟩; rw [hw7]; have HW7 := Lib.hid (H7.out w7 hw7); clear hw7; have d7 := (cell_block HW7.out.1 7).trans ((by simp) : d.cells.toArray[7]? = d.cells[7]?) |>.trans HD7.out) | (refine wpList_load_midg (by rfl) 29 _ (by rfl) w2.heap.size 33 (by rfl) (d.data.map (Value.int .i64)) _ (range_data HW7.out.1 HDO.out) Tryd.underlying29 (by rfl) (info_arr HDO.out.data) ?_) | (refine wpList_load_midg (by rfl) 29 _ (by rfl) (w2.heap.size + 1) 0 (by rfl) ((c0.data.set k b).map (Value.int .i64)) _ (range_block HW7.out.2.1) Tryd.underlying29 (by rfl) (info_arr HDE.out) ?_))
  go_ret
  exact ⟨rfl, HW7.out.2.2⟩
end Go.Proofs.YtjjpgkjjiooieaaDoor
