/-
  The contract of emit.Enter: a machine at the last frame of a state.
-/
import Derived.Test.YtfngkpbbimibaaaDoorEr
import Derived.Laws.CopyOwn
namespace Go.Proofs.YtfngkpbbimibaaaDoor
open Go.RowKit Tier
def zC : List Value := List.replicate 97 (.int .i64 0) ++ [.bool false]
def enC (M R : List Value) (a b : Value) : List Value := List.replicate 33 (.int .i64 0) ++ M ++ R ++ [a, b] ++ List.replicate 34 (.int .i64 0) ++ [.bool false]
theorem wp_copy_splice {P : Program} {o : Oper} {a : Act} {w : World} {K : Act → World → Prop} {Q : Exit → Act → World → Prop} (d x : Operand) (dT sT : TypeId)
    (ho : o.op = .call { callee := .builtin .copy, args := #[d, x], argTypes := #[dT, sT] }) (elem : TypeId) (hu : P.underlying dT = some (.slice elem)) (hsz : (P.info? elem).map (·.size) = some 1)
    (ad : Addr) (dLen dCap sLen sCap : Nat) {g off : Nat} (hd : a.eval d = .slice (some ⟨g, off, none⟩) dLen dCap) (hs : a.eval x = .slice (some ad) sLen sCap)
    (cur : List Value) (t : TypeId) (hg : w.heap[g]? = some (.cells cur.toArray t (0, 0))) (cs : List Value) (hn : cs.length = Nat.min sLen dLen)
    (hsrc : ∀ j v, cs[j]? = some v → w.cell? (ad.add j) = some v) (hfit : off + cs.length ≤ cur.length) (h1 : ∀ v ∈ cs, v.oneCell' = true) (B : Nat) (w0 : World) (hb : Below B w0 w) (hBg : B ≤ g)
    (h : ∀ w', Hid (w'.heap[g]? = some (.cells (splice cur off cs).toArray t (0, 0))) → Below B w0 w' → K (a.put o.dst (goInt cs.length)) w') : o.wp P a w K Q := by
  have hrun := run_copy_row (P := P) w dT sT o.type elem g off dLen dCap ad sLen sCap cur.toArray t cs hu hsz hg hn hsrc (by simpa using hfit) h1
  unfold Oper.wp
  simp [execOp, ho, resolve, invoke, builtin, hd, hs, hrun, Result.andThen]
  exact h _ (show _ = _ by simpa [splice] using setRow_heap w g _ _ t _ hg) (below_setRow hb hBg _)
theorem zC_length : zC.length = 98 := rfl
set_option maxRecDepth 100000 in
theorem zero_cp (W : World) : (zeroValue 59).run Tryd.prog W = .ok (.agg zC.toArray) W := by kernel_rfl
theorem info_cp {C : List Value} (h : C.length = 98) : (Tryd.prog.info? 59).map (·.size) = some C.length := by rw [h]; kernel_rfl
theorem en_eq (M R : List Value) (hM : M.length = 16) (hR : R.length = 12) (a b : Value) : ((splice (splice zC 33 M) 49 R).set 61 a).set 62 b = enC M R a b :=
  match M, hM, R, hR with
  | [_m0, _m1, _m2, _m3, _m4, _m5, _m6, _m7, _m8, _m9, _m10, _m11, _m12, _m13, _m14, _m15], _, [_r0, _r1, _r2, _r3, _r4, _r5, _r6, _r7, _r8, _r9, _r10, _r11], _ => rfl
theorem enC_length (M R : List Value) (hM : M.length = 16) (hR : R.length = 12) (a b : Value) : (enC M R a b).length = 98 := by simp [enC, hM, hR]
set_option maxRecDepth 100000 in
set_option maxHeartbeats 8000000 in
theorem enter_any {p : List Fnc} (hc : checkP p = 0) {B : Nat} (s : St) (C : List Value) (A1 : Option Addr) (cap1 : Nat) (w : World) (ht : Tab w) (hP : ProgAt w (.slice A1 p.length cap1) p) (hi : StInv p s) (hC : CellsSt C w B s) (hst : s.status = 0) {fs : List Fr} {f : Fr} (hf : s.frames = fs ++ [f]) :
    Calls Tryd.prog 20 #[.agg #[.slice A1 p.length cap1], .agg C.toArray] w fun e w' => e = .returned (.tuple #[.agg (enC (s.mem.map (Value.int .i64)) (f.regs.map (Value.int .i64)) (.int .i64 s.fuel) (.int .i64 f.pc)).toArray, .int .i64 0]) ∧ Below w.heap.size w w' := by
  have HER := Lib.hid (fun (W : World) (hb : Below w.heap.size w W) => erunning_any hc s C A1 cap1 W (ht.keeps hb) (hP.keeps hb) hi (hC.below hb))
  have HSI := Lib.hid (info_st (hC.len hi.mem))
  have HST := Lib.hid hst
  have HF := Lib.hid hf
  have hfo : FrOk p f := hi.fr f (by rw [hf]; simp)
  have hz := zero_cp
  obtain ⟨FA, fa, EA, ea, AA, aa, hci⟩ := hC.cin hi.mem (fun f hf => (hi.fr f hf).regs)
  have HCM := Lib.hid hci.cm
  have HC19 := Lib.hid hci.c19
  have hfl : (frCell f).length = 14 := frCell_length hfo.regs
  have HFL := Lib.hid hfl
  have HFI : Hid ((Tryd.prog.info? 68).map (·.size) = some (frCell f).length) := Lib.hid (by rw [hfl]; exact info_fr)
  have HFO1 : Hid ((frCell f).toArray.all (·.oneCell') = true) := Lib.hid (all_oneCell_toArray (fun v hv => frCells_cell (l := [f]) v (by rw [frCells_one]; exact hv)))
  have HF1 : Hid ((frCell f)[1]? = some (.int .i64 f.pc)) := Lib.hid rfl
  have HFG := Lib.hid (fun (r : Nat) (h1 : r < 12) => (frCell_reg hfo.regs (r := (r : Int)) (by omega) (by omega)))
  have HM16 := Lib.hid hi.mem
  have HR12 := Lib.hid hfo.regs
  have hb0 := Lib.hid ((((Below.refl w.heap.size w).alloc (Nat.le_refl _) (.cells #[(.slice A1 p.length cap1)] 25)).alloc (by simp) (.cells C.toArray 49)).alloc (by simp; omega) (.cells zC.toArray 59))
  have HBB := Lib.hid (fun (w1 : World) (hb : Below (w.heap.size + 3) (((w.alloc (.cells #[(.slice A1 p.length cap1)] 25)).alloc (.cells C.toArray 49)).alloc (.cells zC.toArray 59)) w1) => (⟨(hb.block (w.heap.size + 2) (by omega)).trans (by have := heap_alloc_new ((w.alloc (.cells #[(.slice A1 p.length cap1)] 25)).alloc (.cells C.toArray 49)) (.cells zC.toArray 59); simpa using this), (hb.block (w.heap.size + 1) (by omega)).trans (block_alloc (heap_alloc_new1 w _ _) _), hb0.out.trans (hb.mono (by omega)), by have := hb.size; simp at this; omega⟩ :
    w1.heap[w.heap.size + 2]? = some (.cells zC.toArray 59 (0, 0)) ∧ w1.heap[w.heap.size + 1]? = some (.cells C.toArray 49 (0, 0)) ∧ Below w.heap.size w w1 ∧ w.heap.size + 3 ≤ w1.heap.size))
  have HR0 := Lib.hid (range_block (block_alloc (heap_alloc_new1 w (.cells #[(.slice A1 p.length cap1)] 25) (.cells C.toArray 49)) (.cells zC.toArray 59)))
  clear ht hP hi hC hst hc hf hfo hci hfl
  go_enter Tryd.func20, Tryd.ntmps20
  go_wp2_with (refine wpList_load_mid (by rfl) 49 _ (by rfl) (w.heap.size + 1) 0 (by rfl) C _ HR0.out Tryd.underlying49 (by rfl) HSI.out ?_)
  refine (HER.out _ hb0.out).mono ?_
  rintro e w1 ⟨⟨h1, -⟩, hb⟩
  obtain ⟨fs', f', hf', rfl⟩ := h1 HST.out
  rw [HF.out] at hf'
  obtain ⟨rfl, hff⟩ := List.append_inj' hf' rfl
  simp only [List.cons.injEq, and_true] at hff
  subst hff
  have HB1 := Lib.hid (HBB.out w1 (hb.mono (by simp)))
  clear hb h1 hf' HER
  go_wp2_with (refine wpList_store_mid (by rfl) 68 _ _ (by rfl) w1.heap.size 0 (frCell f).toArray (by rfl) (by rfl) (there_new w1 [.int .i64 0, .int .i64 0, .int .i64 0, .int .i64 0, .int .i64 0, .int .i64 0, .int .i64 0, .int .i64 0, .int .i64 0, .int .i64 0, .int .i64 0, .int .i64 0, .int .i64 0, .int .i64 0] _ (by simp [HFL.out])) (by simpa using HFI.out) HFO1.out ?_; obtain ⟨w2, hw2⟩ : ∃ w2, (w1.alloc (.cells (List.toArray [.int .i64 0, .int .i64 0, .int .i64 0, .int .i64 0, .int .i64 0, .int .i64 0, .int .i64 0, .int .i64 0, .int .i64 0, .int .i64 0, .int .i64 0, .int .i64 0, .int .i64 0, .int .i64 0]) 68)).setCells w1.heap.size 0 (frCell f).toArray.toList = w2 := ⟨_, rfl⟩; rw [hw2]; have HBT : Hid (Below w1.heap.size w1 w2) := Lib.hid (hw2 ▸ below_setCells (Nat.le_refl _) _ _ _ ((Below.refl _ _).alloc (Nat.le_refl _) _)); have HTB : Hid (w2.heap[w1.heap.size]? = some (.cells (frCell f).toArray 68 (0, 0))) := Lib.hid (hw2 ▸ block_full (heap_alloc_new _ _) _ (by simp [HFL.out])); clear hw2)
  obtain ⟨w3, hw3⟩ : ∃ W, w2.alloc (.cells zC.toArray 59) = W := ⟨_, rfl⟩
  rw [hw3]
  have hb23 : Below w2.heap.size w2 w3 := hw3 ▸ (Below.refl _ _).alloc (Nat.le_refl _) _
  have HX3 := Lib.hid (show _ ∧ _ ∧ _ ∧ _ from ⟨(hb23.block _ (Nat.lt_of_lt_of_le (block_lt HB1.out.1) HBT.out.size)).trans ((HBT.out.block _ (block_lt HB1.out.1)).trans HB1.out.1), (hb23.block _ (Nat.lt_of_lt_of_le (block_lt HB1.out.2.1) HBT.out.size)).trans ((HBT.out.block _ (block_lt HB1.out.2.1)).trans HB1.out.2.1), (hb23.block _ (block_lt HTB.out)).trans HTB.out, (show w3.heap[w2.heap.size]? = some (.cells zC.toArray 59 (0, 0)) from hw3 ▸ heap_alloc_new w2 _)⟩)
  have HZ3 := Lib.hid HX3.out.1
  have HB3 := Lib.hid ((HB1.out.2.2.1.trans (HBT.out.mono (by have := HB1.out.2.2.2; omega))).trans (hb23.mono (by have := HB1.out.2.2.2; have := HBT.out.size; omega)))
  clear hb23 hw3
  refine wp_region_held_drew (S := fun _ => True) (by kernel_rfl) trivial (fun hHeld => ?_)
  refine wpAnyH_take (i := 0) (v := .pointer (some ⟨w2.heap.size, 33, none⟩)) rfl (by kernel_rfl) (by kernel_rfl) (by kernel_rfl) (fun _ _ _ h => h) (Or.inl ⟨by rfl, ?_⟩) hHeld ?_
  · intro w hSw
    simp only [List.getElem_toArray, List.getElem_cons_zero]
    go_simp
  simp only [Act.put, List.getElem_toArray, List.getElem_cons_zero, List.setIfInBounds_toArray, List.set_cons_zero, List.set_cons_succ]
  refine wpAnyH_take (i := 1) (v := .slice (some ⟨w2.heap.size, 33, none⟩) 64 64) rfl (by kernel_rfl) (by kernel_rfl) (by kernel_rfl) (fun _ _ _ h => h) (Or.inl ⟨by rfl, ?_⟩) hHeld ?_
  · intro w hSw
    simp only [List.getElem_toArray, List.getElem_cons_zero, List.getElem_cons_succ]
    go_simp
  simp only [Act.put, List.getElem_toArray, List.getElem_cons_zero, List.getElem_cons_succ, List.setIfInBounds_toArray, List.set_cons_zero, List.set_cons_succ]
  refine wpAnyH_take (i := 2) (v := .pointer (some ⟨w.heap.size + 1, 3, none⟩)) rfl (by kernel_rfl) (by kernel_rfl) (by kernel_rfl) (fun _ _ _ h => h) (Or.inl ⟨by rfl, ?_⟩) hHeld ?_
  · intro w hSw
    simp only [List.getElem_toArray, List.getElem_cons_zero, List.getElem_cons_succ]
    go_simp
  simp only [Act.put, List.getElem_toArray, List.getElem_cons_zero, List.getElem_cons_succ, List.setIfInBounds_toArray, List.set_cons_zero, List.set_cons_succ]
  refine wpAnyH_take (i := 3) (v := .slice (some ⟨w.heap.size + 1, 3, none⟩) 16 16) rfl (by kernel_rfl) (by kernel_rfl) (by kernel_rfl) (fun _ _ _ h => h) (Or.inl ⟨by rfl, ?_⟩) hHeld ?_
  · intro w hSw
    simp only [List.getElem_toArray, List.getElem_cons_zero, List.getElem_cons_succ]
    go_simp
  simp only [Act.put, List.getElem_toArray, List.getElem_cons_zero, List.getElem_cons_succ, List.setIfInBounds_toArray, List.set_cons_zero, List.set_cons_succ]
  refine wpAnyH_ready (rs := [4]) (by kernel_rfl) (by simp) ?_
  refine AllReadyH.cons rfl (fun K hK => ?_) AllReadyH.nil
  simp only [List.getElem_toArray, List.getElem_cons_zero, List.getElem_cons_succ]
  rw [if_pos (by rfl)]
  refine wp_copy_splice (.tmp 20) (.tmp 22) 40 40 rfl 3 Tryd.underlying40 (by kernel_rfl) ⟨w.heap.size + 1, 3, none⟩ 64 64 16 16 rfl rfl zC 59 (show w3.drew.heap[w2.heap.size]? = _ from HX3.out.2.2.2) (s.mem.map (Value.int .i64)) (by simp [HM16.out]) (fun j v hv => ?_) (by simp [HM16.out, zC_length]) (by simp [Value.oneCell']) w2.heap.size w3 (Below.refl _ _).drew (Nat.le_refl _) ?_
  · obtain ⟨hj, rfl⟩ := List.getElem?_eq_some_iff.1 hv
    have hj16 : j < 16 := by simpa [HM16.out] using hj
    have hcm := HCM.out j hj16
    rw [show (⟨w.heap.size + 1, 3, none⟩ : Addr).add j = ⟨w.heap.size + 1, 3 + j, none⟩ by simp [Addr.add]]
    show w3.cell? ⟨w.heap.size + 1, 3 + j, none⟩ = _
    rw [cell_block HX3.out.2.1, List.getElem?_toArray, hcm]
    simp [List.getD_eq_getElem?_getD, List.getElem?_eq_getElem (show j < s.mem.length by rw [HM16.out]; exact hj16)]
  intro w4 hg4 hb4
  refine hK.out _ _ trivial (fun hHeld => ?_)
  clear hK K hHeld
  refine wpAnyH_done (by kernel_rfl) ?_ _
  have HG4 := hg4
  have HX4 := Lib.hid (show _ ∧ _ from ⟨(hb4.block _ (Nat.lt_of_lt_of_le (block_lt HB1.out.2.1) HBT.out.size)).trans HX3.out.2.1, (hb4.block _ (block_lt HTB.out)).trans HX3.out.2.2.1⟩)
  obtain ⟨X1, hX1⟩ : ∃ X, splice zC 33 (s.mem.map (Value.int .i64)) = X := ⟨_, rfl⟩
  rw [hX1] at HG4
  have HL1 : Hid (X1.length = 98) := Lib.hid (by rw [← hX1, length_splice _ _ _ (by simp [HM16.out, zC_length])]; rfl)
  have HX1 := Lib.hid hX1
  have HB4 := Lib.hid (HB3.out.trans (hb4.mono (by have := HB1.out.2.2.2; have := HBT.out.size; omega)))
  clear hg4 hX1
  go_wp2_with fail
  refine wp_region_held_drew (S := fun _ => True) (by kernel_rfl) trivial (fun hHeld => ?_)
  refine wpAnyH_take (i := 0) (v := .pointer (some ⟨w2.heap.size, 33, none⟩)) rfl (by kernel_rfl) (by kernel_rfl) (by kernel_rfl) (fun _ _ _ h => h) (Or.inl ⟨by rfl, ?_⟩) hHeld ?_
  · intro w hSw
    simp only [List.getElem_toArray, List.getElem_cons_zero]
    go_simp
  simp only [Act.put, List.getElem_toArray, List.getElem_cons_zero, List.setIfInBounds_toArray, List.set_cons_zero, List.set_cons_succ]
  refine wpAnyH_take (i := 1) (v := .slice (some ⟨w2.heap.size, 49, none⟩) 48 48) rfl (by kernel_rfl) (by kernel_rfl) (by kernel_rfl) (fun _ _ _ h => h) (Or.inl ⟨by rfl, ?_⟩) hHeld ?_
  · intro w hSw
    simp only [List.getElem_toArray, List.getElem_cons_zero, List.getElem_cons_succ]
    go_simp
  simp only [Act.put, List.getElem_toArray, List.getElem_cons_zero, List.getElem_cons_succ, List.setIfInBounds_toArray, List.set_cons_zero, List.set_cons_succ]
  refine wpAnyH_take (i := 2) (v := .pointer (some ⟨w1.heap.size, 2, none⟩)) rfl (by kernel_rfl) (by kernel_rfl) (by kernel_rfl) (fun _ _ _ h => h) (Or.inl ⟨by rfl, ?_⟩) hHeld ?_
  · intro w hSw
    simp only [List.getElem_toArray, List.getElem_cons_zero, List.getElem_cons_succ]
    go_simp
  simp only [Act.put, List.getElem_toArray, List.getElem_cons_zero, List.getElem_cons_succ, List.setIfInBounds_toArray, List.set_cons_zero, List.set_cons_succ]
  refine wpAnyH_take (i := 3) (v := .slice (some ⟨w1.heap.size, 2, none⟩) 12 12) rfl (by kernel_rfl) (by kernel_rfl) (by kernel_rfl) (fun _ _ _ h => h) (Or.inl ⟨by rfl, ?_⟩) hHeld ?_
  · intro w hSw
    simp only [List.getElem_toArray, List.getElem_cons_zero, List.getElem_cons_succ]
    go_simp
  simp only [Act.put, List.getElem_toArray, List.getElem_cons_zero, List.getElem_cons_succ, List.setIfInBounds_toArray, List.set_cons_zero, List.set_cons_succ]
  refine wpAnyH_ready (rs := [4]) (by kernel_rfl) (by simp) ?_
  refine AllReadyH.cons rfl (fun K hK => ?_) AllReadyH.nil
  simp only [List.getElem_toArray, List.getElem_cons_zero, List.getElem_cons_succ]
  rw [if_pos (by rfl)]
  refine wp_copy_splice (.tmp 25) (.tmp 27) 40 40 rfl 3 Tryd.underlying40 (by kernel_rfl) ⟨w1.heap.size, 2, none⟩ 48 48 12 12 rfl rfl X1 59 (show w4.drew.heap[w2.heap.size]? = _ from HG4.out) (f.regs.map (Value.int .i64)) (by simp [HR12.out]) (fun j v hv => ?_) (by simp [HR12.out, HL1.out]) (by simp [Value.oneCell']) w2.heap.size w4 (Below.refl _ _).drew (Nat.le_refl _) ?_
  · obtain ⟨hj, rfl⟩ := List.getElem?_eq_some_iff.1 hv
    have hj12 : j < 12 := by simpa [HR12.out] using hj
    have hcm := HFG.out j hj12
    rw [show (⟨w1.heap.size, 2, none⟩ : Addr).add j = ⟨w1.heap.size, 2 + j, none⟩ by simp [Addr.add]]
    show w4.cell? ⟨w1.heap.size, 2 + j, none⟩ = _
    rw [cell_block HX4.out.2, List.getElem?_toArray]
    simp only [Int.toNat_natCast] at hcm
    rw [hcm]
    simp [Fr.reg, List.getD_eq_getElem?_getD, List.getElem?_eq_getElem (show j < f.regs.length by rw [HR12.out]; exact hj12)]
  intro w5 hg5 hb5
  refine hK.out _ _ trivial (fun hHeld => ?_)
  clear hK K hHeld
  refine wpAnyH_done (by kernel_rfl) ?_ _
  obtain ⟨X2, hX2⟩ : ∃ X, splice X1 49 (f.regs.map (Value.int .i64)) = X := ⟨_, rfl⟩
  have HG5 := hg5
  rw [hX2] at HG5
  have HEQ : Hid ((X2.set 61 (.int .i64 s.fuel)).set 62 (.int .i64 f.pc) = enC (s.mem.map (Value.int .i64)) (f.regs.map (Value.int .i64)) (.int .i64 s.fuel) (.int .i64 f.pc)) := Lib.hid (by rw [← hX2, ← HX1.out]; exact en_eq _ _ (by simp [HM16.out]) (by simp [HR12.out]) _ _)
  have HL2 : Hid (X2.length = 98) := Lib.hid (by rw [← hX2, length_splice _ _ _ (by simp [HR12.out, HL1.out]), HL1.out])
  have HX5 := Lib.hid (show _ ∧ _ from ⟨(hb5.block _ (Nat.lt_of_lt_of_le (block_lt HB1.out.2.1) HBT.out.size)).trans HX4.out.1, (hb5.block _ (block_lt HTB.out)).trans HX4.out.2⟩)
  have HB5 := Lib.hid (HB4.out.trans (hb5.mono (by have := HB1.out.2.2.2; have := HBT.out.size; omega)))
  have hz5 : w5.heap[w.heap.size + 1 + 1]? = w1.heap[w.heap.size + 2]? := (hb5.block _ (Nat.lt_of_lt_of_le (block_lt HB1.out.1) HBT.out.size)).trans ((hb4.block _ (Nat.lt_of_lt_of_le (block_lt HB1.out.1) HBT.out.size)).trans (HZ3.out.trans HB1.out.1.symm))
  clear hb4
  have f5 := (cell_block HX5.out.1 19).trans (List.getElem?_toArray.trans HC19.out)
  have g5 := (cell_block HX5.out.2 1).trans (List.getElem?_toArray.trans HF1.out)
  have z5 := block_lt HX5.out.1
  have y5 := block_lt HX5.out.2
  have x5 := block_lt HG5.out
  obtain ⟨v61, c61⟩ : ∃ v, X2[61]? = some v := ⟨_, List.getElem?_eq_getElem (by rw [HL2.out]; omega)⟩
  obtain ⟨v62, c62⟩ : ∃ v, X2[62]? = some v := ⟨_, List.getElem?_eq_getElem (by rw [HL2.out]; omega)⟩
  have c5 := (cell_block HG5.out 61).trans (List.getElem?_toArray.trans c61)
  have d5 := (cell_block HG5.out 62).trans (List.getElem?_toArray.trans c62)
  have q5 := frozen_block HG5.out 61
  have r5 := frozen_block HG5.out 62
  have HRZ : Hid (w5.heap[w.heap.size + 1 + 1]? = some (.cells zC.toArray 59 (0, 0))) := Lib.hid (hz5.trans HB1.out.1)
  have hne : w2.heap.size ≠ w.heap.size + 1 + 1 := by have := HB1.out.2.2.2; have := HBT.out.size; omega
  have HG6 := Lib.hid (block_put (block_put HG5.out (i := 61) (v := .int .i64 s.fuel) rfl) (i := 62) (v := .int .i64 f.pc) HEQ.out)
  have HRZ6 := Lib.hid (block_set_ne (block_set_ne HRZ.out hne 61 (.int .i64 s.fuel)) hne 62 (.int .i64 f.pc))
  have HLE := Lib.hid (enC_length (s.mem.map (Value.int .i64)) (f.regs.map (Value.int .i64)) (by simp [HM16.out]) (by simp [HR12.out]) (.int .i64 s.fuel) (.int .i64 f.pc))
  have HIE := Lib.hid (info_cp HLE.out)
  have HOE := Lib.hid (show (enC (s.mem.map (Value.int .i64)) (f.regs.map (Value.int .i64)) (.int .i64 s.fuel) (.int .i64 f.pc)).toArray.all (·.oneCell') = true from all_oneCell_toArray (fun v hv => by
    simp only [enC, List.mem_append, List.mem_replicate, List.mem_map, List.mem_cons, List.not_mem_nil, or_false] at hv
    rcases hv with ((((⟨-, rfl⟩ | ⟨_, -, rfl⟩) | ⟨_, -, rfl⟩) | rfl | rfl) | ⟨-, rfl⟩) | rfl <;> rfl))
  obtain ⟨E, hE⟩ : ∃ E, enC (s.mem.map (Value.int .i64)) (f.regs.map (Value.int .i64)) (.int .i64 s.fuel) (.int .i64 f.pc) = E := ⟨_, rfl⟩
  rw [hE] at HG6 HLE HIE HOE
  have HEE := Lib.hid hE
  clear hg5 hb5 hX2 hz5 hE c61 c62
  go_wp2_with (first | (refine wpList_load_mid (by rfl) 59 _ (by rfl) w2.heap.size 0 (by rfl) E _ (range_block HG6.out) Tryd.underlying59 (by rfl) HIE.out ?_) | (refine wpList_store_mid (by rfl) 59 _ _ (by rfl) (w.heap.size + 1 + 1) 0 E.toArray (by rfl) (by rfl) (there_block HRZ6.out (by simp [HLE.out, zC_length])) (by simpa using HIE.out) HOE.out ?_))
  have hrd := run_loadVar_mid (P := Tryd.prog) _ _ _ 59 E _ (World.rangeAt_setCells_same ((w5.setCell ⟨w2.heap.size, 61, none⟩ (.int .i64 s.fuel)).setCell ⟨w2.heap.size, 62, none⟩ (.int .i64 f.pc)) (w.heap.size + 1 + 1) 0 E (there_block HRZ6.out (by simp [HLE.out, zC_length]))) Tryd.underlying59 (by rfl) HIE.out
  refine bodyPost_ret (v := .tuple #[.agg E.toArray, .int .i64 0]) (results_cell2 Tryd.results20 _ _ _ _ _ ?_ hrd) rfl ⟨by rw [HEE.out], ?_⟩
  · rfl
  · exact below_setCells (by omega) _ _ _ ((HB5.out.setCell (by have := HB1.out.2.2.2; have := HBT.out.size; show w.heap.size ≤ w2.heap.size; omega) _).setCell (by have := HB1.out.2.2.2; have := HBT.out.size; show w.heap.size ≤ w2.heap.size; omega) _)
end Go.Proofs.YtfngkpbbimibaaaDoor
/-
  emit.Enter at a state that does not run.
-/
namespace Go.Proofs.YtfngkpbbimibaaaDoor
open Go.RowKit Tier
theorem zC_one : zC.toArray.all (·.oneCell') = true := all_oneCell_toArray (fun v hv => by
  simp only [zC, List.mem_append, List.mem_replicate, List.mem_cons, List.not_mem_nil, or_false] at hv
  rcases hv with ⟨-, rfl⟩ | rfl <;> rfl)
set_option maxRecDepth 100000 in
set_option maxHeartbeats 8000000 in
theorem enter_halt {p : List Fnc} (hc : checkP p = 0) {B : Nat} (s : St) (C : List Value) (A1 : Option Addr) (cap1 : Nat) (w : World) (ht : Tab w) (hP : ProgAt w (.slice A1 p.length cap1) p) (hi : StInv p s) (hC : CellsSt C w B s) (hst : s.status ≠ 0) :
    Calls Tryd.prog 20 #[.agg #[.slice A1 p.length cap1], .agg C.toArray] w fun e w' => e = .returned (.tuple #[.agg zC.toArray, .int .i64 9]) ∧ Below w.heap.size w w' := by
  have HER := Lib.hid (fun (W : World) (hb : Below w.heap.size w W) => erunning_any hc s C A1 cap1 W (ht.keeps hb) (hP.keeps hb) hi (hC.below hb))
  have HSI := Lib.hid (info_st (hC.len hi.mem))
  have HST := Lib.hid hst
  have hz := zero_cp
  have HZI : Hid ((Tryd.prog.info? 68).map (·.size) = some zeroF.length) := Lib.hid info_fr
  have HZO := Lib.hid (show zeroF.toArray.all (·.oneCell') = true from all_oneCell_toArray (fun v hv => by simp [zeroF] at hv; rw [hv]; rfl))
  have HZS := Lib.hid (info_cp zC_length)
  have hb0 := Lib.hid ((((Below.refl w.heap.size w).alloc (Nat.le_refl _) (.cells #[(.slice A1 p.length cap1)] 25)).alloc (by simp) (.cells C.toArray 49)).alloc (by simp; omega) (.cells zC.toArray 59))
  have HBB := Lib.hid (fun (w1 : World) (hb : Below (w.heap.size + 3) (((w.alloc (.cells #[(.slice A1 p.length cap1)] 25)).alloc (.cells C.toArray 49)).alloc (.cells zC.toArray 59)) w1) => (⟨(hb.block (w.heap.size + 2) (by omega)).trans (by have := heap_alloc_new ((w.alloc (.cells #[(.slice A1 p.length cap1)] 25)).alloc (.cells C.toArray 49)) (.cells zC.toArray 59); simpa using this), hb0.out.trans (hb.mono (by omega)), by have := hb.size; simp at this; omega⟩ :
    w1.heap[w.heap.size + 2]? = some (.cells zC.toArray 59 (0, 0)) ∧ Below w.heap.size w w1 ∧ w.heap.size + 3 ≤ w1.heap.size))
  have HR0 := Lib.hid (range_block (block_alloc (heap_alloc_new1 w (.cells #[(.slice A1 p.length cap1)] 25) (.cells C.toArray 49)) (.cells zC.toArray 59)))
  clear ht hP hi hC hst hc
  go_enter Tryd.func20, Tryd.ntmps20
  go_wp2_with (refine wpList_load_mid (by rfl) 49 _ (by rfl) (w.heap.size + 1) 0 (by rfl) C _ HR0.out Tryd.underlying49 (by rfl) HSI.out ?_)
  refine (HER.out _ hb0.out).mono ?_
  rintro e w1 ⟨⟨-, h1⟩, hb⟩
  obtain rfl := h1 HST.out
  have HB1 := Lib.hid (HBB.out w1 (hb.mono (by simp)))
  clear hb h1 HER
  go_wp2_with (first | (refine wpList_store_mid (by rfl) 68 _ _ (by rfl) w1.heap.size 0 zeroF.toArray (by rfl) (by rfl) (there_new w1 [.int .i64 0, .int .i64 0, .int .i64 0, .int .i64 0, .int .i64 0, .int .i64 0, .int .i64 0, .int .i64 0, .int .i64 0, .int .i64 0, .int .i64 0, .int .i64 0, .int .i64 0, .int .i64 0] _ (by simp [zeroF])) (by simpa using HZI.out) HZO.out ?_; obtain ⟨w2, hw2⟩ : ∃ w2, (w1.alloc (.cells (List.toArray [.int .i64 0, .int .i64 0, .int .i64 0, .int .i64 0, .int .i64 0, .int .i64 0, .int .i64 0, .int .i64 0, .int .i64 0, .int .i64 0, .int .i64 0, .int .i64 0, .int .i64 0, .int .i64 0]) 68)).setCells w1.heap.size 0 zeroF.toArray.toList = w2 := ⟨_, rfl⟩; rw [hw2]; have HBT : Hid (Below w1.heap.size w1 w2) := Lib.hid (hw2 ▸ below_setCells (Nat.le_refl _) _ _ _ ((Below.refl _ _).alloc (Nat.le_refl _) _)); have HRZ : Hid (w2.heap[(w.heap.size + 1 + 1)]? = some (.cells zC.toArray 59 (0, 0))) := Lib.hid ((HBT.out.block _ (block_lt HB1.out.1)).trans HB1.out.1); clear hw2) | (refine wpList_store_mid (by rfl) 59 _ _ (by rfl) (w.heap.size + 1 + 1) 0 zC.toArray (by rfl) (by rfl) (there_block HRZ.out (by simp [zC_length])) (by simpa using HZS.out) zC_one ?_))
  have hrd := run_loadVar_mid (P := Tryd.prog) _ _ _ 59 zC _ (World.rangeAt_setCells_same w2 (w.heap.size + 1 + 1) 0 zC (there_block HRZ.out (by simp [zC_length]))) Tryd.underlying59 (by rfl) HZS.out
  refine bodyPost_ret (v := .tuple #[.agg zC.toArray, .int .i64 9]) (results_cell2 Tryd.results20 _ _ _ _ _ ?_ hrd) rfl ⟨rfl, ?_⟩
  · rfl
  · exact below_setCells (by omega) _ _ _ (HB1.out.2.1.trans (HBT.out.mono (by have := HB1.out.2.2; omega)))
end Go.Proofs.YtfngkpbbimibaaaDoor
/-
  emit.Leave at a state that does not run.
-/
namespace Go.Proofs.YtfngkpbbimibaaaDoor
open Go.RowKit Tier
set_option maxRecDepth 100000 in
set_option maxHeartbeats 8000000 in
theorem leave_halt {p : List Fnc} (hc : checkP p = 0) {B : Nat} (s : St) (C D : List Value) (A1 : Option Addr) (cap1 : Nat) (w : World) (ht : Tab w) (hP : ProgAt w (.slice A1 p.length cap1) p) (hi : StInv p s) (hC : CellsSt C w B s) (hst : s.status ≠ 0) :
    Calls Tryd.prog 21 #[.agg #[.slice A1 p.length cap1], .agg C.toArray, .agg D.toArray] w fun e w' => e = .returned (.tuple #[.agg zeroV.toArray, .int .i64 9]) ∧ Below w.heap.size w w' := by
  have HER := Lib.hid (fun (W : World) (hb : Below w.heap.size w W) => erunning_any hc s C A1 cap1 W (ht.keeps hb) (hP.keeps hb) hi (hC.below hb))
  have HSI := Lib.hid (info_st (hC.len hi.mem))
  have HST := Lib.hid hst
  have hz := zero_st
  have HZI : Hid ((Tryd.prog.info? 68).map (·.size) = some zeroF.length) := Lib.hid info_fr
  have HZO := Lib.hid (show zeroF.toArray.all (·.oneCell') = true from all_oneCell_toArray (fun v hv => by simp [zeroF] at hv; rw [hv]; rfl))
  have HZS := Lib.hid (info_st zeroV_length)
  have hb0 := Lib.hid (((((Below.refl w.heap.size w).alloc (Nat.le_refl _) (.cells #[(.slice A1 p.length cap1)] 25)).alloc (by simp) (.cells C.toArray 49)).alloc (by simp; omega) (.cells D.toArray 59)).alloc (by simp; omega) (.cells zeroV.toArray 49))
  have HBB := Lib.hid (fun (w1 : World) (hb : Below (w.heap.size + 4) ((((w.alloc (.cells #[(.slice A1 p.length cap1)] 25)).alloc (.cells C.toArray 49)).alloc (.cells D.toArray 59)).alloc (.cells zeroV.toArray 49)) w1) => (⟨(hb.block (w.heap.size + 3) (by omega)).trans (by have := heap_alloc_new (((w.alloc (.cells #[(.slice A1 p.length cap1)] 25)).alloc (.cells C.toArray 49)).alloc (.cells D.toArray 59)) (.cells zeroV.toArray 49); simpa using this), hb0.out.trans (hb.mono (by omega)), by have := hb.size; simp at this; omega⟩ :
    w1.heap[w.heap.size + 3]? = some (.cells zeroV.toArray 49 (0, 0)) ∧ Below w.heap.size w w1 ∧ w.heap.size + 4 ≤ w1.heap.size))
  have HR0 := Lib.hid (range_block (block_alloc (block_alloc (heap_alloc_new1 w (.cells #[(.slice A1 p.length cap1)] 25) (.cells C.toArray 49)) (.cells D.toArray 59)) (.cells zeroV.toArray 49)))
  clear ht hP hi hC hst hc
  go_enter Tryd.func21, Tryd.ntmps21
  go_wp2_with (refine wpList_load_mid (by rfl) 49 _ (by rfl) (w.heap.size + 1) 0 (by rfl) C _ HR0.out Tryd.underlying49 (by rfl) HSI.out ?_)
  refine (HER.out _ hb0.out).mono ?_
  rintro e w1 ⟨⟨-, h1⟩, hb⟩
  obtain rfl := h1 HST.out
  have HB1 := Lib.hid (HBB.out w1 (hb.mono (by simp)))
  clear hb h1 HER
  go_wp2_with (first | (refine wpList_store_mid (by rfl) 68 _ _ (by rfl) w1.heap.size 0 zeroF.toArray (by rfl) (by rfl) (there_new w1 [.int .i64 0, .int .i64 0, .int .i64 0, .int .i64 0, .int .i64 0, .int .i64 0, .int .i64 0, .int .i64 0, .int .i64 0, .int .i64 0, .int .i64 0, .int .i64 0, .int .i64 0, .int .i64 0] _ (by simp [zeroF])) (by simpa using HZI.out) HZO.out ?_; obtain ⟨w2, hw2⟩ : ∃ w2, (w1.alloc (.cells (List.toArray [.int .i64 0, .int .i64 0, .int .i64 0, .int .i64 0, .int .i64 0, .int .i64 0, .int .i64 0, .int .i64 0, .int .i64 0, .int .i64 0, .int .i64 0, .int .i64 0, .int .i64 0, .int .i64 0]) 68)).setCells w1.heap.size 0 zeroF.toArray.toList = w2 := ⟨_, rfl⟩; rw [hw2]; have HBT : Hid (Below w1.heap.size w1 w2) := Lib.hid (hw2 ▸ below_setCells (Nat.le_refl _) _ _ _ ((Below.refl _ _).alloc (Nat.le_refl _) _)); have HRZ : Hid (w2.heap[(w.heap.size + 1 + 1 + 1)]? = some (.cells zeroV.toArray 49 (0, 0))) := Lib.hid ((HBT.out.block _ (block_lt HB1.out.1)).trans HB1.out.1); clear hw2) | (refine wpList_store_mid (by rfl) 49 _ _ (by rfl) (w.heap.size + 1 + 1 + 1) 0 zeroV.toArray (by rfl) (by rfl) (there_block HRZ.out (by simp [zeroV_length])) (by simpa using HZS.out) zeroV_one ?_))
  have hrd := run_loadVar_mid (P := Tryd.prog) _ _ _ 49 zeroV _ (World.rangeAt_setCells_same w2 (w.heap.size + 1 + 1 + 1) 0 zeroV (there_block HRZ.out (by simp [zeroV_length]))) Tryd.underlying49 (by rfl) HZS.out
  refine bodyPost_ret (v := .tuple #[.agg zeroV.toArray, .int .i64 9]) (results_cell2 Tryd.results21 _ _ _ _ _ ?_ hrd) rfl ⟨rfl, ?_⟩
  · rfl
  · exact below_setCells (by omega) _ _ _ (HB1.out.2.1.trans (HBT.out.mono (by have := HB1.out.2.2; omega)))
end Go.Proofs.YtfngkpbbimibaaaDoor
