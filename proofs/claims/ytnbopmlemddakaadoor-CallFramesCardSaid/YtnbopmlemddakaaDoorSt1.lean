/-
  The contract of step.own: a state whose rows are the call's own.
-/
import Derived.Test.YtnbopmlemddakaaDoorStB
namespace Go.Proofs.YtnbopmlemddakaaDoor
open Go.RowKit Tier
section
variable (s : St) (FS ES AS : Value)
theorem stC_0 : (stCells s FS ES AS)[0]? = some (.int .i64 s.status) := rfl
theorem stC_1 : (stCells s FS ES AS)[1]? = some (.int .i64 s.value) := rfl
theorem stC_2 : (stCells s FS ES AS)[2]? = some FS := rfl
variable {s} (h : s.mem.length = 16)
include h
theorem stC_mem {i : Nat} (hi : i < 16) : (stCells s FS ES AS)[3 + i]? = some (.int .i64 (s.mem.getD i 0)) := by
  unfold stCells intsV
  rw [List.getElem?_append_left (by simp [h]; omega), List.getElem?_append_right (by simp)]
  simp only [List.length_cons, List.length_nil]
  rw [show 3 + i - (0 + 1 + 1 + 1) = i by omega, List.getElem?_map, List.getD_eq_getElem?_getD, List.getElem?_eq_getElem (by omega)]
  rfl
theorem stC_hi (j : Nat) : (stCells s FS ES AS)[19 + j]? = [Value.int .i64 s.fuel, ES, AS][j]? := by
  unfold stCells intsV
  rw [List.getElem?_append_right (by simp [h])]
  simp [h]
theorem stC_19 : (stCells s FS ES AS)[19]? = some (.int .i64 s.fuel) := stC_hi FS ES AS h 0
theorem stC_20 : (stCells s FS ES AS)[20]? = some ES := stC_hi FS ES AS h 1
theorem stC_21 : (stCells s FS ES AS)[21]? = some AS := stC_hi FS ES AS h 2
theorem stS_hi (j : Nat) (v : Value) : (stCells s FS ES AS).set (19 + j) v = [.int .i64 s.status, .int .i64 s.value, FS] ++ intsV s.mem ++ [Value.int .i64 s.fuel, ES, AS].set j v := by
  unfold stCells intsV
  rw [List.set_append_right _ _ (by simp [h])]
  simp [h]
theorem stS_19 (n : Int) : (stCells s FS ES AS).set 19 (.int .i64 n) = stCells { s with fuel := n } FS ES AS := stS_hi FS ES AS h 0 _
theorem stS_20 (v : Value) : (stCells s FS ES AS).set 20 v = stCells s FS v AS := stS_hi FS ES AS h 1 _
theorem stS_21 (v : Value) : (stCells s FS ES AS).set 21 v = stCells s FS ES v := stS_hi FS ES AS h 2 _
theorem stS_mem {i : Nat} (hi : i < 16) (n : Int) : (stCells s FS ES AS).set (3 + i) (.int .i64 n) = stCells { s with mem := s.mem.set i n } FS ES AS := by
  unfold stCells intsV
  rw [List.set_append_left _ _ (by simp [h]; omega), List.set_append_right _ _ (by simp)]
  simp only [List.length_cons, List.length_nil]
  rw [show 3 + i - (0 + 1 + 1 + 1) = i by omega, List.map_set]
omit h
theorem stS_0 (n : Int) : (stCells s FS ES AS).set 0 (.int .i64 n) = stCells { s with status := n } FS ES AS := rfl
theorem stS_1 (n : Int) : (stCells s FS ES AS).set 1 (.int .i64 n) = stCells { s with value := n } FS ES AS := rfl
theorem stS_2 (v : Value) : (stCells s FS ES AS).set 2 v = stCells s v ES AS := rfl
end
theorem slice_one {w : World} {B : Nat} {e : TypeId} {size : Nat} {v : Value} {n : Nat} {xs : List Value} (h : w.ownsRow B e size v n xs) : v.oneCell' = true := by
  rcases h.2 with ⟨rfl, -⟩ | ⟨g, cap, cur, rfl, -⟩ <;> rfl
theorem num_one {w : World} {B : Nat} {v : Value} {l : List Int} (h : NumAt w B v l) : v.oneCell' = true := by
  obtain ⟨A, cap, rfl, -⟩ := h; rfl
theorem stC_one' {s : St} {FS ES AS : Value} (h1 : FS.oneCell' = true) (h2 : ES.oneCell' = true) (h3 : AS.oneCell' = true) : (stCells s FS ES AS).toArray.all (·.oneCell') = true := all_oneCell_toArray (fun v hv => by
  unfold stCells intsV at hv
  simp only [List.mem_append, List.mem_cons, List.mem_map, List.not_mem_nil, or_false] at hv
  rcases hv with ((rfl | rfl | rfl) | ⟨a, -, rfl⟩) | rfl | rfl | rfl
  · rfl
  · rfl
  · exact h1
  · rfl
  · rfl
  · exact h2
  · exact h3)
theorem stC_one {w : World} {B : Nat} {s : St} {FS ES AS : Value} (h : StRows w B s FS ES AS) : (stCells s FS ES AS).toArray.all (·.oneCell') = true := stC_one' (slice_one h.fr) (slice_one h.ev) (num_one h.an)
theorem frCells_cell {l : List Fr} : ∀ u ∈ frCells l, u.oneCell' = true := fun u hu => by
  unfold frCells frCell at hu
  simp only [List.mem_flatMap, List.mem_append, List.mem_cons, List.mem_map, List.not_mem_nil, or_false] at hu
  obtain ⟨f, -, (rfl | rfl) | ⟨a, -, rfl⟩⟩ := hu <;> rfl
def zeroS : St := ⟨0, 0, [], List.replicate 16 0, 0, [], []⟩
def zeroV : List Value := stCells zeroS (.slice none 0 0) (.slice none 0 0) (.slice none 0 0)
theorem zeroV_length : zeroV.length = 22 := rfl
theorem zeroV_one : zeroV.toArray.all (·.oneCell') = true := stC_one' rfl rfl rfl
set_option maxRecDepth 100000 in
theorem zero_st (W : World) : (zeroValue 50).run Tryd.prog W = .ok (.agg zeroV.toArray) W := by kernel_rfl
theorem info_st {C : List Value} (h : C.length = 22) : (Tryd.prog.info? 50).map (·.size) = some C.length := by rw [h]; kernel_rfl
set_option maxHeartbeats 4000000 in
set_option maxRecDepth 100000 in
theorem own_any {B : Nat} (s : St) (FS ES AS : Value) (w : World) (hr : StRows w B s FS ES AS) (hm : s.mem.length = 16) (hd : s.frames.length ≤ 8) (he : s.events.length ≤ 1000000) (ha : s.answers.length ≤ 1000000) :
    Calls Tryd.prog 46 #[.agg (stCells s FS ES AS).toArray] w fun e w' => (∃ v, e = .returned v ∧ StVal w' w.heap.size v s) ∧ Below w.heap.size w w' := by
  have HR := Lib.hid hr
  have HM := Lib.hid hm
  have hz := zero_st
  have HL := Lib.hid (stCells_length hm FS ES AS)
  have HE := Lib.hid he
  have HA := Lib.hid ha
  have HD := Lib.hid hd
  clear hr hm hd he ha
  have H2 := Lib.hid (stC_2 s FS ES AS)
  have H20 := Lib.hid (stC_20 FS ES AS HM.out)
  have H21 := Lib.hid (stC_21 FS ES AS HM.out)
  have HS := Lib.hid (fun (F E A : Value) => show (((stCells s FS ES AS).set 2 F).set 20 E).set 21 A = stCells s F E A by rw [stS_2, stS_20 F ES AS HM.out, stS_21 F E AS HM.out])
  have H1 := Lib.hid (stC_one' (s := s) (slice_one HR.out.fr) (slice_one HR.out.ev) (num_one HR.out.an))
  have HB := Lib.hid (fun (F E A : Value) => info_st (stCells_length HM.out F E A))
  generalize stCells s FS ES AS = C at *
  have q2 := H2.out
  go_enter Tryd.func46, Tryd.ntmps46
  go_wp2_with fail
  have hb1 := Lib.hid (((Below.refl w.heap.size w).alloc (Nat.le_refl _) (.cells C.toArray 50)).alloc (by simp) (.cells zeroV.toArray 50))
  refine (clone_fr _ (own_below HR.out.fr hb1.out) frCells_cell HD.out).mono ?_
  rintro e w2 ⟨⟨F, rfl, hF⟩, hb2⟩
  have HB2 := Lib.hid ((hb2.block w.heap.size (by simp; omega)).trans (block_alloc (heap_alloc_new w (.cells C.toArray 50)) (.cells zeroV.toArray 50)))
  have HZ2 := Lib.hid ((hb2.block (w.heap.size + 1) (by simp)).trans (heap_alloc_new1 w (.cells C.toArray 50) (.cells zeroV.toArray 50)))
  have HW2 := Lib.hid (hb1.out.trans (hb2.mono (by simp; omega)))
  have HF := Lib.hid (own_base0 hF (by simp : w.heap.size + 2 ≤ _))
  obtain ⟨FA, Fc, hFv, -⟩ := own_slice hF
  subst hFv
  have c2 := cell_block HB2.out 20
  have f2 := frozen_block HB2.out 2
  have d2 := cell_block HB2.out 2
  rw [List.getElem?_toArray, H2.out] at d2
  rw [List.getElem?_toArray, H20.out] at c2
  have z2 := block_lt HZ2.out
  clear hb2 hF q2 hb1
  go_wp2_with fail
  obtain ⟨w3, hw3⟩ : ∃ w3, w2.setCell ⟨w.heap.size, 2, none⟩ (.slice FA s.frames.length Fc) = w3 := ⟨_, rfl⟩
  rw [hw3]
  have HB3 : Hid (w3.heap[w.heap.size]? = some (.cells (C.set 2 (.slice FA s.frames.length Fc)).toArray 50 (0, 0))) := Lib.hid (by rw [← hw3]; exact block_put HB2.out rfl)
  have HZ3 : Hid (w3.heap[w.heap.size + 1]? = some (.cells zeroV.toArray 50 (0, 0))) := Lib.hid (by rw [← hw3]; exact block_set_ne HZ2.out (by omega) _ _)
  have HW3 : Hid (Below w.heap.size w w3) := Lib.hid (by rw [← hw3]; exact HW2.out.setCell (Nat.le_refl _) _)
  have HF3 : Hid (w3.ownsRow (w.heap.size + 2) 60 14 (.slice FA s.frames.length Fc) s.frames.length (frCells s.frames)) := Lib.hid (by rw [← hw3]; exact ownsRow_setCell_below HF.out (by simp) _)
  clear hw3 HB2 HZ2 HW2 HF c2 f2 d2 z2
  have z3 := block_lt HZ3.out
  refine (clone_num w3 ((num_own HR.out.ev).below HW3.out) HE.out).mono ?_
  rintro e w4 ⟨⟨E, rfl, hE⟩, hb4⟩
  have HE4 := Lib.hid (own_base0 hE (by omega : w.heap.size + 2 ≤ _))
  obtain ⟨EA, Ec, hEv, -⟩ := own_slice hE
  subst hEv
  have HEB := Lib.hid hE.lt
  have HB4 := Lib.hid ((hb4.block w.heap.size (by omega)).trans HB3.out)
  have HZ4 := Lib.hid ((hb4.block (w.heap.size + 1) (by omega)).trans HZ3.out)
  have HW4 := Lib.hid (HW3.out.trans (hb4.mono (by omega)))
  have HF4 := Lib.hid (own_below HF3.out hb4)
  have c21 := cell_block HB4.out 21
  have f20 := frozen_block HB4.out 20
  have d20 := cell_block HB4.out 20
  rw [List.getElem?_toArray, List.getElem?_set_ne (by omega), H20.out] at d20
  rw [List.getElem?_toArray, List.getElem?_set_ne (by omega), H21.out] at c21
  have z4 := block_lt HZ4.out
  clear hb4 hE HB3 HZ3 HW3 HF3
  go_wp2_with fail
  obtain ⟨w5, hw5⟩ : ∃ w5, w4.setCell ⟨w.heap.size, 20, none⟩ (.slice EA s.events.length Ec) = w5 := ⟨_, rfl⟩
  rw [hw5]
  have HB5 : Hid (w5.heap[w.heap.size]? = some (.cells ((C.set 2 (.slice FA s.frames.length Fc)).set 20 (.slice EA s.events.length Ec)).toArray 50 (0, 0))) := Lib.hid (by rw [← hw5]; exact block_put HB4.out rfl)
  have HZ5 : Hid (w5.heap[w.heap.size + 1]? = some (.cells zeroV.toArray 50 (0, 0))) := Lib.hid (by rw [← hw5]; exact block_set_ne HZ4.out (by omega) _ _)
  have HW5 : Hid (Below w.heap.size w w5) := Lib.hid (by rw [← hw5]; exact HW4.out.setCell (Nat.le_refl _) _)
  have HF5 : Hid (w5.ownsRow (w.heap.size + 2) 60 14 (.slice FA s.frames.length Fc) s.frames.length (frCells s.frames)) := Lib.hid (by rw [← hw5]; exact ownsRow_setCell_below HF4.out (by simp) _)
  have HE5 : Hid (w5.ownsRow (w.heap.size + 2) 3 1 (.slice EA s.events.length Ec) s.events.length (intsV s.events)) := Lib.hid (by rw [← hw5]; exact ownsRow_setCell_below HE4.out (by simp) _)
  have HEB5 : Hid (∀ k, (Value.slice EA s.events.length Ec).ownBlock = some k → k < w5.heap.size) := Lib.hid (fun k hk => HE5.out.lt k hk |>.2)
  clear hw5 HB4 HZ4 HW4 HF4 HE4 HEB c21 f20 d20 z4 z3
  have z5 := block_lt HZ5.out
  refine (clone_num w5 (HR.out.an.below HW5.out) HA.out).mono ?_
  rintro e w6 ⟨⟨A, rfl, hA⟩, hb6⟩
  have HA6 := Lib.hid (own_base0 hA (by omega : w.heap.size + 2 ≤ _))
  obtain ⟨AA, Ac, hAv, -⟩ := own_slice hA
  subst hAv
  have HNE : Hid (∀ k, (Value.slice EA s.events.length Ec).ownBlock = some k → (Value.slice AA s.answers.length Ac).ownBlock ≠ some k) := Lib.hid (fun k hk hk' => by have h1 := HEB5.out k hk; have h2 := (hA.lt k hk').1; omega)
  have HB6 := Lib.hid ((hb6.block w.heap.size (by omega)).trans HB5.out)
  have HZ6 := Lib.hid ((hb6.block (w.heap.size + 1) (by omega)).trans HZ5.out)
  have HW6 := Lib.hid (HW5.out.trans (hb6.mono (by omega)))
  have HF6 := Lib.hid (own_below HF5.out hb6)
  have HE6 := Lib.hid (own_below HE5.out hb6)
  have f21 := frozen_block HB6.out 21
  have d21 := cell_block HB6.out 21
  rw [List.getElem?_toArray, List.getElem?_set_ne (by omega), List.getElem?_set_ne (by omega), H21.out] at d21
  have z6 := block_lt HZ6.out
  clear hb6 hA HB5 HZ5 HW5 HF5 HE5 HEB5 z5
  have H7 := Lib.hid (fun (w7 : World) (h : w6.setCell ⟨w.heap.size, 21, none⟩ (.slice AA s.answers.length Ac) = w7) => (⟨by rw [← h, ← HS.out]; exact block_put HB6.out rfl, by rw [← h]; exact block_set_ne HZ6.out (by omega) _ _, by rw [← h]; exact HW6.out.setCell (Nat.le_refl _) _, by rw [← h]; exact ownsRow_setCell_below HF6.out (by simp) _, by rw [← h]; exact ownsRow_setCell_below HE6.out (by simp) _, by rw [← h]; exact ownsRow_setCell_below HA6.out (by simp) _⟩ :
    w7.heap[w.heap.size]? = some (.cells (stCells s (.slice FA s.frames.length Fc) (.slice EA s.events.length Ec) (.slice AA s.answers.length Ac)).toArray 50 (0, 0)) ∧ w7.heap[w.heap.size + 1]? = some (.cells zeroV.toArray 50 (0, 0)) ∧ Below w.heap.size w w7 ∧
    w7.ownsRow (w.heap.size + 2) 60 14 (.slice FA s.frames.length Fc) s.frames.length (frCells s.frames) ∧ w7.ownsRow (w.heap.size + 2) 3 1 (.slice EA s.events.length Ec) s.events.length (intsV s.events) ∧ w7.ownsRow (w.heap.size + 2) 3 1 (.slice AA s.answers.length Ac) s.answers.length (intsV s.answers)))
  have HDL := Lib.hid (stCells_length HM.out (.slice FA s.frames.length Fc) (.slice EA s.events.length Ec) (.slice AA s.answers.length Ac))
  have HDI := Lib.hid (HB.out (.slice FA s.frames.length Fc) (.slice EA s.events.length Ec) (.slice AA s.answers.length Ac))
  have HD1 := Lib.hid (stC_one' (s := s) (FS := .slice FA s.frames.length Fc) (ES := .slice EA s.events.length Ec) (AS := .slice AA s.answers.length Ac) rfl rfl rfl)
  clear HB6 HZ6 HW6 HF6 HE6 HA6 HR HB HL H1 H2 H20 H21 HS HD HE HA HM
  have HDE := Lib.hid (Eq.refl (stCells s (.slice FA s.frames.length Fc) (.slice EA s.events.length Ec) (.slice AA s.answers.length Ac)))
  generalize hD : stCells s (.slice FA s.frames.length Fc) (.slice EA s.events.length Ec) (.slice AA s.answers.length Ac) = D at *
  clear HDE
  have HDE := Lib.hid hD
  clear hD
  have HDZ := Lib.hid (show D.length ≤ zeroV.toArray.size by rw [HDL.out]; exact Nat.le_refl _)
  go_wp2_with (first
    | (obtain ⟨w7, hw7⟩ : ∃ w7, w6.setCell ⟨w.heap.size, 21, none⟩ (.slice AA s.answers.length Ac) = w7 := ⟨_, rfl⟩; rw [hw7]; have HW7 := Lib.hid (H7.out w7 hw7); have HTH := Lib.hid (there_block (n := D.length) HW7.out.2.1 HDZ.out); clear hw7 f21 d21; refine wpList_load_mid (by rfl) 50 _ (by rfl) w.heap.size 0 (by rfl) D _ (range_block HW7.out.1) Tryd.underlying50 (by rfl) HDI.out ?_)
    | (refine wpList_store_mid (by rfl) 50 _ _ (by rfl) (w.heap.size + 1) 0 D.toArray (by rfl) (by rfl) HTH.out (by simpa using HDI.out) HD1.out ?_))
  have hrd := run_loadVar_mid (P := Tryd.prog) _ _ _ 50 D _ (World.rangeAt_setCells_same w7 (w.heap.size + 1) 0 D HTH.out) Tryd.underlying50 (by rfl) HDI.out
  refine bodyPost_ret (v := .agg D.toArray) (results_cell1 Tryd.results46 _ _ _ _ _ ?_ hrd) rfl ⟨⟨_, rfl, .slice FA s.frames.length Fc, .slice EA s.events.length Ec, .slice AA s.answers.length Ac, by rw [HDE.out], ?_⟩, ?_⟩
  · rfl
  · refine StRows.base (B := w.heap.size + 2) ⟨?_, ?_, ?_, fun _ => HNE.out⟩ (by omega)
    · exact ownsRow_setCells_below HW7.out.2.2.2.1 (by omega) _ _
    · exact ownsRow_setCells_below HW7.out.2.2.2.2.1 (by omega) _ _
    · exact num_own (ownsRow_setCells_below HW7.out.2.2.2.2.2 (by omega) _ _)
  · exact below_setCells (by simp) _ _ _ HW7.out.2.2.1
end Go.Proofs.YtnbopmlemddakaaDoor
