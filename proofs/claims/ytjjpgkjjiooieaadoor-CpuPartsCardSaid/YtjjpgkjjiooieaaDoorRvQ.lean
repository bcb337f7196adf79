/-
  From the row's condition on the two tables to what the walks ask of memory; the door's own heap meets the condition.
-/
import Derived.Test.YtjjpgkjjiooieaaDoorRvP
import Derived.Test.YtjjpgkjjiooieaaDoorRows
import Derived.ProofKit
import Derived.LaidMore
import Derived.OpenShut
import Derived.Stop.Joined
namespace Tier
open Go Go.RowKit
section
variable {H : Type} {enc : TypeId × Value → H} {P : Program} {w : World} {base : Nat} {spare : Nat → Bool} {held : Bool} {fuel : Nat} {t e i0 : TypeId} {cs : List Value} {p : List MemPlace}
theorem sub_cell {cs : List Value} {a n k : Nat} {x : Value} (hk : k < n) (h : ((cs.drop a).take n)[k]? = some x) : cs[a + k]? = some x := by
  rw [List.getElem?_take_of_lt hk, List.getElem?_drop] at h; exact h
/-- An array of structs of whole numbers: each cell. -/
theorem tab_ints {n m : Nat} {fs : Array Field} {rows : List (List Int)} (ht : P.underlying t = some (.array n e)) (he : P.underlying e = some (.struct fs)) (hi : P.underlying i0 = some (.int .i64)) (hce : P.cellsOf e = m) (hci : P.cellsOf i0 = 1)
    (hf : ∀ j, j < m → ∃ f, fs[j]? = some f ∧ f.type = i0 ∧ f.offset = j)
    (h : DataW.trod enc P w base spare held fuel t cs = some (.agg (rows.map fun r => .agg (r.map fun z => .lit (.int .i64 z))), p)) :
    ∀ i j, i < n → j < m → cs[i * m + j]? = some (.int .i64 ((rows.getD i []).getD j 0)) := by
  intro i j hin hjm
  obtain ⟨xs, k, -, hx, -, hn, hel⟩ := DataW.trod_array ht h
  have hel := hel i hin
  rw [hce] at hel
  have hxi : ∃ y, xs[i]? = some y := ⟨xs[i]'(by omega), List.getElem?_eq_getElem (by omega)⟩
  obtain ⟨y, hy⟩ := hxi
  rw [hy] at hel
  have hy1 : y.1 = .agg ((rows.getD i []).map fun z => .lit (.int .i64 z)) := by
    have h1 := congrArg Prod.fst hx
    simp only [DataW.agg.injEq] at h1
    have h2 := congrArg (·[i]?) h1
    simp only [List.getElem?_map, hy, Option.map_some] at h2
    rw [List.getD_eq_getElem?_getD]
    cases hr : rows[i]? with
    | none => rw [hr] at h2; simp at h2
    | some r => rw [hr] at h2; simpa using h2.symm
  obtain ⟨ys, k', -, hz, -, hl, hg⟩ := DataW.trod_struct he hel
  obtain ⟨f, hfj, hft, hfo⟩ := hf j hjm
  have hg := hg j f hfj
  rw [hft, hfo, hci] at hg
  have hjl : j < ys.length := by rw [hl]; exact (Array.getElem?_eq_some_iff.1 hfj).1
  rw [List.getElem?_eq_getElem hjl] at hg
  obtain ⟨z, hc, hv, -⟩ := DataW.trod_int hi hg
  have hz1 : ys[j].1 = .lit (.int .i64 ((rows.getD i []).getD j 0)) := by
    have h1 := congrArg Prod.fst hz
    rw [hy1] at h1
    simp only [DataW.agg.injEq] at h1
    have h2 := congrArg (·[j]?) h1
    simp only [List.getElem?_map, List.getElem?_eq_getElem hjl, Option.map_some] at h2
    rw [List.getD_eq_getElem?_getD (i := j)]
    cases hr : (rows.getD i [])[j]? with
    | none => rw [hr] at h2; simp at h2
    | some r => rw [hr] at h2; simpa using h2.symm
  rw [hv] at hz1
  simp only [DataW.lit.injEq, Lit.int.injEq, true_and] at hz1
  have h0 : ((((cs.drop (i * m)).take m).drop j).take 1)[0]? = some (Value.int .i64 z) := by rw [hc]; rfl
  have h1 := sub_cell (by omega) h0
  have h2 := sub_cell (k := j) hjm (by simpa using h1)
  rw [h2, hz1]
/-- An array of arrays of truths: each cell. -/
theorem tab_bools {n m : Nat} {rows : List (List Bool)} (ht : P.underlying t = some (.array n e)) (he : P.underlying e = some (.array m i0)) (hi : P.underlying i0 = some .bool) (hce : P.cellsOf e = m) (hci : P.cellsOf i0 = 1)
    (h : DataW.trod enc P w base spare held fuel t cs = some (.agg (rows.map fun r => .agg (r.map fun z => .lit (.bool z))), p)) :
    ∀ i j, i < n → j < m → cs[i * m + j]? = some (.bool ((rows.getD i []).getD j false)) := by
  intro i j hin hjm
  obtain ⟨xs, k, -, hx, -, hn, hel⟩ := DataW.trod_array ht h
  have hel := hel i hin
  rw [hce] at hel
  have hxi : ∃ y, xs[i]? = some y := ⟨xs[i]'(by omega), List.getElem?_eq_getElem (by omega)⟩
  obtain ⟨y, hy⟩ := hxi
  rw [hy] at hel
  have hy1 : y.1 = .agg ((rows.getD i []).map fun z => .lit (.bool z)) := by
    have h1 := congrArg Prod.fst hx
    simp only [DataW.agg.injEq] at h1
    have h2 := congrArg (·[i]?) h1
    simp only [List.getElem?_map, hy, Option.map_some] at h2
    rw [List.getD_eq_getElem?_getD]
    cases hr : rows[i]? with
    | none => rw [hr] at h2; simp at h2
    | some r => rw [hr] at h2; simpa using h2.symm
  obtain ⟨ys, k', -, hz, -, hl, hg⟩ := DataW.trod_array he hel
  have hg := hg j hjm
  rw [hci, Nat.mul_one] at hg
  have hjl : j < ys.length := by omega
  rw [List.getElem?_eq_getElem hjl] at hg
  obtain ⟨z, hc, hv⟩ := DataW.trod_bool hi hg
  have hz1 : ys[j].1 = .lit (.bool ((rows.getD i []).getD j false)) := by
    have h1 := congrArg Prod.fst hz
    rw [hy1] at h1
    simp only [DataW.agg.injEq] at h1
    have h2 := congrArg (·[j]?) h1
    simp only [List.getElem?_map, List.getElem?_eq_getElem hjl, Option.map_some] at h2
    rw [List.getD_eq_getElem?_getD (i := j)]
    cases hr : (rows.getD i [])[j]? with
    | none => rw [hr] at h2; simp at h2
    | some r => rw [hr] at h2; simpa using h2.symm
  rw [hv] at hz1
  simp only [DataW.lit.injEq, Lit.bool.injEq] at hz1
  have h0 : ((((cs.drop (i * m)).take m).drop j).take 1)[0]? = some (Value.bool z) := by rw [hc]; rfl
  have h1 := sub_cell (by omega) h0
  have h2 := sub_cell (k := j) hjm (by simpa using h1)
  rw [h2, hz1]
end
def formRows : List (List Int) := [[0, 0, 0, 0], [0, 51, 0, 0], [0, 51, 0, 32], [0, 51, 0, 1], [0, 51, 4, 1], [0, 51, 7, 0], [0, 51, 6, 0], [0, 51, 4, 0], [0, 51, 1, 0], [0, 51, 5, 32], [0, 51, 2, 0], [0, 51, 3, 0], [1, 19, 0, 0], [1, 19, 7, 0], [1, 19, 6, 0], [1, 19, 4, 0], [1, 19, 2, 0], [1, 19, 3, 0], [2, 19, 1, 0], [2, 19, 5, 16], [1, 3, 3, 0], [3, 35, 3, 0], [4, 99, 0, 0], [4, 99, 1, 0], [4, 99, 4, 0], [4, 99, 5, 0], [5, 111, 0, 0], [1, 103, 0, 0], [6, 55, 0, 0], [7, 115, 0, 0]]
def fieldRows : List (List Bool) := [[true, true, true], [true, true, false], [true, true, false], [false, true, true], [false, true, true], [true, false, false], [true, false, false], [false, false, false]]
theorem form_at : ∀ i : Fin 120, formTab.getD i 0 = (formRows.getD (i / 4) []).getD (i % 4) 0 := by decide +kernel
theorem field_at : ∀ i : Fin 24, fieldTab.getD i false = (fieldRows.getD (i / 3) []).getD (i % 3) false := by decide +kernel
end Tier
namespace Go.Proofs.YtjjpgkjjiooieaaDoor
open Go.ChangeShapes Go.WideShapes Go.ChangeAt Go.RowKit Tier
theorem own : ownKnob Tryd.prog.godebug = none := by kernel_rfl
theorem gForms : Tryd.prog.globalNamed "tierline/rv.forms" = some 0 := by kernel_rfl
theorem gFields : Tryd.prog.globalNamed "tierline/rv.fields" = some 1 := by kernel_rfl
theorem tForms : (Tryd.prog.globals[0]?).map (·.type) = some 60 := by kernel_rfl
theorem tFields : (Tryd.prog.globals[1]?).map (·.type) = some 68 := by kernel_rfl
theorem cForm : Tryd.prog.cellsOf 59 = 4 := by kernel_rfl
theorem cInt : Tryd.prog.cellsOf 3 = 1 := by kernel_rfl
theorem cBool : Tryd.prog.cellsOf 4 = 1 := by kernel_rfl
theorem cThree : Tryd.prog.cellsOf 67 = 3 := by kernel_rfl
abbrev laid2 : List (String × DataW Unit) := [("tierline/rv.forms", Rows.laid_tierline_rv_forms), ("tierline/rv.fields", Rows.laid_tierline_rv_fields)]
theorem door_met (os : Os) (args : Array Value) : laidMetH Tryd.prog laid2 ((World.doorLaid Tryd.prog 400 os).forCall (fun _ _ => 0) ⟨#[], args, []⟩).memory :=
  laidMetH_of_parts3 (fuel := 8) (laidMet_of_run' 8 (by kernel_rfl) (by kernel_rfl)) (by kernel_rfl) (by kernel_rfl)
theorem of_laid {W : World} (h : laidMetH Tryd.prog laid2 W) : Tab W := by
  rw [MakeChecks.laidMetH_plain _ _ _ (by kernel_rfl)] at h
  obtain ⟨ps, ⟨g0, t0, cs0, f0, p0, q0, hg0, ht0, hv0, hd0, ⟨g1, t1, cs1, f1, p1, q1, hg1, ht1, hv1, hd1, _, _⟩, _⟩, _, _⟩ := h
  obtain rfl := Option.some.inj (gForms.symm.trans hg0)
  obtain rfl := Option.some.inj (gFields.symm.trans hg1)
  obtain rfl := Option.some.inj (tForms.symm.trans ht0)
  obtain rfl := Option.some.inj (tFields.symm.trans ht1)
  have e0 : (Rows.laid_tierline_rv_forms : DataW Unit) = .agg (formRows.map fun r => .agg (r.map fun z => .lit (.int .i64 z))) := rfl
  have e1 : (Rows.laid_tierline_rv_fields : DataW Unit) = .agg (fieldRows.map fun r => .agg (r.map fun z => .lit (.bool z))) := rfl
  rw [e0] at hd0
  rw [e1] at hd1
  have a0 := tab_ints (m := 4) Tryd.underlying60 Tryd.underlying59 Tryd.underlying3 cForm cInt (fun j hj => by
    have hc : j = 0 ∨ j = 1 ∨ j = 2 ∨ j = 3 := by omega
    rcases hc with rfl | rfl | rfl | rfl <;> exact ⟨_, rfl, rfl, rfl⟩) hd0
  have a1 := tab_bools (m := 3) Tryd.underlying68 Tryd.underlying67 Tryd.underlying4 cThree cBool hd1
  have c0 : ∀ i, i < 120 → W.cell? ⟨0, i, none⟩ = some (.int .i64 (formTab.getD i 0)) := fun i hi => by
    rw [World.var?_cell hg0 hv0 i, show formTab.getD i 0 = _ from form_at ⟨i, hi⟩, ← a0 (i / 4) (i % 4) (by omega) (by omega), ← Array.getElem?_toList]
    congr 1; omega
  have c1 : ∀ i, i < 24 → W.cell? ⟨1, i, none⟩ = some (.bool (fieldTab.getD i false)) := fun i hi => by
    rw [World.var?_cell hg1 hv1 i, show fieldTab.getD i false = _ from field_at ⟨i, hi⟩, ← a1 (i / 3) (i % 3) (by omega) (by omega), ← Array.getElem?_toList]
    congr 1; omega
  refine ⟨c0, c1, ?_⟩
  have h0 := c1 0 (by omega)
  rcases Nat.lt_or_ge 1 W.heap.size with h | h
  · exact h
  · exfalso
    unfold World.cell? at h0
    rw [show W.heap[1]? = none from Array.getElem?_eq_none h] at h0
    cases h0
end Go.Proofs.YtjjpgkjjiooieaaDoor
