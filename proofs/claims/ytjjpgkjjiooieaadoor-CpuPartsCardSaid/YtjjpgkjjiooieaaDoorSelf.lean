/-
  A value of whole numbers and truths is the same as itself: a row, a struct of such. No program is in sight.
-/
import Derived.Test.YtjjpgkjjiooieaaDoorLib
import Derived.DeepKeys
namespace Tier
open Go Go.RowKit
def SelfEq (P : Program) (dd : Nat) (e : TypeId) (xs : Array Value) (off : Nat) : Prop := ∀ w : World, ∃ a, (part e xs off).run P w = .ok a w ∧ (Op.equalIn dd e a a).run P w = .ok true w
section
variable {P : Program}
theorem self_int {d : Nat} {e : TypeId} {q : IntKind} (he : P.underlying e = some (.int q)) {xs : Array Value} {off : Nat} {n : Int} (h : xs[off]? = some (.int q n)) : SelfEq P (d + 1) e xs off := fun w =>
  ⟨_, run_part_plain w (by simp [Program.plainKey, he]) h, by rw [run_equalIn_int (P := P) w d e q q n n he]; simp⟩
theorem self_bool {d : Nat} {e : TypeId} (he : P.underlying e = some .bool) {xs : Array Value} {off : Nat} {b : Bool} (h : xs[off]? = some (.bool b)) : SelfEq P (d + 1) e xs off := fun w =>
  ⟨_, run_part_plain w (by simp [Program.plainKey, he]) h, by simp [Op.equalIn, run_underlying he]⟩
theorem self_items (d : Nat) {e : TypeId} (c : Nat) (xs : Array Value) (w : World) : ∀ (is : List Nat), (∀ i ∈ is, SelfEq P d e xs (i * c)) → (Op.eqItems d e c xs xs is).run P w = .ok true w
  | [], _ => by simp [Op.eqItems]
  | i :: is, h => by
    obtain ⟨a, h1, h2⟩ := h i (by simp) w
    have ih := self_items d c xs w is (fun j hj => h j (by simp [hj]))
    simp only [Op.eqItems, Sem.run_bind, h1, h2, Result.andThen_ok, Bool.not_true, Bool.false_eq_true, if_false]
    exact ih
theorem self_fields (d : Nat) (xs : Array Value) (w : World) : ∀ (fs : List Field), (∀ f ∈ fs, SelfEq P d f.type xs f.offset) → (Op.eqFields d xs xs fs).run P w = .ok true w
  | [], _ => by simp [Op.eqFields]
  | f :: fs, h => by
    obtain ⟨a, h1, h2⟩ := h f (by simp) w
    have ih := self_fields d xs w fs (fun j hj => h j (by simp [hj]))
    by_cases hn : f.name = "_"
    · simp only [Op.eqFields, hn, ne_eq, not_true_eq_false, if_false]
      exact ih
    · simp only [Op.eqFields, hn, ne_eq, not_false_eq_true, if_true, Sem.run_bind, h1, h2, Result.andThen_ok, Bool.not_true, Bool.false_eq_true, if_false]
      exact ih
/-- A row: all of its items. -/
theorem eq_row (d : Nat) {t e : TypeId} {n : Nat} {i : TypeInfo} (hu : P.underlying t = some (.array n e)) (hi : P.info? e = some i) (xs : Array Value) (h : ∀ j, j < n → SelfEq P d e xs (j * P.cellsOf e)) (w : World) :
    (Op.equalIn (d + 1) t (.agg xs) (.agg xs)).run P w = .ok true w := by
  rw [run_equalIn_array w d xs xs hu hi]
  exact self_items d _ xs w _ (fun j hj => h j (by simpa using hj))
theorem self_row {d : Nat} {t e : TypeId} {n : Nat} {i it : TypeInfo} (hu : P.underlying t = some (.array n e)) (hi : P.info? e = some i) (hit : P.info? t = some it) (xs : Array Value) (off : Nat) (h : ∀ j, j < n → SelfEq P d e (xs.extract off (off + P.cellsOf t)) (j * P.cellsOf e)) : SelfEq P (d + 1) t xs off := fun w =>
  ⟨.agg (xs.extract off (off + P.cellsOf t)), by simp [part, isAgg, run_underlying hu, run_sizeOf w hit], eq_row d hu hi _ h w⟩
theorem eq_struct (d : Nat) {t : TypeId} (xs : Array Value) (hu : P.underlying t = some (.struct (P.fieldsOf t))) (hs : P.stoodInHeld t = false) (h : ∀ f ∈ (P.fieldsOf t).toList, SelfEq P d f.type xs f.offset) (w : World) :
    (Op.equalIn (d + 1) t (.agg xs) (.agg xs)).run P w = .ok true w := by
  rw [run_equalIn_struct w d t xs xs hu hs]
  exact self_fields d xs w _ h
end
end Tier
