/-
  A row of numbers is the same as itself, and so is a machine.
-/
import Derived.Test.YtjjpgkjjiooieaaDoorBlk
import Derived.DeepKeys
namespace Go.Proofs.YtjjpgkjjiooieaaDoor
open Go.RowKit Tier
theorem eq_items {P : Program} {w : World} (dd : Nat) {e : TypeId} (q : IntKind) (he : P.underlying e = some (.int q)) (xs : Array Value) : ∀ (is : List Nat), (∀ i ∈ is, ∃ n, xs[i]? = some (.int q n)) → (Op.eqItems (dd + 1) e 1 xs xs is).run P w = .ok true w
  | [], _ => by simp [Op.eqItems]
  | i :: is, h => by
    obtain ⟨n, hn⟩ := h i (by simp)
    have hp : P.plainKey e = true := by simp [Program.plainKey, he]
    have ih := eq_items (w := w) dd q he xs is (fun j hj => h j (by simp [hj]))
    simp only [Op.eqItems, Sem.run_bind, Nat.mul_one, run_part_plain w hp hn, Result.andThen_ok, run_equalIn_int (P := P) w dd e q q n n he, beq_self_eq_true, Bool.not_true, Bool.false_eq_true, if_false]
    exact ih
theorem eq_ints {P : Program} {w : World} (dd : Nat) {t e : TypeId} {n : Nat} {i : TypeInfo} (q : IntKind) (hu : P.underlying t = some (.array n e)) (he : P.underlying e = some (.int q)) (hi : P.info? e = some i) (hc : P.cellsOf e = 1) (xs : Array Value)
    (h : ∀ j, j < n → ∃ k, xs[j]? = some (.int q k)) : (Op.equalIn (dd + 1 + 1) t (.agg xs) (.agg xs)).run P w = .ok true w := by
  rw [run_equalIn_array w (dd + 1) xs xs hu hi, hc]
  exact eq_items dd q he xs _ (fun j hj => h j (by simpa using hj))
theorem eq_data (E : List Int) (h : E.length = 64) (w : World) : (Op.equalIn 10000 29 (.agg (E.map (Value.int .i64)).toArray) (.agg (E.map (Value.int .i64)).toArray)).run Tryd.prog w = .ok true w :=
  eq_ints 9998 .i64 Tryd.underlying29 Tryd.underlying3 rfl (by kernel_rfl) _ (fun j hj => ⟨E[j]'(by omega), by simp [h, hj]⟩)
end Go.Proofs.YtjjpgkjjiooieaaDoor
