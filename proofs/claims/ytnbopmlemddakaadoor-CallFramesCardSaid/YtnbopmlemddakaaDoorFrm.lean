/-
  The last step of a row whose law returns true and leaves old memory alone; a struct of five whole numbers, opened. No program is in sight.
-/
import Derived.ProofKit
import Derived.LaidMore
import Derived.OpenShut
import Derived.Stop.Joined
import Derived.Below
import Derived.Carry
import Derived.ChangeSame
import Derived.WalkKit
import Derived.Test.YtnbopmlemddakaaDoorLib
namespace Tier
open Go Go.RowKit Go.WideShapes Go.ChangeShapes
section
variable {H : Type} {enc : TypeId × Value → H} {P : Program}
/-- Cells that are read one by one as whole numbers. -/
theorem field_int {w : World} {base : Nat} {sp : Nat → Bool} {held : Bool} {n m : Nat} {i0 : TypeId} {cs : List Value} {y : DataW H × List MemPlace} (hi : P.underlying i0 = some (.int .i64)) (_ : m < cs.length)
    (h : DataW.trod enc P w base sp held n i0 ((cs.drop m).take 1) = some y) : ∃ a, cs[m]? = some (.int .i64 a) ∧ In a := by
  obtain ⟨a, hc, -, hw⟩ := DataW.trod_int hi h
  refine ⟨a, ?_, in_of_wf hw⟩
  have := congrArg (·[0]?) hc
  simpa [List.getElem?_take, List.getElem?_drop] using this
/-- A struct of five whole numbers by value. -/
theorem open_five {W : World} {r : Reach} {b0 base : Nat} {sp : Nat → Bool} {held : Bool} {t i0 : TypeId} {fs : Array Field} {v : Value} {d : DataW H} {p : List MemPlace}
    (hs : P.underlying t = some (.struct fs)) (hi : P.underlying i0 = some (.int .i64)) (hc : P.cellsOf t = 5) (hci : P.cellsOf i0 = 1) (hf : ∀ j, j < 5 → ∃ f, fs[j]? = some f ∧ f.type = i0 ∧ f.offset = j)
    (hv : Value.okWide P W r b0 t v) (h : DataW.Trod enc P W base sp held t v d p) :
    ∃ a0 a1 a2 a3 a4 : Int, v = .agg #[.int .i64 a0, .int .i64 a1, .int .i64 a2, .int .i64 a3, .int .i64 a4] ∧ In a0 ∧ In a1 ∧ In a2 ∧ In a3 ∧ In a4 := by
  obtain ⟨cs, rfl, hsz⟩ := okWide_struct hs hv
  obtain ⟨l⟩ := cs
  obtain ⟨fuel, hfu⟩ := h
  obtain ⟨xs, n, -, -, -, hlen, hg⟩ := DataW.trod_struct hs hfu
  have hl : l.length = 5 := by simpa using hsz.trans hc
  have key : ∀ j, j < 5 → ∃ a, l[j]? = some (.int .i64 a) ∧ In a := by
    intro j hj
    obtain ⟨f, hfj, hft, hfo⟩ := hf j hj
    have h1 := hg j f hfj
    rw [hft, hfo, hci] at h1
    have hx : j < xs.length := by rw [hlen]; exact (Array.getElem?_eq_some_iff.1 hfj).1
    rw [List.getElem?_eq_getElem hx] at h1
    exact field_int hi (by omega) h1
  obtain ⟨a0, e0, i0'⟩ := key 0 (by omega)
  obtain ⟨a1, e1, i1⟩ := key 1 (by omega)
  obtain ⟨a2, e2, i2⟩ := key 2 (by omega)
  obtain ⟨a3, e3, i3⟩ := key 3 (by omega)
  obtain ⟨a4, e4, i4⟩ := key 4 (by omega)
  refine ⟨a0, a1, a2, a3, a4, ?_, i0', i1, i2, i3, i4⟩
  match l, hl, e0, e1, e2, e3, e4 with
  | [c0, c1, c2, c3, c4], _, e0, e1, e2, e3, e4 =>
    simp at e0 e1 e2 e3 e4
    subst e0 e1 e2 e3 e4; rfl
end
end Tier
