/-
  Arguments, opened: an input of a run in raw numbers; a slice of whole numbers.
-/
import Derived.Test.YtnbopmlemddakaaDoorOp0
import Derived.Test.YtnbopmlemddakaaDoorOpn
import Derived.Test.YtnbopmlemddakaaDoorStN
namespace Go.Proofs.YtnbopmlemddakaaDoor
open Go Go.ChangeShapes Go.WideShapes Go.ChangeAt Go.RowKit Tier
theorem cArr2 : Tryd.prog.cellsOf 44 = 2 := by kernel_rfl
theorem cInts : Tryd.prog.cellsOf 28 = 1 := by kernel_rfl
set_option maxRecDepth 100000 in
theorem cInput : Tryd.prog.cellsOf 46 = 4 := by kernel_rfl
set_option maxRecDepth 100000 in
/-- An argument of whole numbers. -/
theorem open_n {H : Type} {enc : TypeId × Value → H} {w : World} {base : Nat} {spare : Nat → Bool} {held : Bool} {r : Reach} {b0 : Nat} {v : Value} {d : DataW H} {p : List MemPlace}
    (hv : Value.okWide Tryd.prog w r b0 28 v) (h : DataW.Trod enc Tryd.prog w base spare held 28 v d p) :
    ∃ A cap l, v = .slice A (List.length l) cap ∧ IntRow w A l ∧ (l.length : Int) ≤ 9223372036854775807 :=
  open_intsW Tryd.underlying28 Tryd.underlying3 cInt hv h
theorem open_cap {H : Type} {enc : TypeId × Value → H} {P : Program} {w : World} {base : Nat} {spare : Nat → Bool} {held : Bool} {fuel : Nat} {t e : TypeId} {A : Option Addr} {n cap : Nat} {x : DataW H × List MemPlace} (ht : P.underlying t = some (.slice e)) (h : DataW.trod enc P w base spare held fuel t [.slice A n cap] = some x) : n ≤ cap := by
  rcases Go.Deep.open_slice ht h with ⟨h0, -⟩ | ⟨a, len, cap', m, n', D, Pl, hcs, hb, hl, -⟩
  · simp at h0; omega
  · simp at hcs; omega
/-- What an input is. -/
structure InOk (w : World) (a0 a1 : Int) (YA : Option Addr) (ans : List Int) (ycap : Nat) (fuel : Int) : Prop where
  a0 : In a0
  a1 : In a1
  fuel : In fuel
  row : IntsAt w YA ans
  len : (ans.length : Int) ≤ 9223372036854775807
  cap : ans.length ≤ ycap
theorem ints_of_row {w : World} {A : Option Addr} {l : List Int} (h : IntRow w A l) : IntsAt w A l := fun hl => by
  obtain ⟨b, o, h1, h2, h3⟩ := h hl
  exact ⟨b, o, h1, h2, fun i x hx => (h3 i x hx).2⟩
set_option maxRecDepth 100000 in
/-- An argument that is an input. -/
theorem open_in {H : Type} {enc : TypeId × Value → H} {w : World} {base : Nat} {spare : Nat → Bool} {held : Bool} {r : Reach} {b0 : Nat} {v : Value} {d : DataW H} {p : List MemPlace}
    (hv : Value.okWide Tryd.prog w r b0 46 v) (h : DataW.Trod enc Tryd.prog w base spare held 46 v d p) :
    ∃ (a0 a1 : Int) (A : Option Addr) (cap : Nat) (l : List Int) (fuel : Int), v = .agg #[.int .i64 a0, .int .i64 a1, .slice A (List.length l) cap, .int .i64 fuel] ∧ InOk w a0 a1 A l cap fuel := by
  obtain ⟨cs, rfl, hsz⟩ := okWide_struct Tryd.underlying46 hv
  obtain ⟨l⟩ := cs
  obtain ⟨fuel, hfu⟩ := h
  obtain ⟨xs, n, -, -, -, hlen, hg⟩ := DataW.trod_struct Tryd.underlying46 hfu
  have hl : l.length = 4 := by simpa using hsz.trans cInput
  match l, hl with
  | [c0, c1, c2, c3], _ =>
    have g0 := hg 0 _ rfl
    have g1 := hg 1 _ rfl
    have g2 := hg 2 _ rfl
    have hx : xs.length = 3 := hlen
    rw [List.getElem?_eq_getElem (by omega)] at g0 g1 g2
    obtain ⟨ys, k, -, hy, -, hn, hel⟩ := DataW.trod_array Tryd.underlying44 g0
    have h0 := hel 0 (by omega)
    have h1 := hel 1 (by omega)
    rw [List.getElem?_eq_getElem (by omega)] at h0 h1
    obtain ⟨a0, q0, -, w0⟩ := DataW.trod_int Tryd.underlying3 h0
    obtain ⟨a1, q1, -, w1⟩ := DataW.trod_int Tryd.underlying3 h1
    obtain ⟨A, cap, l, q2, hr, hll⟩ := open_ints0 (v := c2) Tryd.underlying28 Tryd.underlying3 cInt g1
    obtain ⟨a3, q3, -, w3⟩ := DataW.trod_int Tryd.underlying3 g2
    have hcap : l.length ≤ cap := open_cap Tryd.underlying28 (by rw [← q2]; exact g1)
    refine ⟨a0, a1, A, cap, l, a3, ?_, in_of_wf w0, in_of_wf w1, in_of_wf w3, ints_of_row hr, hll, hcap⟩
    simp [cArr2, cInt, Value.cells] at q0 q1 q3
    rw [q2, q0, q1, q3]
end Go.Proofs.YtnbopmlemddakaaDoor
