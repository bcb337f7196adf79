/-
  Arguments, opened: a slice of raw words. What is encoded of them lies in a row of the call's own.
-/
import Derived.Test.YtjjpgkjjiooieaaDoorOp0
import Derived.Test.YtjjpgkjjiooieaaDoorRvQ
import Derived.Test.YtjjpgkjjiooieaaDoorCp5
import Derived.Test.YtjjpgkjjiooieaaDoorCp6
namespace Go.Proofs.YtjjpgkjjiooieaaDoor
open Go Go.ChangeShapes Go.WideShapes Go.ChangeAt Go.RowKit Tier
/-- Raw words lie in memory from A on. -/
def FiveRow (w : World) (A : Option Addr) (l : List Rv5) : Prop :=
  0 < l.length → ∃ b o, A = some ⟨b, o, none⟩ ∧ b < w.heap.size ∧ ∀ (i : Nat) (y : Rv5), l[i]? = some y → (In y.op ∧ In y.rd ∧ In y.rs1 ∧ In y.rs2 ∧ In y.imm) ∧
    w.cell? ⟨b, o + i * 5, none⟩ = some (.int .i64 y.op) ∧ w.cell? ⟨b, o + i * 5 + 1, none⟩ = some (.int .i64 y.rd) ∧ w.cell? ⟨b, o + i * 5 + 2, none⟩ = some (.int .i64 y.rs1) ∧ w.cell? ⟨b, o + i * 5 + 3, none⟩ = some (.int .i64 y.rs2) ∧ w.cell? ⟨b, o + i * 5 + 4, none⟩ = some (.int .i64 y.imm)
theorem FiveRow.keeps {w w' : World} {A : Option Addr} {l : List Rv5} (h : FiveRow w A l) (hb : Below w.heap.size w w') : FiveRow w' A l := fun hl => by
  obtain ⟨b, o, h1, h2, h3⟩ := h hl
  refine ⟨b, o, h1, Nat.lt_of_lt_of_le h2 hb.size, fun i x hx => ?_⟩
  obtain ⟨q, c0, c1, c2, c3, c4⟩ := h3 i x hx
  exact ⟨q, (hb.cell (p := ⟨b, _, none⟩) h2).trans c0, (hb.cell (p := ⟨b, _, none⟩) h2).trans c1, (hb.cell (p := ⟨b, _, none⟩) h2).trans c2, (hb.cell (p := ⟨b, _, none⟩) h2).trans c3, (hb.cell (p := ⟨b, _, none⟩) h2).trans c4⟩
section
variable {H : Type} {enc : TypeId × Value → H} {P : Program} {w : World} {base : Nat} {spare : Nat → Bool} {held : Bool} {t e i0 : TypeId} {v : Value} {fs : Array Field}
theorem open_fives {r : Reach} {b0 : Nat} {d : DataW H} {p : List MemPlace} (ht : P.underlying t = some (.slice e)) (he : P.underlying e = some (.struct fs)) (hi : P.underlying i0 = some (.int .i64)) (hce : P.cellsOf e = 5) (hci : P.cellsOf i0 = 1)
    (hf : ∀ j, j < 5 → ∃ f, fs[j]? = some f ∧ f.type = i0 ∧ f.offset = j) (hv : Value.okWide P w r b0 t v) (h : DataW.Trod enc P w base spare held t v d p) :
    ∃ A cap l, v = .slice A (List.length l) cap ∧ FiveRow w A l ∧ (l.length : Int) ≤ 9223372036854775807 := by
  obtain ⟨fuel, h⟩ := h
  have hvc : v.cells.toList = [v] := by
    obtain ⟨a, len, cap, rfl⟩ := okWide_slice ht hv; rfl
  rw [hvc] at h
  rcases Go.Deep.open_slice ht h with ⟨h0, -⟩ | ⟨a, len, cap, m, n, D, Pl, hcs, hb, hl, hm, hmm, hx, hi'⟩
  · exact ⟨none, 0, [], by simpa using h0, fun h => by simp at h, by simp⟩
  · have key : ∀ i, i < len → ∃ y : Rv5, (In y.op ∧ In y.rd ∧ In y.rs1 ∧ In y.rs2 ∧ In y.imm) ∧ w.cell? ((a.add (i * 5)).add 0) = some (.int .i64 y.op) ∧ w.cell? ((a.add (i * 5)).add 1) = some (.int .i64 y.rd) ∧ w.cell? ((a.add (i * 5)).add 2) = some (.int .i64 y.rs1) ∧ w.cell? ((a.add (i * 5)).add 3) = some (.int .i64 y.rs2) ∧ w.cell? ((a.add (i * 5)).add 4) = some (.int .i64 y.imm) := by
      intro i hil
      obtain ⟨cs', hc, ht'⟩ := hi' i (by rw [hmm]; split <;> omega)
      rw [hce] at hc
      obtain ⟨-, hcl, hat⟩ := World.cells?_some hc
      obtain ⟨ys, n', -, -, -, hyl, hg⟩ := DataW.trod_struct he ht'
      have hone : ∀ j, j < 5 → ∃ z, cs'[j]? = some (.int .i64 z) ∧ In z := by
        intro j hj
        obtain ⟨f, hfj, hft, hfo⟩ := hf j hj
        have h1 := hg j f hfj
        rw [hft, hfo, hci] at h1
        have hxl : j < ys.length := by rw [hyl]; exact (Array.getElem?_eq_some_iff.1 hfj).1
        rw [List.getElem?_eq_getElem hxl] at h1
        exact field_int hi (by omega) h1
      obtain ⟨z0, c0, i0'⟩ := hone 0 (by omega)
      obtain ⟨z1, c1, i1⟩ := hone 1 (by omega)
      obtain ⟨z2, c2, i2⟩ := hone 2 (by omega)
      obtain ⟨z3, c3, i3⟩ := hone 3 (by omega)
      obtain ⟨z4, c4, i4⟩ := hone 4 (by omega)
      exact ⟨⟨z0, z1, z2, z3, z4⟩, ⟨i0', i1, i2, i3, i4⟩, (hat 0 (by omega)).trans c0, (hat 1 (by omega)).trans c1, (hat 2 (by omega)).trans c2, (hat 3 (by omega)).trans c3, (hat 4 (by omega)).trans c4⟩
    obtain ⟨l, hll, hq⟩ := list_of0 len key
    refine ⟨some a, cap, l, by rw [hll]; simpa using hcs, fun h0 => ?_, by unfold maxLen at hm; omega⟩
    have hget : ∀ i, i < l.length → ∃ y, l[i]? = some y := fun i hi => ⟨l[i], List.getElem?_eq_getElem hi⟩
    obtain ⟨y0, hy0⟩ := hget 0 h0
    have d0 := (hq 0 y0 hy0).2.1
    rw [Nat.zero_mul, show (a.add 0).add 0 = a from rfl] at d0
    have hs : a.spot = none := World.cell?_spot d0
    refine ⟨a.block, a.off, by cases a; simp_all, block_of_cell0 d0, fun i y hy => ?_⟩
    obtain ⟨q, c0, c1, c2, c3, c4⟩ := hq i y hy
    rw [Go.Deep.add_add, spot_eq0 hs] at c0 c1 c2 c3 c4
    exact ⟨q, c0, c1, c2, c3, c4⟩
end
theorem cWord : Tryd.prog.cellsOf 45 = 5 := by kernel_rfl
/-- An argument of raw words. -/
theorem open_w {H : Type} {enc : TypeId × Value → H} {w : World} {base : Nat} {spare : Nat → Bool} {held : Bool} {r : Reach} {b0 : Nat} {v : Value} {d : DataW H} {p : List MemPlace}
    (hv : Value.okWide Tryd.prog w r b0 41 v) (h : DataW.Trod enc Tryd.prog w base spare held 41 v d p) :
    ∃ A cap l, v = .slice A (List.length l) cap ∧ FiveRow w A l ∧ (l.length : Int) ≤ 9223372036854775807 :=
  open_fives Tryd.underlying41 Tryd.underlying45 Tryd.underlying3 cWord cInt
    (fun j hj => by
      have hc : j = 0 ∨ j = 1 ∨ j = 2 ∨ j = 3 ∨ j = 4 := by omega
      rcases hc with rfl | rfl | rfl | rfl | rfl <;> exact ⟨_, rfl, rfl, rfl⟩) hv h
/-- An argument of whole numbers. -/
theorem open_n {H : Type} {enc : TypeId × Value → H} {w : World} {base : Nat} {spare : Nat → Bool} {held : Bool} {r : Reach} {b0 : Nat} {v : Value} {d : DataW H} {p : List MemPlace}
    (hv : Value.okWide Tryd.prog w r b0 23 v) (h : DataW.Trod enc Tryd.prog w base spare held 23 v d p) :
    ∃ A cap l, v = .slice A (List.length l) cap ∧ IntRow w A l ∧ (l.length : Int) ≤ 9223372036854775807 :=
  open_intsW Tryd.underlying23 Tryd.underlying3 cInt hv h
end Go.Proofs.YtjjpgkjjiooieaaDoor
