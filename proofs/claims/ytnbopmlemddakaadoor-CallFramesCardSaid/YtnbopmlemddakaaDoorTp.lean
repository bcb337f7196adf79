/-
  The last frame of a state in a box: where it lies.
-/
import Derived.Test.YtnbopmlemddakaaDoorRc
namespace Go.Proofs.YtnbopmlemddakaaDoor
open Go.RowKit Tier
theorem range_below {w W : World} {b o : Nat} {cs : List Value} (h : w.rangeAt b o cs) (hb : b < w.heap.size) (hB : Below w.heap.size w W) : W.rangeAt b o cs := fun j v hv => (hB.cell (p := ⟨b, _, none⟩) hb).trans (h j v hv)
theorem fr_range {C : List Value} {w : World} {s : St} {FA : Option Addr} {fcap : Nat} {EA : Option Addr} {ecap : Nat} {AA : Option Addr} {acap : Nat} (h : CellsIn C w s FA fcap EA ecap AA acap) {i : Nat} {f : Fr} (hf : s.frames[i]? = some f) (hr : f.regs.length = 12) :
    ∃ g, FA = some ⟨g, 0, none⟩ ∧ g < w.heap.size ∧ w.rangeAt g (i * 14) (frCell f) := by
  obtain ⟨g, h1, h2, h3⟩ := h.fr (by have := (List.getElem?_eq_some_iff.1 hf).1; omega)
  refine ⟨g, h1, h2, fun j v hj => ?_⟩
  have hl : j < 14 := by
    have := (List.getElem?_eq_some_iff.1 hj).1
    rwa [frCell_length hr] at this
  rw [h3 i f j hf hl]
  exact hj
theorem top_range {C : List Value} {w : World} {s : St} {FA : Option Addr} {fcap : Nat} {EA : Option Addr} {ecap : Nat} {AA : Option Addr} {acap : Nat} (h : CellsIn C w s FA fcap EA ecap AA acap) {fs : List Fr} {f : Fr} (hf : s.frames = fs ++ [f]) (hr : f.regs.length = 12) :
    ∃ g, FA = some ⟨g, 0, none⟩ ∧ g < w.heap.size ∧ w.rangeAt g (fs.length * 14) (frCell f) := by
  obtain ⟨g, h1, h2, h3⟩ := h.fr (by rw [hf]; simp)
  refine ⟨g, h1, h2, fun j v hj => ?_⟩
  have hl : j < 14 := by
    have := (List.getElem?_eq_some_iff.1 hj).1
    rwa [frCell_length hr] at this
  rw [h3 fs.length f j (by rw [hf]; simp) hl]
  exact hj
set_option maxRecDepth 100000 in
theorem info_fr : (Tryd.prog.info? 60).map (·.size) = some 14 := by kernel_rfl
end Go.Proofs.YtnbopmlemddakaaDoor
