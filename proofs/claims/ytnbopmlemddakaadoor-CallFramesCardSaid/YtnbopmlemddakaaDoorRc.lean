/-
  A cut behind a region that draws its order; what the walks of the laws on runs import.
-/
import Derived.Test.YtnbopmlemddakaaDoorOpI
import Derived.Test.YtnbopmlemddakaaDoorStQ
import Derived.Test.YtnbopmlemddakaaDoorPg
namespace Go.Proofs.YtnbopmlemddakaaDoor
open Go.RowKit Tier
/-- What holds at the end, if it is no panic. -/
def CutAt (R : Act → World → Prop) : Exit → Act → World → Prop
  | .normal, a, w => R a w
  | _, _, _ => False
theorem CutAt.mono {R : Act → World → Prop} {Q : Exit → Act → World → Prop} (h : ∀ a w, R a w → Q .normal a w) : ∀ (e : Exit) (a : Act) (w : World), CutAt R e a w → Q e a w := fun e a w hh => by
  cases e <;> first | exact h a w hh | exact (hh : False).elim
/-- A cut behind a region: all ways come to one state, but for what x and y stand for. -/
theorem region_cut1 {α : Type} {P : Program} {id : Nat} {ops : Array Oper} {Q : Exit → Act → World → Prop} {a : Act} {w : World} (f : α → Act) (R : α → World → Prop) (h1 : (Code.region id ops true).wp P (CutAt fun a' w' => ∃ x, a' = f x ∧ R x w') a w) (h2 : ∀ x w', R x w' → Q .normal (f x) w') : (Code.region id ops true).wp P Q a w :=
  Code.wp_mono (CutAt.mono fun a' w' h => by obtain ⟨x, rfl, h⟩ := h; exact h2 x w' h) h1
theorem region_cut2 {α β : Type} {P : Program} {id : Nat} {ops : Array Oper} {Q : Exit → Act → World → Prop} {a : Act} {w : World} (f : α → β → Act) (R : α → β → World → Prop) (h1 : (Code.region id ops true).wp P (CutAt fun a' w' => ∃ x y, a' = f x y ∧ R x y w') a w) (h2 : ∀ x y w', R x y w' → Q .normal (f x y) w') : (Code.region id ops true).wp P Q a w :=
  Code.wp_mono (CutAt.mono fun a' w' h => by obtain ⟨x, y, rfl, h⟩ := h; exact h2 x y w' h) h1
/-- The head of a state that lies in a box, once more. -/
theorem Sx.cin {wP w : World} {pb : Nat} {pv : Value} {l : List (Nat × List Value × St)} (h : Sx wP pb pv w l) {b : Nat} {C : List Value} {s : St} (hx : (b, C, s) ∈ l) {p : List Fnc} (hi : StInv p s) : ∃ FA fcap EA ecap AA acap, CellsIn C w s FA fcap EA ecap AA acap :=
  (h.sts _ hx).2.cin hi.mem (fun f hf => (hi.fr f hf).regs)
end Go.Proofs.YtnbopmlemddakaaDoor
