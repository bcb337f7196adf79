/-
  Plain: where all jumps go on, no block leads back; a function's jumps made so.
-/
import Derived.Test.YtefbdecejoeamaaDoorLoP
namespace Tier
open Go Go.RowKit Go.Proofs.YtefbdecejoeamaaDoor
def fixI (pc : Nat) (x : Ins) : Ins := if (x.op = 15 ∨ x.op = 16) ∧ x.imm ≤ (pc : Int) then { x with imm := (pc : Int) + 1 } else x
/-- The first j instructions are made so. -/
def FixT (l : List Ins) (j : Nat) (c : List Ins) : Prop := c.length = l.length ∧ ∀ (q : Nat) (x : Ins), l[q]? = some x → c[q]? = some (if q < j then fixI q x else x)
theorem FixT.start (l : List Ins) : FixT l 0 l := ⟨rfl, fun q x h => by rw [if_neg (by omega)]; exact h⟩
theorem FixT.at {l c : List Ins} {j : Nat} (h : FixT l j c) {x : Ins} (hx : l[j]? = some x) : c[j]? = some x := by
  have := h.2 j x hx
  rwa [if_neg (by omega)] at this
theorem FixT.same {l c : List Ins} {j : Nat} (h : FixT l j c) {x : Ins} (hx : l[j]? = some x) (hf : fixI j x = x) : FixT l (j + 1) c := by
  refine ⟨h.1, fun q y hy => ?_⟩
  rw [h.2 q y hy]
  by_cases e : q = j
  · subst e
    rw [hx] at hy
    obtain rfl := Option.some.inj hy
    rw [if_neg (by omega), if_pos (by omega), hf]
  · by_cases h1 : q < j
    · rw [if_pos h1, if_pos (by omega)]
    · rw [if_neg h1, if_neg (by omega)]
theorem FixT.put {l c : List Ins} {j : Nat} (h : FixT l j c) {x : Ins} (hx : l[j]? = some x) {y : Ins} (hf : fixI j x = y) : FixT l (j + 1) (c.set j y) := by
  have hj : j < c.length := by rw [h.1]; exact (List.getElem?_eq_some_iff.1 hx).1
  refine ⟨by simp [h.1], fun q z hz => ?_⟩
  rw [List.getElem?_set]
  by_cases e : j = q
  · subst e
    rw [hx] at hz
    obtain rfl := Option.some.inj hz
    rw [if_pos rfl, if_pos hj, if_pos (by omega), hf]
  · rw [if_neg e, h.2 q z hz]
    by_cases h1 : q < j
    · rw [if_pos h1, if_pos (by omega)]
    · rw [if_neg h1, if_neg (by omega)]
def Fwd (F : Fnc) : Prop := ∀ (q : Nat) (x : Ins), F.code[q]? = some x → x.op = 15 ∨ x.op = 16 → (q : Int) < x.imm
theorem FixT.fwd {F : Fnc} {c : List Ins} (h : FixT F.code F.code.length c) : Fwd { F with code := c } := by
  intro q x hx ho
  have hq : q < F.code.length := by rw [← h.1]; exact (List.getElem?_eq_some_iff.1 hx).1
  have hy : F.code[q]? = some F.code[q] := List.getElem?_eq_getElem hq
  have h2 := h.2 q _ hy
  have hx' : c[q]? = some x := hx
  rw [hx', if_pos hq] at h2
  have h3 := Option.some.inj h2
  rw [h3] at ho ⊢
  unfold fixI at ho ⊢
  by_cases hc : (F.code[q].op = 15 ∨ F.code[q].op = 16) ∧ F.code[q].imm ≤ (q : Int)
  · rw [if_pos hc]
    show (q : Int) < (q : Int) + 1
    omega
  · rw [if_neg hc] at ho ⊢
    omega
section
variable {p : List Fnc} {F : Fnc}
theorem posH_lt {a n : Nat} (ha : a ∈ hdL F) (hn : n ∈ hdL F) (h : a < n) : posH F a < posH F n := by
  have h1 := posH_get ha
  have h2 := posH_get hn
  obtain ⟨l1, e1⟩ := List.getElem?_eq_some_iff.1 h1
  obtain ⟨l2, e2⟩ := List.getElem?_eq_some_iff.1 h2
  rcases Nat.lt_trichotomy (posH F a) (posH F n) with hh | hh | hh
  · exact hh
  · rw [hh, h2] at h1
    have := Option.some.inj h1
    omega
  · have := List.pairwise_iff_getElem.1 (hdL_sorted F) _ _ l2 l1 hh
    rw [e1, e2] at this
    omega
theorem fwd_edge (hp : Right p) (hF : F ∈ p) (hw : Fwd F) {a b : Nat} (h : Edg F a b) : a < b := by
  obtain ⟨h1, h2⟩ := h
  obtain ⟨hm, hg⟩ := hdA_mem h1
  unfold nxI at h2
  rw [List.mem_map] at h2
  obtain ⟨n, hn, rfl⟩ := h2
  have hnh := nxN_head hp hF hm hn
  obtain ⟨s1, s2, -, -, -⟩ := toF_spec hp hF hm
  have hq : toF F (hdA F a) - 1 < F.code.length := by omega
  have hx : F.code[toF F (hdA F a) - 1]? = some F.code[toF F (hdA F a) - 1] := List.getElem?_eq_getElem hq
  unfold nxN at hn
  rw [insAt_eq hx] at hn
  have hn2 := (nextS_mem _ _ _).1 hn
  have hlt : toF F (hdA F a) - 1 < n := by
    have hw2 := hw _ _ hx
    unfold nextL at hn2
    by_cases o19 : (F.code[toF F (hdA F a) - 1]).op = 19
    · rw [if_pos o19] at hn2; cases hn2
    rw [if_neg o19] at hn2
    by_cases o15 : (F.code[toF F (hdA F a) - 1]).op = 15
    · rw [if_pos o15] at hn2
      have := hw2 (.inl o15)
      rw [List.mem_singleton.1 hn2]; omega
    rw [if_neg o15] at hn2
    by_cases o16 : (F.code[toF F (hdA F a) - 1]).op = 16
    · rw [if_pos o16] at hn2
      have := hw2 (.inr o16)
      simp at hn2
      omega
    · rw [if_neg o16] at hn2
      rw [List.mem_singleton.1 hn2]; omega
  have := posH_lt hm hnh (by omega)
  rw [posH_hdA h1] at this
  exact this
theorem up_av {G : Nat → Nat → Prop} (hG : ∀ a b, G a b → a < b) {h j : Nat} (hj : Come G j) (hl : j < h) : Av G h j := by
  induction hj with
  | zero => exact .zero (by omega)
  | step _ he ih =>
    have := hG _ _ he
    exact .step (ih (by omega)) he (by omega)
theorem fwd_none (hp : Right p) (hF : F ∈ p) (hw : Fwd F) {head back : Nat} (hE : Edg F back head) (hd : ¬ Av (Edg F) head back) : False :=
  have hG : ∀ a b, Edg F a b → a < b := fun _ _ h => fwd_edge hp hF hw h
  hd (up_av hG ((edg_dom hp hF).come back hE.1) (hG _ _ hE))
end
end Tier
