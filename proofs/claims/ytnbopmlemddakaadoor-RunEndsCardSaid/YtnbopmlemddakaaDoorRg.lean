/-
  What the laws on runs hand to a run: the first function's parameters, the answers, the fuel of an input; the contract of step.Run at an input.
-/
import Derived.Test.YtnbopmlemddakaaDoorRc
namespace Go.Proofs.YtnbopmlemddakaaDoor
open Go.RowKit Tier
theorem walk_end_eq {p : List Fnc} {k n : Nat} {s : St} (hk : k ≤ n) (h : (walkSt p k s).status ≠ 0) : walkSt p n s = walkSt p k s := by
  obtain ⟨d, rfl⟩ := Nat.exists_eq_add_of_le hk
  rw [walkSt_add, walkSt_stop h]
theorem params_cell {p : List Fnc} (hp : Right p) {w : World} {A : Option Addr} {cap : Nat} (hP : ProgAt w (.slice A p.length cap) p) (a0 a1 : Int) :
    ∃ g, A = some ⟨g, 0, none⟩ ∧ g < w.heap.size ∧ w.cell? ⟨g, 0, none⟩ = some (.int .i64 ((inArgs p a0 a1).length : Nat)) := by
  have l1 := hp.ok.l1
  have hla := inArgs_len hp a0 a1
  obtain ⟨F, hF, hF0, hF1, hF2⟩ := first_params hp
  obtain ⟨A0, cap0, hA0, hA⟩ := hP.slice
  simp only [Value.slice.injEq, true_and] at hA0
  obtain ⟨g, hAg, hg, hfn⟩ := hA (by omega)
  obtain ⟨rfl, rfl⟩ := hA0
  obtain ⟨-, -, c0, -, -⟩ := hfn 0 F hF
  rw [hF0] at hla
  rw [Nat.zero_mul, hla] at c0
  exact ⟨g, hAg, hg, c0⟩
theorem args_at {w : World} {ib : Nat} {a0 a1 : Int} {V : Value} {fuel : Int} (p : List Fnc) (h : w.heap[ib]? = some (.cells #[.int .i64 a0, .int .i64 a1, V, .int .i64 fuel] 46 (0, 0))) : IntsAt w (some ⟨ib, 0, none⟩) (inArgs p a0 a1) := fun _ => ⟨ib, 0, rfl, block_lt h, fun i x hx => by
  rw [Nat.zero_add, cell_block h]
  unfold inArgs at hx
  rw [List.getElem?_take] at hx
  split at hx
  · match i, hx with
    | 0, hx => simp at hx; subst hx; rfl
    | 1, hx => simp at hx; subst hx; rfl
    | i + 2, hx => simp at hx
  · cases hx⟩
theorem srun_k {p : List Fnc} (hc : checkP p = 0) (a0 a1 fuel : Int) (ans : List Int) (YA : Option Addr) (ycap : Nat) (A : Option Addr) (cap : Nat) (w : World) (ht : Tab w) (hP : ProgAt w (.slice A p.length cap) p) {ib : Nat} {V : Value} {fu : Int}
    (hib : w.heap[ib]? = some (.cells #[.int .i64 a0, .int .i64 a1, V, .int .i64 fu] 46 (0, 0))) (hy : IntsAt w YA ans) :
    Calls Tryd.prog 33 #[.agg #[.slice A p.length cap], .slice (some ⟨ib, 0, none⟩) (inArgs p a0 a1).length 2, .slice YA (ans.take 10).length ycap, .int .i64 (pickedI fuel 300)] w fun e w' => (∃ C : List Value, e = .returned (.tuple #[.agg C.toArray, .int .i64 0]) ∧ CellsSt C w' w.heap.size (walkSt p 10001 (inSt p a0 a1 ans fuel))) ∧ Below w.heap.size w w' := by
  have hp := right_of hc
  have p0 := picked_in fuel 300 (by omega)
  exact srun_any hc (inArgs p a0 a1) (ans.take 10) (some ⟨ib, 0, none⟩) 2 YA ycap (pickedI fuel 300) A cap w ht hP (args_at p hib) (inArgs_len hp a0 a1) (hy.take 10) (by simp; omega) p0.1 (by omega)
theorem Sx.swap {wP w : World} {pb : Nat} {pv : Value} {x y : Nat × List Value × St} {l : List (Nat × List Value × St)} (h : Sx wP pb pv w (x :: y :: l)) : Sx wP pb pv w (y :: x :: l) :=
  ⟨h.below, h.pblk, fun z hz => h.sts z (by simp only [List.mem_cons] at hz ⊢; rcases hz with h | h | h <;> simp [h])⟩
end Go.Proofs.YtnbopmlemddakaaDoor
