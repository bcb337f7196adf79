/-
  Plain law: a program whose first function reads what was not set, or runs out of itself, is refused. No program is in sight.
-/
import Derived.Test.YtmnlbkdkpgfomaaDoorSuP
namespace Tier
open Go Go.RowKit
theorem firstE_append {l : List Int} {y : Int} (h : ∀ x ∈ l, x = 0) : firstE (l ++ [y]) = y := by
  induction l with
  | nil => by_cases hy : y = 0 <;> simp [firstE, hy]
  | cons x l ih =>
    rw [List.cons_append, firstE_cons, if_neg (by simp [h x (by simp)])]
    exact ih fun z hz => h z (by simp [hz])
theorem checkP_zero {p : List Fnc} (h : checkP p = 0) : progE p = 0 := by
  unfold checkP at h
  by_cases h0 : progE p = 0
  · exact h0
  · rw [if_pos h0] at h; exact h
theorem progE_first {f f' : Fnc} {p : List Fnc} (h : progE (f :: p) = 0) (hf : fnE f' (p.length + 1 : Nat) = 0) : progE (f' :: p) = 0 := by
  have ho := prog_ok h
  unfold progE at h ⊢
  have hl1 := ho.l1
  have hl2 := ho.l2
  simp only [List.length_cons] at *
  rw [if_neg (by omega)] at h
  rw [if_neg (by omega)]
  apply firstE_none
  intro y hy
  rw [List.map_cons] at hy
  rcases List.mem_cons.1 hy with rfl | hy
  · exact hf
  · exact firstE_all h y (by rw [List.map_cons]; exact List.mem_cons_of_mem _ hy)
theorem fnE_one {params regs : Int} {x : Ins} {funcs : Int} (h1 : 1 ≤ regs) (h2 : regs ≤ 12) (h3 : 0 ≤ params) (h4 : params ≤ 2) (h5 : params ≤ regs) (hx : insE x regs 1 funcs = 0) : fnE ⟨params, regs, [x]⟩ funcs = 0 := by
  rw [fnE_code (by simp [wi]; omega) (by simp [wi]; split <;> omega) (by simp) (by simp)]
  apply firstE_none
  intro y hy
  simp at hy
  rw [hy]; exact hx
theorem bit_over {p n : Nat} (h : p ≤ n) : 2 ^ n &&& (2 ^ p - 1) = 0 := by
  apply Nat.eq_of_testBit_eq
  intro i
  rw [Nat.testBit_and, pow_bit, Nat.testBit_two_pow_sub_one]
  simp; omega
theorem fnP_six {p : List Fnc} {f : Fnc} {x : Ins} {m : Nat} (hx : f.code[0]? = some x) (hz : (sureF f)[0]? = some (some m)) (h : readsM x (parOf p x) - (readsM x (parOf p x) &&& m) ≠ 0) : fnP p f = 6 := by
  unfold fnP
  rw [if_pos]
  rw [List.any_eq_true]
  have hl : 0 < f.code.length := (List.getElem?_eq_some_iff.1 hx).1
  refine ⟨0, List.mem_range.2 hl, ?_⟩
  unfold badAt
  rw [hz, hx]
  simpa using h
theorem fnP_seven {p : List Fnc} {f : Fnc} (h0 : ∀ k, k < f.code.length → badAt p f k = false) (h1 : endAt f = true) : fnP p f = 7 := by
  unfold fnP
  rw [if_neg, if_pos h1]
  rw [List.any_eq_true]
  rintro ⟨k, hk, hb⟩
  rw [h0 k (List.mem_range.1 hk)] at hb
  simp at hb
/-- It reads what was not set. -/
theorem unset_at {f f' : Fnc} {p : List Fnc} (h : checkP (f :: p) = 0) (n : Int) (h0 : f.params ≤ n) (h1 : n < 12) (e1 : f'.params = f.params) (e2 : f'.regs = 12) (e3 : f'.code = [⟨19, 0, n, 0, 0⟩]) : checkP (f' :: p) = 6 := by
  have hE := checkP_zero h
  have ho := prog_ok hE
  have hfo := ho.fn f (by simp)
  have p1 := hfo.p1
  have p2 := hfo.p2
  have hfe : fnE f' (p.length + 1 : Nat) = 0 := by
    have := fnE_one (params := f.params) (regs := 12) (x := ⟨19, 0, n, 0, 0⟩) (funcs := (p.length + 1 : Nat)) (by omega) (by omega) p1 p2 (by omega) (insE_ret n 12 1 _ (by omega) h1)
    rw [← e1, ← e2, ← e3] at this
    exact this
  have hE' := progE_first hE hfe
  have ho' := prog_ok hE'
  have hfo' := ho'.fn f' (by simp)
  have hz := sure_zero hfo'.cok hfo'.p2
  have key : fnP (f' :: p) f' = 6 := by
    refine fnP_six (x := ⟨19, 0, n, 0, 0⟩) (by rw [e3]; rfl) hz ?_
    have hr : readsM ⟨19, 0, n, 0, 0⟩ (parOf (f' :: p) ⟨19, 0, n, 0, 0⟩) = 2 ^ n.toNat := by simp [readsM]
    rw [hr, bit_over (by rw [e1]; omega)]
    have : 0 < 2 ^ n.toNat := Nat.two_pow_pos _
    omega
  unfold checkP
  rw [if_neg (by simp [hE']), List.map_cons, firstE_cons, key, if_pos (by simp)]
/-- It runs out of its function. -/
theorem end_at {f f' : Fnc} {p : List Fnc} (h : checkP (f :: p) = 0) (e1 : f'.params = f.params) (e2 : f'.regs = f.regs) (e3 : f'.code = [⟨1, 0, 0, 0, 1⟩]) : checkP (f' :: p) = 7 := by
  have hE := checkP_zero h
  have ho := prog_ok hE
  have hfo := ho.fn f (by simp)
  have p1 := hfo.p1
  have r1 := hfo.r1
  have hfe : fnE f' (p.length + 1 : Nat) = 0 := by
    have := fnE_one (params := f.params) (regs := f.regs) (x := ⟨1, 0, 0, 0, 1⟩) (funcs := (p.length + 1 : Nat)) hfo.r1 hfo.r2 p1 hfo.p2 hfo.p3 (insE_set 0 1 f.regs 1 _ (by omega) (by omega))
    rw [← e1, ← e2, ← e3] at this
    exact this
  have hE' := progE_first hE hfe
  have ho' := prog_ok hE'
  have hfo' := ho'.fn f' (by simp)
  have hz := sure_zero hfo'.cok hfo'.p2
  have hlen : f'.code.length = 1 := by rw [e3]; rfl
  have hx : f'.code[0]? = some ⟨1, 0, 0, 0, 1⟩ := by rw [e3]; rfl
  have key : fnP (f' :: p) f' = 7 := by
    refine fnP_seven (fun k hk => ?_) ?_
    · have hk0 : k = 0 := by omega
      subst hk0
      unfold badAt
      rw [hz, hx]
      simp [readsM]
    · obtain ⟨m', hm', -⟩ := sure_closed hfo'.cok hfo'.p2 hz hx (n := 1) (by simp [nextL])
      unfold endAt
      rw [hlen, hm']; rfl
  unfold checkP
  rw [if_neg (by simp [hE']), List.map_cons, firstE_cons, key, if_pos (by simp)]
end Tier
