/-
  Plain laws on how often each instruction is done: what CountsFlow and HotMost add up. No program is in sight.
-/
import Derived.Test.YtnbopmlemddakaaDoorCtP
namespace Tier
open Go Go.RowKit
theorem atP_01 (f : Fr) (i pc : Nat) : atP f i pc = 0 ∨ atP f i pc = 1 := by unfold atP; split <;> simp
theorem atP_one {f : Fr} {i pc : Nat} (h : atP f i pc = 1) : f.fn = (i : Int) ∧ f.pc = (pc : Int) := by
  unfold atP at h
  split at h
  · assumption
  · cases h
theorem pend_01 (s : St) (i pc : Nat) : pend s i pc = 0 ∨ pend s i pc = 1 := by
  unfold pend
  split
  · exact .inl rfl
  · split
    · exact .inl rfl
    · exact atP_01 _ _ _
theorem pend_uniq {s : St} {i pc j q : Nat} (h1 : pend s i pc = 1) (h2 : pend s j q = 1) : i = j ∧ pc = q := by
  unfold pend at h1 h2
  by_cases h5 : s.status = 5
  · rw [if_pos h5] at h1; cases h1
  · rw [if_neg h5] at h1 h2
    cases hl : s.frames.getLast? with
    | none => rw [hl] at h1; cases h1
    | some f =>
      rw [hl] at h1 h2
      obtain ⟨a1, a2⟩ := atP_one h1
      obtain ⟨b1, b2⟩ := atP_one h2
      exact ⟨by omega, by omega⟩
/-- What CountsFlow adds up, till the place pc of the function i. -/
def Short (s : St) (i pc : Nat) (n : Int) : Prop := n = 0 ∨ (n = 1 ∧ ∃ j q, (j < i ∨ (j = i ∧ q < pc)) ∧ pend s j q = 1)
theorem Short.on {s : St} {i pc : Nat} {n : Int} (h : Short s i pc n) : Short s i (pc + 1) n := by
  rcases h with h | ⟨h, j, q, h1, h2⟩
  · exact .inl h
  · exact .inr ⟨h, j, q, by omega, h2⟩
theorem Short.fn {s : St} {i pc : Nat} {n : Int} (h : Short s i pc n) : Short s (i + 1) 1 n := by
  rcases h with h | ⟨h, j, q, h1, h2⟩
  · exact .inl h
  · exact .inr ⟨h, j, q, by omega, h2⟩
theorem Short.add {s : St} {i pc : Nat} {n d : Int} (h : Short s i pc n) (hd : d = pend s i pc) : Short s i (pc + 1) (n + d) := by
  rcases pend_01 s i pc with h0 | h1
  · rw [hd, h0]; simpa using h.on
  · rcases h with h | ⟨-, j, q, h2, h3⟩
    · right; exact ⟨by rw [hd, h1, h]; rfl, i, pc, by omega, h1⟩
    · obtain ⟨e1, e2⟩ := pend_uniq h1 h3
      omega
theorem Short.le {s : St} {i pc : Nat} {n : Int} (h : Short s i pc n) : 0 ≤ n ∧ n ≤ 1 := by rcases h with h | ⟨h, -⟩ <;> omega
theorem cnt_end {p : List Fnc} {s0 : St} {k : Nat} (h : (walkSt p k s0).status ≠ 0) : ∀ d, cntK p s0 (k + d) = cntK p s0 k
  | 0 => rfl
  | d + 1 => by
    have h2 : (walkSt p (k + d) s0).status ≠ 0 := by rw [walkSt_add, walkSt_stop h]; exact h
    rw [← Nat.add_assoc]
    show (if (walkSt p (k + d) s0).status = 0 then _ else cntK p s0 (k + d)) = _
    rw [if_neg h2]
    exact cnt_end h d
/-- The function that did most, of the first i. -/
def HotInv (cs : List (List Int)) (i b : Nat) (m : Int) : Prop := (i = 0 ∧ b = 0 ∧ m = -1) ∨ (b < i ∧ (cs.getD b []).sum = m ∧ ∀ j, j < i → (cs.getD j []).sum ≤ m ∧ (j < b → (cs.getD j []).sum < m))
theorem HotInv.more {cs : List (List Int)} {i b : Nat} {m : Int} (h : HotInv cs i b m) (h1 : m < (cs.getD i []).sum) : HotInv cs (i + 1) i (cs.getD i []).sum := by
  right
  refine ⟨by omega, rfl, fun j hj => ?_⟩
  rcases h with ⟨rfl, -, -⟩ | ⟨-, -, h3⟩
  · have : j = 0 := by omega
    subst this; exact ⟨Int.le_refl _, fun h => by omega⟩
  · by_cases hji : j = i
    · subst hji; exact ⟨Int.le_refl _, fun h => by omega⟩
    · have := (h3 j (by omega)).1
      exact ⟨by omega, fun _ => by omega⟩
theorem HotInv.less {cs : List (List Int)} {i b : Nat} {m : Int} (h : HotInv cs i b m) (h1 : ¬ m < (cs.getD i []).sum) (h0 : 0 ≤ (cs.getD i []).sum) : HotInv cs (i + 1) b m := by
  rcases h with ⟨rfl, rfl, rfl⟩ | ⟨h2, h3, h4⟩
  · omega
  · right
    refine ⟨by omega, h3, fun j hj => ?_⟩
    by_cases hji : j = i
    · subst hji; exact ⟨by omega, fun h => by omega⟩
    · exact h4 j (by omega)
end Tier
