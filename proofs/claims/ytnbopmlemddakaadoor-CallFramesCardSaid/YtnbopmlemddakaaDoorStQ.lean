/-
  Plain laws of one step of the byte code's machine: fuel, memory, frames, what only reckons. No program is in sight.
-/
import Derived.Test.YtnbopmlemddakaaDoorStL
namespace Tier
open Go Go.RowKit
section
variable {p : List Fnc}
theorem nxt_stop {s : St} (h : s.status ≠ 0) : nextSt p s = s := by unfold nextSt; rw [if_neg h]
theorem nxt_run {s : St} (h : s.status = 0) : nextSt p s = stepSt p s := by unfold nextSt; rw [if_pos h]
theorem nxt_falls {s : St} (h : StInv p s) (hst : s.status = 0) :
    ((nextSt p s).fuel = s.fuel - 1 ∧ ((nextSt p s).status = 0 ∨ (nextSt p s).status = 1 ∨ (nextSt p s).status = 5)) ∨ ((nextSt p s).status = 2 ∧ (nextSt p s).fuel = 0 ∧ s.fuel = 0) ∨ ((nextSt p s).fuel = s.fuel ∧ ((nextSt p s).status = 3 ∨ (nextSt p s).status = 4)) := by
  rw [nxt_run hst]
  rcases step_fuel h hst with ⟨h1, -, h3⟩ | ⟨h1, -, h3⟩ | ⟨h1, h2, h3⟩
  · exact .inl ⟨h1, h3⟩
  · exact .inr (.inr ⟨h1, h3⟩)
  · exact .inr (.inl ⟨h3, h1, h2⟩)
theorem nxt_mem {s : St} {fs : List Fr} {f : Fr} (hf : s.frames = fs ++ [f]) (hm : s.mem.length = 16) (i : Nat) :
    (nextSt p s).mem.getD i 0 = s.mem.getD i 0 ∨ ((insOf p f).op = 14 ∧ f.reg (insOf p f).a = i ∧ (nextSt p s).mem.getD i 0 = f.reg (insOf p f).b) := by
  by_cases hst : s.status = 0
  · rw [nxt_run hst]
    by_cases hfu : s.fuel = 0
    · left; unfold stepSt; rw [if_pos hfu]
    · rw [stepSt_exec hf hfu]
      rcases exec_mem (p := p) s fs f with h | ⟨h1, h2, h3, h4⟩
      · left; rw [h]
      · rw [h4]
        by_cases hi : (f.reg (insOf p f).a).toNat = i
        · right
          refine ⟨h1, by omega, ?_⟩
          rw [List.getD_eq_getElem?_getD, hi, List.getElem?_set_self (by omega)]; rfl
        · left
          rw [List.getD_eq_getElem?_getD, List.getD_eq_getElem?_getD, List.getElem?_set_ne hi]
  · left; rw [nxt_stop hst]
theorem nxt_frames {s : St} {fs : List Fr} {f : Fr} (hf : s.frames = fs ++ [f]) (hfu : s.fuel ≠ 0 ∨ (nextSt p s).status ≠ 2) (hst : s.status = 0) (hr : 1 ≤ (insOf p f).op ∧ (insOf p f).op ≤ 19) (hk : (nextSt p s).status ≠ 5) :
    ((insOf p f).op ≠ 17 ∧ (insOf p f).op ≠ 19 ∧ (nextSt p s).frames.length = s.frames.length) ∨
    ((insOf p f).op = 17 ∧ (nextSt p s).frames = s.frames ++ [newFr (insOf p f).imm (fnOf p (insOf p f).imm).params (f.reg (insOf p f).a) (f.reg (insOf p f).b)]) ∨
    ((insOf p f).op = 19 ∧ fs = [] ∧ (nextSt p s).frames = [] ∧ (nextSt p s).value = f.reg (insOf p f).a) ∨
    ((insOf p f).op = 19 ∧ ∃ gs g, fs = gs ++ [g] ∧ (nextSt p s).frames = gs ++ [retFr p g (f.reg (insOf p f).a)]) := by
  have hfu' : s.fuel ≠ 0 := by
    rcases hfu with h | h
    · exact h
    · intro e
      refine h ?_
      rw [nxt_run hst]; unfold stepSt; rw [if_pos e]
  rw [nxt_run hst, stepSt_exec hf hfu'] at *
  rcases exec_split (p := p) fs f with ⟨a1, h⟩ | ⟨a1, h⟩ | ⟨a1, h⟩ | ⟨a1, -, -, h⟩ | ⟨a1, a2, a3, h⟩ | ⟨a1, h⟩ | ⟨a1, h⟩ | ⟨a1, -, h⟩ | ⟨a1, -, h⟩ | ⟨a1, h⟩ | ⟨a1, a2, h⟩ | ⟨a1, gs, g, a2, h⟩
  case inl => left; simp [mkOk] at a1; rw [h]; exact ⟨by omega, by omega, by simp [topSt, hf]⟩
  case inr.inr.inr.inr.inr.inr.inr.inl => rw [h] at hk; exact absurd rfl hk
  case inr.inr.inr.inr.inr.inr.inr.inr.inl => right; left; rw [h]; exact ⟨a1, by simp [hf]⟩
  case inr.inr.inr.inr.inr.inr.inr.inr.inr.inr.inl => right; right; left; rw [h]; exact ⟨by omega, a2, rfl, rfl⟩
  case inr.inr.inr.inr.inr.inr.inr.inr.inr.inr.inr => right; right; right; rw [h]; exact ⟨by omega, gs, g, a2, rfl⟩
  all_goals (left; rw [h]; exact ⟨by omega, by omega, by simp [topSt, hf]⟩)
theorem nxt_frames_len {s : St} (h : StInv p s) (h' : s.status ≠ 0 ∨ ((nextSt p s).status ≠ 0 ∧ (nextSt p s).status ≠ 1)) : (nextSt p s).frames.length = s.frames.length := by
  by_cases hst : s.status = 0
  · rw [nxt_run hst] at h' ⊢
    by_cases hfu : s.fuel = 0
    · unfold stepSt; rw [if_pos hfu]
    · obtain ⟨fs, f, hf⟩ := h.running hst
      rw [stepSt_exec hf hfu] at h' ⊢
      rcases exec_split (p := p) fs f with ⟨a1, h⟩ | ⟨a1, h⟩ | ⟨a1, h⟩ | ⟨a1, -, -, h⟩ | ⟨a1, a2, a3, h⟩ | ⟨a1, h⟩ | ⟨a1, h⟩ | ⟨a1, -, h⟩ | ⟨a1, -, h⟩ | ⟨a1, h⟩ | ⟨a1, a2, h⟩ | ⟨a1, gs, g, a2, h⟩ <;> rw [h] at h' ⊢ <;> simp [topSt, hf] at h' ⊢ <;> omega
  · rw [nxt_stop hst]
theorem nxt_pure {s : St} (h : StInv p s) {fs : List Fr} {f : Fr} (hf : s.frames = fs ++ [f]) (hst : s.status = 0) (ht : (nextSt p s).status = 0) (h1 : 1 ≤ (insOf p f).op) (h12 : (insOf p f).op ≤ 12) :
    mkOk (insOf p f).op (f.reg (insOf p f).b) = true ∧ nextSt p s = topSt s fs ((f.put (insOf p f).dst (mk (insOf p f).op (f.reg (insOf p f).a) (f.reg (insOf p f).b) (insOf p f).imm)).at (f.pc + 1)) := by
  have := h.fuel0
  rw [nxt_run hst] at ht ⊢
  by_cases hfu : s.fuel = 0
  · unfold stepSt at ht; rw [if_pos hfu] at ht; simp at ht
  · rw [stepSt_exec hf hfu] at ht ⊢
    rcases exec_split (p := p) fs f with ⟨a1, h⟩ | ⟨a1, h⟩ | ⟨a1, h⟩ | ⟨a1, -, -, h⟩ | ⟨a1, a2, a3, h⟩ | ⟨a1, h⟩ | ⟨a1, h⟩ | ⟨a1, -, h⟩ | ⟨a1, -, h⟩ | ⟨a1, h⟩ | ⟨a1, a2, h⟩ | ⟨a1, gs, g, a2, h⟩
    case inl => exact ⟨a1, h s⟩
    case inr.inl => rw [h] at ht; simp at ht
    all_goals omega
theorem grew_len {s t : St} (h : Grew s t) (h0 : s.events = []) : t.answers.length = s.answers.length - t.events.length := by
  obtain ⟨e, h1, h2⟩ := h
  rw [h1, h2, h0]; simp
end
end Tier
