/-
  Plain: who stands on each way from the first one to another one. No program is in sight.
-/
import Derived.Test.YtefbdecejoeamaaDoorBmP
namespace Tier
open Go Go.RowKit Go.Proofs.YtefbdecejoeamaaDoor
/-- One comes to it, from 0, by edges of G. -/
inductive Come (G : Nat → Nat → Prop) : Nat → Prop
  | zero : Come G 0
  | step {q n : Nat} (h : Come G q) (he : G q n) : Come G n
/-- One comes to it and meets nowhere a. -/
inductive Av (G : Nat → Nat → Prop) (a : Nat) : Nat → Prop
  | zero (h : 0 ≠ a) : Av G a 0
  | step {q n : Nat} (h : Av G a q) (he : G q n) (hn : n ≠ a) : Av G a n
section
variable {G : Nat → Nat → Prop} {a b c i : Nat}
theorem Av.ne (h : Av G a i) : i ≠ a := by
  cases h with
  | zero h => exact h
  | step _ _ h => exact h
theorem Av.come (h : Av G a i) : Come G i := by
  induction h with
  | zero _ => exact .zero
  | step _ he _ ih => exact .step ih he
theorem dom_trans (h1 : ¬ Av G a b) (h2 : ¬ Av G b c) : ¬ Av G a c := fun h => by
  have key : ∀ i, Av G a i → Av G b i := fun i h => by
    induction h with
    | zero h0 =>
      by_cases e : 0 = b
      · exact absurd (e ▸ Av.zero h0) h1
      · exact .zero e
    | step h he hn ih =>
      rename_i q n
      by_cases e : n = b
      · exact absurd (e ▸ Av.step h he hn) h1
      · exact .step ih he e
  exact h2 (key c h)
theorem dom_anti (hc : Come G a) (h1 : ¬ Av G a b) (h2 : ¬ Av G b a) : a = b := by
  by_cases hab : a = b
  · exact hab
  have key : ∀ i, Come G i → Av G a i ∧ Av G b i := fun i h => by
    induction h with
    | zero =>
      have k1 : 0 ≠ a := fun e => h2 (e ▸ Av.zero (fun e2 => hab (by omega)))
      have k2 : 0 ≠ b := fun e => h1 (e ▸ Av.zero (fun e2 => hab (by omega)))
      exact ⟨.zero k1, .zero k2⟩
    | step h he ih =>
      rename_i q n
      obtain ⟨i1, i2⟩ := ih
      have k1 : n ≠ a := fun e => h2 (e ▸ Av.step i2 he (fun e2 => hab (by omega)))
      have k2 : n ≠ b := fun e => h1 (e ▸ Av.step i1 he (fun e2 => hab (by omega)))
      exact ⟨.step i1 he k1, .step i2 he k2⟩
  exact absurd rfl (key a hc).1.ne
/-- Of two that stand on each way to one, one stands on each way to the other. -/
theorem dom_chain (hc : Come G i) (ha : ¬ Av G a i) (hb : ¬ Av G b i) : ¬ Av G a b ∨ ¬ Av G b a := by
  by_cases hab : a = b
  · left; intro h; exact h.ne hab.symm
  by_cases h1 : Av G a b
  · by_cases h2 : Av G b a
    · exfalso
      have key : ∀ i, Come G i → Av G a i ∨ Av G b i := fun i h => by
        induction h with
        | zero =>
          by_cases e : 0 = a
          · exact .inr (.zero (fun e2 => hab (by omega)))
          · exact .inl (.zero e)
        | step h he ih =>
          rename_i q n
          by_cases e1 : n = a
          · exact .inr (e1 ▸ h2)
          by_cases e2 : n = b
          · exact .inl (e2 ▸ h1)
          rcases ih with ih | ih
          · exact .inl (.step ih he e1)
          · exact .inr (.step ih he e2)
      rcases key i hc with h | h
      · exact ha h
      · exact hb h
    · exact .inr h2
  · exact .inl h1
theorem dom_zero (h : ¬ Av G a 0) : a = 0 := by
  by_cases e : 0 = a
  · exact e.symm
  · exact absurd (.zero e) h
theorem zero_dom (i : Nat) : ¬ Av G 0 i := fun h => by
  induction h with
  | zero h => exact h rfl
  | step _ _ _ ih => exact ih
theorem dom_step (hi : i ≠ 0) : ¬ Av G a i ↔ a = i ∨ ∀ q, G q i → ¬ Av G a q := by
  constructor
  · intro h
    by_cases e : a = i
    · exact .inl e
    · exact .inr fun q hq hv => h (.step hv hq (fun e2 => e e2.symm))
  · rintro (rfl | h) hv
    · exact hv.ne rfl
    · cases hv with
      | zero _ => exact hi rfl
      | step h1 he _ => exact h _ he h1
/-- a stands next above i. -/
def Idom (G : Nat → Nat → Prop) (a i : Nat) : Prop := a ≠ i ∧ ¬ Av G a i ∧ ∀ m, m ≠ i → ¬ Av G m i → ¬ Av G m a
theorem idom_unique (hc : Come G a) (h1 : Idom G a i) (h2 : Idom G b i) : a = b :=
  dom_anti hc (h2.2.2 a h1.1 h1.2.1) (h1.2.2 b h2.1 h2.2.1)
/-- What stands on each way, as numbers below n. -/
structure DomB (G : Nat → Nat → Prop) (n : Nat) : Prop where
  come : ∀ i, i < n → Come G i
  lt : ∀ {q i}, G q i → q < n ∧ i < n
open Classical in
noncomputable def domC (G : Nat → Nat → Prop) (n i : Nat) : Nat := (List.range n).countP fun m => decide (¬ Av G m i)
theorem dom_lt {n : Nat} (hG : DomB G n) (hi : i < n) (h : ¬ Av G a i) : a < n := by
  have key : ∀ j, Come G j → ¬ Av G a j → a < n := fun j hj => by
    induction hj with
    | zero => intro h; rw [dom_zero h]; omega
    | step h he ih =>
      rename_i q m
      intro hd
      by_cases e : a = m
      · rw [e]; exact (hG.lt he).2
      · exact ih (fun hv => hd (.step hv he (fun e2 => e e2.symm)))
  exact key i (hG.come i hi) h
theorem countP_erase_one {f g : Nat → Bool} {k : Nat} : ∀ n, k < n → f k = false → g k = true → (∀ m, m ≠ k → f m = g m) → (List.range n).countP f + 1 = (List.range n).countP g
  | n + 1, hk, h1, h2, h3 => by
    rw [List.range_succ, List.countP_append, List.countP_append]
    by_cases e : k = n
    · subst e
      have : (List.range k).countP f = (List.range k).countP g := List.countP_congr fun m hm => by
        rw [h3 m (by have := List.mem_range.1 hm; omega)]
      rw [this]; simp [h1, h2]
    · have := countP_erase_one n (by omega) h1 h2 h3
      simp [h3 n (fun e2 => e e2.symm)]; omega
theorem idom_count {n : Nat} (hG : DomB G n) (hi : i < n) (h : Idom G a i) : domC G n a + 1 = domC G n i := by
  have hia : Av G i a := Classical.byContradiction fun hh => h.1 (dom_anti (hG.come a (dom_lt hG hi h.2.1)) h.2.1 hh)
  refine countP_erase_one n hi ?_ ?_ ?_
  · simp [hia]
  · simp; exact fun hh => hh.ne rfl
  · intro m hm
    rw [decide_eq_decide]
    exact ⟨fun h1 => dom_trans h1 h.2.1, fun h1 => h.2.2 m hm h1⟩
open Classical in
/-- There is one next above. -/
theorem idom_ex {n : Nat} (hG : DomB G n) (hi : i < n) (h0 : i ≠ 0) : ∃ a, a < n ∧ Idom G a i := by
  -- the one with the most above it
  have key : ∀ k, (∃ a, a ≠ i ∧ ¬ Av G a i ∧ k ≤ domC G n a) → ∃ a, a ≠ i ∧ ¬ Av G a i ∧ ∀ b, b ≠ i → ¬ Av G b i → domC G n b ≤ domC G n a := by
    have hle : ∀ a, domC G n a ≤ n := fun a => by unfold domC; exact Nat.le_trans List.countP_le_length (by simp)
    have go : ∀ d k, n ≤ k + d → (∃ a, a ≠ i ∧ ¬ Av G a i ∧ k ≤ domC G n a) → ∃ a, a ≠ i ∧ ¬ Av G a i ∧ ∀ b, b ≠ i → ¬ Av G b i → domC G n b ≤ domC G n a := by
      intro d
      induction d with
      | zero => rintro k hk ⟨a, h1, h2, h3⟩; exact ⟨a, h1, h2, fun b _ _ => by have := hle b; omega⟩
      | succ d ih =>
        rintro k hk ⟨a, h1, h2, h3⟩
        by_cases hh : ∃ b, b ≠ i ∧ ¬ Av G b i ∧ k + 1 ≤ domC G n b
        · exact ih (k + 1) (by omega) hh
        · refine ⟨a, h1, h2, fun b h4 h5 => ?_⟩
          by_cases h6 : k + 1 ≤ domC G n b
          · exact absurd ⟨b, h4, h5, h6⟩ hh
          · omega
    intro k hk
    exact go n k (by omega) hk
  obtain ⟨a, h1, h2, h3⟩ := key 0 ⟨0, fun e => h0 e.symm, zero_dom i, Nat.zero_le _⟩
  have hal := dom_lt hG hi h2
  refine ⟨a, hal, h1, h2, fun m hm hd hv => ?_⟩
  rcases dom_chain (hG.come i hi) h2 hd with h4 | h4
  · -- a above m: then m has more
    have h5 := h3 m hm hd
    have hne : m ≠ a := fun e => (e ▸ hv).ne rfl
    have h6 : domC G n a < domC G n m := by
      have h7 : ∀ x, ¬ Av G x a → ¬ Av G x m := fun x hx => dom_trans hx h4
      unfold domC
      have hml := dom_lt hG hi hd
      have h8 : (List.range n).countP (fun x => decide (¬ Av G x a)) ≤ (List.range n).countP (fun x => decide (¬ Av G x m) && decide (x ≠ m)) := List.countP_mono_left fun x _ hx => by
        have hx' : ¬ Av G x a := by simpa using hx
        have : x ≠ m := fun e => hx' (e ▸ hv)
        simp [this, h7 x hx']
      have h9 := countP_erase_one (f := fun x => decide (¬ Av G x m) && decide (x ≠ m)) (g := fun x => decide (¬ Av G x m)) (k := m) n hml (by simp) (by simp; exact fun hh => hh.ne rfl) (fun x hx => by simp [hx])
      omega
    omega
  · exact h4 hv
end
end Tier
