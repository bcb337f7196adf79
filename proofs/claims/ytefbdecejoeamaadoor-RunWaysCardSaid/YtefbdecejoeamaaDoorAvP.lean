/-
  Plain: who stands on each way from the first one to another one. No program is in sight.
-/
import Derived.Test.YtefbdecejoeamaaDoorBkP
import Derived.Test.YtefbdecejoeamaaDoorLvP
import Derived.Test.YtefbdecejoeamaaDoorFnS
import Derived.Laws.Bits64b
import Derived.Deep.QuietTactic
import Derived.BigQuiet
import Derived.Test.YtefbdecejoeamaaDoorBk
import Derived.Test.YtefbdecejoeamaaDoorMkI
namespace Tier
open Go Go.RowKit Go.Proofs.YtefbdecejoeamaaDoor
/-- One comes to it, from 0, by edges of G. -/
inductive Come (G : Nat → Nat → Prop) : Nat → Prop
  | zero : Come G 0
  | step {q n : Nat} (h : Come G q) (he : G q n) : Come G n
/-- One comes to it and meets nowhere a. -/
inductive Av (G : Nat → Nat → Prop) (a : Nat) : Nat → Prop
  | zero (h : 0 ≠ a) : Av G a 0
  | step {q n : Nat} (h : Av G a q) (he : G q n) (hn : n ≠ a) : Av G a n
section
variable {G : Nat → Nat → Prop} {a b c i : Nat}
theorem Av.ne (h : Av G a i) : i ≠ a := by
  cases h with
  | zero h => exact h
  | step _ _ h => exact h
theorem Av.come (h : Av G a i) : Come G i := by
  induction h with
  | zero _ => exact .zero
  | step _ he _ ih => exact .step ih he
theorem dom_trans (h1 : ¬ Av G a b) (h2 : ¬ Av G b c) : ¬ Av G a c := fun h => by
  have key : ∀ i, Av G a i → Av G b i := fun i h => by
    induction h with
    | zero h0 =>
      by_cases e : 0 = b
      · exact absurd (e ▸ Av.zero h0) h1
      · exact .zero e
    | step h he hn ih =>
      rename_i q n
      by_cases e : n = b
      · exact absurd (e ▸ Av.step h he hn) h1
      · exact .step ih he e
  exact h2 (key c h)
theorem dom_anti (hc : Come G a) (h1 : ¬ Av G a b) (h2 : ¬ Av G b a) : a = b := by
  by_cases hab : a = b
  · exact hab
  have key : ∀ i, Come G i → Av G a i ∧ Av G b i := fun i h => by
    induction h with
    | zero =>
      have k1 : 0 ≠ a := fun e => h2 (e ▸ Av.zero (fun e2 => hab (by omega)))
      have k2 : 0 ≠ b := fun e => h1 (e ▸ Av.zero (fun e2 => hab (by omega)))
      exact ⟨.zero k1, .zero k2⟩
    | step h he ih =>
      rename_i q n
      obtain ⟨i1, i2⟩ := ih
      have k1 : n ≠ a := fun e => h2 (e ▸ Av.step i2 he (fun e2 => hab (by omega)))
      have k2 : n ≠ b := fun e => h1 (e ▸ Av.step i1 he (fun e2 => hab (by omega)))
      exact ⟨.step i1 he k1, .step i2 he k2⟩
  exact absurd rfl (key a hc).1.ne
/-- Of two that stand on each way to one, one stands on each way to the other. -/
theorem dom_chain (hc : Come G i) (ha : ¬ Av G a i) (hb : ¬ Av G b i) : ¬ Av G a b ∨ ¬ Av G b a := by
  by_cases hab : a = b
  · left; intro h; exact h.ne hab.symm
  by_cases h1 : Av G a b
  · by_cases h2 : Av G b a
    · exfalso
      have key : ∀ i, Come G i → Av G a i ∨ Av G b i := fun i h => by
        induction h with
        | zero =>
          by_cases e : 0 = a
          · exact .inr (.zero (fun e2 => hab (by omega)))
          · exact .inl (.zero e)
        | step h he ih =>
          rename_i q n
          by_cases e1 : n = a
          · exact .inr (e1 ▸ h2)
          by_cases e2 : n = b
          · exact .inl (e2 ▸ h1)
          rcases ih with ih | ih
          · exact .inl (.step ih he e1)
          · exact .inr (.step ih he e2)
      rcases key i hc with h | h
      · exact ha h
      · exact hb h
    · exact .inr h2
  · exact .inl h1
theorem dom_zero (h : ¬ Av G a 0) : a = 0 := by
  by_cases e : 0 = a
  · exact e.symm
  · exact absurd (.zero e) h
theorem zero_dom (i : Nat) : ¬ Av G 0 i := fun h => by
  induction h with
  | zero h => exact h rfl
  | step _ _ _ ih => exact ih
theorem dom_step (hi : i ≠ 0) : ¬ Av G a i ↔ a = i ∨ ∀ q, G q i → ¬ Av G a q := by
  constructor
  · intro h
    by_cases e : a = i
    · exact .inl e
    · exact .inr fun q hq hv => h (.step hv hq (fun e2 => e e2.symm))
  · rintro (rfl | h) hv
    · exact hv.ne rfl
    · cases hv with
      | zero _ => exact hi rfl
      | step h1 he _ => exact h _ he h1
/-- a stands next above i. -/
def Idom (G : Nat → Nat → Prop) (a i : Nat) : Prop := a ≠ i ∧ ¬ Av G a i ∧ ∀ m, m ≠ i → ¬ Av G m i → ¬ Av G m a
theorem idom_unique (hc : Come G a) (h1 : Idom G a i) (h2 : Idom G b i) : a = b :=
  dom_anti hc (h2.2.2 a h1.1 h1.2.1) (h1.2.2 b h2.1 h2.2.1)
/-- What stands on each way, as numbers below n. -/
structure DomB (G : Nat → Nat → Prop) (n : Nat) : Prop where
  come : ∀ i, i < n → Come G i
  lt : ∀ {q i}, G q i → q < n ∧ i < n
open Classical in
noncomputable def domC (G : Nat → Nat → Prop) (n i : Nat) : Nat := (List.range n).countP fun m => decide (¬ Av G m i)
theorem dom_lt {n : Nat} (hG : DomB G n) (hi : i < n) (h : ¬ Av G a i) : a < n := by
  have key : ∀ j, Come G j → ¬ Av G a j → a < n := fun j hj => by
    induction hj with
    | zero => intro h; rw [dom_zero h]; omega
    | step h he ih =>
      rename_i q m
      intro hd
      by_cases e : a = m
      · rw [e]; exact (hG.lt he).2
      · exact ih (fun hv => hd (.step hv he (fun e2 => e e2.symm)))
  exact key i (hG.come i hi) h
theorem countP_erase_one {f g : Nat → Bool} {k : Nat} : ∀ n, k < n → f k = false → g k = true → (∀ m, m ≠ k → f m = g m) → (List.range n).countP f + 1 = (List.range n).countP g
  | n + 1, hk, h1, h2, h3 => by
    rw [List.range_succ, List.countP_append, List.countP_append]
    by_cases e : k = n
    · subst e
      have : (List.range k).countP f = (List.range k).countP g := List.countP_congr fun m hm => by
        rw [h3 m (by have := List.mem_range.1 hm; omega)]
      rw [this]; simp [h1, h2]
    · have := countP_erase_one n (by omega) h1 h2 h3
      simp [h3 n (fun e2 => e e2.symm)]; omega
theorem idom_count {n : Nat} (hG : DomB G n) (hi : i < n) (h : Idom G a i) : domC G n a + 1 = domC G n i := by
  have hia : Av G i a := Classical.byContradiction fun hh => h.1 (dom_anti (hG.come a (dom_lt hG hi h.2.1)) h.2.1 hh)
  refine countP_erase_one n hi ?_ ?_ ?_
  · simp [hia]
  · simp; exact fun hh => hh.ne rfl
  · intro m hm
    rw [decide_eq_decide]
    exact ⟨fun h1 => dom_trans h1 h.2.1, fun h1 => h.2.2 m hm h1⟩
open Classical in
/-- There is one next above. -/
theorem idom_ex {n : Nat} (hG : DomB G n) (hi : i < n) (h0 : i ≠ 0) : ∃ a, a < n ∧ Idom G a i := by
  -- the one with the most above it
  have key : ∀ k, (∃ a, a ≠ i ∧ ¬ Av G a i ∧ k ≤ domC G n a) → ∃ a, a ≠ i ∧ ¬ Av G a i ∧ ∀ b, b ≠ i → ¬ Av G b i → domC G n b ≤ domC G n a := by
    have hle : ∀ a, domC G n a ≤ n := fun a => by unfold domC; exact Nat.le_trans List.countP_le_length (by simp)
    have go : ∀ d k, n ≤ k + d → (∃ a, a ≠ i ∧ ¬ Av G a i ∧ k ≤ domC G n a) → ∃ a, a ≠ i ∧ ¬ Av G a i ∧ ∀ b, b ≠ i → ¬ Av G b i → domC G n b ≤ domC G n a := by
      intro d
      induction d with
      | zero => rintro k hk ⟨a, h1, h2, h3⟩; exact ⟨a, h1, h2, fun b _ _ => by have := hle b; omega⟩
      | succ d ih =>
        rintro k hk ⟨a, h1, h2, h3⟩
        by_cases hh : ∃ b, b ≠ i ∧ ¬ Av G b i ∧ k + 1 ≤ domC G n b
        · exact ih (k + 1) (by omega) hh
        · refine ⟨a, h1, h2, fun b h4 h5 => ?_⟩
          by_cases h6 : k + 1 ≤ domC G n b
          · exact absurd ⟨b, h4, h5, h6⟩ hh
          · omega
    intro k hk
    exact go n k (by omega) hk
  obtain ⟨a, h1, h2, h3⟩ := key 0 ⟨0, fun e => h0 e.symm, zero_dom i, Nat.zero_le _⟩
  have hal := dom_lt hG hi h2
  refine ⟨a, hal, h1, h2, fun m hm hd hv => ?_⟩
  rcases dom_chain (hG.come i hi) h2 hd with h4 | h4
  · -- a above m: then m has more
    have h5 := h3 m hm hd
    have hne : m ≠ a := fun e => (e ▸ hv).ne rfl
    have h6 : domC G n a < domC G n m := by
      have h7 : ∀ x, ¬ Av G x a → ¬ Av G x m := fun x hx => dom_trans hx h4
      unfold domC
      have hml := dom_lt hG hi hd
      have h8 : (List.range n).countP (fun x => decide (¬ Av G x a)) ≤ (List.range n).countP (fun x => decide (¬ Av G x m) && decide (x ≠ m)) := List.countP_mono_left fun x _ hx => by
        have hx' : ¬ Av G x a := by simpa using hx
        have : x ≠ m := fun e => hx' (e ▸ hv)
        simp [this, h7 x hx']
      have h9 := countP_erase_one (f := fun x => decide (¬ Av G x m) && decide (x ≠ m)) (g := fun x => decide (¬ Av G x m)) (k := m) n hml (by simp) (by simp; exact fun hh => hh.ne rfl) (fun x hx => by simp [hx])
      omega
    omega
  · exact h4 hv
end
end Tier
/-
  Plain: masks of what stands on each way: from all downwards to the greatest that is closed.
-/
namespace Tier
open Go Go.RowKit Go.Proofs.YtefbdecejoeamaaDoor
def andL (E : List Nat) (n : Nat) (l : List Nat) : Nat := l.foldl (fun acc q => acc &&& E.getD q 0) (2 ^ n - 1)
theorem andL_go (E : List Nat) (k : Nat) : ∀ (l : List Nat) (acc : Nat), (l.foldl (fun acc q => acc &&& E.getD q 0) acc).testBit k = (acc.testBit k && l.all fun q => (E.getD q 0).testBit k)
  | [], acc => by simp
  | q :: l, acc => by
    simp only [List.foldl_cons, List.all_cons]
    rw [andL_go E k l, Nat.testBit_and, Bool.and_assoc]
theorem andL_bit (E l : List Nat) (n k : Nat) : (andL E n l).testBit k = (decide (k < n) && l.all fun q => (E.getD q 0).testBit k) := by
  unfold andL; rw [andL_go, Nat.testBit_two_pow_sub_one]
theorem andL_succ (E l : List Nat) (n t q : Nat) (h : l[t]? = some q) : andL E n (l.take (t + 1)) = andL E n (l.take t) &&& E.getD q 0 := by
  unfold andL; rw [List.take_add_one, h]; simp [List.foldl_append]
theorem andL_lt (E : List Nat) (n : Nat) (l : List Nat) : andL E n l < 2 ^ n := by
  refine Nat.lt_pow_two_of_testBit _ fun k hk => ?_
  rw [andL_bit]; simp; intro h; omega
def stepV (E : List Nat) (n i : Nat) (l : List Nat) : Nat := andL E n l ||| 2 ^ i
theorem stepV_bit (E l : List Nat) (n i k : Nat) : (stepV E n i l).testBit k = true ↔ (k < n ∧ ∀ q ∈ l, (E.getD q 0).testBit k = true) ∨ k = i := by
  unfold stepV
  rw [Nat.testBit_or, andL_bit, Nat.testBit_two_pow]
  simp only [Bool.or_eq_true, Bool.and_eq_true, decide_eq_true_eq, List.all_eq_true]
  exact or_congr Iff.rfl ⟨fun h => h.symm, fun h => h.symm⟩
theorem stepV_lt {E l : List Nat} {n i : Nat} (h : i < n) : stepV E n i l < 2 ^ n := by
  refine Nat.lt_pow_two_of_testBit _ fun k hk => ?_
  rw [Bool.eq_false_iff]
  intro h2
  rcases (stepV_bit _ _ _ _ _).1 h2 with ⟨h3, -⟩ | h3 <;> omega
/-- While masks fall. P i: who leads to i. -/
structure AInv (G : Nat → Nat → Prop) (P : Nat → List Nat) (n : Nat) (E : List Nat) : Prop where
  len : E.length = n
  lt : ∀ m ∈ E, m < 2 ^ n
  zero : E[0]? = some 1
  post : ∀ i, i < n → i ≠ 0 → Sub (stepV E n i (P i)) (E.getD i 0)
  up : ∀ i k, i < n → ¬ Av G k i → (E.getD i 0).testBit k = true
def AFix (P : Nat → List Nat) (n : Nat) (E : List Nat) : Prop := ∀ i, i < n → i ≠ 0 → E.getD i 0 = stepV E n i (P i)
/-- The masks: just who stands on each way. -/
structure AOk (G : Nat → Nat → Prop) (n : Nat) (E : List Nat) : Prop where
  len : E.length = n
  lt : ∀ m ∈ E, m < 2 ^ n
  bit : ∀ i k, i < n → ((E.getD i 0).testBit k = true ↔ ¬ Av G k i)
theorem sub_lt {a b : Nat} (h : Sub a b) (hne : a ≠ b) : a < b := by
  have h1 := h.and
  have h2 := Nat.and_le_right (n := a) (m := b)
  omega
section
variable {G : Nat → Nat → Prop} {P : Nat → List Nat} {n : Nat} {E : List Nat}
theorem AInv.start (hG : DomB G n) (hn : 0 < n) : AInv G P n ((List.replicate n (2 ^ n - 1)).set 0 1) := by
  have hp := Nat.two_pow_pos n
  have hp1 : 1 < 2 ^ n := Nat.one_lt_two_pow (by omega)
  have hg : ∀ i, i < n → i ≠ 0 → ((List.replicate n (2 ^ n - 1)).set 0 1).getD i 0 = 2 ^ n - 1 := fun i hi h0 => by
    rw [getD_set (by simp; exact hn), if_neg h0, List.getD_eq_getElem?_getD, List.getElem?_replicate, if_pos hi]; rfl
  have hz : ((List.replicate n (2 ^ n - 1)).set 0 1).getD 0 0 = 1 := by rw [getD_set (by simp; exact hn), if_pos rfl]
  refine ⟨by simp, fun m hm => ?_, ?_, fun i hi h0 => ?_, fun i k hi hd => ?_⟩
  · rcases List.mem_or_eq_of_mem_set hm with hm | rfl
    · rw [(List.mem_replicate.1 hm).2]; omega
    · exact hp1
  · rw [List.getElem?_set_self (by simp; exact hn)]
  · rw [hg i hi h0]
    intro k hk
    rw [Nat.testBit_two_pow_sub_one, decide_eq_true_eq]
    rcases (stepV_bit _ _ _ _ _).1 hk with ⟨h3, -⟩ | h3 <;> omega
  · by_cases h0 : i = 0
    · subst h0
      rw [hz, dom_zero hd]; rfl
    · rw [hg i hi h0, Nat.testBit_two_pow_sub_one, decide_eq_true_eq]
      exact dom_lt hG hi hd
theorem stepV_mono {E E' : List Nat} (h : ∀ q, Sub (E.getD q 0) (E'.getD q 0)) (i : Nat) (l : List Nat) : Sub (stepV E n i l) (stepV E' n i l) := by
  intro k hk
  rw [stepV_bit] at hk ⊢
  rcases hk with ⟨h1, h2⟩ | h1
  · exact .inl ⟨h1, fun q hq => h q k (h2 q hq)⟩
  · exact .inr h1
theorem AInv.step (hG : DomB G n) (hP : ∀ i q, i < n → (q ∈ P i ↔ G q i)) (h : AInv G P n E) {i : Nat} (hi : i < n) (h0 : i ≠ 0) : AInv G P n (E.set i (stepV E n i (P i))) ∧ (stepV E n i (P i) ≠ E.getD i 0 → (E.set i (stepV E n i (P i))).sum < E.sum) := by
  have hl : i < E.length := by rw [h.len]; exact hi
  have hdn : ∀ q, Sub ((E.set i (stepV E n i (P i))).getD q 0) (E.getD q 0) := fun q => by
    rw [getD_set hl]
    split
    · next e => rw [e]; exact h.post i hi h0
    · exact fun k hk => hk
  refine ⟨⟨by simp [h.len], fun m hm => ?_, ?_, fun j hj hj0 => ?_, fun j k hj hd => ?_⟩, fun hne => ?_⟩
  · rcases List.mem_or_eq_of_mem_set hm with hm | rfl
    · exact h.lt m hm
    · exact stepV_lt hi
  · rw [List.getElem?_set_ne h0]; exact h.zero
  · rw [getD_set hl]
    split
    · next e => subst e; exact stepV_mono hdn _ _
    · exact fun k hk => h.post j hj hj0 k (stepV_mono hdn _ _ k hk)
  · rw [getD_set hl]
    split
    · next e =>
      subst e
      rw [stepV_bit]
      rcases (dom_step h0).1 hd with h1 | h1
      · exact .inr h1
      · exact .inl ⟨dom_lt hG hi hd, fun q hq => h.up q k (hG.lt ((hP j q hi).1 hq)).1 (h1 q ((hP j q hi).1 hq))⟩
    · exact h.up j k hj hd
  · have hget : E[i]? = some (E.getD i 0) := by rw [List.getD_eq_getElem?_getD, List.getElem?_eq_getElem hl]; rfl
    have hs := sum_set E i _ (stepV E n i (P i)) hget
    have hlt := sub_lt (h.post i hi h0) hne
    omega
theorem AInv.ok (hP : ∀ i q, i < n → (q ∈ P i ↔ G q i)) (h : AInv G P n E) (hf : AFix P n E) (hG : DomB G n) : AOk G n E := by
  refine ⟨h.len, h.lt, fun i k hi => ⟨fun hb hv => ?_, h.up i k hi⟩⟩
  have hz : ∀ k, (E.getD 0 0).testBit k = true → k = 0 := fun k hk => by
    rw [List.getD_eq_getElem?_getD, h.zero] at hk
    have : Nat.testBit (2 ^ 0) k = true := hk
    rw [Nat.testBit_two_pow, decide_eq_true_eq] at this
    exact this.symm
  have key : ∀ j, Av G k j → (E.getD j 0).testBit k = true → False := fun j hj => by
    induction hj with
    | zero h0 => intro hk; exact h0 (hz k hk).symm
    | step hq he hn ih =>
      rename_i q m
      intro hk
      by_cases h0 : m = 0
      · subst h0; exact hn (hz k hk).symm
      · obtain ⟨h1, h2⟩ := hG.lt he
        rw [hf m h2 h0, stepV_bit] at hk
        rcases hk with ⟨-, hk⟩ | hk
        · exact ih (hk q ((hP m q h2).2 he))
        · exact hn hk.symm
  exact key i hv hb
/-- The one next above, by masks. -/
theorem AOk.near (h : AOk G n E) (hG : DomB G n) {i k : Nat} (hi : i < n) (hk : k < n) (h0 : i ≠ 0) : (((E.getD i 0 - (E.getD i 0 &&& 2 ^ i)).testBit k = true ∧ E.getD k 0 = E.getD i 0 - (E.getD i 0 &&& 2 ^ i)) ↔ Idom G k i) := by
  have hbit : ∀ m, (E.getD i 0 - (E.getD i 0 &&& 2 ^ i)).testBit m = true ↔ m ≠ i ∧ ¬ Av G m i := fun m => by
    rw [andnot_bit, Bool.and_eq_true, Bool.not_eq_true', Nat.testBit_two_pow, h.bit i m hi]
    simp only [decide_eq_false_iff_not]
    exact ⟨fun ⟨h1, h2⟩ => ⟨fun e => h2 e.symm, h1⟩, fun ⟨h1, h2⟩ => ⟨h2, fun e => h1 e.symm⟩⟩
  constructor
  · rintro ⟨h1, h2⟩
    obtain ⟨h3, h4⟩ := (hbit k).1 h1
    exact ⟨h3, h4, fun m hm hd => (h.bit k m hk).1 (by rw [h2]; exact (hbit m).2 ⟨hm, hd⟩)⟩
  · intro hd
    refine ⟨(hbit k).2 ⟨hd.1, hd.2.1⟩, Nat.eq_of_testBit_eq fun m => ?_⟩
    rw [Bool.eq_iff_iff, h.bit k m hk, hbit]
    constructor
    · intro hm
      refine ⟨fun e => ?_, dom_trans hm hd.2.1⟩
      subst e
      exact hd.1 (dom_anti (hG.come k hk) hd.2.1 hm)
    · exact fun ⟨h5, h6⟩ => hd.2.2 m h5 h6
end
end Tier
/-
  Plain: the blocks of a function as a graph: each is come to; who leads to whom.
-/
namespace Tier
open Go Go.RowKit Go.Proofs.YtefbdecejoeamaaDoor
/-- Block q leads to block i. -/
def Edg (F : Fnc) (q i : Nat) : Prop := q < (hdL F).length ∧ i ∈ nxI F (hdA F q)
def prevN (F : Fnc) (k : Nat) : List Nat := (List.range (hdL F).length).flatMap fun q => ((nxI F (hdA F q)).filter (· == k)).map fun _ => q
theorem prevN_mem {F : Fnc} {q k : Nat} : q ∈ prevN F k ↔ Edg F q k := by
  unfold prevN Edg
  rw [List.mem_flatMap]
  constructor
  · rintro ⟨m, hm, h⟩
    rw [List.mem_map] at h
    obtain ⟨x, hx, rfl⟩ := h
    rw [List.mem_filter] at hx
    have : x = k := by simpa using hx.2
    subst this
    exact ⟨List.mem_range.1 hm, hx.1⟩
  · rintro ⟨h1, h2⟩
    exact ⟨q, List.mem_range.2 h1, List.mem_map.2 ⟨k, List.mem_filter.2 ⟨h2, by simp⟩, rfl⟩⟩
theorem natI_flat (l : List Nat) (f : Nat → List Nat) : natI (l.flatMap f) = l.flatMap fun q => natI (f q) := by
  unfold natI; rw [List.map_flatMap]
theorem prevF_nat (F : Fnc) (k : Nat) : prevF F k = (if k = 0 then [-1] else []) ++ natI (prevN F k) := by
  unfold prevF prevN
  rw [natI_flat]
  congr 1
  congr 1
  funext q
  unfold pickP natI
  rw [List.map_map]; rfl
theorem prevF_pos {F : Fnc} {k : Nat} (h : k ≠ 0) : prevF F k = natI (prevN F k) := by rw [prevF_nat, if_neg h]; rfl
section
variable {p : List Fnc} {F : Fnc}
theorem nxI_lt (hp : Right p) (hF : F ∈ p) {a i : Nat} (ha : a ∈ hdL F) (h : i ∈ nxI F a) : i < (hdL F).length := by
  unfold nxI at h
  rw [List.mem_map] at h
  obtain ⟨m, hm, rfl⟩ := h
  exact (List.getElem?_eq_some_iff.1 (posH_get (nxN_head hp hF ha hm))).1
theorem hdA_mem {F : Fnc} {q : Nat} (h : q < (hdL F).length) : hdA F q ∈ hdL F ∧ (hdL F)[q]? = some (hdA F q) := by
  have h1 : (hdL F)[q]? = some (hdL F)[q] := List.getElem?_eq_getElem h
  rw [hdA_eq h1]
  exact ⟨List.getElem_mem h, h1⟩
theorem posH_hdA {F : Fnc} {q : Nat} (h : q < (hdL F).length) : posH F (hdA F q) = q := (posH_of (hdA_mem h).2).symm
theorem hdA_posH {F : Fnc} {n : Nat} (h : n ∈ hdL F) : hdA F (posH F n) = n := hdA_eq (posH_get h)
theorem come_cov (hp : Right p) (hF : F ∈ p) {n : Nat} (h : Path F n) : ∃ a, a ∈ hdL F ∧ a ≤ n ∧ n < toF F a ∧ Come (Edg F) (posH F a) := by
  induction h with
  | zero =>
    have hz := zero_head hp hF
    have h0 := List.mem_of_getElem? hz
    refine ⟨0, h0, Nat.le_refl _, (toF_spec hp hF h0).1, ?_⟩
    rw [← posH_of hz]; exact .zero
  | step hq hx hn ih =>
    rename_i q n x
    obtain ⟨a, ha, h1, h2, h3⟩ := ih
    have hqr := path_rch hp hF hq
    by_cases he : q + 1 < toF F a
    · have ho := cov_end hp hF ha h1 he
      rw [insAt_eq hx] at ho
      have h5 : nextL x q = [q + 1] := by unfold nextL; rw [if_neg (by omega), if_neg (by omega), if_neg (by omega)]
      rw [h5] at hn
      obtain rfl := List.mem_singleton.1 hn
      exact ⟨a, ha, by omega, he, h3⟩
    · have hT : toF F a = q + 1 := by omega
      have hm : n ∈ nxN F a := by
        unfold nxN
        rw [hT, Nat.add_sub_cancel, insAt_eq hx]
        exact (nextS_mem _ _ _).2 hn
      have hnh := nxN_head hp hF ha hm
      refine ⟨n, hnh, Nat.le_refl _, (toF_spec hp hF hnh).1, .step h3 ⟨(List.getElem?_eq_some_iff.1 (posH_get ha)).1, ?_⟩⟩
      rw [hdA_posH ha]
      exact List.mem_map.2 ⟨n, hm, rfl⟩
theorem edg_dom (hp : Right p) (hF : F ∈ p) : DomB (Edg F) (hdL F).length := by
  refine ⟨fun i hi => ?_, fun {q i} h => ⟨h.1, nxI_lt hp hF (hdA_mem h.1).1 h.2⟩⟩
  obtain ⟨hm, hg⟩ := hdA_mem hi
  obtain ⟨hl, hr⟩ := head_rch hp hF hm
  obtain ⟨a, ha, h1, h2, h3⟩ := come_cov hp hF (rch_path hp hF hr)
  have he := cov_one hp hF ha hm h1 h2 (Nat.le_refl _) (toF_spec hp hF hm).1
  rw [he, posH_hdA hi] at h3
  exact h3
end
end Tier
/-
  The contract of flow.nearest: the block next above, out of the masks; masks in memory.
-/
namespace Tier
open Go Go.RowKit
theorem pow_small {i : Nat} (h : i ≤ 40) : 2 ^ i ≤ 1099511627776 := by
  have := Nat.pow_le_pow_right (n := 2) (by omega) h
  omega
theorem shl_u64 (i : Nat) (h : i ≤ 40) : IntKind.u64.wrap (2 ^ i) = ((2 ^ i : Nat) : Int) := by
  have hp := pow_small h
  have : ((2 : Int) ^ i) = ((2 ^ i : Nat) : Int) := by push_cast; rfl
  rw [this, IntKind.wrap_u64]
  generalize 2 ^ i = k at *
  omega
theorem andNot_u64 (a m : Nat) (ha : a < 18446744073709551616) (hm : m < 18446744073709551616) : bits .andNot .u64 (a : Int) (m : Int) = ((a - (a &&& m) : Nat) : Int) := by
  have h1 : (BitVec.ofInt 64 (a : Int)).toNat = a := by
    rw [BitVec.ofInt_natCast, BitVec.toNat_ofNat]; exact Nat.mod_eq_of_lt (by omega)
  have h2 : (BitVec.ofInt 64 (m : Int)).toNat = m := by
    rw [BitVec.ofInt_natCast, BitVec.toNat_ofNat]; exact Nat.mod_eq_of_lt (by omega)
  have hu : (BitVec.ofInt 64 (a : Int) &&& ~~~ BitVec.ofInt 64 (m : Int)).toNat = a - (a &&& m) := by
    apply Nat.eq_of_testBit_eq
    intro i
    rw [andnot_bit, BitVec.testBit_toNat, BitVec.getLsbD_and, BitVec.getLsbD_not, ← BitVec.testBit_toNat, ← BitVec.testBit_toNat, h1, h2]
    by_cases hi : i < 64
    · simp [hi]
    · have : a.testBit i = false := Nat.testBit_lt_two_pow (Nat.lt_of_lt_of_le (show a < 2 ^ 64 by omega) (Nat.pow_le_pow_right (by omega) (by omega)))
      simp [this]
  show IntKind.u64.wrap ((BitVec.ofInt 64 (a : Int) &&& ~~~ BitVec.ofInt 64 (m : Int)).toNat : Int) = _
  have := Nat.sub_le a (a &&& m)
  rw [hu, IntKind.wrap_u64]
  omega
theorem div_pow_nat (a m : Nat) : (a : Int) / 2 ^ m = ((a / 2 ^ m : Nat) : Int) := by push_cast; rfl
theorem testBit_mod (a m : Nat) : a.testBit m = decide (a / 2 ^ m % 2 = 1) := Nat.testBit_eq_decide_div_mod_eq
end Tier
namespace Go.Proofs.YtefbdecejoeamaaDoor
open Go.RowKit Tier
def U64B (w : World) (b : Nat) (l : List Nat) : Prop := w.heap[b]? = some (.cells (l.map fun (m : Nat) => Value.int .u64 (m : Int)).toArray 124 (0, 0))
theorem U64B.lt {w : World} {b : Nat} {l : List Nat} (h : U64B w b l) : b < w.heap.size := (Array.getElem?_eq_some_iff.1 h).1
theorem U64B.cell {w : World} {b : Nat} {l : List Nat} (h : U64B w b l) {i x : Nat} (hx : l[i]? = some x) : w.cell? ⟨b, i, none⟩ = some (.int .u64 (x : Int)) := by
  rw [cell_block h]; simp [hx]
theorem U64B.frozen {w : World} {b : Nat} {l : List Nat} (h : U64B w b l) (i : Nat) : w.frozen? ⟨b, i, none⟩ = false := frozen_block h i
theorem U64B.keeps {w w' : World} {b : Nat} {l : List Nat} (h : U64B w b l) (hb : Below w.heap.size w w') : U64B w' b l := (hb.block _ h.lt).trans h
theorem U64B.set {w : World} {b : Nat} {l : List Nat} (h : U64B w b l) (i x : Nat) : U64B (w.setCell ⟨b, i, none⟩ (.int .u64 (x : Int))) b (l.set i x) := by
  unfold U64B
  rw [block_set h i]
  simp [List.map_set]
set_option maxRecDepth 100000 in
set_option maxHeartbeats 8000000 in
theorem nearest_any (E : List Nat) (b n i ab k : Nat) (w : World) (h : U64B w b E) (hn : E.length = n) (hi : i < n) (hn4 : n ≤ 40) (hlt : ∀ m ∈ E, m < 2 ^ n)
    (hab : E.getD i 0 - (E.getD i 0 &&& 2 ^ i) = ab) (hk : k < n) (hkk : ab.testBit k = true ∧ E.getD k 0 = ab) (hmin : ∀ m, m < k → ¬ (ab.testBit m = true ∧ E.getD m 0 = ab)) :
    Calls Tryd.prog 71 #[.slice (some ⟨b, 0, none⟩) n n, .int .i64 (i : Int)] w fun e w' => e = .returned (.int .i64 (k : Int)) ∧ ∃ q, w' = w.drewN q := by
  have zb := h.lt
  have hg : ∀ j, j < n → E[j]? = some (E.getD j 0) := fun j hj => by rw [List.getD_eq_getElem?_getD, List.getElem?_eq_getElem (by omega)]; rfl
  have hsm : ∀ j, E.getD j 0 < 1099511627776 := fun j => by
    have hp := pow_small hn4
    rw [List.getD_eq_getElem?_getD]
    cases hh : E[j]? with
    | none => simp
    | some m => have := hlt m (List.mem_of_getElem? hh); simp; omega
  have c0 := h.cell (hg i hi)
  have hx := hsm i
  have hpi := pow_small (i := i) (by omega)
  have sh := shl_u64 i (by omega)
  have han := andNot_u64 (E.getD i 0) (2 ^ i) (by omega) (by omega)
  rw [hab] at han
  have habl : ab < 1099511627776 := by rw [← hab]; exact Nat.lt_of_le_of_lt (Nat.sub_le _ _) hx
  obtain ⟨P, hP⟩ : ∃ P, 2 ^ i = P := ⟨_, rfl⟩
  rw [hP] at sh han
  obtain ⟨x, hxe⟩ : ∃ x, E.getD i 0 = x := ⟨_, rfl⟩
  rw [hxe] at c0 han
  have i0 : (0 : Int) ≤ i := by omega
  have i1 : (i : Int) < n := by omega
  have i2 : (i : Int) < 64 := by omega
  have i3 : i < 64 := by omega
  have H := Lib.hid h
  have HG := Lib.hid hg
  have HSM := Lib.hid hsm
  have HKK := Lib.hid hkk
  have HMIN := Lib.hid hmin
  clear h hg hsm hkk hmin hab hlt hx hpi hP hxe hn hi
  go_enter Tryd.func71, Tryd.ntmps71
  go_wp2_with fail
  go_quiet (fail)
  go_wp2_with fail
  clear c0 sh han i0 i1 i2 i3
  go_loop [16] (fun v => ∃ m : Nat, m ≤ k ∧ v = .int .i64 (m : Int)) (fun v => n - (intOf v).toNat)
  case atStart => exact ⟨0, by omega, rfl⟩
  case round =>
    obtain ⟨m, hm, rfl⟩ := hrel
    have m0 : (0 : Int) ≤ m := by omega
    have m1 : (m : Int) < n := by omega
    have m2 : (m : Int) < 64 := by omega
    have m3 : m < 64 := by omega
    have m4 : m < n := by omega
    have hdv := div_pow_nat ab m
    have hql : ab / 2 ^ m ≤ ab := Nat.div_le_self _ _
    have htb := testBit_mod ab m
    obtain ⟨q, hq⟩ : ∃ q, ab / 2 ^ m = q := ⟨_, rfl⟩
    rw [hq] at hdv hql htb
    have hba := bits_and_u64_nat q 1 (by omega) (by omega)
    rw [Nat.and_one_is_mod] at hba
    have hba' : bits .and .u64 (q : Int) 1 = ((q % 2 : Nat) : Int) := hba
    clear hba hq hql
    by_cases hb : q % 2 = 1
    · rw [hb] at hba' htb
      have hb1 : bits .and .u64 (q : Int) 1 = 1 := hba'
      have cm := H.out.cell (HG.out m m4)
      by_cases he : E.getD m 0 = ab
      · have hmk : m = k := by
          by_cases e : m = k
          · exact e
          · exact absurd ⟨by rw [htb]; rfl, he⟩ (HMIN.out m (by omega))
        subst hmk
        rw [he] at cm
        clear htb hba' he hm
        go_wp2_with fail
        go_ret
        exact ⟨rfl, _, rfl⟩
      · obtain ⟨y, hy⟩ : ∃ y, E.getD m 0 = y := ⟨_, rfl⟩
        rw [hy] at cm he
        have hne : ((y : Int) == (ab : Int)) = false := beq_eq_false_iff_ne.2 (by omega)
        have hne2 : ¬ ((y : Int) = (ab : Int)) := by omega
        have hmk : m ≠ k := fun e => by subst e; exact he (hy ▸ HKK.out.2)
        clear htb hba' he hy
        go_wp2_with fail
        go_round
        case rel => exact ⟨m + 1, by omega, by go_num⟩
        case measure => simp [intOf]; omega
    · have hb0 : q % 2 = 0 := by omega
      rw [hb0] at hba' htb
      have hb1 : bits .and .u64 (q : Int) 1 = 0 := hba'
      have hmk : m ≠ k := fun e => by
        subst e
        have := HKK.out.1
        rw [htb] at this; cases this
      clear htb hba' hb hb0
      go_wp2_with fail
      go_round
      case rel => exact ⟨m + 1, by omega, by go_num⟩
      case measure => simp [intOf]; omega
end Go.Proofs.YtefbdecejoeamaaDoor
/-
  Plain: a loop: its head, and all that come to the block that leads back without it. No program is in sight.
-/
namespace Tier
open Go Go.RowKit Go.Proofs.YtefbdecejoeamaaDoor
/-- From x one comes to back without the head. -/
inductive Ret (G : Nat → Nat → Prop) (head back : Nat) : Nat → Prop
  | base : Ret G head back back
  | step {q x : Nat} (h : Ret G head back x) (hx : x ≠ head) (he : G q x) : Ret G head back q
theorem Ret.dom {G : Nat → Nat → Prop} {head back x : Nat} (h : Ret G head back x) (hd : ¬ Av G head back) : ¬ Av G head x := by
  induction h with
  | base => exact hd
  | step _ hx he ih => exact fun hv => ih (.step hv he hx)
structure LoopR (F : Fnc) (head back : Nat) (row : List Nat) : Prop where
  at_ : ∃ rest, row = head :: rest ∧ rest.Pairwise (· < ·) ∧ ∀ b ∈ rest, b < (hdL F).length ∧ b ≠ head ∧ Ret (Edg F) head back b ∧ ∀ q, Edg F q b → q ∈ row
def bB (c : List Bool) (i : Nat) : Bool := c.getD i false
theorem bB_set {out : List Bool} {k : Nat} (hk : k < out.length) (i : Nat) : bB (out.set k true) i = if i = k then true else bB out i := by
  unfold bB
  rw [List.getD_eq_getElem?_getD, List.getD_eq_getElem?_getD, List.getElem?_set]
  by_cases h : k = i
  · subst h; simp [hk]
  · rw [if_neg h, if_neg (fun e => h e.symm)]
def fls (l : List Bool) : Nat := (l.map fun b => if b = true then 0 else 1).sum
theorem fls_set : ∀ (l : List Bool) (k : Nat), k < l.length → bB l k = false → fls (l.set k true) + 1 = fls l
  | [], k, h, _ => by simp at h
  | b :: l, 0, _, h => by
    have hb : b = false := h
    subst hb
    simp [fls]; omega
  | b :: l, k + 1, h, h2 => by
    have := fls_set l k (by simpa using h) h2
    simp [fls] at *; omega
theorem fls_le (l : List Bool) : fls l ≤ l.length := by
  induction l with
  | nil => simp [fls]
  | cons b l ih => simp [fls] at *; split <;> omega
def muQ (n : Nat) (ins : List Bool) (todo : List Nat) : Nat := fls ins * (4 + 2 * n) + todo.length
structure LI (F : Fnc) (head back : Nat) (ins : List Bool) (todo : List Nat) : Prop where
  len : ins.length = (hdL F).length
  hd : bB ins head = true
  mem : ∀ x, bB ins x = true → x = head ∨ Ret (Edg F) head back x
  td : ∀ x ∈ todo, x < (hdL F).length ∧ Ret (Edg F) head back x
  cl : ∀ x q, bB ins x = true → x ≠ head → Edg F q x → bB ins q = true ∨ q ∈ todo
section
variable {F : Fnc} {head back i : Nat} {ins : List Bool} {todo : List Nat}
theorem bB_lt (h : bB ins i = true) : i < ins.length := by
  rcases Nat.lt_or_ge i ins.length with h1 | h1
  · exact h1
  · unfold bB at h; rw [List.getD_eq_getElem?_getD, List.getElem?_eq_none h1] at h; simp at h
theorem LI.start {n : Nat} (hn : (hdL F).length = n) (hh : head < n) (hb : back < n) : LI F head back ((List.replicate n false).set head true) [back] := by
  have hs := bB_set (out := List.replicate n false) (k := head) (by simp; exact hh)
  have h0 : ∀ x, bB (List.replicate n false) x = false := fun x => by
    unfold bB; rw [List.getD_eq_getElem?_getD, List.getElem?_replicate]; split <;> rfl
  refine ⟨by simp [hn], by rw [hs, if_pos rfl], fun x hx => ?_, fun x hx => ?_, fun x q hx hne => ?_⟩
  · rw [hs, h0] at hx
    by_cases e : x = head
    · exact .inl e
    · rw [if_neg e] at hx; cases hx
  · rw [List.mem_singleton.1 hx, hn]; exact ⟨hb, .base⟩
  · rw [hs, h0, if_neg hne] at hx; cases hx
theorem LI.pop (h : LI F head back ins (todo ++ [i])) (hi : bB ins i = true) : LI F head back ins todo :=
  ⟨h.len, h.hd, h.mem, fun x hx => h.td x (by simp [hx]), fun x q hx hne hE => by
    rcases h.cl x q hx hne hE with h1 | h1
    · exact .inl h1
    · rcases List.mem_append.1 h1 with h2 | h2
      · exact .inr h2
      · rw [List.mem_singleton.1 h2]; exact .inl hi⟩
theorem LI.visit (h : LI F head back ins (todo ++ [i])) (hi : bB ins i = false) : LI F head back (ins.set i true) (todo ++ prevN F i) ∧ i < (hdL F).length ∧ i ≠ head := by
  obtain ⟨h1, h2⟩ := h.td i (by simp)
  have hl : i < ins.length := by rw [h.len]; exact h1
  have hs := bB_set hl
  have hne : i ≠ head := fun e => by rw [e, h.hd] at hi; cases hi
  refine ⟨⟨by simp [h.len], by rw [hs, h.hd]; simp, fun x hx => ?_, fun x hx => ?_, fun x q hx hx2 hE => ?_⟩, h1, hne⟩
  · rw [hs] at hx
    by_cases e : x = i
    · rw [e]; exact .inr h2
    · rw [if_neg e] at hx; exact h.mem x hx
  · rcases List.mem_append.1 hx with h3 | h3
    · exact h.td x (by simp [h3])
    · have hE := prevN_mem.1 h3
      exact ⟨hE.1, .step h2 hne hE⟩
  · rw [hs] at hx
    rw [hs]
    by_cases e : x = i
    · rw [e] at hE
      exact .inr (List.mem_append_right _ (prevN_mem.2 hE))
    · rw [if_neg e] at hx
      rcases h.cl x q hx hx2 hE with h3 | h3
      · left; split
        · rfl
        · exact h3
      · rcases List.mem_append.1 h3 with h4 | h4
        · exact .inr (List.mem_append_left _ h4)
        · rw [List.mem_singleton.1 h4]; left; simp
def restL (ins : List Bool) (head k : Nat) : List Nat := (List.range k).filter fun i => bB ins i && (i != head)
theorem restL_succ (ins : List Bool) (head k : Nat) : restL ins head (k + 1) = restL ins head k ++ if (bB ins k && (k != head)) = true then [k] else [] := by
  unfold restL
  rw [List.range_succ, List.filter_append, List.filter_cons, List.filter_nil]
theorem LI.done (h : LI F head back ins []) {n : Nat} (hn : (hdL F).length = n) : LoopR F head back (head :: restL ins head n) := by
  refine ⟨_, rfl, List.Pairwise.filter _ List.pairwise_lt_range, fun b hb => ?_⟩
  unfold restL at hb
  rw [List.mem_filter, Bool.and_eq_true] at hb
  obtain ⟨h1, h2, h3⟩ := hb
  have hne : b ≠ head := by simpa using h3
  refine ⟨by rw [hn]; exact List.mem_range.1 h1, hne, (h.mem b h2).resolve_left hne, fun q hE => ?_⟩
  rcases h.cl b q h2 hne hE with h4 | h4
  · by_cases e : q = head
    · rw [e]; simp
    · refine List.mem_cons_of_mem _ (List.mem_filter.2 ⟨List.mem_range.2 (by rw [← hn]; exact hE.1), ?_⟩)
      simp [h4, e]
  · cases h4
theorem mu_visit {n : Nat} (hl : i < ins.length) (hi : bB ins i = false) (hp : (prevN F i).length ≤ 3 + 2 * n) : muQ n (ins.set i true) (todo ++ prevN F i) < muQ n ins (todo ++ [i]) := by
  have h1 := fls_set ins i hl hi
  unfold muQ
  rw [← h1, Nat.add_mul]
  simp; omega
theorem mu_skip {n : Nat} : muQ n ins todo < muQ n ins (todo ++ [i]) := by unfold muQ; simp
theorem mu_start' {n : Nat} (h : n ≤ 40) : muQ n ((List.replicate n false).set head true) [back] ≤ 4000 := by
  have h1 := fls_le ((List.replicate n false).set head true)
  simp at h1
  have h2 : fls ((List.replicate n false).set head true) * (4 + 2 * n) ≤ 40 * 84 := Nat.mul_le_mul (by omega) (by omega)
  unfold muQ
  simp; omega
theorem todo_le {n : Nat} : todo.length ≤ muQ n ins todo := by unfold muQ; omega
end
end Tier
/-
  The contract of flow.loop.
-/
namespace Tier
open Go Go.RowKit Go.Proofs.YtefbdecejoeamaaDoor
theorem prevL_len (F : Fnc) {k : Nat} (h : k ≠ 0) : (prevN F k).length ≤ 3 + 2 * (hdL F).length := by
  have h1 := prevTo_len F (hdL F).length 0 k
  rw [prevTo_zero] at h1
  have h2 : (prevF F k).length = (prevN F k).length := by rw [prevF_pos h, natI_length]
  rw [← h2]; exact h1
end Tier
namespace Go.Proofs.YtefbdecejoeamaaDoor
open Go.RowKit Tier
def BolB (w : World) (b : Nat) (l : List Bool) : Prop := w.heap[b]? = some (.cells (l.map Value.bool).toArray 4 (0, 0))
theorem BolB.lt {w : World} {b : Nat} {l : List Bool} (h : BolB w b l) : b < w.heap.size := (Array.getElem?_eq_some_iff.1 h).1
theorem BolB.cell {w : World} {b : Nat} {l : List Bool} (h : BolB w b l) {i : Nat} (hi : i < l.length) : w.cell? ⟨b, i, none⟩ = some (.bool (bB l i)) := by
  rw [cell_block h, List.getElem?_toArray, List.getElem?_map, List.getElem?_eq_getElem hi]
  unfold bB; rw [List.getD_eq_getElem?_getD, List.getElem?_eq_getElem hi]; rfl
theorem BolB.frozen {w : World} {b : Nat} {l : List Bool} (h : BolB w b l) (i : Nat) : w.frozen? ⟨b, i, none⟩ = false := frozen_block h i
theorem BolB.keeps {w w' : World} {b : Nat} {l : List Bool} (h : BolB w b l) (hb : Below w.heap.size w w') : BolB w' b l := (hb.block _ h.lt).trans h
theorem BolB.set {w : World} {b : Nat} {l : List Bool} (h : BolB w b l) (i : Nat) (x : Bool) : BolB (w.setCell ⟨b, i, none⟩ (.bool x)) b (l.set i x) := by
  unfold BolB at *
  simp only [World.setCell, Array.getElem?_modify, if_true, h, Option.map_some]
  simp [List.map_set]
theorem infoBol : (Tryd.prog.info? 4).map (fun i => (i.zero, i.size, i.bytes)) = some (some (.bool false), 1, 1) := by kernel_rfl
theorem make_bols (N : Nat) (hN : N ≤ 40) (w : World) : (Instr.makeSlice 89 (.int .i64 (N : Int)) (.int .i64 (N : Int))).run Tryd.prog w = .ok (.slice (some ⟨w.heap.size, 0, none⟩) N N) (w.alloc (.cells (madeCells #[.bool false] N) 4)) := by
  have := run_make_row' (P := Tryd.prog) 89 4 (.bool false) 1 Tryd.underlying89 infoBol rfl .i64 .i64 N (by omega) (by omega) w
  exact this
theorem made_bo (n : Nat) : madeCells #[Value.bool false] n = ((List.replicate n false).map Value.bool).toArray := by
  apply Array.ext_getElem?
  intro i
  simp only [madeCells, List.map_replicate]
  by_cases h : i < n
  · simp [h, Nat.mod_one]
  · simp [h]
/-- Between two steps: which are in, the list that is worked off. -/
structure LoW (w wr : World) (A : Option Addr) (cap : Nat) (ins : List Bool) (todo : List Nat) : Prop where
  ins : BolB wr w.heap.size ins
  todo : wr.ownsRow (w.heap.size + 1) 3 1 (.slice A todo.length cap) todo.length ((natI todo).map (Value.int .i64))
  below : Below w.heap.size w wr
section
variable {w wr : World} {A : Option Addr} {cap : Nat} {ins : List Bool} {todo : List Nat}
theorem LoW.start (w : World) (N head back : Nat) : LoW w ((w.alloc (.cells ((madeCells #[Value.bool false] N).setIfInBounds head (.bool true)) 4)).alloc (.cells #[.int .i64 (back : Int)] 3)) (some ⟨w.heap.size + 1, 0, none⟩) 1 ((List.replicate N false).set head true) [back] := by
  refine ⟨?_, ?_, ?_⟩
  · unfold BolB
    rw [Below.heap_alloc _ _ _ (by simp), heap_alloc_new, made_bo]
    simp [List.map_set]
    rw [← List.toArray_replicate, List.setIfInBounds_toArray]
  · refine ⟨by simp [natI], .inr ⟨w.heap.size + 1, 1, #[.int .i64 (back : Int)], rfl, by omega, ?_, by simp, by unfold maxLen; omega, by simp, by simp [natI]⟩⟩
    have := heap_alloc_new (w.alloc (.cells ((madeCells #[Value.bool false] N).setIfInBounds head (.bool true)) 4)) (.cells #[.int .i64 (back : Int)] 3)
    simpa using this
  · repeat (first | exact hb | exact Below.refl _ _ | apply Below.drew | apply below_drewN | refine Below.alloc ?_ (by first | omega | (simp; done) | (simp; omega)) _ | refine Below.setCell ?_ (by first | omega | (simp; done) | (simp; omega)) _)
theorem LoW.pop {i : Nat} (h : LoW w wr A cap ins (todo ++ [i])) : LoW w wr A cap ins todo := by
  refine ⟨h.ins, ?_, h.below⟩
  have := h.todo
  rw [show (todo ++ [i]).length = todo.length + 1 by simp] at this
  have := own_pop this
  have e : ((natI (todo ++ [i])).map (Value.int .i64)).take todo.length = (natI todo).map (Value.int .i64) := by
    have e2 : todo.length = ((natI todo).map (Value.int .i64)).length := by simp [natI]
    rw [e2]; simp [natI]
  rw [e] at this; exact this
theorem LoW.room (h : LoW w wr A cap ins todo) (hne : todo ≠ []) : todo.length ≤ cap := by
  rcases h.todo.2 with ⟨h2, -⟩ | ⟨g, cap', cur, hv, hg, hh, hn, hc, hs, ht⟩
  · simp only [Value.slice.injEq] at h2; exact absurd (List.eq_nil_of_length_eq_zero h2.2.1) hne
  · simp only [Value.slice.injEq] at hv
    obtain ⟨-, -, rfl⟩ := hv
    exact hn
theorem LoW.at {i : Nat} (h : LoW w wr A cap ins (todo ++ [i])) : ∃ ga, A = some ⟨ga, 0, none⟩ ∧ ga < wr.heap.size ∧ wr.cell? ⟨ga, todo.length, none⟩ = some (.int .i64 i) := by
  obtain ⟨A0, cap0, hA0, hA⟩ := own_slice h.todo
  simp only [Value.slice.injEq, true_and] at hA0
  obtain ⟨ga, h1, h2, h3⟩ := hA (by simp)
  refine ⟨ga, by rw [hA0.1, h1], h2, ?_⟩
  rw [h3 todo.length (by simp)]
  simp [natI]
theorem LoW.keeps {w' : World} (h : LoW w wr A cap ins todo) (hb : Below wr.heap.size wr w') : LoW w w' A cap ins todo :=
  ⟨h.ins.keeps hb, own_below h.todo hb, h.below.trans (hb.mono h.below.size)⟩
theorem LoW.visit (h : LoW w wr A cap ins todo) (i : Nat) : LoW w (wr.setCell ⟨w.heap.size, i, none⟩ (.bool true)) A cap (ins.set i true) todo :=
  ⟨h.ins.set i true, own_setCell h.todo (by simp) _, h.below.setCell (Nat.le_refl _) _⟩
theorem LoW.push (h : LoW w wr A cap ins todo) (n : Nat) {w1 : World} {A' : Option Addr} {cap' : Nat}
    (hg : (wr.alloc (.cells #[.int .i64 (n : Int)] 3)).grownBy w1 (Value.slice A todo.length cap).ownBlock)
    (ho : w1.ownsRow (w.heap.size + 1) 3 1 (.slice A' (todo.length + 1) cap') (todo.length + 1) ((natI todo).map (Value.int .i64) ++ [.int .i64 (n : Int)])) :
    LoW w w1 A' cap' ins (todo ++ [n]) := by
  have hs := h.ins.lt
  have hrow : ∀ k, (Value.slice A todo.length cap).ownBlock = some k → w.heap.size + 1 ≤ k := fun k hk => (World.ownsRow.lt h.todo k hk).1
  have hlen : (todo ++ [n]).length = todo.length + 1 := by simp
  refine ⟨?_, ?_, ?_⟩
  · unfold BolB
    rw [hg.block _ (by simp; omega) (fun e => by have := hrow _ e.symm; omega), Below.heap_alloc _ _ _ hs]
    exact h.ins
  · rw [hlen]; simpa [natI] using ho
  · exact (h.below.alloc h.below.size _).grown hg (by simp; omega) (fun k hk => by have := hrow k hk; omega)
end
theorem row_app {w wr w1 : World} {ins : List Bool} {A : Option Addr} {cap T : Nat} {xs : List Value} {o : Obj} (h : BolB wr w.heap.size ins) (hb : Below w.heap.size w wr) (ho : wr.ownsRow (w.heap.size + 1) 3 1 (.slice A T cap) T xs) (hg : (wr.alloc o).grownBy w1 (Value.slice A T cap).ownBlock) : BolB w1 w.heap.size ins ∧ Below w.heap.size w w1 := by
  have hrow : ∀ k, (Value.slice A T cap).ownBlock = some k → w.heap.size + 1 ≤ k := fun k hk => (World.ownsRow.lt ho k hk).1
  have hs := h.lt
  refine ⟨?_, (hb.alloc hb.size _).grown hg (by simp; omega) (fun k hk => by have := hrow k hk; omega)⟩
  unfold BolB
  rw [hg.block _ (by simp; omega) (fun e => by have := hrow _ e.symm; omega), Below.heap_alloc _ _ _ hs]
  exact h
set_option maxRecDepth 100000 in
set_option maxHeartbeats 8000000 in
theorem loop_any (p : List Fnc) (F : Fnc) (gb Bb : Nat) (bs : List BR) (head back : Nat) (w : World) (hp : Right p) (hF : F ∈ p) (hBB : BlkB w gb Bb bs) (hOB : BlkOk F bs) (hh : head < (hdL F).length) (hb : back < (hdL F).length) (hd : ¬ Av (Edg F) head back) :
    Calls Tryd.prog 73 #[.slice (some ⟨gb, 0, none⟩) (hdL F).length (hdL F).length, .int .i64 (head : Int), .int .i64 (back : Int)] w fun e w' =>
      (∃ v row, e = .returned v ∧ OwnI w' w.heap.size v (natI row) ∧ LoopR F head back row) ∧ Below w.heap.size w w' := by
  obtain ⟨H, hH⟩ : ∃ H, (hdL F).length = H := ⟨_, rfl⟩
  have HH := Lib.hid hH
  have hHM : H ≤ 40 := by have h0 := (hp.ok.fn F hF).c2; have h1 := hdTo_len F F.code.length; have h2 : hdTo F F.code.length = hdL F := rfl; rw [h2, hH] at h1; omega
  rw [hH] at hh hb ⊢
  have HST := Lib.hid (LI.start hH hh hb)
  have HMU := Lib.hid (mu_start' (head := head) (back := back) hHM)
  have HBB := Lib.hid hBB
  have HOB := Lib.hid hOB
  have HGB := Lib.hid (block_lt hBB.blk)
  have HDM := Lib.hid hd
  have hmk := make_bols H hHM
  obtain ⟨i0, hi, hz0, hz1, hz2⟩ := info_parts infoInt
  have hmz : (madeCells #[Value.bool false] H)[head]? = some (.bool false) := by
    rw [made_bo]; simp [hh]
  have hh1 : (head : Int) < H := by omega
  have hh2 : (0 : Int) ≤ head := by omega
  have HHD := Lib.hid hh
  clear hp hF hBB hOB hd hH hb
  go_enter Tryd.func73, Tryd.ntmps73
  go_wp2_with fail
  have HW0 := Lib.hid (LoW.start w H head back)
  clear hmk hmz
  go_loopg [8] (muQ H ((List.replicate H false).set head true) [back]) (fun q v wr => ∃ (A1 : Option Addr) (cap1 : Nat) (ins : List Bool) (todo : List Nat), LI F head back ins todo ∧ muQ H ins todo ≤ 4000 ∧ q = muQ H ins todo ∧ v = .slice A1 todo.length cap1 ∧ LoW w wr A1 cap1 ins todo)
  case atStart => exact ⟨_, 1, _, _, HST.out, HMU.out, rfl, rfl, HW0.out⟩
  case round =>
    obtain ⟨A1, cap1, ins, todo, hI, hmu, rfl, rfl, hW⟩ := hrel
    clear HW0 HST HMU
    have HW := Lib.hid hW
    have HI := Lib.hid hI
    have z1 := hW.ins.lt
    rcases List.eq_nil_or_concat todo with he | ⟨l, i, he⟩
    · subst he
      have HIL := Lib.hid (show ins.length = H by rw [hI.len, HH.out])
      rw [show ([] : List Nat).length = 0 from rfl]
      clear hI hW hmu
      go_wp2_with fail
      obtain ⟨w5, hw5⟩ : ∃ w5 : World, w5 = wr := ⟨_, rfl⟩
      subst hw5
      have HR0 := Lib.hid (show OwnI (w5.alloc (.cells #[.int .i64 (head : Int)] 3)) (w.heap.size + 1) (.slice (some ⟨w5.heap.size, 0, none⟩) 1 1) (natI [head]) from ⟨by simp [natI], .inr ⟨w5.heap.size, 1, _, rfl, by omega, heap_alloc_new _ _, by simp [natI], by unfold maxLen; omega, by simp, by simp [natI]⟩⟩)
      have HB0 := Lib.hid ((Below.refl w5.heap.size w5).alloc (Nat.le_refl _) (.cells #[.int .i64 (head : Int)] 3))
      clear z1
      go_loopw [12, 65] (fun vl vi wi => ∃ (t : Nat) (A4 : Option Addr) (cap4 : Nat), t ≤ H ∧ vi = .int .i64 (t : Int) ∧ vl = .slice A4 (head :: restL ins head t).length cap4 ∧ OwnI wi (w.heap.size + 1) (.slice A4 (head :: restL ins head t).length cap4) (natI (head :: restL ins head t)) ∧ BolB wi w.heap.size ins ∧ Below w.heap.size w wi) (fun _ vi _ => H - (intOf vi).toNat)
      case atStart => exact ⟨0, _, 1, by omega, rfl, rfl, HR0.out, HW.out.ins.keeps HB0.out, HW.out.below.trans (HB0.out.mono HW.out.below.size)⟩
      case round =>
        obtain ⟨t, A4, cap4, ht, rfl, rfl, hO, hB, hbw⟩ := hrel
        clear HR0 HB0
        have HO := Lib.hid hO
        have HB := Lib.hid hB
        have HBW := Lib.hid hbw
        by_cases htH : t = H
        · obtain rfl : H = t := htH.symm
          clear hO hB hbw
          go_wp2_with fail
          go_ret
          exact ⟨⟨_, rfl, _, own_base0 HO.out (Nat.le_succ _), HI.out.done HH.out⟩, HBW.out⟩
        · have t1 : (t : Int) < H := by omega
          have t2 : (0 : Int) ≤ t := by omega
          have ct := hB.cell (i := t) (by rw [HIL.out]; omega)
          have zt := hB.lt
          have hrl := restL_succ ins head t
          have HLEN := Lib.hid (show (restL ins head t).length ≤ t from by unfold restL; exact Nat.le_trans (List.length_filter_le _ _) (by simp))
          by_cases hin : (bB ins t && (t != head)) = true
          · rw [if_pos hin] at hrl
            rw [Bool.and_eq_true] at hin
            obtain ⟨hin1, hin2⟩ := hin
            rw [hin1] at ct
            have hne : ((t : Int) != (head : Int)) = true := bne_iff_ne.2 (fun e => absurd (show t = head by omega) (by simpa using hin2))
            obtain ⟨T, hT⟩ : ∃ T, (head :: restL ins head t).length = T := ⟨_, rfl⟩
            have hTB : T ≤ 5000 := by rw [← hT]; have := HLEN.out; simp; omega
            have HT := Lib.hid hT
            have HRL := Lib.hid (show head :: restL ins head (t + 1) = (head :: restL ins head t) ++ [t] by rw [hrl]; rfl)
            have HTD := Lib.hid (show wr.ownsRow (w.heap.size + 1) 3 1 (.slice A4 T cap4) T ((natI (head :: restL ins head t)).map (Value.int .i64)) from by have h := hO; unfold OwnI at h; rw [natI_length, hT] at h; exact h)
            rw [hT]
            clear hT hO hB hbw hin1 hin2 hrl htH
            go_wp2_with (at_builtin; go_must (refine wpList_append_own _ rfl _ _ 40 rfl (w.heap.size + 1) 3 i0 _ 1 8 Tryd.underlying40 hi hz0 hz1 hz2 rfl (by decide) (.slice A4 T cap4) T ((natI (head :: restL ins head t)).map (Value.int .i64)) rfl (own_below HTD.out ((Below.refl _ _).alloc (Nat.le_refl _) _)) ⟨wr.heap.size, 0, none⟩ 1 1 [.int .i64 (t : Int)] rfl rfl (World.news_of_block (cs := #[.int .i64 (t : Int)]) (t := 3) (fr := (0, 0)) (by simpa using heap_alloc_new wr (.cells #[.int .i64 (t : Int)] 3))) (by simp [Value.oneCell']) (by unfold maxLen; omega) (by omega) (by have := HBW.out.size; have := HB.out.lt; simp; omega) ?_); intro v9 w9 hown9 hg9 _; obtain ⟨A9, cap9, hv9, -⟩ := own_slice hown9; rw [hv9] at hown9; rw [hv9]; have HR9 := Lib.hid (row_app HB.out HBW.out HTD.out hg9); have HO9 := Lib.hid hown9; clear hown9 hg9)
            go_roundw
            case rel => exact ⟨t + 1, A9, cap9, by omega, by go_num, by rw [HRL.out, List.length_append, HT.out]; rfl, by rw [HRL.out]; unfold OwnI; rw [natI_length, List.length_append, HT.out]; have h := HO9.out; simpa [natI] using h, HR9.out.1, HR9.out.2⟩
            case measure => simp [intOf]; omega
          · rw [if_neg hin, List.append_nil] at hrl
            have HRL := Lib.hid hrl
            cases hb1 : bB ins t with
            | false =>
              rw [hb1] at ct
              clear hO hB hbw hin hb1 hrl htH
              go_wp2_with fail
              go_roundw
              case rel => exact ⟨t + 1, A4, cap4, by omega, by go_num, by rw [HRL.out], by rw [HRL.out]; exact HO.out, HB.out, HBW.out⟩
              case measure => simp [intOf]; omega
            | true =>
              rw [hb1] at ct hin
              have hth : t = head := by simpa using hin
              have hne : ((t : Int) != (head : Int)) = false := by rw [hth]; simp
              clear hO hB hbw hin hb1 hrl htH hth
              go_wp2_with fail
              go_roundw
              case rel => exact ⟨t + 1, A4, cap4, by omega, by go_num, by rw [HRL.out], by rw [HRL.out]; exact HO.out, HB.out, HBW.out⟩
              case measure => simp [intOf]; omega
    · rw [List.concat_eq_append] at he
      subst he
      have hlen : (l ++ [i]).length = l.length + 1 := by simp
      obtain ⟨m, hm⟩ : ∃ m, l.length = m := ⟨_, rfl⟩
      have HM := Lib.hid hm
      obtain ⟨ga, hga, hgl, cp⟩ := hW.at
      obtain ⟨hiH, hiR⟩ := hI.td i (by simp)
      rw [HH.out] at hiH
      rw [hm] at cp hlen
      have hcap := hW.room (by simp)
      have htl := todo_le (n := H) (ins := ins) (todo := l ++ [i])
      rw [hlen] at hcap htl ⊢
      have hml : m ≤ 4000 := by omega
      have hcap2 : m ≤ cap1 := by omega
      have HWP := Lib.hid hW.pop
      have i1 : (i : Int) < H := by omega
      have i2 : (0 : Int) ≤ i := by omega
      have ci := hW.ins.cell (i := i) (by rw [hI.len, HH.out]; exact hiH)
      have fi := hW.ins.frozen i
      have HMU := Lib.hid hmu
      subst hga
      cases hbi : bB ins i with
      | true =>
        rw [hbi] at ci
        have HBI := Lib.hid hbi
        clear hI hW hlen hm hmu htl hbi hiR hiH
        go_wp2_with fail
        rw [← HM.out]
        go_roundg (muQ H ins l)
        case rel => exact ⟨_, cap1, ins, l, HI.out.pop HBI.out, by have h1 := mu_skip (n := H) (ins := ins) (todo := l) (i := i); have h2 := HMU.out; omega, rfl, rfl, HWP.out⟩
        case measure => exact mu_skip
      | false =>
        rw [hbi] at ci
        obtain ⟨hV1, -, hne⟩ := hI.visit hbi
        have hi0 : i ≠ 0 := fun e => by
          have hdd := hiR.dom HDM.out
          rw [e] at hdd
          exact hne (by rw [e, dom_zero hdd])
        have hplen := prevL_len F hi0
        rw [HH.out] at hplen
        have HMV := Lib.hid (mu_visit (todo := l) (n := H) (by rw [hI.len, HH.out]; exact hiH) hbi hplen)
        have HV1 := Lib.hid hV1
        have HWV := Lib.hid (hW.pop.visit i)
        obtain ⟨r, hr⟩ : ∃ r, bs[i]? = some r := ⟨_, List.getElem?_eq_getElem (by rw [HOB.out.len, HH.out]; exact hiH)⟩
        obtain ⟨Ap, pp, hvp, hRp⟩ := rowI_own (HBB.out.rows.own i r true hr)
        have hpl := (HOB.out.at_ i r hr).2.2.2
        rw [prevF_pos hi0] at hpl
        have hlp : (r.lst true).length = (prevN F i).length := by show r.pl.length = _; rw [hpl, natI_length]
        rw [hlp] at hvp
        have HRP := Lib.hid (show RowI w Ap (natI (prevN F i)) by rw [← hpl]; exact hRp)
        have HCP := Lib.hid (show w.cell? ⟨gb, i * 4 + 3, none⟩ = some (.slice Ap (prevN F i).length pp) from (HBB.out.cell hr (j := 3) (by omega)).trans (show some (r.val true) = _ by rw [hvp]))
        obtain ⟨PL, hPL⟩ : ∃ l, prevN F i = l := ⟨_, rfl⟩
        rw [hPL] at HRP hplen HCP HMV HV1
        obtain ⟨lp, hlpe⟩ : ∃ n, PL.length = n := ⟨_, rfl⟩
        have HLP := Lib.hid hlpe
        rw [hlpe] at HCP hplen
        obtain ⟨wv, hwv⟩ : ∃ W, wr.setCell ⟨w.heap.size, i, none⟩ (.bool true) = W := ⟨_, rfl⟩
        rw [hwv] at HWV
        have zgb : gb < wv.heap.size := Nat.lt_of_lt_of_le HGB.out HWV.out.below.size
        have cpv := (HWV.out.below.cell (p := ⟨gb, _, none⟩) HGB.out).trans HCP.out
        clear hI hW hlen hm hmu htl hbi hiR hiH hV1 hne hr hvp hRp hpl hlp hPL hlpe
        go_wp2_with fail
        clear cpv zgb
        go_loopw [8, 50] (fun v8 vi wi => ∃ (t : Nat) (A4 : Option Addr) (cap4 : Nat), t ≤ lp ∧ vi = .int .i64 (t : Int) ∧ v8 = .slice A4 (l ++ PL.take t).length cap4 ∧ LoW w wi A4 cap4 (ins.set i true) (l ++ PL.take t)) (fun _ vi _ => lp - (intOf vi).toNat)
        case atStart => exact ⟨0, some ⟨ga, 0, none⟩, cap1, by omega, rfl, by simp [HM.out], by simpa using HWV.out⟩
        case round =>
          obtain ⟨t, A4, cap4, ht, rfl, rfl, hW4⟩ := hrel
          have HW4 := Lib.hid hW4
          by_cases htl : t = lp
          · obtain rfl : lp = t := htl.symm
            have htk : PL.take lp = PL := List.take_of_length_le (by rw [HLP.out]; exact Nat.le_refl _)
            rw [htk] at HW4
            have HTK := Lib.hid htk
            clear hW4
            go_wp2_with fail
            go_roundg (muQ H (ins.set i true) (l ++ PL))
            case rel => exact ⟨A4, cap4, ins.set i true, l ++ PL, HV1.out, by have h1 := HMV.out; have h2 := HMU.out; omega, rfl, by simp [], HW4.out⟩
            case measure => exact HMV.out
          · have t1 : (t : Int) < lp := by omega
            have t2 : (0 : Int) ≤ t := by omega
            obtain ⟨q, hq⟩ : ∃ q, PL[t]? = some q := ⟨_, List.getElem?_eq_getElem (by rw [HLP.out]; omega)⟩
            obtain ⟨gv, hgv, hgl4, hcc⟩ := HRP.out (by rw [natI_length, HLP.out]; omega)
            have y0 : wr.cell? ⟨gv, t, none⟩ = some (.int .i64 (q : Int)) := (hW4.below.cell (p := ⟨gv, _, none⟩) hgl4).trans (hcc t (q : Int) (by unfold natI; rw [List.getElem?_map, hq]; rfl))
            have zgv : gv < wr.heap.size := Nat.lt_of_lt_of_le hgl4 hW4.below.size
            have q0 : (0 : Int) ≤ q := by omega
            have hlen4 : (l ++ PL.take t).length = m + t := by rw [List.length_append, HM.out, List.length_take, HLP.out]; omega
            have hTB : m + t ≤ 5000 := by omega
            have HTD := Lib.hid (show wr.ownsRow (w.heap.size + 1) 3 1 (.slice A4 (m + t) cap4) (m + t) ((natI (l ++ PL.take t)).map (Value.int .i64)) from by have h := hW4.todo; rw [hlen4] at h; exact h)
            have HTS := Lib.hid (show l ++ PL.take (t + 1) = (l ++ PL.take t) ++ [q] by rw [List.take_add_one, hq, List.append_assoc]; rfl)
            have HL4 := Lib.hid hlen4
            obtain ⟨T, hT⟩ : ∃ T, m + t = T := ⟨_, rfl⟩
            rw [hlen4, hT]
            rw [hT] at hTB HTD HL4
            subst hgv
            clear hW4 hq hcc hgl4 hlen4 htl hT
            go_wp2_with (at_builtin; go_must (refine wpList_append_own _ rfl _ _ 40 rfl (w.heap.size + 1) 3 i0 _ 1 8 Tryd.underlying40 hi hz0 hz1 hz2 rfl (by decide) (.slice A4 T cap4) T ((natI (l ++ PL.take t)).map (Value.int .i64)) rfl (own_below HTD.out ((Below.refl _ _).alloc (Nat.le_refl _) _)) ⟨wr.heap.size, 0, none⟩ 1 1 [.int .i64 (q : Int)] rfl rfl (World.news_of_block (cs := #[.int .i64 (q : Int)]) (t := 3) (fr := (0, 0)) (by simpa using heap_alloc_new wr (.cells #[.int .i64 (q : Int)] 3))) (by simp [Value.oneCell']) (by unfold maxLen; omega) (by omega) (by have := HW4.out.below.size; simp; omega) ?_); intro v9 w9 hown9 hg9 _; obtain ⟨A9, cap9, hv9, -⟩ := own_slice hown9; rw [hv9] at hown9; rw [hv9]; have HS9 := Lib.hid (HW4.out.push q (by rw [HL4.out]; exact hg9) (by rw [HL4.out]; exact hown9)); clear hown9 hg9)
            go_roundw
            case rel => exact ⟨t + 1, A9, cap9, by omega, by go_num, by rw [HTS.out, List.length_append, HL4.out]; rfl, by rw [HTS.out]; exact HS9.out⟩
            case measure => simp [intOf]; omega
end Go.Proofs.YtefbdecejoeamaaDoor
