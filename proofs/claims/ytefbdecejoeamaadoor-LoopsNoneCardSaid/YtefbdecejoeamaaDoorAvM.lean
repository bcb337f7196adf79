/-
  Plain: masks of what stands on each way: from all downwards to the greatest that is closed.
-/
import Derived.Test.YtefbdecejoeamaaDoorAvP
import Derived.Test.YtefbdecejoeamaaDoorLvP
namespace Tier
open Go Go.RowKit Go.Proofs.YtefbdecejoeamaaDoor
def andL (E : List Nat) (n : Nat) (l : List Nat) : Nat := l.foldl (fun acc q => acc &&& E.getD q 0) (2 ^ n - 1)
theorem andL_go (E : List Nat) (k : Nat) : ∀ (l : List Nat) (acc : Nat), (l.foldl (fun acc q => acc &&& E.getD q 0) acc).testBit k = (acc.testBit k && l.all fun q => (E.getD q 0).testBit k)
  | [], acc => by simp
  | q :: l, acc => by
    simp only [List.foldl_cons, List.all_cons]
    rw [andL_go E k l, Nat.testBit_and, Bool.and_assoc]
theorem andL_bit (E l : List Nat) (n k : Nat) : (andL E n l).testBit k = (decide (k < n) && l.all fun q => (E.getD q 0).testBit k) := by
  unfold andL; rw [andL_go, Nat.testBit_two_pow_sub_one]
theorem andL_succ (E l : List Nat) (n t q : Nat) (h : l[t]? = some q) : andL E n (l.take (t + 1)) = andL E n (l.take t) &&& E.getD q 0 := by
  unfold andL; rw [List.take_add_one, h]; simp [List.foldl_append]
theorem andL_lt (E : List Nat) (n : Nat) (l : List Nat) : andL E n l < 2 ^ n := by
  refine Nat.lt_pow_two_of_testBit _ fun k hk => ?_
  rw [andL_bit]; simp; intro h; omega
def stepV (E : List Nat) (n i : Nat) (l : List Nat) : Nat := andL E n l ||| 2 ^ i
theorem stepV_bit (E l : List Nat) (n i k : Nat) : (stepV E n i l).testBit k = true ↔ (k < n ∧ ∀ q ∈ l, (E.getD q 0).testBit k = true) ∨ k = i := by
  unfold stepV
  rw [Nat.testBit_or, andL_bit, Nat.testBit_two_pow]
  simp only [Bool.or_eq_true, Bool.and_eq_true, decide_eq_true_eq, List.all_eq_true]
  exact or_congr Iff.rfl ⟨fun h => h.symm, fun h => h.symm⟩
theorem stepV_lt {E l : List Nat} {n i : Nat} (h : i < n) : stepV E n i l < 2 ^ n := by
  refine Nat.lt_pow_two_of_testBit _ fun k hk => ?_
  rw [Bool.eq_false_iff]
  intro h2
  rcases (stepV_bit _ _ _ _ _).1 h2 with ⟨h3, -⟩ | h3 <;> omega
/-- While masks fall. P i: who leads to i. -/
structure AInv (G : Nat → Nat → Prop) (P : Nat → List Nat) (n : Nat) (E : List Nat) : Prop where
  len : E.length = n
  lt : ∀ m ∈ E, m < 2 ^ n
  zero : E[0]? = some 1
  post : ∀ i, i < n → i ≠ 0 → Sub (stepV E n i (P i)) (E.getD i 0)
  up : ∀ i k, i < n → ¬ Av G k i → (E.getD i 0).testBit k = true
def AFix (P : Nat → List Nat) (n : Nat) (E : List Nat) : Prop := ∀ i, i < n → i ≠ 0 → E.getD i 0 = stepV E n i (P i)
/-- The masks: just who stands on each way. -/
structure AOk (G : Nat → Nat → Prop) (n : Nat) (E : List Nat) : Prop where
  len : E.length = n
  lt : ∀ m ∈ E, m < 2 ^ n
  bit : ∀ i k, i < n → ((E.getD i 0).testBit k = true ↔ ¬ Av G k i)
theorem sub_lt {a b : Nat} (h : Sub a b) (hne : a ≠ b) : a < b := by
  have h1 := h.and
  have h2 := Nat.and_le_right (n := a) (m := b)
  omega
section
variable {G : Nat → Nat → Prop} {P : Nat → List Nat} {n : Nat} {E : List Nat}
theorem AInv.start (hG : DomB G n) (hn : 0 < n) : AInv G P n ((List.replicate n (2 ^ n - 1)).set 0 1) := by
  have hp := Nat.two_pow_pos n
  have hp1 : 1 < 2 ^ n := Nat.one_lt_two_pow (by omega)
  have hg : ∀ i, i < n → i ≠ 0 → ((List.replicate n (2 ^ n - 1)).set 0 1).getD i 0 = 2 ^ n - 1 := fun i hi h0 => by
    rw [getD_set (by simp; exact hn), if_neg h0, List.getD_eq_getElem?_getD, List.getElem?_replicate, if_pos hi]; rfl
  have hz : ((List.replicate n (2 ^ n - 1)).set 0 1).getD 0 0 = 1 := by rw [getD_set (by simp; exact hn), if_pos rfl]
  refine ⟨by simp, fun m hm => ?_, ?_, fun i hi h0 => ?_, fun i k hi hd => ?_⟩
  · rcases List.mem_or_eq_of_mem_set hm with hm | rfl
    · rw [(List.mem_replicate.1 hm).2]; omega
    · exact hp1
  · rw [List.getElem?_set_self (by simp; exact hn)]
  · rw [hg i hi h0]
    intro k hk
    rw [Nat.testBit_two_pow_sub_one, decide_eq_true_eq]
    rcases (stepV_bit _ _ _ _ _).1 hk with ⟨h3, -⟩ | h3 <;> omega
  · by_cases h0 : i = 0
    · subst h0
      rw [hz, dom_zero hd]; rfl
    · rw [hg i hi h0, Nat.testBit_two_pow_sub_one, decide_eq_true_eq]
      exact dom_lt hG hi hd
theorem stepV_mono {E E' : List Nat} (h : ∀ q, Sub (E.getD q 0) (E'.getD q 0)) (i : Nat) (l : List Nat) : Sub (stepV E n i l) (stepV E' n i l) := by
  intro k hk
  rw [stepV_bit] at hk ⊢
  rcases hk with ⟨h1, h2⟩ | h1
  · exact .inl ⟨h1, fun q hq => h q k (h2 q hq)⟩
  · exact .inr h1
theorem AInv.step (hG : DomB G n) (hP : ∀ i q, i < n → (q ∈ P i ↔ G q i)) (h : AInv G P n E) {i : Nat} (hi : i < n) (h0 : i ≠ 0) : AInv G P n (E.set i (stepV E n i (P i))) ∧ (stepV E n i (P i) ≠ E.getD i 0 → (E.set i (stepV E n i (P i))).sum < E.sum) := by
  have hl : i < E.length := by rw [h.len]; exact hi
  have hdn : ∀ q, Sub ((E.set i (stepV E n i (P i))).getD q 0) (E.getD q 0) := fun q => by
    rw [getD_set hl]
    split
    · next e => rw [e]; exact h.post i hi h0
    · exact fun k hk => hk
  refine ⟨⟨by simp [h.len], fun m hm => ?_, ?_, fun j hj hj0 => ?_, fun j k hj hd => ?_⟩, fun hne => ?_⟩
  · rcases List.mem_or_eq_of_mem_set hm with hm | rfl
    · exact h.lt m hm
    · exact stepV_lt hi
  · rw [List.getElem?_set_ne h0]; exact h.zero
  · rw [getD_set hl]
    split
    · next e => subst e; exact stepV_mono hdn _ _
    · exact fun k hk => h.post j hj hj0 k (stepV_mono hdn _ _ k hk)
  · rw [getD_set hl]
    split
    · next e =>
      subst e
      rw [stepV_bit]
      rcases (dom_step h0).1 hd with h1 | h1
      · exact .inr h1
      · exact .inl ⟨dom_lt hG hi hd, fun q hq => h.up q k (hG.lt ((hP j q hi).1 hq)).1 (h1 q ((hP j q hi).1 hq))⟩
    · exact h.up j k hj hd
  · have hget : E[i]? = some (E.getD i 0) := by rw [List.getD_eq_getElem?_getD, List.getElem?_eq_getElem hl]; rfl
    have hs := sum_set E i _ (stepV E n i (P i)) hget
    have hlt := sub_lt (h.post i hi h0) hne
    omega
theorem AInv.ok (hP : ∀ i q, i < n → (q ∈ P i ↔ G q i)) (h : AInv G P n E) (hf : AFix P n E) (hG : DomB G n) : AOk G n E := by
  refine ⟨h.len, h.lt, fun i k hi => ⟨fun hb hv => ?_, h.up i k hi⟩⟩
  have hz : ∀ k, (E.getD 0 0).testBit k = true → k = 0 := fun k hk => by
    rw [List.getD_eq_getElem?_getD, h.zero] at hk
    have : Nat.testBit (2 ^ 0) k = true := hk
    rw [Nat.testBit_two_pow, decide_eq_true_eq] at this
    exact this.symm
  have key : ∀ j, Av G k j → (E.getD j 0).testBit k = true → False := fun j hj => by
    induction hj with
    | zero h0 => intro hk; exact h0 (hz k hk).symm
    | step hq he hn ih =>
      rename_i q m
      intro hk
      by_cases h0 : m = 0
      · subst h0; exact hn (hz k hk).symm
      · obtain ⟨h1, h2⟩ := hG.lt he
        rw [hf m h2 h0, stepV_bit] at hk
        rcases hk with ⟨-, hk⟩ | hk
        · exact ih (hk q ((hP m q h2).2 he))
        · exact hn hk.symm
  exact key i hv hb
/-- The one next above, by masks. -/
theorem AOk.near (h : AOk G n E) (hG : DomB G n) {i k : Nat} (hi : i < n) (hk : k < n) (h0 : i ≠ 0) : (((E.getD i 0 - (E.getD i 0 &&& 2 ^ i)).testBit k = true ∧ E.getD k 0 = E.getD i 0 - (E.getD i 0 &&& 2 ^ i)) ↔ Idom G k i) := by
  have hbit : ∀ m, (E.getD i 0 - (E.getD i 0 &&& 2 ^ i)).testBit m = true ↔ m ≠ i ∧ ¬ Av G m i := fun m => by
    rw [andnot_bit, Bool.and_eq_true, Bool.not_eq_true', Nat.testBit_two_pow, h.bit i m hi]
    simp only [decide_eq_false_iff_not]
    exact ⟨fun ⟨h1, h2⟩ => ⟨fun e => h2 e.symm, h1⟩, fun ⟨h1, h2⟩ => ⟨h2, fun e => h1 e.symm⟩⟩
  constructor
  · rintro ⟨h1, h2⟩
    obtain ⟨h3, h4⟩ := (hbit k).1 h1
    exact ⟨h3, h4, fun m hm hd => (h.bit k m hk).1 (by rw [h2]; exact (hbit m).2 ⟨hm, hd⟩)⟩
  · intro hd
    refine ⟨(hbit k).2 ⟨hd.1, hd.2.1⟩, Nat.eq_of_testBit_eq fun m => ?_⟩
    rw [Bool.eq_iff_iff, h.bit k m hk, hbit]
    constructor
    · intro hm
      refine ⟨fun e => ?_, dom_trans hm hd.2.1⟩
      subst e
      exact hd.1 (dom_anti (hG.come k hk) hd.2.1 hm)
    · exact fun ⟨h5, h6⟩ => hd.2.2 m h5 h6
end
end Tier
