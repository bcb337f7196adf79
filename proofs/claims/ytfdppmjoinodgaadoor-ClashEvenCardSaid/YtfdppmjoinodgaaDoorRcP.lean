/-
  Plain: places that are come to. No program is in sight.
-/
import Derived.Test.YtfdppmjoinodgaaDoorStP
namespace Tier
open Go Go.RowKit
/-- Numbers below n that pass a test: where each stands among them. -/
theorem filt_get (q : Nat → Bool) : ∀ (n i : Nat), i < n → q i = true → ((List.range n).filter q)[(List.range i).countP q]? = some i
  | 0, i, h, _ => by omega
  | n + 1, i, h, hq => by
    rw [List.range_succ, List.filter_append]
    by_cases hi : i < n
    · have ih := filt_get q n i hi hq
      rw [List.getElem?_append_left (List.getElem?_eq_some_iff.1 ih).1]; exact ih
    · have : i = n := by omega
      subst this
      rw [List.getElem?_append_right (by rw [List.countP_eq_length_filter]; omega), List.countP_eq_length_filter, Nat.sub_self]
      simp [hq]
theorem filt_inv (q : Nat → Bool) : ∀ (n k i : Nat), ((List.range n).filter q)[k]? = some i → i < n ∧ q i = true ∧ k = (List.range i).countP q
  | 0, k, i, h => by simp at h
  | n + 1, k, i, h => by
    rw [List.range_succ, List.filter_append] at h
    by_cases hk : k < ((List.range n).filter q).length
    · rw [List.getElem?_append_left hk] at h
      obtain ⟨h1, h2, h3⟩ := filt_inv q n k i h
      exact ⟨by omega, h2, h3⟩
    · rw [List.getElem?_append_right (by omega)] at h
      by_cases hq : q n = true
      · simp only [List.filter_cons, hq, if_true, List.filter_nil] at h
        have hk2 : k - ((List.range n).filter q).length = 0 := by
          have := (List.getElem?_eq_some_iff.1 h).1
          simp at this; omega
        rw [hk2] at h
        simp at h; subst h
        exact ⟨by omega, hq, by rw [List.countP_eq_length_filter]; omega⟩
      · simp [hq] at h
theorem cnt_succ (q : Nat → Bool) (n : Nat) : (List.range (n + 1)).countP q = (List.range n).countP q + if q n = true then 1 else 0 := by
  rw [List.range_succ, List.countP_append, List.countP_cons, List.countP_nil]; simp
theorem cnt_le (q : Nat → Bool) {i n : Nat} (h : i ≤ n) : (List.range i).countP q ≤ (List.range n).countP q := by
  obtain ⟨j, rfl⟩ := Nat.exists_eq_add_of_le h
  clear h
  induction j with
  | zero => exact Nat.le_refl _
  | succ j ih => rw [show i + (j + 1) = (i + j) + 1 from rfl, cnt_succ]; omega
theorem cnt_lt (q : Nat → Bool) {i n : Nat} (h : i < n) (hq : q i = true) : (List.range i).countP q < (List.range n).countP q := by
  have h1 := cnt_le q (show i + 1 ≤ n from h)
  rw [cnt_succ, if_pos hq] at h1; omega
theorem cnt_inj (q : Nat → Bool) {i j : Nat} (hi : q i = true) (hj : q j = true) (h : (List.range i).countP q = (List.range j).countP q) : i = j := by
  rcases Nat.lt_trichotomy i j with h1 | h1 | h1
  · have := cnt_lt q h1 hi; omega
  · exact h1
  · have := cnt_lt q h1 hj; omega
theorem cnt_all (q : Nat → Bool) : ∀ n, (∀ i, i < n → q i = true) → (List.range n).countP q = n
  | 0, _ => rfl
  | n + 1, h => by rw [cnt_succ, if_pos (h n (by omega)), cnt_all q n fun i hi => h i (by omega)]
/-- Is a place come to? -/
def rchB (F : Fnc) (pc : Nat) : Bool := (((sureF F)[pc]?).getD none).isSome
theorem rch_of {F : Fnc} {pc : Nat} (h : rchB F pc = true) : ∃ m, (sureF F)[pc]? = some (some m) := by
  unfold rchB at h
  cases h1 : (sureF F)[pc]? with
  | none => rw [h1] at h; simp at h
  | some o => cases o with
    | none => rw [h1] at h; simp at h
    | some m => exact ⟨m, rfl⟩
theorem of_rch {F : Fnc} {pc m : Nat} (h : (sureF F)[pc]? = some (some m)) : rchB F pc = true := by unfold rchB; rw [h]; rfl
theorem not_bad {p : List Fnc} (hc : checkP p = 0) {F : Fnc} (hF : F ∈ p) {pc : Nat} (hp : pc < F.code.length) : badAt p F pc = false := by
  have hE : progE p = 0 := by
    unfold checkP at hc
    by_cases hE : progE p = 0
    · exact hE
    · rw [if_pos hE] at hc; exact absurd hc hE
  unfold checkP at hc
  rw [if_neg (by simp [hE])] at hc
  have h1 := firstE_all hc (fnP p F) (List.mem_map.2 ⟨F, hF, rfl⟩)
  unfold fnP at h1
  by_cases hb : (List.range F.code.length).any (badAt p F) = true
  · rw [if_pos hb] at h1; cases h1
  · have hb' : (List.range F.code.length).any (badAt p F) = false := by simpa using hb
    rw [List.any_eq_false] at hb'
    have := hb' pc (List.mem_range.2 hp)
    simpa using this
/-- Where an instruction that is come to leads. -/
theorem Right.nextR {p : List Fnc} (hp : Right p) {F : Fnc} (hF : F ∈ p) {pc : Nat} {x : Ins} (hr : rchB F pc = true) (hx : F.code[pc]? = some x) {n : Nat} (hn : n ∈ nextL x pc) : n < F.code.length ∧ rchB F n = true := by
  obtain ⟨m, hm⟩ := rch_of hr
  obtain ⟨h1, m', h2, -⟩ := hp.next hF hm hx hn
  exact ⟨h1, of_rch h2⟩
theorem progE_ck {p : List Fnc} (hk : checkP p = 0) : progE p = 0 := by
  unfold checkP at hk
  by_cases hE : progE p = 0
  · exact hE
  · rw [if_pos hE] at hk; exact absurd hk hE
def insAt (F : Fnc) (pc : Nat) : Ins := F.code.getD pc ⟨0, 0, 0, 0, 0⟩
theorem insAt_eq {F : Fnc} {pc : Nat} {x : Ins} (h : F.code[pc]? = some x) : insAt F pc = x := by unfold insAt; rw [List.getD_eq_getElem?_getD, h]; rfl
theorem rch_zero {F : Fnc} {funcs : Int} (h : FnOk F funcs) : rchB F 0 = true := of_rch (sure_zero h.cok h.p2)
end Tier
