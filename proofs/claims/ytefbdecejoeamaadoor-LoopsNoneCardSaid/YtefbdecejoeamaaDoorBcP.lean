/-
  Plain: the blocks of a function cover the places come to, each once.
-/
import Derived.Test.YtefbdecejoeamaaDoorBkP
namespace Tier
open Go Go.RowKit Go.Proofs.YtefbdecejoeamaaDoor
inductive Path (F : Fnc) : Nat → Prop
  | zero : Path F 0
  | step {q n : Nat} {x : Ins} (h : Path F q) (hx : F.code[q]? = some x) (hn : n ∈ nextL x q) : Path F n
section
variable {p : List Fnc} {F : Fnc}
theorem rch_path (hp : Right p) (hF : F ∈ p) {n : Nat} (h : rchB F n = true) : Path F n := by
  have hfo := hp.ok.fn F hF
  obtain ⟨m, hm⟩ := rch_of h
  exact sure_ind (fun n _ => Path F n) .zero (fun pc m x n h hx hn => .step h hx hn) (fun _ _ _ h _ => h) (iterS_inv hfo.cok hfo.p2) n m hm
theorem path_rch (hp : Right p) (hF : F ∈ p) {n : Nat} (h : Path F n) : rchB F n = true := by
  induction h with
  | zero => exact rch_zero (hp.ok.fn F hF)
  | step _ hx hn ih => exact (hp.nextR hF ih hx hn).2
theorem rch_back (hp : Right p) (hF : F ∈ p) {n : Nat} (h : rchB F n = true) : n = 0 ∨ ∃ q x, rchB F q = true ∧ F.code[q]? = some x ∧ n ∈ nextL x q := by
  cases rch_path hp hF h with
  | zero => exact .inl rfl
  | step h hx hn => exact .inr ⟨_, _, path_rch hp hF h, hx, hn⟩
theorem rch_step (hp : Right p) (hF : F ∈ p) {n : Nat} (h : rchB F n = true) (hl : n < F.code.length) (hh : n ∉ hdL F) : ∃ q, n = q + 1 ∧ rchB F q = true ∧ (insAt F q).op < 15 := by
  rcases rch_back hp hF h with h0 | ⟨q, x, hq, hx, hn⟩
  · subst h0
    exact absurd (List.mem_of_getElem? (zero_head hp hF)) hh
  · have hql := (List.getElem?_eq_some_iff.1 hx).1
    by_cases ho : 15 ≤ x.op
    · refine absurd (hdL_mem.2 ⟨hl, ?_⟩) hh
      unfold hdB
      rw [Bool.or_eq_true]
      right
      rw [List.any_eq_true]
      refine ⟨q, List.mem_range.2 hql, ?_⟩
      unfold hdOf
      rw [hq, hx]
      have := (nextS_mem x q n).2 hn
      simp [ho, this]
    · have h1 : nextL x q = [q + 1] := by unfold nextL; rw [if_neg (by omega), if_neg (by omega), if_neg (by omega)]
      rw [h1] at hn
      exact ⟨q, List.mem_singleton.1 hn, hq, by rw [insAt_eq hx]; omega⟩
theorem cov_end (hp : Right p) (hF : F ∈ p) {a pc : Nat} (ha : a ∈ hdL F) (h1 : a ≤ pc) (h2 : pc + 1 < toF F a) : (insAt F pc).op < 15 := by
  have := ((toF_spec hp hF ha).2.2.2.2 (pc + 1) (by omega) h2).1
  unfold stopB at this
  rw [Bool.or_eq_false_iff, Nat.add_sub_cancel] at this
  have := this.1
  simp at this; omega
theorem cov_one (hp : Right p) (hF : F ∈ p) {a b pc : Nat} (ha : a ∈ hdL F) (hb : b ∈ hdL F) (h1 : a ≤ pc) (h2 : pc < toF F a) (h3 : b ≤ pc) (h4 : pc < toF F b) : a = b := by
  have key : ∀ {a b : Nat}, a ∈ hdL F → b ∈ hdL F → b ≤ pc → pc < toF F a → ¬ a < b := fun {a b} ha hb h3 h2 hl => by
    have := ((toF_spec hp hF ha).2.2.2.2 b hl (by omega)).1
    unfold stopB at this
    rw [Bool.or_eq_false_iff] at this
    have := this.2
    simp [hb] at this
  have k1 := key ha hb h3 h2
  have k2 := key hb ha h1 h4
  omega
theorem cov_rch (hp : Right p) (hF : F ∈ p) {a pc : Nat} (ha : a ∈ hdL F) (h1 : a ≤ pc) (h2 : pc < toF F a) : rchB F pc = true := by
  by_cases h : a = pc
  · subst h; exact (head_rch hp hF ha).2
  · exact ((toF_spec hp hF ha).2.2.2.2 pc (by omega) h2).2
theorem cov_ex (hp : Right p) (hF : F ∈ p) : ∀ pc, pc < F.code.length → rchB F pc = true → ∃ a, a ∈ hdL F ∧ a ≤ pc ∧ pc < toF F a := by
  intro pc
  induction pc with
  | zero => intro hl hr; exact ⟨0, List.mem_of_getElem? (zero_head hp hF), Nat.le_refl _, (toF_spec hp hF (List.mem_of_getElem? (zero_head hp hF))).1⟩
  | succ q ih =>
    intro hl hr
    by_cases hh : q + 1 ∈ hdL F
    · exact ⟨q + 1, hh, Nat.le_refl _, (toF_spec hp hF hh).1⟩
    · obtain ⟨q', he, hq, ho⟩ := rch_step hp hF hr hl hh
      obtain rfl : q = q' := by omega
      obtain ⟨a, ha, h1, h2⟩ := ih (by omega) hq
      refine ⟨a, ha, by omega, ?_⟩
      by_cases he : toF F a = q + 1
      · have h4 := (toF_spec hp hF ha).2.2.2.1
        rw [he] at h4
        unfold stopB at h4
        rw [Bool.or_eq_true, Nat.add_sub_cancel] at h4
        rcases h4 with h4 | h4
        · simp at h4; omega
        · simp at h4; exact absurd h4 hh
      · omega
def covB (F : Fnc) (pc q : Nat) : Bool := decide (hdA F q ≤ pc) && decide (pc < toF F (hdA F q))
theorem cnt_one (f : Nat → Bool) (k : Nat) : ∀ n, (∀ q, q < n → f q = decide (q = k)) → (List.range n).countP f = if k < n then 1 else 0
  | 0, _ => by simp
  | n + 1, h => by
    rw [cnt_succ, cnt_one f k n (fun q hq => h q (by omega)), h n (by omega)]
    simp only [decide_eq_true_eq]
    split <;> split <;> split <;> omega
theorem cov_count (hp : Right p) (hF : F ∈ p) {pc : Nat} (hl : pc < F.code.length) : (List.range (hdL F).length).countP (covB F pc) = if rchB F pc = true then 1 else 0 := by
  have hget : ∀ q, q < (hdL F).length → ∃ a, (hdL F)[q]? = some a := fun q hq => ⟨_, List.getElem?_eq_getElem hq⟩
  by_cases hr : rchB F pc = true
  · obtain ⟨a, ha, h1, h2⟩ := cov_ex hp hF pc hl hr
    have hk := posH_get ha
    rw [cnt_one (covB F pc) (posH F a) _ (fun q hq => ?_), if_pos (List.getElem?_eq_some_iff.1 hk).1, if_pos hr]
    obtain ⟨b, hb⟩ := hget q hq
    unfold covB
    rw [hdA_eq hb]
    by_cases he : q = posH F a
    · subst he
      rw [hk] at hb
      obtain rfl := Option.some.inj hb
      simp [h1, h2]
    · rw [decide_eq_false he, Bool.eq_false_iff]
      intro hc
      rw [Bool.and_eq_true, decide_eq_true_eq, decide_eq_true_eq] at hc
      have := cov_one hp hF ha (List.mem_of_getElem? hb) h1 h2 hc.1 hc.2
      subst this
      exact he (posH_of hb)
  · rw [if_neg hr, List.countP_eq_zero]
    intro q hq hc
    obtain ⟨b, hb⟩ := hget q (List.mem_range.1 hq)
    unfold covB at hc
    rw [hdA_eq hb, Bool.and_eq_true, decide_eq_true_eq, decide_eq_true_eq] at hc
    exact hr (cov_rch hp hF (List.mem_of_getElem? hb) hc.1 hc.2)
end
end Tier
