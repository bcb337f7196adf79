/-
  Plain law: at the end of the work each place hands on what it has (closure). No program is in sight.
-/
import Derived.Test.YtnbopmlemddakaaDoorSuP
namespace Tier
open Go Go.RowKit
/-- What a place hands on is met at n. -/
def Met (s : SS) (n b : Nat) : Prop := ∃ m, s.out[n]? = some (some m) ∧ m &&& b = m
theorem relax_met_self {c : List Ins} {s : SS} {b n : Nat} (h : SInv c s) (hn : n ≤ c.length) : Met (relax b s n) n b := by
  unfold relax
  have hg : s.out[n]? = some (s.out[n]'(by rw [h.len]; omega)) := List.getElem?_eq_getElem _
  cases ho : s.out[n]'(by rw [h.len]; omega) with
  | none =>
    rw [ho] at hg; rw [hg]
    exact ⟨b, by dsimp only; rw [set_out hg]; simp, Nat.and_self b⟩
  | some was =>
    rw [ho] at hg; rw [hg]; dsimp only
    by_cases he : was &&& b = was
    · rw [if_pos he]; exact ⟨was, hg, he⟩
    · rw [if_neg he]
      exact ⟨was &&& b, by dsimp only; rw [set_out hg]; simp, by rw [Nat.and_assoc, Nat.and_self]⟩
theorem relax_met {s : SS} {b n k d : Nat} (h : Met s k d) : Met (relax b s n) k d := by
  obtain ⟨m, hm, hd⟩ := h
  unfold relax
  split
  · next h1 =>
    refine ⟨m, ?_, hd⟩
    dsimp only
    rw [set_out h1]
    split
    · next h2 => subst h2; rw [h1] at hm; simp at hm
    · exact hm
  · next was h1 =>
    split
    · exact ⟨m, hm, hd⟩
    · by_cases hk : k = n
      · subst hk
        rw [h1] at hm; simp at hm; subst hm
        refine ⟨was &&& b, by dsimp only; rw [set_out h1]; simp, ?_⟩
        rw [Nat.and_assoc, Nat.and_comm b d, ← Nat.and_assoc, hd]
      · exact ⟨m, by dsimp only; rw [set_out h1, if_neg hk]; exact hm, hd⟩
  · exact ⟨m, hm, hd⟩
theorem fold_met {b k d : Nat} : ∀ (l : List Nat) {s : SS}, Met s k d → Met (l.foldl (relax b) s) k d
  | [], _, h => h
  | _ :: l, _, h => fold_met l (relax_met h)
theorem fold_met_self {c : List Ins} {b : Nat} (hb : b < 4096) : ∀ (l : List Nat) {s : SS}, SInv c s → (∀ n ∈ l, n ≤ c.length) → ∀ n ∈ l, Met (l.foldl (relax b) s) n b
  | [], _, _, _, n, hn => by simp at hn
  | a :: l, s, h, hl, n, hn => by
    rcases List.mem_cons.1 hn with rfl | hn
    · exact fold_met l (relax_met_self h (hl _ (by simp)))
    · exact fold_met_self hb l (relax_inv h hb (hl _ (by simp))).1 (fun n hn => hl n (by simp [hn])) n hn
/-- Each place that waits for nothing has handed on what it has. -/
def Closed (c : List Ins) (s : SS) : Prop := ∀ (pc m : Nat) (x : Ins), s.out[pc]? = some (some m) → pc ∉ s.todo → c[pc]? = some x → ∀ n ∈ nextL x pc, Met s n (m ||| setM x)
theorem relax_out {s : SS} {b n i : Nat} (h : (relax b s n).out[i]? ≠ s.out[i]?) : i ∈ (relax b s n).todo := by
  by_cases hi : i = n
  · subst hi
    unfold relax at *
    cases h1 : s.out[i]? with
    | none => rw [h1] at h; exact absurd h1 h
    | some o =>
      rw [h1] at h
      cases o with
      | none => exact List.mem_append_right _ (List.mem_singleton.2 rfl)
      | some was =>
        dsimp only at *
        by_cases he : was &&& b = was
        · rw [if_pos he] at h; exact absurd h1 h
        · rw [if_neg he]; exact List.mem_append_right _ (List.mem_singleton.2 rfl)
  · exfalso
    apply h
    unfold relax
    split
    · next h1 => dsimp only; rw [set_out h1, if_neg hi]
    · next was h1 =>
      split
      · rfl
      · dsimp only; rw [set_out h1, if_neg hi]
    · rfl
theorem relax_todo {s : SS} {b n i : Nat} (h : i ∈ s.todo) : i ∈ (relax b s n).todo := by
  unfold relax
  split
  · simp [h]
  · split
    · exact h
    · simp [h]
  · exact h
theorem relax_closed {c : List Ins} {s : SS} {b n : Nat} (P : Nat → Prop) (h : ∀ (pc m : Nat) (x : Ins), s.out[pc]? = some (some m) → pc ∉ s.todo → ¬ P pc → c[pc]? = some x → ∀ n ∈ nextL x pc, Met s n (m ||| setM x)) :
    ∀ (pc m : Nat) (x : Ins), (relax b s n).out[pc]? = some (some m) → pc ∉ (relax b s n).todo → ¬ P pc → c[pc]? = some x → ∀ n' ∈ nextL x pc, Met (relax b s n) n' (m ||| setM x) := by
  intro pc m x ho ht hp hx n' hn'
  by_cases hsame : (relax b s n).out[pc]? = s.out[pc]?
  · rw [hsame] at ho
    exact relax_met (h pc m x ho (fun h => ht (relax_todo h)) hp hx n' hn')
  · exact absurd (relax_out hsame) ht
theorem fold_closed {c : List Ins} {b : Nat} (P : Nat → Prop) : ∀ (l : List Nat) {s : SS}, (∀ (pc m : Nat) (x : Ins), s.out[pc]? = some (some m) → pc ∉ s.todo → ¬ P pc → c[pc]? = some x → ∀ n ∈ nextL x pc, Met s n (m ||| setM x)) →
    ∀ (pc m : Nat) (x : Ins), (l.foldl (relax b) s).out[pc]? = some (some m) → pc ∉ (l.foldl (relax b) s).todo → ¬ P pc → c[pc]? = some x → ∀ n ∈ nextL x pc, Met (l.foldl (relax b) s) n (m ||| setM x)
  | [], _, h => h
  | _ :: l, _, h => fold_closed P l (relax_closed P h)
theorem fold_out {b i : Nat} : ∀ (l : List Nat) {s : SS}, (l.foldl (relax b) s).out[i]? ≠ s.out[i]? → i ∈ (l.foldl (relax b) s).todo
  | [], _, h => absurd rfl h
  | n :: l, s, h => by
    by_cases h1 : (relax b s n).out[i]? = s.out[i]?
    · exact fold_out l (by simpa [h1] using h)
    · have hk : ∀ (l : List Nat) (s : SS), i ∈ s.todo → i ∈ (l.foldl (relax b) s).todo := by
        intro l
        induction l with
        | nil => intro s h; exact h
        | cons n l ih => intro s h; exact ih _ (relax_todo h)
      exact hk l _ (relax_out h1)
theorem stepS_closed {c : List Ins} {s : SS} (hc : COk c) (hi : SInv c s) (h : Closed c s) : Closed c (stepS c s) := by
  unfold stepS
  cases hl : s.todo.getLast? with
  | none => exact h
  | some pc =>
    dsimp only
    have hne : s.todo ≠ [] := fun e => by rw [e] at hl; simp at hl
    have htodo : ∀ i, i ∈ s.todo → i ∉ (popS s).todo → i = pc := by
      intro i h1 h2
      have h3 := List.dropLast_concat_getLast hne
      have h4 : s.todo.getLast hne = pc := by rw [List.getLast?_eq_some_getLast hne] at hl; exact Option.some.inj hl
      rw [← h3, h4] at h1
      rcases List.mem_append.1 h1 with h1 | h1
      · exact absurd h1 h2
      · simpa using h1
    cases hx : c[pc]? with
    | none =>
      intro p m x ho ht hxx n hn
      by_cases hp : p ∈ s.todo
      · have := htodo p hp ht
        subst this
        rw [hx] at hxx; cases hxx
      · exact h p m x ho hp hxx n hn
    | some x =>
      dsimp only
      obtain ⟨regs, funcs, hr, hio⟩ := hc.ins x (List.mem_of_getElem? hx)
      have hpc : pc < c.length := (List.getElem?_eq_some_iff.1 hx).1
      have hb : bitsAt s pc ||| setM x < 4096 := or_lt (bitsAt_lt hi pc) (setM_lt hio hr)
      have hself := fold_met_self hb (nextL x pc) (popS_inv hi) (nextL_le hio hpc)
      have hcl := fold_closed (c := c) (b := bitsAt s pc ||| setM x) (fun i => i = pc) (nextL x pc) (s := popS s) (fun p m y ho ht hp hy n hn => by
        by_cases hpt : p ∈ s.todo
        · exact absurd (htodo p hpt ht) hp
        · exact h p m y ho hpt hy n hn)
      intro p m y ho ht hy n hn
      by_cases hp : p = pc
      · subst hp
        rw [hx] at hy
        obtain rfl := Option.some.inj hy
        by_cases hsame : ((nextL x p).foldl (relax (bitsAt s p ||| setM x)) (popS s)).out[p]? = (popS s).out[p]?
        · have hm : bitsAt s p = m := by
            rw [hsame] at ho
            change s.out[p]? = _ at ho
            unfold bitsAt; rw [ho]; rfl
          rw [← hm]
          exact hself n hn
        · exact absurd (fold_out _ hsame) ht
      · exact hcl p m y ho ht hp hy n hn
theorem startS_closed (f : Fnc) : Closed f.code (startS f) := by
  intro pc m x ho ht
  have hget : (startS f).out[pc]? = if pc = 0 then some (some (2 ^ f.params.toNat - 1)) else (List.replicate (f.code.length + 1) none)[pc]? :=
    set_out (by simp : (List.replicate (f.code.length + 1) (none : Option Nat))[0]? = some none) pc
  rw [hget] at ho
  split at ho
  · next h => subst h; simp [startS] at ht
  · rw [List.getElem?_replicate] at ho
    split at ho <;> simp at ho
theorem iterS_closed {f : Fnc} (hc : COk f.code) (h : f.params ≤ 2) : ∀ k, Closed f.code (iterS f.code k (startS f))
  | 0 => startS_closed f
  | k + 1 => stepS_closed hc (iterS_inv hc h k) (iterS_closed hc h k)
/-- At the end: what a place has, and what its instruction sets, is had by each next one. -/
theorem sure_closed {f : Fnc} (hc : COk f.code) (h : f.params ≤ 2) {pc m : Nat} {x : Ins} (ho : (sureF f)[pc]? = some (some m)) (hx : f.code[pc]? = some x) {n : Nat} (hn : n ∈ nextL x pc) :
    ∃ m', (sureF f)[n]? = some (some m') ∧ m' &&& (m ||| setM x) = m' :=
  iterS_closed hc h _ pc m x ho (by rw [sureF_end hc h]; simp) hx n hn
theorem sure_zero {f : Fnc} (hc : COk f.code) (h : f.params ≤ 2) : (sureF f)[0]? = some (some (2 ^ f.params.toNat - 1)) := by
  have key : ∀ k, ∃ m, (iterS f.code k (startS f)).out[0]? = some (some m) := by
    intro k
    induction k with
    | zero => exact ⟨2 ^ f.params.toNat - 1, by
        change (startS f).out[0]? = _
        unfold startS
        rw [set_out (by simp : (List.replicate (f.code.length + 1) (none : Option Nat))[0]? = some none)]; rfl⟩
    | succ k ih =>
      obtain ⟨m, hm⟩ := ih
      have hrelax : ∀ (l : List Nat) (b : Nat) (s : SS), (∃ m, s.out[0]? = some (some m)) → ∃ m, (l.foldl (relax b) s).out[0]? = some (some m) := by
        intro l
        induction l with
        | nil => intro b s h; exact h
        | cons n l ihl =>
          intro b s ⟨m, h⟩
          refine ihl b _ ?_
          unfold relax
          split
          · next h1 => dsimp only; rw [set_out h1]; split; exact ⟨_, rfl⟩; exact ⟨m, h⟩
          · next was h1 =>
            split
            · exact ⟨m, h⟩
            · dsimp only; rw [set_out h1]; split; exact ⟨_, rfl⟩; exact ⟨m, h⟩
          · exact ⟨m, h⟩
      change ∃ m, (stepS f.code (iterS f.code k (startS f))).out[0]? = some (some m)
      unfold stepS
      split
      · exact ⟨m, hm⟩
      · split
        · exact ⟨m, hm⟩
        · exact hrelax _ _ (popS _) ⟨m, hm⟩
  have hge : ∀ (i m : Nat), (sureF f)[i]? = some (some m) → (2 ^ f.params.toNat - 1) &&& m = 2 ^ f.params.toNat - 1 := by
    refine sure_ind (fun _ m => (2 ^ f.params.toNat - 1) &&& m = 2 ^ f.params.toNat - 1) (Nat.and_self _) (fun pc m x n hq _ _ => ?_) (fun n a b ha hb => ?_) (iterS_inv hc h)
    · apply Nat.eq_of_testBit_eq
      intro i
      have := congrArg (fun k => k.testBit i) hq
      simp only [Nat.testBit_and, Nat.testBit_or] at *
      cases h1 : (2 ^ f.params.toNat - 1).testBit i <;> simp_all
    · rw [← Nat.and_assoc, ha, hb]
  have hle : ∀ (k m : Nat), (iterS f.code k (startS f)).out[0]? = some (some m) → m ≤ 2 ^ f.params.toNat - 1 := by
    intro k
    induction k with
    | zero =>
      intro m hm
      change (startS f).out[0]? = _ at hm
      unfold startS at hm
      rw [set_out (by simp : (List.replicate (f.code.length + 1) (none : Option Nat))[0]? = some none)] at hm
      simp at hm; omega
    | succ k ih =>
      have hrelax : ∀ (l : List Nat) (b : Nat) (s : SS), (∃ m, s.out[0]? = some (some m) ∧ m ≤ 2 ^ f.params.toNat - 1) → ∃ m, (l.foldl (relax b) s).out[0]? = some (some m) ∧ m ≤ 2 ^ f.params.toNat - 1 := by
        intro l
        induction l with
        | nil => intro b s h; exact h
        | cons n l ihl =>
          intro b s ⟨m, h, hmm⟩
          refine ihl b _ ?_
          unfold relax
          split
          · next h1 =>
            dsimp only; rw [set_out h1]; split
            · next h2 => subst h2; rw [h1] at h; simp at h
            · exact ⟨m, h, hmm⟩
          · next was h1 =>
            split
            · exact ⟨m, h, hmm⟩
            · dsimp only; rw [set_out h1]; split
              · next h2 =>
                subst h2; rw [h1] at h; simp at h; subst h
                exact ⟨_, rfl, Nat.le_trans Nat.and_le_left hmm⟩
              · exact ⟨m, h, hmm⟩
          · exact ⟨m, h, hmm⟩
      intro m hm
      obtain ⟨m0, hm0⟩ := key k
      have h0 := ih m0 hm0
      have : ∃ m, (stepS f.code (iterS f.code k (startS f))).out[0]? = some (some m) ∧ m ≤ 2 ^ f.params.toNat - 1 := by
        unfold stepS
        split
        · exact ⟨m0, hm0, h0⟩
        · split
          · exact ⟨m0, hm0, h0⟩
          · exact hrelax _ _ (popS _) ⟨m0, hm0, h0⟩
      obtain ⟨m1, hm1, h1⟩ := this
      change (stepS f.code (iterS f.code k (startS f))).out[0]? = _ at hm
      rw [hm1] at hm; simp at hm; omega
  obtain ⟨m, hm⟩ := key (muS (startS f) + 1)
  have h1 := hge 0 m hm
  have h2 := hle _ m hm
  have h3 : 2 ^ f.params.toNat - 1 ≤ m := by rw [← h1]; exact Nat.and_le_right
  have : m = 2 ^ f.params.toNat - 1 := by omega
  rw [← this]; exact hm
end Tier
