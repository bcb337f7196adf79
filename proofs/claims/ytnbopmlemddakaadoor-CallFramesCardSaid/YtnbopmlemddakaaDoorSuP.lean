/-
  Plain data and law: which registers are surely set ahead of each place of a function: the list that is worked off, and what holds of its end. No program is in sight.
-/
import Derived.Test.YtnbopmlemddakaaDoorOk2
namespace Tier
open Go Go.RowKit
def setsB (x : Ins) : Bool := decide (x.op ≤ 13) || (x.op == 17 || x.op == 18)
def setM (x : Ins) : Nat := if setsB x = true then 2 ^ x.dst.toNat else 0
def nextL (x : Ins) (pc : Nat) : List Nat := if x.op = 19 then [] else if x.op = 15 then [x.imm.toNat] else if x.op = 16 then [pc + 1, x.imm.toNat] else [pc + 1]
structure SS where
  out : List (Option Nat)
  todo : List Nat
def relax (b : Nat) (s : SS) (n : Nat) : SS :=
  match s.out[n]? with
  | some none => ⟨s.out.set n (some b), s.todo ++ [n]⟩
  | some (some was) => if was &&& b = was then s else ⟨s.out.set n (some (was &&& b)), s.todo ++ [n]⟩
  | none => s
def bitsAt (s : SS) (pc : Nat) : Nat := ((s.out[pc]?).getD none).getD 0
def popS (s : SS) : SS := ⟨s.out, s.todo.dropLast⟩
def stepS (c : List Ins) (s : SS) : SS :=
  match s.todo.getLast? with
  | none => s
  | some pc => match c[pc]? with
    | none => popS s
    | some x => (nextL x pc).foldl (relax (bitsAt s pc ||| setM x)) (popS s)
def startS (f : Fnc) : SS := ⟨(List.replicate (f.code.length + 1) none).set 0 (some (2 ^ f.params.toNat - 1)), [0]⟩
def iterS (c : List Ins) : Nat → SS → SS
  | 0, s => s
  | k + 1, s => stepS c (iterS c k s)
/-- What holds of the work at each time. -/
structure SInv (c : List Ins) (s : SS) : Prop where
  len : s.out.length = c.length + 1
  todo : ∀ pc ∈ s.todo, pc ≤ c.length ∧ ∃ m, s.out[pc]? = some (some m)
  mask : ∀ (i m : Nat), s.out[i]? = some (some m) → m < 4096
def wt : Option Nat → Nat
  | none => 4096
  | some m => m
def sumW (l : List (Option Nat)) : Nat := (l.map wt).sum
def muS (s : SS) : Nat := 2 * sumW s.out + s.todo.length
theorem sumW_set : ∀ (l : List (Option Nat)) (n : Nat) (o o' : Option Nat), l[n]? = some o → sumW (l.set n o') + wt o = sumW l + wt o'
  | [], n, o, o', h => by simp at h
  | x :: l, 0, o, o', h => by simp at h; subst h; simp [sumW]; omega
  | x :: l, n + 1, o, o', h => by
    have := sumW_set l n o o' (by simpa using h)
    simp [sumW] at *; omega
theorem set_out {l : List (Option Nat)} {n : Nat} {o : Option Nat} {v : Option Nat} (h : l[n]? = some o) (i : Nat) : (l.set n v)[i]? = if i = n then some v else l[i]? := by
  have hn : n < l.length := (List.getElem?_eq_some_iff.1 h).1
  rw [List.getElem?_set]
  by_cases hi : n = i
  · subst hi; simp [hn]
  · rw [if_neg hi, if_neg (fun h => hi h.symm)]
theorem and_lt_of_ne {a b : Nat} (h : ¬ a &&& b = a) : a &&& b < a := by
  have := Nat.and_le_left (n := a) (m := b)
  omega
theorem relax_inv {c : List Ins} {s : SS} {b n : Nat} (h : SInv c s) (hb : b < 4096) (hn : n ≤ c.length) : SInv c (relax b s n) ∧ muS (relax b s n) ≤ muS s ∧ (∀ (pc m : Nat), s.out[pc]? = some (some m) → ∃ m', (relax b s n).out[pc]? = some (some m')) := by
  unfold relax
  have hg : s.out[n]? = some (s.out[n]'(by rw [h.len]; omega)) := List.getElem?_eq_getElem _
  cases ho : s.out[n]'(by rw [h.len]; omega) with
  | none =>
    rw [ho] at hg
    rw [hg]
    dsimp only
    have hset := fun i => set_out (v := some b) hg i
    have hw := sumW_set s.out n none (some b) hg
    refine ⟨⟨by simp [h.len], fun pc hpc => ?_, fun i m hm => ?_⟩, ?_, fun pc m hm => ?_⟩
    · try dsimp only at *
      rw [hset]
      rcases List.mem_append.1 hpc with hp | hp
      · obtain ⟨h1, m, hm⟩ := h.todo pc hp
        refine ⟨h1, ?_⟩
        split
        · exact ⟨_, rfl⟩
        · exact ⟨m, hm⟩
      · simp at hp; subst hp
        exact ⟨hn, by simp⟩
    · try dsimp only at *
      rw [hset] at hm
      split at hm
      · simp at hm; omega
      · exact h.mask i m hm
    · simp only [muS, List.length_append, List.length_cons, List.length_nil]
      simp only [wt] at hw
      omega
    · try dsimp only
      rw [hset]
      split
      · exact ⟨_, rfl⟩
      · exact ⟨m, hm⟩
  | some was =>
    rw [ho] at hg
    rw [hg]
    dsimp only
    by_cases he : was &&& b = was
    · rw [if_pos he]
      exact ⟨h, Nat.le_refl _, fun pc m hm => ⟨m, hm⟩⟩
    · rw [if_neg he]
      have hset := fun i => set_out (v := some (was &&& b)) hg i
      have hw := sumW_set s.out n (some was) (some (was &&& b)) hg
      have hlt := and_lt_of_ne he
      refine ⟨⟨by simp [h.len], fun pc hpc => ?_, fun i m hm => ?_⟩, ?_, fun pc m hm => ?_⟩
      · try dsimp only at *
        rw [hset]
        rcases List.mem_append.1 hpc with hp | hp
        · obtain ⟨h1, m, hm⟩ := h.todo pc hp
          refine ⟨h1, ?_⟩
          split
          · exact ⟨_, rfl⟩
          · exact ⟨m, hm⟩
        · simp at hp; subst hp
          exact ⟨hn, by simp⟩
      · try dsimp only at *
        rw [hset] at hm
        split at hm
        · simp at hm
          have := h.mask n was hg
          omega
        · exact h.mask i m hm
      · simp only [muS, List.length_append, List.length_cons, List.length_nil]
        simp only [wt] at hw
        omega
      · try dsimp only
        rw [hset]
        split
        · exact ⟨_, rfl⟩
        · exact ⟨m, hm⟩
theorem fold_inv {c : List Ins} {b : Nat} (hb : b < 4096) : ∀ (l : List Nat) {s : SS}, SInv c s → (∀ n ∈ l, n ≤ c.length) → SInv c (l.foldl (relax b) s) ∧ muS (l.foldl (relax b) s) ≤ muS s
  | [], s, h, _ => ⟨h, Nat.le_refl _⟩
  | n :: l, s, h, hl => by
    obtain ⟨h1, h2, -⟩ := relax_inv h hb (hl n (by simp))
    obtain ⟨h3, h4⟩ := fold_inv hb l h1 fun n hn => hl n (by simp [hn])
    exact ⟨h3, by simp only [List.foldl_cons]; omega⟩
theorem or_lt {a b : Nat} (ha : a < 4096) (hb : b < 4096) : a ||| b < 4096 := Nat.or_lt_two_pow (n := 12) ha hb
theorem pow_lt {d : Nat} (h : d < 12) : 2 ^ d < 4096 := Nat.pow_lt_pow_right (a := 2) (m := d) (n := 12) (by omega) h
theorem setM_lt {x : Ins} {regs n funcs : Int} (h : InsOk x regs n funcs) (hr : regs ≤ 12) : setM x < 4096 := by
  unfold setM
  split
  · exact pow_lt (by have := h.dst1; have := h.dst2; omega)
  · omega
theorem nextL_le {x : Ins} {regs funcs : Int} {n : Nat} (h : InsOk x regs n funcs) {pc : Nat} (hpc : pc < n) : ∀ k ∈ nextL x pc, k ≤ n := by
  unfold nextL
  have hj := h.jump
  intro k hk
  split at hk
  · simp at hk
  · split at hk
    · have := hj (.inl (by assumption)); simp at hk; omega
    · split at hk
      · have := hj (.inr (by assumption)); simp at hk; omega
      · simp at hk; omega
theorem popS_inv {c : List Ins} {s : SS} (h : SInv c s) : SInv c (popS s) :=
  ⟨h.len, fun pc hpc => h.todo pc (List.dropLast_subset _ hpc), h.mask⟩
theorem bitsAt_lt {c : List Ins} {s : SS} (h : SInv c s) (pc : Nat) : bitsAt s pc < 4096 := by
  unfold bitsAt
  cases h1 : s.out[pc]? with
  | none => simp
  | some o => cases o with
    | none => simp
    | some m => exact h.mask pc m h1
/-- A function whose instructions are in shape. -/
structure COk (c : List Ins) : Prop where
  ins : ∀ x ∈ c, ∃ regs funcs : Int, regs ≤ 12 ∧ InsOk x regs c.length funcs
theorem FnOk.cok {f : Fnc} {funcs : Int} (h : FnOk f funcs) : COk f.code := ⟨fun x hx => ⟨f.regs, funcs, h.r2, h.ins x hx⟩⟩
theorem stepS_inv {c : List Ins} {s : SS} (hc : COk c) (h : SInv c s) : SInv c (stepS c s) ∧ (s.todo ≠ [] → muS (stepS c s) < muS s) := by
  unfold stepS
  cases hl : s.todo.getLast? with
  | none => exact ⟨h, fun hne => absurd (List.getLast?_eq_none_iff.1 hl) hne⟩
  | some pc =>
    dsimp only
    have hm : muS (popS s) < muS s := by
      have hne : s.todo ≠ [] := fun e => by rw [e] at hl; simp at hl
      have := List.length_pos_iff.2 hne
      simp only [muS, popS, List.length_dropLast]
      omega
    cases hx : c[pc]? with
    | none => exact ⟨popS_inv h, fun _ => hm⟩
    | some x =>
      dsimp only
      obtain ⟨regs, funcs, hr, hi⟩ := hc.ins x (List.mem_of_getElem? hx)
      have hpc : pc < c.length := (List.getElem?_eq_some_iff.1 hx).1
      obtain ⟨h1, h2⟩ := fold_inv (b := bitsAt s pc ||| setM x) (or_lt (bitsAt_lt h pc) (setM_lt hi hr)) (nextL x pc) (popS_inv h) (nextL_le hi hpc)
      exact ⟨h1, fun _ => by omega⟩
theorem startS_inv (f : Fnc) (h : f.params ≤ 2) : SInv f.code (startS f) := by
  have hp : 2 ^ f.params.toNat - 1 < 4096 := by
    have : 2 ^ f.params.toNat < 4096 := pow_lt (by omega)
    omega
  have hget : ∀ i, (startS f).out[i]? = if i = 0 then some (some (2 ^ f.params.toNat - 1)) else (List.replicate (f.code.length + 1) none)[i]? := fun i => by
    unfold startS
    exact set_out (by simp : (List.replicate (f.code.length + 1) (none : Option Nat))[0]? = some none) i
  refine ⟨by simp [startS], fun pc hpc => ?_, fun i m hm => ?_⟩
  · simp [startS] at hpc; subst hpc
    exact ⟨by omega, _, by rw [hget]; rfl⟩
  · rw [hget] at hm
    split at hm
    · simp at hm; omega
    · rw [List.getElem?_replicate] at hm
      split at hm <;> simp at hm
theorem iterS_inv {f : Fnc} (hc : COk f.code) (h : f.params ≤ 2) : ∀ k, SInv f.code (iterS f.code k (startS f))
  | 0 => startS_inv f h
  | k + 1 => (stepS_inv hc (iterS_inv hc h k)).1
theorem stepS_nil (c : List Ins) {s : SS} (h : s.todo = []) : stepS c s = s := by unfold stepS; rw [h]; rfl
theorem iterS_nil (c : List Ins) {s : SS} {k : Nat} (h : (iterS c k s).todo = []) : ∀ j, iterS c (k + j) s = iterS c k s
  | 0 => rfl
  | j + 1 => by
    show stepS c (iterS c (k + j) s) = _
    rw [iterS_nil c h j, stepS_nil c h]
theorem iterS_mu {f : Fnc} (hc : COk f.code) (h : f.params ≤ 2) : ∀ k, (iterS f.code k (startS f)).todo = [] ∨ muS (iterS f.code k (startS f)) + k ≤ muS (startS f)
  | 0 => .inr (by simp [iterS])
  | k + 1 => by
    by_cases he : (iterS f.code k (startS f)).todo = []
    · left
      show (stepS _ (iterS f.code k (startS f))).todo = []
      rw [stepS_nil _ he, he]
    · rcases iterS_mu hc h k with h1 | h1
      · exact absurd h1 he
      · right
        have := (stepS_inv hc (iterS_inv hc h k)).2 he
        show muS (stepS _ (iterS f.code k (startS f))) + (k + 1) ≤ _
        omega
/-- What comes out, at the end of the work. -/
def sureF (f : Fnc) : List (Option Nat) := (iterS f.code (muS (startS f) + 1) (startS f)).out
theorem sureF_end {f : Fnc} (hc : COk f.code) (h : f.params ≤ 2) : (iterS f.code (muS (startS f) + 1) (startS f)).todo = [] := by
  rcases iterS_mu hc h (muS (startS f) + 1) with h1 | h1
  · exact h1
  · omega
theorem sureF_of {f : Fnc} (hc : COk f.code) (h : f.params ≤ 2) {k : Nat} (he : (iterS f.code k (startS f)).todo = []) : (iterS f.code k (startS f)).out = sureF f := by
  unfold sureF
  rcases Nat.le_total k (muS (startS f) + 1) with hk | hk
  · obtain ⟨j, hj⟩ := Nat.exists_eq_add_of_le hk
    rw [hj, iterS_nil _ he]
  · obtain ⟨j, hj⟩ := Nat.exists_eq_add_of_le hk
    rw [hj, iterS_nil _ (sureF_end hc h)]
theorem sureF_inv {f : Fnc} (hc : COk f.code) (h : f.params ≤ 2) : SInv f.code (iterS f.code (muS (startS f) + 1) (startS f)) := iterS_inv hc h _
theorem sureF_length {f : Fnc} (hc : COk f.code) (h : f.params ≤ 2) : (sureF f).length = f.code.length + 1 := (sureF_inv hc h).len
theorem sureF_mask {f : Fnc} (hc : COk f.code) (h : f.params ≤ 2) (i m : Nat) (hm : (sureF f)[i]? = some (some m)) : m < 4096 := (sureF_inv hc h).mask i m hm
/-- The principle: what holds of the beginning, is handed on by each instruction, and by two ways that meet, holds everywhere. -/
theorem sure_ind {f : Fnc} (Q : Nat → Nat → Prop) (h0 : Q 0 (2 ^ f.params.toNat - 1)) (hs : ∀ pc m x n, Q pc m → f.code[pc]? = some x → n ∈ nextL x pc → Q n (m ||| setM x))
    (hm : ∀ n a b, Q n a → Q n b → Q n (a &&& b)) (hinv : ∀ k, SInv f.code (iterS f.code k (startS f))) : ∀ i m, (sureF f)[i]? = some (some m) → Q i m := by
  have key : ∀ k i m, (iterS f.code k (startS f)).out[i]? = some (some m) → Q i m := by
    intro k
    induction k with
    | zero =>
      intro i m hi
      have hget : (startS f).out[i]? = if i = 0 then some (some (2 ^ f.params.toNat - 1)) else (List.replicate (f.code.length + 1) none)[i]? :=
        set_out (by simp : (List.replicate (f.code.length + 1) (none : Option Nat))[0]? = some none) i
      change (startS f).out[i]? = _ at hi
      rw [hget] at hi
      split at hi
      · next h => subst h; simp at hi; rw [← hi]; exact h0
      · rw [List.getElem?_replicate] at hi
        split at hi <;> simp at hi
    | succ k ih =>
      have hrelax : ∀ (l : List Nat) (b : Nat) (s : SS), (∀ i m, s.out[i]? = some (some m) → Q i m) → (∀ n ∈ l, Q n b) → ∀ i m, (l.foldl (relax b) s).out[i]? = some (some m) → Q i m := by
        intro l
        induction l with
        | nil => intro b s h _; exact h
        | cons n l ihl =>
          intro b s h hn
          refine ihl b _ ?_ fun n hn' => hn n (by simp [hn'])
          intro i m hi
          unfold relax at hi
          split at hi
          · next h1 =>
            dsimp only at hi
            rw [set_out h1] at hi
            split at hi
            · next h2 => subst h2; simp at hi; subst hi; exact hn i (by simp)
            · exact h i m hi
          · next was h1 =>
            split at hi
            · exact h i m hi
            · dsimp only at hi
              rw [set_out h1] at hi
              split at hi
              · next h2 => subst h2; simp at hi; subst hi; exact hm i _ _ (h i was h1) (hn i (by simp))
              · exact h i m hi
          · exact h i m hi
      intro i m hi
      change (stepS f.code (iterS f.code k (startS f))).out[i]? = _ at hi
      unfold stepS at hi
      split at hi
      · exact ih i m hi
      · next pc hpc =>
        split at hi
        · exact ih i m hi
        · next x hx =>
          refine hrelax _ _ (popS _) ih ?_ i m hi
          intro n hn
          refine hs pc _ x n ?_ hx hn
          obtain ⟨-, m0, hm0⟩ := (hinv k).todo pc (List.mem_of_getLast? hpc)
          have : bitsAt (iterS f.code k (startS f)) pc = m0 := by unfold bitsAt; rw [hm0]; rfl
          rw [this]
          exact ih pc m0 hm0
  exact key _
end Tier
