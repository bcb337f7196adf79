/-
  Plain data and law: which registers are surely set ahead of each place of a function: the list that is worked off, and what holds of its end. No program is in sight.
-/
import Derived.Test.YtfdppmjoinodgaaDoorOk
namespace Tier
open Go Go.RowKit
def setsB (x : Ins) : Bool := decide (x.op ≤ 13) || (x.op == 17 || x.op == 18)
def setM (x : Ins) : Nat := if setsB x = true then 2 ^ x.dst.toNat else 0
def nextL (x : Ins) (pc : Nat) : List Nat := if x.op = 19 then [] else if x.op = 15 then [x.imm.toNat] else if x.op = 16 then [pc + 1, x.imm.toNat] else [pc + 1]
structure SS where
  out : List (Option Nat)
  todo : List Nat
def relax (b : Nat) (s : SS) (n : Nat) : SS :=
  match s.out[n]? with
  | some none => ⟨s.out.set n (some b), s.todo ++ [n]⟩
  | some (some was) => if was &&& b = was then s else ⟨s.out.set n (some (was &&& b)), s.todo ++ [n]⟩
  | none => s
def bitsAt (s : SS) (pc : Nat) : Nat := ((s.out[pc]?).getD none).getD 0
def popS (s : SS) : SS := ⟨s.out, s.todo.dropLast⟩
def stepS (c : List Ins) (s : SS) : SS :=
  match s.todo.getLast? with
  | none => s
  | some pc => match c[pc]? with
    | none => popS s
    | some x => (nextL x pc).foldl (relax (bitsAt s pc ||| setM x)) (popS s)
def startS (f : Fnc) : SS := ⟨(List.replicate (f.code.length + 1) none).set 0 (some (2 ^ f.params.toNat - 1)), [0]⟩
def iterS (c : List Ins) : Nat → SS → SS
  | 0, s => s
  | k + 1, s => stepS c (iterS c k s)
/-- What holds of the work at each time. -/
structure SInv (c : List Ins) (s : SS) : Prop where
  len : s.out.length = c.length + 1
  todo : ∀ pc ∈ s.todo, pc ≤ c.length ∧ ∃ m, s.out[pc]? = some (some m)
  mask : ∀ (i m : Nat), s.out[i]? = some (some m) → m < 4096
def wt : Option Nat → Nat
  | none => 4096
  | some m => m
def sumW (l : List (Option Nat)) : Nat := (l.map wt).sum
def muS (s : SS) : Nat := 2 * sumW s.out + s.todo.length
theorem sumW_set : ∀ (l : List (Option Nat)) (n : Nat) (o o' : Option Nat), l[n]? = some o → sumW (l.set n o') + wt o = sumW l + wt o'
  | [], n, o, o', h => by simp at h
  | x :: l, 0, o, o', h => by simp at h; subst h; simp [sumW]; omega
  | x :: l, n + 1, o, o', h => by
    have := sumW_set l n o o' (by simpa using h)
    simp [sumW] at *; omega
theorem set_out {l : List (Option Nat)} {n : Nat} {o : Option Nat} {v : Option Nat} (h : l[n]? = some o) (i : Nat) : (l.set n v)[i]? = if i = n then some v else l[i]? := by
  have hn : n < l.length := (List.getElem?_eq_some_iff.1 h).1
  rw [List.getElem?_set]
  by_cases hi : n = i
  · subst hi; simp [hn]
  · rw [if_neg hi, if_neg (fun h => hi h.symm)]
theorem and_lt_of_ne {a b : Nat} (h : ¬ a &&& b = a) : a &&& b < a := by
  have := Nat.and_le_left (n := a) (m := b)
  omega
theorem relax_inv {c : List Ins} {s : SS} {b n : Nat} (h : SInv c s) (hb : b < 4096) (hn : n ≤ c.length) : SInv c (relax b s n) ∧ muS (relax b s n) ≤ muS s ∧ (∀ (pc m : Nat), s.out[pc]? = some (some m) → ∃ m', (relax b s n).out[pc]? = some (some m')) := by
  unfold relax
  have hg : s.out[n]? = some (s.out[n]'(by rw [h.len]; omega)) := List.getElem?_eq_getElem _
  cases ho : s.out[n]'(by rw [h.len]; omega) with
  | none =>
    rw [ho] at hg
    rw [hg]
    dsimp only
    have hset := fun i => set_out (v := some b) hg i
    have hw := sumW_set s.out n none (some b) hg
    refine ⟨⟨by simp [h.len], fun pc hpc => ?_, fun i m hm => ?_⟩, ?_, fun pc m hm => ?_⟩
    · try dsimp only at *
      rw [hset]
      rcases List.mem_append.1 hpc with hp | hp
      · obtain ⟨h1, m, hm⟩ := h.todo pc hp
        refine ⟨h1, ?_⟩
        split
        · exact ⟨_, rfl⟩
        · exact ⟨m, hm⟩
      · simp at hp; subst hp
        exact ⟨hn, by simp⟩
    · try dsimp only at *
      rw [hset] at hm
      split at hm
      · simp at hm; omega
      · exact h.mask i m hm
    · simp only [muS, List.length_append, List.length_cons, List.length_nil]
      simp only [wt] at hw
      omega
    · try dsimp only
      rw [hset]
      split
      · exact ⟨_, rfl⟩
      · exact ⟨m, hm⟩
  | some was =>
    rw [ho] at hg
    rw [hg]
    dsimp only
    by_cases he : was &&& b = was
    · rw [if_pos he]
      exact ⟨h, Nat.le_refl _, fun pc m hm => ⟨m, hm⟩⟩
    · rw [if_neg he]
      have hset := fun i => set_out (v := some (was &&& b)) hg i
      have hw := sumW_set s.out n (some was) (some (was &&& b)) hg
      have hlt := and_lt_of_ne he
      refine ⟨⟨by simp [h.len], fun pc hpc => ?_, fun i m hm => ?_⟩, ?_, fun pc m hm => ?_⟩
      · try dsimp only at *
        rw [hset]
        rcases List.mem_append.1 hpc with hp | hp
        · obtain ⟨h1, m, hm⟩ := h.todo pc hp
          refine ⟨h1, ?_⟩
          split
          · exact ⟨_, rfl⟩
          · exact ⟨m, hm⟩
        · simp at hp; subst hp
          exact ⟨hn, by simp⟩
      · try dsimp only at *
        rw [hset] at hm
        split at hm
        · simp at hm
          have := h.mask n was hg
          omega
        · exact h.mask i m hm
      · simp only [muS, List.length_append, List.length_cons, List.length_nil]
        simp only [wt] at hw
        omega
      · try dsimp only
        rw [hset]
        split
        · exact ⟨_, rfl⟩
        · exact ⟨m, hm⟩
theorem fold_inv {c : List Ins} {b : Nat} (hb : b < 4096) : ∀ (l : List Nat) {s : SS}, SInv c s → (∀ n ∈ l, n ≤ c.length) → SInv c (l.foldl (relax b) s) ∧ muS (l.foldl (relax b) s) ≤ muS s
  | [], s, h, _ => ⟨h, Nat.le_refl _⟩
  | n :: l, s, h, hl => by
    obtain ⟨h1, h2, -⟩ := relax_inv h hb (hl n (by simp))
    obtain ⟨h3, h4⟩ := fold_inv hb l h1 fun n hn => hl n (by simp [hn])
    exact ⟨h3, by simp only [List.foldl_cons]; omega⟩
theorem or_lt {a b : Nat} (ha : a < 4096) (hb : b < 4096) : a ||| b < 4096 := Nat.or_lt_two_pow (n := 12) ha hb
theorem pow_lt {d : Nat} (h : d < 12) : 2 ^ d < 4096 := Nat.pow_lt_pow_right (a := 2) (m := d) (n := 12) (by omega) h
theorem setM_lt {x : Ins} {regs n funcs : Int} (h : InsOk x regs n funcs) (hr : regs ≤ 12) : setM x < 4096 := by
  unfold setM
  split
  · exact pow_lt (by have := h.dst1; have := h.dst2; omega)
  · omega
theorem nextL_le {x : Ins} {regs funcs : Int} {n : Nat} (h : InsOk x regs n funcs) {pc : Nat} (hpc : pc < n) : ∀ k ∈ nextL x pc, k ≤ n := by
  unfold nextL
  have hj := h.jump
  intro k hk
  split at hk
  · simp at hk
  · split at hk
    · have := hj (.inl (by assumption)); simp at hk; omega
    · split at hk
      · have := hj (.inr (by assumption)); simp at hk; omega
      · simp at hk; omega
theorem popS_inv {c : List Ins} {s : SS} (h : SInv c s) : SInv c (popS s) :=
  ⟨h.len, fun pc hpc => h.todo pc (List.dropLast_subset _ hpc), h.mask⟩
theorem bitsAt_lt {c : List Ins} {s : SS} (h : SInv c s) (pc : Nat) : bitsAt s pc < 4096 := by
  unfold bitsAt
  cases h1 : s.out[pc]? with
  | none => simp
  | some o => cases o with
    | none => simp
    | some m => exact h.mask pc m h1
/-- A function whose instructions are in shape. -/
structure COk (c : List Ins) : Prop where
  ins : ∀ x ∈ c, ∃ regs funcs : Int, regs ≤ 12 ∧ InsOk x regs c.length funcs
theorem FnOk.cok {f : Fnc} {funcs : Int} (h : FnOk f funcs) : COk f.code := ⟨fun x hx => ⟨f.regs, funcs, h.r2, h.ins x hx⟩⟩
theorem stepS_inv {c : List Ins} {s : SS} (hc : COk c) (h : SInv c s) : SInv c (stepS c s) ∧ (s.todo ≠ [] → muS (stepS c s) < muS s) := by
  unfold stepS
  cases hl : s.todo.getLast? with
  | none => exact ⟨h, fun hne => absurd (List.getLast?_eq_none_iff.1 hl) hne⟩
  | some pc =>
    dsimp only
    have hm : muS (popS s) < muS s := by
      have hne : s.todo ≠ [] := fun e => by rw [e] at hl; simp at hl
      have := List.length_pos_iff.2 hne
      simp only [muS, popS, List.length_dropLast]
      omega
    cases hx : c[pc]? with
    | none => exact ⟨popS_inv h, fun _ => hm⟩
    | some x =>
      dsimp only
      obtain ⟨regs, funcs, hr, hi⟩ := hc.ins x (List.mem_of_getElem? hx)
      have hpc : pc < c.length := (List.getElem?_eq_some_iff.1 hx).1
      obtain ⟨h1, h2⟩ := fold_inv (b := bitsAt s pc ||| setM x) (or_lt (bitsAt_lt h pc) (setM_lt hi hr)) (nextL x pc) (popS_inv h) (nextL_le hi hpc)
      exact ⟨h1, fun _ => by omega⟩
theorem startS_inv (f : Fnc) (h : f.params ≤ 2) : SInv f.code (startS f) := by
  have hp : 2 ^ f.params.toNat - 1 < 4096 := by
    have : 2 ^ f.params.toNat < 4096 := pow_lt (by omega)
    omega
  have hget : ∀ i, (startS f).out[i]? = if i = 0 then some (some (2 ^ f.params.toNat - 1)) else (List.replicate (f.code.length + 1) none)[i]? := fun i => by
    unfold startS
    exact set_out (by simp : (List.replicate (f.code.length + 1) (none : Option Nat))[0]? = some none) i
  refine ⟨by simp [startS], fun pc hpc => ?_, fun i m hm => ?_⟩
  · simp [startS] at hpc; subst hpc
    exact ⟨by omega, _, by rw [hget]; rfl⟩
  · rw [hget] at hm
    split at hm
    · simp at hm; omega
    · rw [List.getElem?_replicate] at hm
      split at hm <;> simp at hm
theorem iterS_inv {f : Fnc} (hc : COk f.code) (h : f.params ≤ 2) : ∀ k, SInv f.code (iterS f.code k (startS f))
  | 0 => startS_inv f h
  | k + 1 => (stepS_inv hc (iterS_inv hc h k)).1
theorem stepS_nil (c : List Ins) {s : SS} (h : s.todo = []) : stepS c s = s := by unfold stepS; rw [h]; rfl
theorem iterS_nil (c : List Ins) {s : SS} {k : Nat} (h : (iterS c k s).todo = []) : ∀ j, iterS c (k + j) s = iterS c k s
  | 0 => rfl
  | j + 1 => by
    show stepS c (iterS c (k + j) s) = _
    rw [iterS_nil c h j, stepS_nil c h]
theorem iterS_mu {f : Fnc} (hc : COk f.code) (h : f.params ≤ 2) : ∀ k, (iterS f.code k (startS f)).todo = [] ∨ muS (iterS f.code k (startS f)) + k ≤ muS (startS f)
  | 0 => .inr (by simp [iterS])
  | k + 1 => by
    by_cases he : (iterS f.code k (startS f)).todo = []
    · left
      show (stepS _ (iterS f.code k (startS f))).todo = []
      rw [stepS_nil _ he, he]
    · rcases iterS_mu hc h k with h1 | h1
      · exact absurd h1 he
      · right
        have := (stepS_inv hc (iterS_inv hc h k)).2 he
        show muS (stepS _ (iterS f.code k (startS f))) + (k + 1) ≤ _
        omega
/-- What comes out, at the end of the work. -/
def sureF (f : Fnc) : List (Option Nat) := (iterS f.code (muS (startS f) + 1) (startS f)).out
theorem sureF_end {f : Fnc} (hc : COk f.code) (h : f.params ≤ 2) : (iterS f.code (muS (startS f) + 1) (startS f)).todo = [] := by
  rcases iterS_mu hc h (muS (startS f) + 1) with h1 | h1
  · exact h1
  · omega
theorem sureF_of {f : Fnc} (hc : COk f.code) (h : f.params ≤ 2) {k : Nat} (he : (iterS f.code k (startS f)).todo = []) : (iterS f.code k (startS f)).out = sureF f := by
  unfold sureF
  rcases Nat.le_total k (muS (startS f) + 1) with hk | hk
  · obtain ⟨j, hj⟩ := Nat.exists_eq_add_of_le hk
    rw [hj, iterS_nil _ he]
  · obtain ⟨j, hj⟩ := Nat.exists_eq_add_of_le hk
    rw [hj, iterS_nil _ (sureF_end hc h)]
theorem sureF_inv {f : Fnc} (hc : COk f.code) (h : f.params ≤ 2) : SInv f.code (iterS f.code (muS (startS f) + 1) (startS f)) := iterS_inv hc h _
theorem sureF_length {f : Fnc} (hc : COk f.code) (h : f.params ≤ 2) : (sureF f).length = f.code.length + 1 := (sureF_inv hc h).len
theorem sureF_mask {f : Fnc} (hc : COk f.code) (h : f.params ≤ 2) (i m : Nat) (hm : (sureF f)[i]? = some (some m)) : m < 4096 := (sureF_inv hc h).mask i m hm
/-- The principle: what holds of the beginning, is handed on by each instruction, and by two ways that meet, holds everywhere. -/
theorem sure_ind {f : Fnc} (Q : Nat → Nat → Prop) (h0 : Q 0 (2 ^ f.params.toNat - 1)) (hs : ∀ pc m x n, Q pc m → f.code[pc]? = some x → n ∈ nextL x pc → Q n (m ||| setM x))
    (hm : ∀ n a b, Q n a → Q n b → Q n (a &&& b)) (hinv : ∀ k, SInv f.code (iterS f.code k (startS f))) : ∀ i m, (sureF f)[i]? = some (some m) → Q i m := by
  have key : ∀ k i m, (iterS f.code k (startS f)).out[i]? = some (some m) → Q i m := by
    intro k
    induction k with
    | zero =>
      intro i m hi
      have hget : (startS f).out[i]? = if i = 0 then some (some (2 ^ f.params.toNat - 1)) else (List.replicate (f.code.length + 1) none)[i]? :=
        set_out (by simp : (List.replicate (f.code.length + 1) (none : Option Nat))[0]? = some none) i
      change (startS f).out[i]? = _ at hi
      rw [hget] at hi
      split at hi
      · next h => subst h; simp at hi; rw [← hi]; exact h0
      · rw [List.getElem?_replicate] at hi
        split at hi <;> simp at hi
    | succ k ih =>
      have hrelax : ∀ (l : List Nat) (b : Nat) (s : SS), (∀ i m, s.out[i]? = some (some m) → Q i m) → (∀ n ∈ l, Q n b) → ∀ i m, (l.foldl (relax b) s).out[i]? = some (some m) → Q i m := by
        intro l
        induction l with
        | nil => intro b s h _; exact h
        | cons n l ihl =>
          intro b s h hn
          refine ihl b _ ?_ fun n hn' => hn n (by simp [hn'])
          intro i m hi
          unfold relax at hi
          split at hi
          · next h1 =>
            dsimp only at hi
            rw [set_out h1] at hi
            split at hi
            · next h2 => subst h2; simp at hi; subst hi; exact hn i (by simp)
            · exact h i m hi
          · next was h1 =>
            split at hi
            · exact h i m hi
            · dsimp only at hi
              rw [set_out h1] at hi
              split at hi
              · next h2 => subst h2; simp at hi; subst hi; exact hm i _ _ (h i was h1) (hn i (by simp))
              · exact h i m hi
          · exact h i m hi
      intro i m hi
      change (stepS f.code (iterS f.code k (startS f))).out[i]? = _ at hi
      unfold stepS at hi
      split at hi
      · exact ih i m hi
      · next pc hpc =>
        split at hi
        · exact ih i m hi
        · next x hx =>
          refine hrelax _ _ (popS _) ih ?_ i m hi
          intro n hn
          refine hs pc _ x n ?_ hx hn
          obtain ⟨-, m0, hm0⟩ := (hinv k).todo pc (List.mem_of_getLast? hpc)
          have : bitsAt (iterS f.code k (startS f)) pc = m0 := by unfold bitsAt; rw [hm0]; rfl
          rw [this]
          exact ih pc m0 hm0
  exact key _
end Tier
/-
  Plain law: at the end of the work each place hands on what it has (closure). No program is in sight.
-/
namespace Tier
open Go Go.RowKit
/-- What a place hands on is met at n. -/
def Met (s : SS) (n b : Nat) : Prop := ∃ m, s.out[n]? = some (some m) ∧ m &&& b = m
theorem relax_met_self {c : List Ins} {s : SS} {b n : Nat} (h : SInv c s) (hn : n ≤ c.length) : Met (relax b s n) n b := by
  unfold relax
  have hg : s.out[n]? = some (s.out[n]'(by rw [h.len]; omega)) := List.getElem?_eq_getElem _
  cases ho : s.out[n]'(by rw [h.len]; omega) with
  | none =>
    rw [ho] at hg; rw [hg]
    exact ⟨b, by dsimp only; rw [set_out hg]; simp, Nat.and_self b⟩
  | some was =>
    rw [ho] at hg; rw [hg]; dsimp only
    by_cases he : was &&& b = was
    · rw [if_pos he]; exact ⟨was, hg, he⟩
    · rw [if_neg he]
      exact ⟨was &&& b, by dsimp only; rw [set_out hg]; simp, by rw [Nat.and_assoc, Nat.and_self]⟩
theorem relax_met {s : SS} {b n k d : Nat} (h : Met s k d) : Met (relax b s n) k d := by
  obtain ⟨m, hm, hd⟩ := h
  unfold relax
  split
  · next h1 =>
    refine ⟨m, ?_, hd⟩
    dsimp only
    rw [set_out h1]
    split
    · next h2 => subst h2; rw [h1] at hm; simp at hm
    · exact hm
  · next was h1 =>
    split
    · exact ⟨m, hm, hd⟩
    · by_cases hk : k = n
      · subst hk
        rw [h1] at hm; simp at hm; subst hm
        refine ⟨was &&& b, by dsimp only; rw [set_out h1]; simp, ?_⟩
        rw [Nat.and_assoc, Nat.and_comm b d, ← Nat.and_assoc, hd]
      · exact ⟨m, by dsimp only; rw [set_out h1, if_neg hk]; exact hm, hd⟩
  · exact ⟨m, hm, hd⟩
theorem fold_met {b k d : Nat} : ∀ (l : List Nat) {s : SS}, Met s k d → Met (l.foldl (relax b) s) k d
  | [], _, h => h
  | _ :: l, _, h => fold_met l (relax_met h)
theorem fold_met_self {c : List Ins} {b : Nat} (hb : b < 4096) : ∀ (l : List Nat) {s : SS}, SInv c s → (∀ n ∈ l, n ≤ c.length) → ∀ n ∈ l, Met (l.foldl (relax b) s) n b
  | [], _, _, _, n, hn => by simp at hn
  | a :: l, s, h, hl, n, hn => by
    rcases List.mem_cons.1 hn with rfl | hn
    · exact fold_met l (relax_met_self h (hl _ (by simp)))
    · exact fold_met_self hb l (relax_inv h hb (hl _ (by simp))).1 (fun n hn => hl n (by simp [hn])) n hn
/-- Each place that waits for nothing has handed on what it has. -/
def Closed (c : List Ins) (s : SS) : Prop := ∀ (pc m : Nat) (x : Ins), s.out[pc]? = some (some m) → pc ∉ s.todo → c[pc]? = some x → ∀ n ∈ nextL x pc, Met s n (m ||| setM x)
theorem relax_out {s : SS} {b n i : Nat} (h : (relax b s n).out[i]? ≠ s.out[i]?) : i ∈ (relax b s n).todo := by
  by_cases hi : i = n
  · subst hi
    unfold relax at *
    cases h1 : s.out[i]? with
    | none => rw [h1] at h; exact absurd h1 h
    | some o =>
      rw [h1] at h
      cases o with
      | none => exact List.mem_append_right _ (List.mem_singleton.2 rfl)
      | some was =>
        dsimp only at *
        by_cases he : was &&& b = was
        · rw [if_pos he] at h; exact absurd h1 h
        · rw [if_neg he]; exact List.mem_append_right _ (List.mem_singleton.2 rfl)
  · exfalso
    apply h
    unfold relax
    split
    · next h1 => dsimp only; rw [set_out h1, if_neg hi]
    · next was h1 =>
      split
      · rfl
      · dsimp only; rw [set_out h1, if_neg hi]
    · rfl
theorem relax_todo {s : SS} {b n i : Nat} (h : i ∈ s.todo) : i ∈ (relax b s n).todo := by
  unfold relax
  split
  · simp [h]
  · split
    · exact h
    · simp [h]
  · exact h
theorem relax_closed {c : List Ins} {s : SS} {b n : Nat} (P : Nat → Prop) (h : ∀ (pc m : Nat) (x : Ins), s.out[pc]? = some (some m) → pc ∉ s.todo → ¬ P pc → c[pc]? = some x → ∀ n ∈ nextL x pc, Met s n (m ||| setM x)) :
    ∀ (pc m : Nat) (x : Ins), (relax b s n).out[pc]? = some (some m) → pc ∉ (relax b s n).todo → ¬ P pc → c[pc]? = some x → ∀ n' ∈ nextL x pc, Met (relax b s n) n' (m ||| setM x) := by
  intro pc m x ho ht hp hx n' hn'
  by_cases hsame : (relax b s n).out[pc]? = s.out[pc]?
  · rw [hsame] at ho
    exact relax_met (h pc m x ho (fun h => ht (relax_todo h)) hp hx n' hn')
  · exact absurd (relax_out hsame) ht
theorem fold_closed {c : List Ins} {b : Nat} (P : Nat → Prop) : ∀ (l : List Nat) {s : SS}, (∀ (pc m : Nat) (x : Ins), s.out[pc]? = some (some m) → pc ∉ s.todo → ¬ P pc → c[pc]? = some x → ∀ n ∈ nextL x pc, Met s n (m ||| setM x)) →
    ∀ (pc m : Nat) (x : Ins), (l.foldl (relax b) s).out[pc]? = some (some m) → pc ∉ (l.foldl (relax b) s).todo → ¬ P pc → c[pc]? = some x → ∀ n ∈ nextL x pc, Met (l.foldl (relax b) s) n (m ||| setM x)
  | [], _, h => h
  | _ :: l, _, h => fold_closed P l (relax_closed P h)
theorem fold_out {b i : Nat} : ∀ (l : List Nat) {s : SS}, (l.foldl (relax b) s).out[i]? ≠ s.out[i]? → i ∈ (l.foldl (relax b) s).todo
  | [], _, h => absurd rfl h
  | n :: l, s, h => by
    by_cases h1 : (relax b s n).out[i]? = s.out[i]?
    · exact fold_out l (by simpa [h1] using h)
    · have hk : ∀ (l : List Nat) (s : SS), i ∈ s.todo → i ∈ (l.foldl (relax b) s).todo := by
        intro l
        induction l with
        | nil => intro s h; exact h
        | cons n l ih => intro s h; exact ih _ (relax_todo h)
      exact hk l _ (relax_out h1)
theorem stepS_closed {c : List Ins} {s : SS} (hc : COk c) (hi : SInv c s) (h : Closed c s) : Closed c (stepS c s) := by
  unfold stepS
  cases hl : s.todo.getLast? with
  | none => exact h
  | some pc =>
    dsimp only
    have hne : s.todo ≠ [] := fun e => by rw [e] at hl; simp at hl
    have htodo : ∀ i, i ∈ s.todo → i ∉ (popS s).todo → i = pc := by
      intro i h1 h2
      have h3 := List.dropLast_concat_getLast hne
      have h4 : s.todo.getLast hne = pc := by rw [List.getLast?_eq_some_getLast hne] at hl; exact Option.some.inj hl
      rw [← h3, h4] at h1
      rcases List.mem_append.1 h1 with h1 | h1
      · exact absurd h1 h2
      · simpa using h1
    cases hx : c[pc]? with
    | none =>
      intro p m x ho ht hxx n hn
      by_cases hp : p ∈ s.todo
      · have := htodo p hp ht
        subst this
        rw [hx] at hxx; cases hxx
      · exact h p m x ho hp hxx n hn
    | some x =>
      dsimp only
      obtain ⟨regs, funcs, hr, hio⟩ := hc.ins x (List.mem_of_getElem? hx)
      have hpc : pc < c.length := (List.getElem?_eq_some_iff.1 hx).1
      have hb : bitsAt s pc ||| setM x < 4096 := or_lt (bitsAt_lt hi pc) (setM_lt hio hr)
      have hself := fold_met_self hb (nextL x pc) (popS_inv hi) (nextL_le hio hpc)
      have hcl := fold_closed (c := c) (b := bitsAt s pc ||| setM x) (fun i => i = pc) (nextL x pc) (s := popS s) (fun p m y ho ht hp hy n hn => by
        by_cases hpt : p ∈ s.todo
        · exact absurd (htodo p hpt ht) hp
        · exact h p m y ho hpt hy n hn)
      intro p m y ho ht hy n hn
      by_cases hp : p = pc
      · subst hp
        rw [hx] at hy
        obtain rfl := Option.some.inj hy
        by_cases hsame : ((nextL x p).foldl (relax (bitsAt s p ||| setM x)) (popS s)).out[p]? = (popS s).out[p]?
        · have hm : bitsAt s p = m := by
            rw [hsame] at ho
            change s.out[p]? = _ at ho
            unfold bitsAt; rw [ho]; rfl
          rw [← hm]
          exact hself n hn
        · exact absurd (fold_out _ hsame) ht
      · exact hcl p m y ho ht hp hy n hn
theorem startS_closed (f : Fnc) : Closed f.code (startS f) := by
  intro pc m x ho ht
  have hget : (startS f).out[pc]? = if pc = 0 then some (some (2 ^ f.params.toNat - 1)) else (List.replicate (f.code.length + 1) none)[pc]? :=
    set_out (by simp : (List.replicate (f.code.length + 1) (none : Option Nat))[0]? = some none) pc
  rw [hget] at ho
  split at ho
  · next h => subst h; simp [startS] at ht
  · rw [List.getElem?_replicate] at ho
    split at ho <;> simp at ho
theorem iterS_closed {f : Fnc} (hc : COk f.code) (h : f.params ≤ 2) : ∀ k, Closed f.code (iterS f.code k (startS f))
  | 0 => startS_closed f
  | k + 1 => stepS_closed hc (iterS_inv hc h k) (iterS_closed hc h k)
/-- At the end: what a place has, and what its instruction sets, is had by each next one. -/
theorem sure_closed {f : Fnc} (hc : COk f.code) (h : f.params ≤ 2) {pc m : Nat} {x : Ins} (ho : (sureF f)[pc]? = some (some m)) (hx : f.code[pc]? = some x) {n : Nat} (hn : n ∈ nextL x pc) :
    ∃ m', (sureF f)[n]? = some (some m') ∧ m' &&& (m ||| setM x) = m' :=
  iterS_closed hc h _ pc m x ho (by rw [sureF_end hc h]; simp) hx n hn
theorem sure_zero {f : Fnc} (hc : COk f.code) (h : f.params ≤ 2) : (sureF f)[0]? = some (some (2 ^ f.params.toNat - 1)) := by
  have key : ∀ k, ∃ m, (iterS f.code k (startS f)).out[0]? = some (some m) := by
    intro k
    induction k with
    | zero => exact ⟨2 ^ f.params.toNat - 1, by
        change (startS f).out[0]? = _
        unfold startS
        rw [set_out (by simp : (List.replicate (f.code.length + 1) (none : Option Nat))[0]? = some none)]; rfl⟩
    | succ k ih =>
      obtain ⟨m, hm⟩ := ih
      have hrelax : ∀ (l : List Nat) (b : Nat) (s : SS), (∃ m, s.out[0]? = some (some m)) → ∃ m, (l.foldl (relax b) s).out[0]? = some (some m) := by
        intro l
        induction l with
        | nil => intro b s h; exact h
        | cons n l ihl =>
          intro b s ⟨m, h⟩
          refine ihl b _ ?_
          unfold relax
          split
          · next h1 => dsimp only; rw [set_out h1]; split; exact ⟨_, rfl⟩; exact ⟨m, h⟩
          · next was h1 =>
            split
            · exact ⟨m, h⟩
            · dsimp only; rw [set_out h1]; split; exact ⟨_, rfl⟩; exact ⟨m, h⟩
          · exact ⟨m, h⟩
      change ∃ m, (stepS f.code (iterS f.code k (startS f))).out[0]? = some (some m)
      unfold stepS
      split
      · exact ⟨m, hm⟩
      · split
        · exact ⟨m, hm⟩
        · exact hrelax _ _ (popS _) ⟨m, hm⟩
  have hge : ∀ (i m : Nat), (sureF f)[i]? = some (some m) → (2 ^ f.params.toNat - 1) &&& m = 2 ^ f.params.toNat - 1 := by
    refine sure_ind (fun _ m => (2 ^ f.params.toNat - 1) &&& m = 2 ^ f.params.toNat - 1) (Nat.and_self _) (fun pc m x n hq _ _ => ?_) (fun n a b ha hb => ?_) (iterS_inv hc h)
    · apply Nat.eq_of_testBit_eq
      intro i
      have := congrArg (fun k => k.testBit i) hq
      simp only [Nat.testBit_and, Nat.testBit_or] at *
      cases h1 : (2 ^ f.params.toNat - 1).testBit i <;> simp_all
    · rw [← Nat.and_assoc, ha, hb]
  have hle : ∀ (k m : Nat), (iterS f.code k (startS f)).out[0]? = some (some m) → m ≤ 2 ^ f.params.toNat - 1 := by
    intro k
    induction k with
    | zero =>
      intro m hm
      change (startS f).out[0]? = _ at hm
      unfold startS at hm
      rw [set_out (by simp : (List.replicate (f.code.length + 1) (none : Option Nat))[0]? = some none)] at hm
      simp at hm; omega
    | succ k ih =>
      have hrelax : ∀ (l : List Nat) (b : Nat) (s : SS), (∃ m, s.out[0]? = some (some m) ∧ m ≤ 2 ^ f.params.toNat - 1) → ∃ m, (l.foldl (relax b) s).out[0]? = some (some m) ∧ m ≤ 2 ^ f.params.toNat - 1 := by
        intro l
        induction l with
        | nil => intro b s h; exact h
        | cons n l ihl =>
          intro b s ⟨m, h, hmm⟩
          refine ihl b _ ?_
          unfold relax
          split
          · next h1 =>
            dsimp only; rw [set_out h1]; split
            · next h2 => subst h2; rw [h1] at h; simp at h
            · exact ⟨m, h, hmm⟩
          · next was h1 =>
            split
            · exact ⟨m, h, hmm⟩
            · dsimp only; rw [set_out h1]; split
              · next h2 =>
                subst h2; rw [h1] at h; simp at h; subst h
                exact ⟨_, rfl, Nat.le_trans Nat.and_le_left hmm⟩
              · exact ⟨m, h, hmm⟩
          · exact ⟨m, h, hmm⟩
      intro m hm
      obtain ⟨m0, hm0⟩ := key k
      have h0 := ih m0 hm0
      have : ∃ m, (stepS f.code (iterS f.code k (startS f))).out[0]? = some (some m) ∧ m ≤ 2 ^ f.params.toNat - 1 := by
        unfold stepS
        split
        · exact ⟨m0, hm0, h0⟩
        · split
          · exact ⟨m0, hm0, h0⟩
          · exact hrelax _ _ (popS _) ⟨m0, hm0, h0⟩
      obtain ⟨m1, hm1, h1⟩ := this
      change (stepS f.code (iterS f.code k (startS f))).out[0]? = _ at hm
      rw [hm1] at hm; simp at hm; omega
  obtain ⟨m, hm⟩ := key (muS (startS f) + 1)
  have h1 := hge 0 m hm
  have h2 := hle _ m hm
  have h3 : 2 ^ f.params.toNat - 1 ≤ m := by rw [← h1]; exact Nat.and_le_right
  have : m = 2 ^ f.params.toNat - 1 := by omega
  rw [← this]; exact hm
end Tier
/-
  Plain law: what proof.Check says of a program; a program whose registers are all set first is right. No program is in sight.
-/
namespace Tier
open Go Go.RowKit
/-- What an instruction reads, as bits; n: how many parameters the function has that it calls. -/
def readsM (x : Ins) (n : Int) : Nat :=
  if x.op = 1 ∨ x.op = 15 then 0 else if x.op = 13 ∨ x.op = 16 ∨ x.op = 18 ∨ x.op = 19 then 2 ^ x.a.toNat
  else if x.op = 17 then (if n = 0 then 0 else if n = 1 then 2 ^ x.a.toNat else 2 ^ x.a.toNat ||| 2 ^ x.b.toNat) else 2 ^ x.a.toNat ||| 2 ^ x.b.toNat
def parOf (p : List Fnc) (x : Ins) : Int := ((p[x.imm.toNat]?).map Fnc.params).getD 0
/-- Is something read at this place that is not surely set? -/
def badAt (p : List Fnc) (f : Fnc) (pc : Nat) : Bool :=
  match f.code[pc]?, (sureF f)[pc]? with
  | some x, some (some m) => readsM x (parOf p x) - (readsM x (parOf p x) &&& m) != 0
  | _, _ => false
def endAt (f : Fnc) : Bool := (((sureF f)[f.code.length]?).getD none).isSome
def fnP (p : List Fnc) (f : Fnc) : Int := if (List.range f.code.length).any (badAt p f) = true then 6 else if endAt f = true then 7 else 0
def checkP (p : List Fnc) : Int := if progE p ≠ 0 then progE p else firstE (p.map (fnP p))
theorem sub_mask {a m : Nat} (h : a &&& m = a) : (a - (a &&& m) != 0) = false := by rw [h]; simp
theorem mask_of {a m : Nat} (h : (a - (a &&& m) != 0) = false) : a &&& m = a := by
  have := Nat.and_le_left (n := a) (m := m)
  simp at h; omega
def low (k : Nat) : Nat := 2 ^ k - 1
theorem low_bit (k i : Nat) : (low k).testBit i = decide (i < k) := Nat.testBit_two_pow_sub_one k i
/-- a lies within b. -/
def Sub (a b : Nat) : Prop := ∀ i, a.testBit i = true → b.testBit i = true
theorem Sub.and {a b : Nat} (h : Sub a b) : a &&& b = a := by
  apply Nat.eq_of_testBit_eq
  intro i
  rw [Nat.testBit_and]
  cases ha : a.testBit i
  · rfl
  · rw [h i ha]; rfl
theorem Sub.of_and {a b : Nat} (h : a &&& b = a) : Sub a b := by
  intro i hi
  have := congrArg (fun k => k.testBit i) h
  simp only [Nat.testBit_and] at this
  rw [hi] at this; simpa using this
theorem pow_bit (d i : Nat) : (2 ^ d).testBit i = decide (d = i) := Nat.testBit_two_pow
theorem sub_low_pow {d k : Nat} (h : d < k) : Sub (2 ^ d) (low k) := by
  intro i hi
  rw [pow_bit] at hi
  rw [low_bit]
  simp at hi ⊢; omega
theorem sub_or {a b c : Nat} (h1 : Sub a c) (h2 : Sub b c) : Sub (a ||| b) c := by
  intro i hi
  rw [Nat.testBit_or] at hi
  cases ha : a.testBit i
  · rw [ha] at hi; exact h2 i (by simpa using hi)
  · exact h1 i ha
theorem Sub.trans {a b c : Nat} (h1 : Sub a b) (h2 : Sub b c) : Sub a c := fun i hi => h2 i (h1 i hi)
theorem sub_zero (a : Nat) : Sub 0 a := fun i hi => by simp at hi
theorem sub_or_left {a b : Nat} : Sub a (a ||| b) := fun i hi => by rw [Nat.testBit_or, hi]; rfl
theorem sub_or_right {a b : Nat} : Sub b (a ||| b) := fun i hi => by rw [Nat.testBit_or, hi]; simp
theorem sub_and {a b c : Nat} (h1 : Sub a b) (h2 : Sub a c) : Sub a (b &&& c) := fun i hi => by rw [Nat.testBit_and, h1 i hi, h2 i hi]; rfl
theorem reads_low {x : Ins} {regs n funcs : Int} (h : InsOk x regs n funcs) (k : Int) : Sub (readsM x k) (low regs.toNat) := by
  have ha : Sub (2 ^ x.a.toNat) (low regs.toNat) := sub_low_pow (by have := h.a1; have := h.a2; omega)
  have hb : Sub (2 ^ x.b.toNat) (low regs.toNat) := sub_low_pow (by have := h.b1; have := h.b2; omega)
  unfold readsM
  split
  · exact sub_zero _
  · split
    · exact ha
    · split
      · split
        · exact sub_zero _
        · split
          · exact ha
          · exact sub_or ha hb
      · exact sub_or ha hb
theorem preOf_get (bp br : Int) (i : Nat) (x : Ins) (h : (preOf bp br true)[i]? = some x) : x = ⟨1, pickedI bp 3 + i, 0, 0, pickedI bp 3 + i⟩ := by
  simp only [preOf, if_true, preIns, List.getElem?_map] at h
  rw [Option.map_eq_some_iff] at h
  obtain ⟨j, hj, rfl⟩ := h
  rw [List.getElem?_range (by
    have := (List.getElem?_eq_some_iff.1 hj).1
    simpa using this)] at hj
  simp at hj; subst hj; rfl
theorem preOf_len (bp br : Int) : (preOf bp br true).length = ((if pickedI bp 3 < 1 then 1 else pickedI bp 3) + pickedI br 11 - pickedI bp 3).toNat := by simp [preOf, preIns]
theorem full_ok (bp br : Int) (raws : List Ins) (funcs : Int) (p : List Fnc) (hf : FnOk (mkFn bp br raws funcs true) funcs) : fnP p (mkFn bp br raws funcs true) = 0 := by
  have hlen := mkFn_len bp br raws funcs true
  have hreg := mkFn_regs bp br raws funcs true
  have hpl := preOf_len bp br
  rw [hreg] at hpl
  have hpar : (mkFn bp br raws funcs true).params = pickedI bp 3 := rfl
  have p0 := picked_in bp 3 (by omega)
  have hr1 := hf.r1
  have hr2 := hf.p3
  rw [hpar] at hr2
  have hcode : ∀ pc x, (mkFn bp br raws funcs true).code[pc]? = some x → pc < (preOf bp br true).length → x = ⟨1, pickedI bp 3 + pc, 0, 0, pickedI bp 3 + pc⟩ := by
    intro pc x hx hpc
    rw [mkFn_code, List.append_assoc, List.getElem?_append_left hpc] at hx
    exact preOf_get bp br pc x hx
  have hlast : ∀ x, (mkFn bp br raws funcs true).code[(mkFn bp br raws funcs true).code.length - 1]? = some x → x.op = 19 := by
    intro x hx
    rw [hlen, mkFn_code] at hx
    rw [List.getElem?_append_right (by simp; omega)] at hx
    have : (preOf bp br true).length + min raws.length 22 + 2 - 1 - (preOf bp br true ++ (raws.take 22).map (fun x => rawIns x (mkFn bp br raws funcs true).regs ((preOf bp br true).length + (min raws.length 22 : Nat) + 2) funcs)).length = 1 := by simp; omega
    rw [this] at hx
    simp at hx; rw [← hx]
  generalize mkFn bp br raws funcs true = f at *
  generalize (preOf bp br true).length = np at *
  have hQ := sure_ind (f := f) (fun pc m => pc < f.code.length ∧ Sub (low (min (f.params.toNat + pc) f.regs.toNat)) m) ⟨by have := hf.c1; omega, by
      intro i hi
      rw [low_bit] at hi
      have : (2 ^ f.params.toNat - 1) = low f.params.toNat := rfl
      rw [this, low_bit]
      simp at hi ⊢; omega⟩ (fun pc m x n hq hx hn => by
      obtain ⟨hpc, hs⟩ := hq
      have hio := hf.ins x (List.mem_of_getElem? hx)
      by_cases hp : pc < np
      · have := hcode pc x hx hp
        subst this
        simp [nextL] at hn
        subst hn
        refine ⟨by omega, fun i hi => ?_⟩
        rw [low_bit] at hi
        simp at hi
        rw [Nat.testBit_or]
        by_cases hi2 : i < min (f.params.toNat + pc) f.regs.toNat
        · rw [hs i (by rw [low_bit]; simpa using hi2)]; rfl
        · have : i = f.params.toNat + pc := by omega
          have h2 : setM ⟨1, pickedI bp 3 + pc, 0, 0, pickedI bp 3 + pc⟩ = 2 ^ i := by
            unfold setM
            rw [if_pos (by simp [setsB])]
            dsimp only
            congr 1; omega
          rw [h2, pow_bit]; simp
      · have hmin : min (f.params.toNat + pc) f.regs.toNat = f.regs.toNat := by omega
        rw [hmin] at hs
        have hne : n < f.code.length := by
          unfold nextL at hn
          have hpl : pc = f.code.length - 1 → x.op = 19 := fun h => hlast x (by rw [← h]; exact hx)
          have hj := hio.jump
          split at hn
          · simp at hn
          · split at hn
            · have := hj (.inl (by assumption)); simp at hn; omega
            · split at hn
              · have := hj (.inr (by assumption))
                simp at hn
                rcases hn with rfl | rfl
                · have : pc ≠ f.code.length - 1 := fun h => absurd (hpl h) (by assumption)
                  omega
                · omega
              · simp at hn
                have : pc ≠ f.code.length - 1 := fun h => absurd (hpl h) (by assumption)
                omega
        refine ⟨hne, fun i hi => ?_⟩
        rw [low_bit] at hi
        simp at hi
        rw [Nat.testBit_or, hs i (by rw [low_bit]; simp; omega)]; rfl) (fun n a b ha hb => ⟨ha.1, sub_and ha.2 hb.2⟩) (iterS_inv hf.cok hf.p2)
  unfold fnP
  rw [if_neg, if_neg]
  · unfold endAt
    cases h1 : (sureF f)[f.code.length]? with
    | none => simp
    | some o => cases o with
      | none => simp
      | some m => exact absurd (hQ _ _ h1).1 (by omega)
  · simp only [List.any_eq_true, List.mem_range, not_exists, not_and]
    intro pc hpc
    unfold badAt
    cases hx : f.code[pc]? with
    | none => simp
    | some x =>
      cases h1 : (sureF f)[pc]? with
      | none => simp
      | some o => cases o with
        | none => simp
        | some m =>
          dsimp only
          have hq := (hQ _ _ h1).2
          have hio := hf.ins x (List.mem_of_getElem? hx)
          have hsub : Sub (readsM x (parOf p x)) m := by
            by_cases hp : pc < np
            · have := hcode pc x hx hp
              subst this
              simp only [readsM, true_or, if_true]
              exact sub_zero _
            · have hmin : min (f.params.toNat + pc) f.regs.toNat = f.regs.toNat := by omega
              rw [hmin] at hq
              exact (reads_low hio _).trans hq
          rw [sub_mask hsub.and]; simp
end Tier
namespace Go.Proofs.YtfdppmjoinodgaaDoor
open Go.RowKit Tier
/-- A right program out of raw numbers. -/
def mkP (l : List Fnc) : List Fnc := if checkP (mkProg l false) = 0 then mkProg l false else mkProg l true
theorem full_right (l : List Fnc) : checkP (mkProg l true) = 0 := by
  have hp := progE_mk l true
  have ho := prog_ok hp
  unfold checkP
  rw [if_neg (by simp [hp])]
  apply firstE_none
  intro y hy
  obtain ⟨f, hf, rfl⟩ := List.mem_map.1 hy
  have hfo := ho.fn f hf
  rw [mkProg_length] at hfo
  obtain ⟨g, rfl⟩ := mkProg_mem hf
  exact full_ok _ _ _ _ _ hfo
theorem mkP_right (l : List Fnc) : checkP (mkP l) = 0 := by
  unfold mkP
  split
  · assumption
  · exact full_right l
theorem mkP_length (l : List Fnc) : (mkP l).length = funcsN l := by
  unfold mkP
  split <;> exact mkProg_length _ _
end Go.Proofs.YtfdppmjoinodgaaDoor
