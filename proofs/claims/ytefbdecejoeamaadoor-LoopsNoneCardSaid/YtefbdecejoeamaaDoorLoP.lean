/-
  Plain: a loop: its head, and all that come to the block that leads back without it. No program is in sight.
-/
import Derived.Test.YtefbdecejoeamaaDoorAvF
namespace Tier
open Go Go.RowKit Go.Proofs.YtefbdecejoeamaaDoor
/-- From x one comes to back without the head. -/
inductive Ret (G : Nat → Nat → Prop) (head back : Nat) : Nat → Prop
  | base : Ret G head back back
  | step {q x : Nat} (h : Ret G head back x) (hx : x ≠ head) (he : G q x) : Ret G head back q
theorem Ret.dom {G : Nat → Nat → Prop} {head back x : Nat} (h : Ret G head back x) (hd : ¬ Av G head back) : ¬ Av G head x := by
  induction h with
  | base => exact hd
  | step _ hx he ih => exact fun hv => ih (.step hv he hx)
structure LoopR (F : Fnc) (head back : Nat) (row : List Nat) : Prop where
  at_ : ∃ rest, row = head :: rest ∧ rest.Pairwise (· < ·) ∧ ∀ b ∈ rest, b < (hdL F).length ∧ b ≠ head ∧ Ret (Edg F) head back b ∧ ∀ q, Edg F q b → q ∈ row
def bB (c : List Bool) (i : Nat) : Bool := c.getD i false
theorem bB_set {out : List Bool} {k : Nat} (hk : k < out.length) (i : Nat) : bB (out.set k true) i = if i = k then true else bB out i := by
  unfold bB
  rw [List.getD_eq_getElem?_getD, List.getD_eq_getElem?_getD, List.getElem?_set]
  by_cases h : k = i
  · subst h; simp [hk]
  · rw [if_neg h, if_neg (fun e => h e.symm)]
def fls (l : List Bool) : Nat := (l.map fun b => if b = true then 0 else 1).sum
theorem fls_set : ∀ (l : List Bool) (k : Nat), k < l.length → bB l k = false → fls (l.set k true) + 1 = fls l
  | [], k, h, _ => by simp at h
  | b :: l, 0, _, h => by
    have hb : b = false := h
    subst hb
    simp [fls]; omega
  | b :: l, k + 1, h, h2 => by
    have := fls_set l k (by simpa using h) h2
    simp [fls] at *; omega
theorem fls_le (l : List Bool) : fls l ≤ l.length := by
  induction l with
  | nil => simp [fls]
  | cons b l ih => simp [fls] at *; split <;> omega
def muQ (n : Nat) (ins : List Bool) (todo : List Nat) : Nat := fls ins * (4 + 2 * n) + todo.length
structure LI (F : Fnc) (head back : Nat) (ins : List Bool) (todo : List Nat) : Prop where
  len : ins.length = (hdL F).length
  hd : bB ins head = true
  mem : ∀ x, bB ins x = true → x = head ∨ Ret (Edg F) head back x
  td : ∀ x ∈ todo, x < (hdL F).length ∧ Ret (Edg F) head back x
  cl : ∀ x q, bB ins x = true → x ≠ head → Edg F q x → bB ins q = true ∨ q ∈ todo
section
variable {F : Fnc} {head back i : Nat} {ins : List Bool} {todo : List Nat}
theorem bB_lt (h : bB ins i = true) : i < ins.length := by
  rcases Nat.lt_or_ge i ins.length with h1 | h1
  · exact h1
  · unfold bB at h; rw [List.getD_eq_getElem?_getD, List.getElem?_eq_none h1] at h; simp at h
theorem LI.start {n : Nat} (hn : (hdL F).length = n) (hh : head < n) (hb : back < n) : LI F head back ((List.replicate n false).set head true) [back] := by
  have hs := bB_set (out := List.replicate n false) (k := head) (by simp; exact hh)
  have h0 : ∀ x, bB (List.replicate n false) x = false := fun x => by
    unfold bB; rw [List.getD_eq_getElem?_getD, List.getElem?_replicate]; split <;> rfl
  refine ⟨by simp [hn], by rw [hs, if_pos rfl], fun x hx => ?_, fun x hx => ?_, fun x q hx hne => ?_⟩
  · rw [hs, h0] at hx
    by_cases e : x = head
    · exact .inl e
    · rw [if_neg e] at hx; cases hx
  · rw [List.mem_singleton.1 hx, hn]; exact ⟨hb, .base⟩
  · rw [hs, h0, if_neg hne] at hx; cases hx
theorem LI.pop (h : LI F head back ins (todo ++ [i])) (hi : bB ins i = true) : LI F head back ins todo :=
  ⟨h.len, h.hd, h.mem, fun x hx => h.td x (by simp [hx]), fun x q hx hne hE => by
    rcases h.cl x q hx hne hE with h1 | h1
    · exact .inl h1
    · rcases List.mem_append.1 h1 with h2 | h2
      · exact .inr h2
      · rw [List.mem_singleton.1 h2]; exact .inl hi⟩
theorem LI.visit (h : LI F head back ins (todo ++ [i])) (hi : bB ins i = false) : LI F head back (ins.set i true) (todo ++ prevN F i) ∧ i < (hdL F).length ∧ i ≠ head := by
  obtain ⟨h1, h2⟩ := h.td i (by simp)
  have hl : i < ins.length := by rw [h.len]; exact h1
  have hs := bB_set hl
  have hne : i ≠ head := fun e => by rw [e, h.hd] at hi; cases hi
  refine ⟨⟨by simp [h.len], by rw [hs, h.hd]; simp, fun x hx => ?_, fun x hx => ?_, fun x q hx hx2 hE => ?_⟩, h1, hne⟩
  · rw [hs] at hx
    by_cases e : x = i
    · rw [e]; exact .inr h2
    · rw [if_neg e] at hx; exact h.mem x hx
  · rcases List.mem_append.1 hx with h3 | h3
    · exact h.td x (by simp [h3])
    · have hE := prevN_mem.1 h3
      exact ⟨hE.1, .step h2 hne hE⟩
  · rw [hs] at hx
    rw [hs]
    by_cases e : x = i
    · rw [e] at hE
      exact .inr (List.mem_append_right _ (prevN_mem.2 hE))
    · rw [if_neg e] at hx
      rcases h.cl x q hx hx2 hE with h3 | h3
      · left; split
        · rfl
        · exact h3
      · rcases List.mem_append.1 h3 with h4 | h4
        · exact .inr (List.mem_append_left _ h4)
        · rw [List.mem_singleton.1 h4]; left; simp
def restL (ins : List Bool) (head k : Nat) : List Nat := (List.range k).filter fun i => bB ins i && (i != head)
theorem restL_succ (ins : List Bool) (head k : Nat) : restL ins head (k + 1) = restL ins head k ++ if (bB ins k && (k != head)) = true then [k] else [] := by
  unfold restL
  rw [List.range_succ, List.filter_append, List.filter_cons, List.filter_nil]
theorem LI.done (h : LI F head back ins []) {n : Nat} (hn : (hdL F).length = n) : LoopR F head back (head :: restL ins head n) := by
  refine ⟨_, rfl, List.Pairwise.filter _ List.pairwise_lt_range, fun b hb => ?_⟩
  unfold restL at hb
  rw [List.mem_filter, Bool.and_eq_true] at hb
  obtain ⟨h1, h2, h3⟩ := hb
  have hne : b ≠ head := by simpa using h3
  refine ⟨by rw [hn]; exact List.mem_range.1 h1, hne, (h.mem b h2).resolve_left hne, fun q hE => ?_⟩
  rcases h.cl b q h2 hne hE with h4 | h4
  · by_cases e : q = head
    · rw [e]; simp
    · refine List.mem_cons_of_mem _ (List.mem_filter.2 ⟨List.mem_range.2 (by rw [← hn]; exact hE.1), ?_⟩)
      simp [h4, e]
  · cases h4
theorem mu_visit {n : Nat} (hl : i < ins.length) (hi : bB ins i = false) (hp : (prevN F i).length ≤ 3 + 2 * n) : muQ n (ins.set i true) (todo ++ prevN F i) < muQ n ins (todo ++ [i]) := by
  have h1 := fls_set ins i hl hi
  unfold muQ
  rw [← h1, Nat.add_mul]
  simp; omega
theorem mu_skip {n : Nat} : muQ n ins todo < muQ n ins (todo ++ [i]) := by unfold muQ; simp
theorem mu_start' {n : Nat} (h : n ≤ 40) : muQ n ((List.replicate n false).set head true) [back] ≤ 4000 := by
  have h1 := fls_le ((List.replicate n false).set head true)
  simp at h1
  have h2 : fls ((List.replicate n false).set head true) * (4 + 2 * n) ≤ 40 * 84 := Nat.mul_le_mul (by omega) (by omega)
  unfold muQ
  simp; omega
theorem todo_le {n : Nat} : todo.length ≤ muQ n ins todo := by unfold muQ; omega
end
end Tier
