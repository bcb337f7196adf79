/-
  Plain laws of the byte code's machine: steps add up, fuel falls, runs end, events grow, more answers, more fuel, the memory. No program is in sight.
-/
import Derived.Test.YtfngkpbbimibaaaDoorStP
namespace Tier
open Go Go.RowKit
section
variable {p : List Fnc}
theorem walkSt_stop {s : St} (h : s.status ≠ 0) (n : Nat) : walkSt p n s = s := by cases n <;> simp [walkSt, h]
theorem walkSt_run {s : St} (h : s.status = 0) (n : Nat) : walkSt p (n + 1) s = walkSt p n (stepSt p s) := by simp [walkSt, h]
theorem walkSt_add : ∀ (a b : Nat) (s : St), walkSt p (a + b) s = walkSt p b (walkSt p a s)
  | 0, b, s => by rw [Nat.zero_add]; rfl
  | a + 1, b, s => by
    rw [Nat.add_right_comm]
    by_cases h : s.status = 0
    · rw [walkSt_run h, walkSt_run h]; exact walkSt_add a b _
    · rw [walkSt_stop h, walkSt_stop h, walkSt_stop h]
theorem walkSt_one (s : St) : walkSt p 1 s = nextSt p s := by
  unfold nextSt
  by_cases h : s.status = 0
  · rw [walkSt_run h, if_pos h]; rfl
  · rw [walkSt_stop h, if_neg h]
theorem walkSt_succ (n : Nat) (s : St) : walkSt p (n + 1) s = nextSt p (walkSt p n s) := by rw [walkSt_add n 1, walkSt_one]
/-- A step of each kind, whatever the state. -/
theorem exec_split (fs : List Fr) (f : Fr) :
    (mkOk (insOf p f).op (f.reg (insOf p f).b) = true ∧ ∀ s, execSt p s fs f = topSt s fs ((f.put (insOf p f).dst (mk (insOf p f).op (f.reg (insOf p f).a) (f.reg (insOf p f).b) (insOf p f).imm)).at (f.pc + 1))) ∨
    ((insOf p f).op = 5 ∧ ∀ s, execSt p s fs f = { s with status := 3 }) ∨
    (((insOf p f).op = 13 ∨ (insOf p f).op = 14) ∧ ∀ s, execSt p s fs f = { s with status := 4 }) ∨
    ((insOf p f).op = 13 ∧ 0 ≤ f.reg (insOf p f).a ∧ f.reg (insOf p f).a < 16 ∧ ∀ s, execSt p s fs f = topSt s fs ((f.put (insOf p f).dst (s.mem.getD (f.reg (insOf p f).a).toNat 0)).at (f.pc + 1))) ∨
    ((insOf p f).op = 14 ∧ 0 ≤ f.reg (insOf p f).a ∧ f.reg (insOf p f).a < 16 ∧ ∀ s, execSt p s fs f = { topSt s fs (f.at (f.pc + 1)) with mem := s.mem.set (f.reg (insOf p f).a).toNat (f.reg (insOf p f).b) }) ∨
    ((insOf p f).op = 15 ∧ ∀ s, execSt p s fs f = topSt s fs (f.at (insOf p f).imm)) ∨
    ((insOf p f).op = 16 ∧ ∀ s, execSt p s fs f = topSt s fs (f.at (if f.reg (insOf p f).a = 0 then f.pc + 1 else (insOf p f).imm))) ∨
    ((insOf p f).op = 17 ∧ fs.length + 1 = 8 ∧ ∀ s, execSt p s fs f = { s with fuel := s.fuel - 1, status := 5 }) ∨
    ((insOf p f).op = 17 ∧ fs.length + 1 ≠ 8 ∧ ∀ s, execSt p s fs f = { s with fuel := s.fuel - 1, frames := fs ++ [f, newFr (insOf p f).imm (fnOf p (insOf p f).imm).params (f.reg (insOf p f).a) (f.reg (insOf p f).b)] }) ∨
    ((insOf p f).op = 18 ∧ ∀ s, execSt p s fs f = { topSt s fs ((f.put (insOf p f).dst (s.answers.headD 0)).at (f.pc + 1)) with events := s.events ++ [f.reg (insOf p f).a], answers := s.answers.tail }) ∨
    (((insOf p f).op < 1 ∨ 18 < (insOf p f).op) ∧ fs = [] ∧ ∀ s, execSt p s fs f = { s with fuel := s.fuel - 1, frames := [], value := f.reg (insOf p f).a, status := 1 }) ∨
    (((insOf p f).op < 1 ∨ 18 < (insOf p f).op) ∧ ∃ gs g, fs = gs ++ [g] ∧ ∀ s, execSt p s fs f = { s with fuel := s.fuel - 1, frames := gs ++ [retFr p g (f.reg (insOf p f).a)] }) := by
  by_cases h1 : mkOk (insOf p f).op (f.reg (insOf p f).b) = true
  · exact .inl ⟨h1, fun s => by unfold execSt; rw [if_pos h1]⟩
  refine .inr ?_
  by_cases h2 : (insOf p f).op = 5
  · exact .inl ⟨h2, fun s => by unfold execSt; rw [if_neg h1, if_pos h2]⟩
  refine .inr ?_
  by_cases h3 : ((insOf p f).op = 13 ∨ (insOf p f).op = 14) ∧ (f.reg (insOf p f).a < 0 ∨ 16 ≤ f.reg (insOf p f).a)
  · exact .inl ⟨h3.1, fun s => by unfold execSt; rw [if_neg h1, if_neg h2, if_pos h3]⟩
  refine .inr ?_
  by_cases h4 : (insOf p f).op = 13
  · exact .inl ⟨h4, by omega, by omega, fun s => by unfold execSt; rw [if_neg h1, if_neg h2, if_neg h3, if_pos h4]⟩
  refine .inr ?_
  by_cases h5 : (insOf p f).op = 14
  · exact .inl ⟨h5, by omega, by omega, fun s => by unfold execSt; rw [if_neg h1, if_neg h2, if_neg h3, if_neg h4, if_pos h5]⟩
  refine .inr ?_
  by_cases h6 : (insOf p f).op = 15
  · exact .inl ⟨h6, fun s => by unfold execSt; rw [if_neg h1, if_neg h2, if_neg h3, if_neg h4, if_neg h5, if_pos h6]⟩
  refine .inr ?_
  by_cases h7 : (insOf p f).op = 16
  · exact .inl ⟨h7, fun s => by unfold execSt; rw [if_neg h1, if_neg h2, if_neg h3, if_neg h4, if_neg h5, if_neg h6, if_pos h7]⟩
  refine .inr ?_
  by_cases h8 : (insOf p f).op = 17
  · by_cases h9 : fs.length + 1 = 8
    · exact .inl ⟨h8, h9, fun s => by unfold execSt; rw [if_neg h1, if_neg h2, if_neg h3, if_neg h4, if_neg h5, if_neg h6, if_neg h7, if_pos h8, if_pos h9]⟩
    · exact .inr (.inl ⟨h8, h9, fun s => by unfold execSt; rw [if_neg h1, if_neg h2, if_neg h3, if_neg h4, if_neg h5, if_neg h6, if_neg h7, if_pos h8, if_neg h9]⟩)
  refine .inr (.inr ?_)
  by_cases h10 : (insOf p f).op = 18
  · exact .inl ⟨h10, fun s => by unfold execSt; rw [if_neg h1, if_neg h2, if_neg h3, if_neg h4, if_neg h5, if_neg h6, if_neg h7, if_neg h8, if_pos h10]⟩
  refine .inr ?_
  have h11 : (insOf p f).op < 1 ∨ 18 < (insOf p f).op := by simp [mkOk] at h1; omega
  rcases List.eq_nil_or_concat fs with rfl | ⟨gs, g, rfl⟩
  · exact .inl ⟨h11, rfl, fun s => by unfold execSt; rw [if_neg h1, if_neg h2, if_neg h3, if_neg h4, if_neg h5, if_neg h6, if_neg h7, if_neg h8, if_neg h10]; rfl⟩
  · exact .inr ⟨h11, gs, g, List.concat_eq_append, fun s => by
      unfold execSt
      rw [if_neg h1, if_neg h2, if_neg h3, if_neg h4, if_neg h5, if_neg h6, if_neg h7, if_neg h8, if_neg h10, List.concat_eq_append]
      simp⟩
/-- What a step costs. -/
theorem exec_fuel (s : St) (fs : List Fr) (f : Fr) : ((execSt p s fs f).fuel = s.fuel - 1 ∧ ((execSt p s fs f).status = s.status ∨ (execSt p s fs f).status = 1 ∨ (execSt p s fs f).status = 5)) ∨ ((execSt p s fs f).fuel = s.fuel ∧ ((execSt p s fs f).status = 3 ∨ (execSt p s fs f).status = 4)) := by
  rcases exec_split (p := p) fs f with ⟨-, h⟩ | ⟨-, h⟩ | ⟨-, h⟩ | ⟨-, -, -, h⟩ | ⟨-, -, -, h⟩ | ⟨-, h⟩ | ⟨-, h⟩ | ⟨-, -, h⟩ | ⟨-, -, h⟩ | ⟨-, h⟩ | ⟨-, -, h⟩ | ⟨-, gs, g, -, h⟩ <;> rw [h] <;> simp [topSt]
theorem step_fuel {s : St} (h : StInv p s) (hst : s.status = 0) : ((stepSt p s).fuel = s.fuel - 1 ∧ s.fuel ≠ 0 ∧ ((stepSt p s).status = 0 ∨ (stepSt p s).status = 1 ∨ (stepSt p s).status = 5)) ∨ ((stepSt p s).fuel = s.fuel ∧ s.fuel ≠ 0 ∧ ((stepSt p s).status = 3 ∨ (stepSt p s).status = 4)) ∨ ((stepSt p s).fuel = 0 ∧ s.fuel = 0 ∧ (stepSt p s).status = 2) := by
  by_cases hfu : s.fuel = 0
  · right; right
    unfold stepSt
    rw [if_pos hfu]
    exact ⟨hfu, hfu, rfl⟩
  · obtain ⟨fs, f, hf⟩ := h.running hst
    rw [stepSt_exec hf hfu]
    rcases exec_fuel (p := p) s fs f with ⟨h1, h2⟩ | ⟨h1, h2⟩
    · left; rw [hst] at h2; exact ⟨h1, hfu, h2⟩
    · right; left; exact ⟨h1, hfu, h2⟩
/-- A run ends. -/
theorem walk_ends (hp : Right p) : ∀ (n : Nat) {s : St}, StInv p s → s.fuel < n → (walkSt p n s).status ≠ 0
  | 0, s, h, hn => by have := h.fuel0; omega
  | n + 1, s, h, hn => by
    by_cases hst : s.status = 0
    · rw [walkSt_run hst]
      rcases step_fuel h hst with ⟨h1, h2, h3⟩ | ⟨h1, h2, h3⟩ | ⟨h1, h2, h3⟩
      · exact walk_ends hp n (h.step hp hst) (by omega)
      · rw [walkSt_stop (by omega)]; omega
      · rw [walkSt_stop (by omega)]; omega
    · rw [walkSt_stop hst]; exact hst
theorem walk_same (hp : Right p) {s : St} (h : StInv p s) {n m : Nat} (hn : s.fuel < n) (hm : n ≤ m) : walkSt p m s = walkSt p n s := by
  obtain ⟨k, rfl⟩ : ∃ k, m = n + k := ⟨m - n, by omega⟩
  rw [walkSt_add, walkSt_stop (walk_ends hp n h hn)]
/-- More fuel. -/
def addF (s : St) (k : Int) : St := { s with fuel := s.fuel + k }
theorem exec_addF (s : St) (k : Int) (fs : List Fr) (f : Fr) : execSt p (addF s k) fs f = addF (execSt p s fs f) k := by
  have e : ∀ x : Int, x + k - 1 = x - 1 + k := fun x => by omega
  rcases exec_split (p := p) fs f with ⟨-, h⟩ | ⟨-, h⟩ | ⟨-, h⟩ | ⟨-, -, -, h⟩ | ⟨-, -, -, h⟩ | ⟨-, h⟩ | ⟨-, h⟩ | ⟨-, -, h⟩ | ⟨-, -, h⟩ | ⟨-, h⟩ | ⟨-, -, h⟩ | ⟨-, gs, g, -, h⟩ <;> rw [h, h] <;> simp [topSt, addF, e]
theorem step_addF {s : St} (h : StInv p s) (hst : s.status = 0) (hfu : s.fuel ≠ 0) {k : Int} (hk : 0 ≤ k) : stepSt p (addF s k) = addF (stepSt p s) k := by
  obtain ⟨fs, f, hf⟩ := h.running hst
  have := h.fuel0
  rw [stepSt_exec hf hfu, stepSt_exec (s := addF s k) hf (by show s.fuel + k ≠ 0; omega), exec_addF]
theorem more_same (hp : Right p) {k : Int} (hk : 0 ≤ k) : ∀ (n : Nat) {s : St}, StInv p s → s.fuel < n → (walkSt p n s).status ≠ 2 → walkSt p n (addF s k) = addF (walkSt p n s) k
  | 0, s, h, hn, _ => by have := h.fuel0; omega
  | n + 1, s, h, hn, hs => by
    by_cases hst : s.status = 0
    · rw [walkSt_run hst] at hs ⊢
      rw [walkSt_run (s := addF s k) hst]
      by_cases hfu : s.fuel = 0
      · exfalso
        have e : (stepSt p s).status = 2 := by unfold stepSt; rw [if_pos hfu]
        rw [walkSt_stop (by omega)] at hs
        exact hs e
      · rw [step_addF h hst hfu hk]
        rcases step_fuel h hst with ⟨h1, h2, h3⟩ | ⟨h1, h2, h3⟩ | ⟨h1, h2, h3⟩
        · exact more_same hp hk n (h.step hp hst) (by omega) hs
        · have hz : (stepSt p s).status ≠ 0 := by omega
          rw [walkSt_stop (s := stepSt p s) hz, walkSt_stop (s := addF (stepSt p s) k) hz]
        · omega
    · rw [walkSt_stop hst, walkSt_stop (s := addF s k) hst]
theorem more_empty (hp : Right p) {k : Int} (hk : 0 ≤ k) : ∀ (n : Nat) {s : St}, StInv p s → s.status = 0 → s.fuel < n → (walkSt p n s).status = 2 → (walkSt p n s).fuel = 0 ∧ walkSt p s.fuel.toNat (addF s k) = { walkSt p n s with status := 0, fuel := k }
  | 0, s, h, _, hn, _ => by have := h.fuel0; omega
  | n + 1, s, h, hst, hn, hs => by
    rw [walkSt_run hst] at hs ⊢
    by_cases hfu : s.fuel = 0
    · have e : stepSt p s = { s with status := 2 } := by unfold stepSt; rw [if_pos hfu]
      rw [e, walkSt_stop (by simp), hfu]
      refine ⟨rfl, ?_⟩
      show addF s k = _
      unfold addF
      rw [hfu, Int.zero_add]
      cases s
      simp at hst ⊢
      exact hst
    · rcases step_fuel h hst with ⟨h1, h2, h3⟩ | ⟨h1, h2, h3⟩ | ⟨h1, h2, h3⟩
      · have hst' : (stepSt p s).status = 0 := by
          rcases h3 with h3 | h3 | h3
          · exact h3
          · rw [walkSt_stop (by omega)] at hs; omega
          · rw [walkSt_stop (by omega)] at hs; omega
        have ih := more_empty hp hk n (h.step hp hst) hst' (by omega) hs
        refine ⟨ih.1, ?_⟩
        have hz := h.fuel0
        have e : s.fuel.toNat = (stepSt p s).fuel.toNat + 1 := by rw [h1]; omega
        rw [e, walkSt_run (s := addF s k) hst, step_addF h hst hfu hk]
        exact ih.2
      · rw [walkSt_stop (by omega)] at hs; omega
      · omega
/-- What was told stays told. -/
def Grew (s t : St) : Prop := ∃ e, t.events = s.events ++ e ∧ t.answers = s.answers.drop e.length
theorem Grew.refl (s : St) : Grew s s := ⟨[], by simp, by simp⟩
theorem Grew.trans {s t u : St} (h1 : Grew s t) (h2 : Grew t u) : Grew s u := by
  obtain ⟨e, a1, a2⟩ := h1
  obtain ⟨e', b1, b2⟩ := h2
  exact ⟨e ++ e', by rw [b1, a1]; simp, by rw [b2, a2, List.drop_drop]; simp⟩
theorem exec_grew (s : St) (fs : List Fr) (f : Fr) : Grew s (execSt p s fs f) := by
  rcases exec_split (p := p) fs f with ⟨-, h⟩ | ⟨-, h⟩ | ⟨-, h⟩ | ⟨-, -, -, h⟩ | ⟨-, -, -, h⟩ | ⟨-, h⟩ | ⟨-, h⟩ | ⟨-, -, h⟩ | ⟨-, -, h⟩ | ⟨-, h⟩ | ⟨-, -, h⟩ | ⟨-, gs, g, -, h⟩ <;> rw [h]
  case inr.inr.inr.inr.inr.inr.inr.inr.inr.inl => exact ⟨[f.reg (insOf p f).a], by simp, by simp⟩
  all_goals exact ⟨[], by simp [topSt], by simp [topSt]⟩
theorem step_grew (s : St) : Grew s (stepSt p s) := by
  unfold stepSt
  split
  · exact ⟨[], by simp, by simp⟩
  · split
    · exact Grew.refl s
    · exact exec_grew s _ _
theorem next_grew (s : St) : Grew s (nextSt p s) := by
  unfold nextSt
  split
  · exact step_grew s
  · exact Grew.refl s
theorem walk_grew : ∀ (n : Nat) (s : St), Grew s (walkSt p n s)
  | 0, s => Grew.refl s
  | n + 1, s => by
    unfold walkSt
    split
    · exact (step_grew s).trans (walk_grew n _)
    · exact Grew.refl s
/-- Answers that nobody asks for. -/
def addA (s : St) (l : List Int) : St := { s with answers := s.answers ++ l }
theorem exec_addA (s : St) (l : List Int) (fs : List Fr) (f : Fr) (h : (insOf p f).op = 18 → s.answers ≠ []) : execSt p (addA s l) fs f = addA (execSt p s fs f) l := by
  rcases exec_split (p := p) fs f with ⟨-, h'⟩ | ⟨-, h'⟩ | ⟨-, h'⟩ | ⟨-, -, -, h'⟩ | ⟨-, -, -, h'⟩ | ⟨-, h'⟩ | ⟨-, h'⟩ | ⟨-, -, h'⟩ | ⟨-, -, h'⟩ | ⟨h18, h'⟩ | ⟨-, -, h'⟩ | ⟨-, gs, g, -, h'⟩ <;> rw [h', h']
  case inr.inr.inr.inr.inr.inr.inr.inr.inr.inl =>
    have ha := h h18
    obtain ⟨a, us, he⟩ : ∃ a us, s.answers = a :: us := by
      cases hs : s.answers with
      | nil => exact absurd hs ha
      | cons a us => exact ⟨a, us, rfl⟩
    simp [topSt, addA, he]
  all_goals simp [topSt, addA]
theorem exec_host (s : St) (fs : List Fr) (f : Fr) (h18 : (insOf p f).op = 18) : execSt p s fs f = { topSt s fs ((f.put (insOf p f).dst (s.answers.headD 0)).at (f.pc + 1)) with events := s.events ++ [f.reg (insOf p f).a], answers := s.answers.tail } := by
  rcases exec_split (p := p) fs f with ⟨a1, h⟩ | ⟨a1, h⟩ | ⟨a1, h⟩ | ⟨a1, -, -, h⟩ | ⟨a1, a2, a3, h⟩ | ⟨a1, h⟩ | ⟨a1, h⟩ | ⟨a1, -, h⟩ | ⟨a1, -, h⟩ | ⟨a1, h⟩ | ⟨a1, -, h⟩ | ⟨a1, gs, g, -, h⟩
  case inl => simp [mkOk, h18] at a1
  case inr.inr.inr.inr.inr.inr.inr.inr.inr.inl => exact h s
  all_goals omega
theorem exec_told (s : St) (fs : List Fr) (f : Fr) (h18 : (insOf p f).op ≠ 18) : (execSt p s fs f).events = s.events ∧ (execSt p s fs f).answers = s.answers := by
  rcases exec_split (p := p) fs f with ⟨a1, h⟩ | ⟨a1, h⟩ | ⟨a1, h⟩ | ⟨a1, -, -, h⟩ | ⟨a1, a2, a3, h⟩ | ⟨a1, h⟩ | ⟨a1, h⟩ | ⟨a1, -, h⟩ | ⟨a1, -, h⟩ | ⟨a1, h⟩ | ⟨a1, -, h⟩ | ⟨a1, gs, g, -, h⟩
  case inr.inr.inr.inr.inr.inr.inr.inr.inr.inl => omega
  all_goals (rw [h]; exact ⟨rfl, rfl⟩)
theorem more_answers (hp : Right p) (l : List Int) (N : Nat) : ∀ (n : Nat) {s : St}, StInv p s → s.events.length + s.answers.length = N → (walkSt p n s).events.length ≤ N → walkSt p n (addA s l) = addA (walkSt p n s) l ∧ (walkSt p n s).events.length + (walkSt p n s).answers.length = N
  | 0, s, _, h, _ => ⟨rfl, h⟩
  | n + 1, s, h, hN, hs => by
    by_cases hst : s.status = 0
    · rw [walkSt_run hst] at hs ⊢
      rw [walkSt_run (s := addA s l) hst]
      by_cases hfu : s.fuel = 0
      · have e : ∀ t : St, t.fuel = 0 → stepSt p t = { t with status := 2 } := fun t ht => by unfold stepSt; rw [if_pos ht]
        rw [e s hfu, e (addA s l) hfu, walkSt_stop (s := { addA s l with status := 2 }) (by simp), walkSt_stop (s := { s with status := 2 }) (by simp)]
        exact ⟨rfl, hN⟩
      · obtain ⟨fs, f, hf⟩ := h.running hst
        have hne : (insOf p f).op = 18 → s.answers ≠ [] := by
          intro h18 hnil
          have hg := walk_grew (p := p) n (stepSt p s)
          obtain ⟨e, h1, -⟩ := hg
          have h2 : (stepSt p s).events = s.events ++ [f.reg (insOf p f).a] := by
            rw [stepSt_exec hf hfu, exec_host s fs f h18]
          rw [h1, h2] at hs
          rw [hnil] at hN
          simp at hs hN
          omega
        have hstep : stepSt p (addA s l) = addA (stepSt p s) l := by
          rw [stepSt_exec hf hfu, stepSt_exec (s := addA s l) hf hfu, exec_addA s l fs f hne]
        rw [hstep]
        refine more_answers hp l N n (h.step hp hst) ?_ hs
        by_cases h18 : (insOf p f).op = 18
        · rw [stepSt_exec hf hfu, exec_host s fs f h18]
          have ha := hne h18
          have : 0 < s.answers.length := List.length_pos_iff.2 ha
          simp
          omega
        · rw [stepSt_exec hf hfu, (exec_told s fs f h18).1, (exec_told s fs f h18).2]
          exact hN
    · rw [walkSt_stop hst] at hs ⊢
      rw [walkSt_stop (s := addA s l) hst]
      exact ⟨rfl, hN⟩
/-- The memory. -/
theorem exec_mem (s : St) (fs : List Fr) (f : Fr) : (execSt p s fs f).mem = s.mem ∨ ((insOf p f).op = 14 ∧ 0 ≤ f.reg (insOf p f).a ∧ f.reg (insOf p f).a < 16 ∧ (execSt p s fs f).mem = s.mem.set (f.reg (insOf p f).a).toNat (f.reg (insOf p f).b)) := by
  rcases exec_split (p := p) fs f with ⟨a1, h⟩ | ⟨a1, h⟩ | ⟨a1, h⟩ | ⟨a1, -, -, h⟩ | ⟨a1, a2, a3, h⟩ | ⟨a1, h⟩ | ⟨a1, h⟩ | ⟨a1, -, h⟩ | ⟨a1, -, h⟩ | ⟨a1, h⟩ | ⟨a1, -, h⟩ | ⟨a1, gs, g, -, h⟩
  case inr.inr.inr.inr.inl => exact .inr ⟨a1, a2, a3, by rw [h]⟩
  all_goals (rw [h]; exact .inl rfl)
end
end Tier
