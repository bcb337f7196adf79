/-
  Plain: how far machine code goes: from block to block, as long as fuel and blocks bear it. No program is in sight.
-/
import Derived.Test.YtefbdecejoeamaaDoorBk
import Derived.Test.YtefbdecejoeamaaDoorStL
import Derived.Test.YtefbdecejoeamaaDoorOpI
namespace Tier
open Go Go.RowKit Go.Proofs.YtefbdecejoeamaaDoor
section
variable {p : List Fnc} {F : Fnc}
/-- What a step of an op below 17 does to the last frame. -/
theorem top_step {s : St} (hfu : s.fuel ≠ 0) (hst' : (stepSt p s).status = 0) {fs : List Fr} {f : Fr} (hf : s.frames = fs ++ [f]) (pc0 : 0 ≤ f.pc) (o1 : 1 ≤ (insOf p f).op) (h17 : (insOf p f).op < 17) :
    ∃ g, (stepSt p s).frames = fs ++ [g] ∧ g.fn = f.fn ∧ g.pc.toNat ∈ nextL (insOf p f) f.pc.toNat ∧ (stepSt p s).fuel = s.fuel - 1 := by
  rw [stepSt_exec hf hfu] at hst' ⊢
  have hon : (insOf p f).op ≠ 15 → (f.pc + 1).toNat ∈ nextL (insOf p f) f.pc.toNat := fun h15 => by
    have e : (f.pc + 1).toNat = f.pc.toNat + 1 := by omega
    rw [e]
    unfold nextL; rw [if_neg (by omega), if_neg h15]; split <;> simp
  rcases exec_split (p := p) fs f with ⟨a1, h⟩ | ⟨a1, h⟩ | ⟨a1, h⟩ | ⟨a1, -, -, h⟩ | ⟨a1, a2, a3, h⟩ | ⟨a1, h⟩ | ⟨a1, h⟩ | ⟨a1, -, h⟩ | ⟨a1, -, h⟩ | ⟨a1, h⟩ | ⟨a1, a2, h⟩ | ⟨a1, gs, g, a2, h⟩
  case inl =>
    rw [h s]
    have h12 : (insOf p f).op ≤ 12 := by simp [mkOk] at a1; omega
    exact ⟨_, rfl, rfl, hon (by omega), rfl⟩
  case inr.inl => rw [h s] at hst'; simp at hst'
  case inr.inr.inl => rw [h s] at hst'; simp at hst'
  case inr.inr.inr.inl => rw [h s]; exact ⟨_, rfl, rfl, hon (by omega), rfl⟩
  case inr.inr.inr.inr.inl => rw [h s]; exact ⟨f.at (f.pc + 1), rfl, rfl, hon (by omega), rfl⟩
  case inr.inr.inr.inr.inr.inl =>
    rw [h s]
    exact ⟨_, rfl, rfl, by unfold nextL; rw [if_neg (by omega), if_pos a1]; simp [Fr.at], rfl⟩
  case inr.inr.inr.inr.inr.inr.inl =>
    rw [h s]
    refine ⟨_, rfl, rfl, ?_, rfl⟩
    show (if f.reg (insOf p f).a = 0 then f.pc + 1 else (insOf p f).imm).toNat ∈ _
    split
    · exact hon (by omega)
    · unfold nextL; rw [if_neg (by omega), if_neg (by omega), if_pos a1]; simp
  all_goals omega
/-- An op below 17 that ends the run: a trap. -/
theorem trap_step {s : St} (hfu : s.fuel ≠ 0) (hst' : (stepSt p s).status ≠ 0) {fs : List Fr} {f : Fr} (hf : s.frames = fs ++ [f]) (hst : s.status = 0) (o1 : 1 ≤ (insOf p f).op) (h17 : (insOf p f).op < 17) :
    ((insOf p f).op = 5 ∧ f.reg (insOf p f).b = 0) ∨ (((insOf p f).op = 13 ∨ (insOf p f).op = 14) ∧ (f.reg (insOf p f).a < 0 ∨ 16 ≤ f.reg (insOf p f).a)) := by
  rw [stepSt_exec hf hfu] at hst'
  unfold execSt at hst'
  by_cases h1 : mkOk (insOf p f).op (f.reg (insOf p f).b) = true
  · rw [if_pos h1] at hst'; exact absurd hst hst'
  rw [if_neg h1] at hst'
  by_cases h2 : (insOf p f).op = 5
  · refine .inl ⟨h2, ?_⟩
    rw [h2] at h1
    simpa [mkOk] using h1
  rw [if_neg h2] at hst'
  by_cases h3 : ((insOf p f).op = 13 ∨ (insOf p f).op = 14) ∧ (f.reg (insOf p f).a < 0 ∨ 16 ≤ f.reg (insOf p f).a)
  · exact .inr h3
  rw [if_neg h3] at hst'
  exfalso
  apply hst'
  repeat' split
  all_goals first | exact hst | omega | skip
  all_goals (simp [mkOk] at h1; omega)
def costF (F : Fnc) (a : Nat) : Nat := toF F a - a - (if 17 ≤ (insAt F (toF F a - 1)).op then 1 else 0)
/-- The run is on its way, the last frame in the function F at q. -/
structure LastAt (p : List Fnc) (F : Fnc) (s : St) (q : Nat) : Prop where
  st : s.status = 0
  ex : ∃ fs f, s.frames = fs ++ [f] ∧ p[f.fn.toNat]? = some F ∧ f.pc = (q : Int)
/-- From s machine code goes k steps, to t. -/
inductive FarR (p : List Fnc) (F : Fnc) : St → St → Nat → Prop
  | off {s : St} {q : Nat} : LastAt p F s q → q ∉ hdL F → FarR p F s s 0
  | poor {s : St} {q : Nat} : LastAt p F s q → q ∈ hdL F → s.fuel < costF F q → FarR p F s s 0
  | trap {s : St} {q k : Nat} : LastAt p F s q → q ∈ hdL F → costF F q ≤ s.fuel → k < costF F q → (∀ j, j ≤ k → (walkSt p j s).status = 0) → (walkSt p (k + 1) s).status ≠ 0 → FarR p F s (walkSt p k s) k
  | call {s : St} {q : Nat} : LastAt p F s q → q ∈ hdL F → costF F q ≤ s.fuel → (∀ j, j ≤ costF F q → (walkSt p j s).status = 0) → 17 ≤ (insAt F (toF F q - 1)).op → FarR p F s (walkSt p (costF F q) s) (costF F q)
  | go {s t : St} {q k : Nat} : LastAt p F s q → q ∈ hdL F → costF F q ≤ s.fuel → (∀ j, j ≤ costF F q → (walkSt p j s).status = 0) → ¬ 17 ≤ (insAt F (toF F q - 1)).op → FarR p F (walkSt p (costF F q) s) t k → FarR p F s t (costF F q + k)
theorem LastAt.uniq {s : St} {q r : Nat} (h : LastAt p F s q) (h' : LastAt p F s r) : q = r := by
  obtain ⟨fs, f, h1, -, h2⟩ := h.ex
  obtain ⟨fs', f', h3, -, h4⟩ := h'.ex
  rw [h1] at h3
  have e := List.append_inj_right' h3 rfl
  simp at e
  subst e
  omega
theorem FarR.det {s t u : St} {k m : Nat} (h : FarR p F s t k) (h' : FarR p F s u m) : t = u ∧ k = m := by
  induction h generalizing u m with
  | off h1 h2 => cases h' with
    | off => exact ⟨rfl, rfl⟩
    | poor g1 g2 => rw [h1.uniq g1] at h2; exact absurd g2 h2
    | trap g1 g2 => rw [h1.uniq g1] at h2; exact absurd g2 h2
    | call g1 g2 => rw [h1.uniq g1] at h2; exact absurd g2 h2
    | go g1 g2 => rw [h1.uniq g1] at h2; exact absurd g2 h2
  | poor h1 h2 h3 => cases h' with
    | off g1 g2 => rw [h1.uniq g1] at h2; exact absurd h2 g2
    | poor g1 g2 => exact ⟨rfl, rfl⟩
    | trap g1 g2 g3 => rw [h1.uniq g1] at h3; omega
    | call g1 g2 g3 => rw [h1.uniq g1] at h3; omega
    | go g1 g2 g3 => rw [h1.uniq g1] at h3; omega
  | trap h1 h2 h3 h4 h5 h6 => cases h' with
    | off g1 g2 => rw [h1.uniq g1] at h2; exact absurd h2 g2
    | poor g1 g2 g3 => rw [h1.uniq g1] at h3; omega
    | trap g1 g2 g3 g4 g5 g6 =>
      rename_i k q'
      have e : k = m := by
        rcases Nat.lt_trichotomy k m with h | h | h
        · exact absurd (g5 (k + 1) h) h6
        · exact h
        · exact absurd (h5 (m + 1) h) g6
      subst e; exact ⟨rfl, rfl⟩
    | call g1 g2 g3 g4 => rw [h1.uniq g1] at h4; exact absurd (g4 _ h4) h6
    | go g1 g2 g3 g4 => rw [h1.uniq g1] at h4; exact absurd (g4 _ h4) h6
  | call h1 h2 h3 h4 h5 => cases h' with
    | off g1 g2 => rw [h1.uniq g1] at h2; exact absurd h2 g2
    | poor g1 g2 g3 => rw [h1.uniq g1] at h3; omega
    | trap g1 g2 g3 g4 g5 g6 => rw [← h1.uniq g1] at g4; exact absurd (h4 _ g4) g6
    | call g1 g2 g3 g4 => rw [h1.uniq g1]; exact ⟨rfl, rfl⟩
    | go g1 g2 g3 g4 g5 => rw [h1.uniq g1] at h5; exact absurd h5 g5
  | go h1 h2 h3 h4 h5 h6 ih => cases h' with
    | off g1 g2 => rw [h1.uniq g1] at h2; exact absurd h2 g2
    | poor g1 g2 g3 => rw [h1.uniq g1] at h3; omega
    | trap g1 g2 g3 g4 g5 g6 => rw [← h1.uniq g1] at g4; exact absurd (h4 _ g4) g6
    | call g1 g2 g3 g4 g5 => rw [h1.uniq g1] at h5; exact absurd g5 h5
    | go g1 g2 g3 g4 g5 g6 =>
      have e := h1.uniq g1
      subst e
      obtain ⟨rfl, rfl⟩ := ih g6
      exact ⟨rfl, rfl⟩
theorem costF_le (F : Fnc) (a : Nat) : costF F a ≤ toF F a - a := by unfold costF; split <;> omega
/-- i steps from the beginning of a block have gone. -/
theorem in_blk (hp : Right p) (hF : F ∈ p) {s : St} (hi : StInv p s) {fs : List Fr} {f : Fr} (hf : s.frames = fs ++ [f]) (hFp : p[f.fn.toNat]? = some F) {a : Nat} (ha : a ∈ hdL F) (hpc : f.pc = (a : Int)) : ∀ i : Nat, i ≤ costF F a → (i : Int) ≤ s.fuel → (∀ j, j ≤ i → (walkSt p j s).status = 0) →
    ∃ g, (walkSt p i s).frames = fs ++ [g] ∧ g.fn = f.fn ∧ (walkSt p i s).fuel = s.fuel - i ∧ 0 ≤ g.pc ∧ (a + i < toF F a → g.pc = ((a + i : Nat) : Int)) ∧ (a + i = toF F a → g.pc.toNat ∈ hdL F) := by
  have hts := toF_spec hp hF ha
  have hcl := costF_le F a
  intro i
  induction i with
  | zero => intro _ _ _; exact ⟨f, hf, rfl, by simp [walkSt], by omega, fun _ => by omega, fun h => by omega⟩
  | succ i ih =>
    intro hic hfu hst
    obtain ⟨g, h1, h2, h3, h4, h5, -⟩ := ih (by omega) (by omega) (fun j hj => hst j (by omega))
    have hlt : a + i < toF F a := by omega
    have hgp := h5 hlt
    have hiw := hi.walk hp i
    have hgo : FrOk p g := hiw.fr g (by rw [h1]; simp)
    have hio := hp.ins hgo
    obtain ⟨F', m, a1, a2, a3, a4⟩ := hgo.parts
    rw [h2, hFp] at a1
    obtain rfl := Option.some.inj a1
    have hgn : g.pc.toNat = a + i := by omega
    rw [hgn] at a4
    have hop : (insOf p g).op < 17 := by
      by_cases hq : a + i + 1 < toF F a
      · have := cov_end hp hF ha (by omega) hq
        rw [insAt_eq a4] at this; omega
      · have e : toF F a - 1 = a + i := by omega
        unfold costF at hic
        rw [e, insAt_eq a4] at hic
        split at hic
        · omega
        · omega
    have hw1 : walkSt p (i + 1) s = stepSt p (walkSt p i s) := by
      rw [walkSt_succ]; unfold nextSt; rw [if_pos (hst i (by omega))]
    have hfz : (walkSt p i s).fuel ≠ 0 := by rw [h3]; omega
    have hs1 := hst (i + 1) (Nat.le_refl _)
    rw [hw1] at hs1 ⊢
    obtain ⟨g', b1, b2, b3, b4⟩ := top_step hfz hs1 h1 h4 hio.op1 hop
    have hiw' := hiw.step hp (hst i (by omega))
    have hgo' : FrOk p g' := hiw'.fr g' (by rw [b1]; simp)
    have hpc' := hgo'.pc0
    rw [hgn] at b3
    refine ⟨g', b1, by rw [b2, h2], by rw [b4, h3]; omega, hpc', fun hl => ?_, fun hl => ?_⟩
    · have ho := cov_end hp hF ha (pc := a + i) (by omega) (by omega)
      rw [insAt_eq a4] at ho
      have hn : nextL (insOf p g) (a + i) = [a + i + 1] := by unfold nextL; rw [if_neg (by omega), if_neg (by omega), if_neg (by omega)]
      rw [hn] at b3
      have := List.mem_singleton.1 b3
      omega
    · refine nxN_head hp hF ha ?_
      unfold nxN
      have e : toF F a - 1 = a + i := by omega
      rw [e, insAt_eq a4]
      exact (nextS_mem _ _ _).2 b3
/-- Where machine code stops. -/
def Stop (p : List Fnc) (F : Fnc) (g : Fr) (fuel : Int) (k : Nat) : Prop :=
  17 ≤ (insOf p g).op ∨ ((insOf p g).op = 5 ∧ g.reg (insOf p g).b = 0) ∨ (((insOf p g).op = 13 ∨ (insOf p g).op = 14) ∧ (g.reg (insOf p g).a < 0 ∨ 16 ≤ g.reg (insOf p g).a)) ∨ (∃ q, q ∈ hdL F ∧ g.pc = (q : Int) ∧ fuel < toF F q - q) ∨ (k = 0 ∧ g.pc.toNat ∉ hdL F)
theorem FarR.spec (hp : Right p) (hF : F ∈ p) {s t : St} {k : Nat} (h : FarR p F s t k) (hi : StInv p s) :
    t = walkSt p k s ∧ (∀ j, j ≤ k → (walkSt p j s).status = 0) ∧ t.fuel = s.fuel - k ∧ ∃ fs f g, s.frames = fs ++ [f] ∧ t.frames = fs ++ [g] ∧ g.fn = f.fn ∧ p[f.fn.toNat]? = some F ∧ 0 ≤ g.pc ∧ Stop p F g t.fuel k ∧ ((∃ q, q ∈ hdL F ∧ f.pc = (q : Int)) → k = 0 → g.pc.toNat ∈ hdL F) := by
  induction h with
  | off h1 h2 =>
    obtain ⟨fs, f, e1, e2, e3⟩ := h1.ex
    refine ⟨rfl, fun j hj => by rw [Nat.le_zero.1 hj]; exact h1.st, by simp, fs, f, f, e1, e1, rfl, e2, by omega, .inr (.inr (.inr (.inr ⟨rfl, by rw [e3]; exact h2⟩))), fun ⟨q', g1, g2⟩ => ?_⟩
    exfalso
    rw [e3] at g2
    rw [Int.ofNat.inj g2] at h2; exact h2 g1
  | poor h1 h2 h3 =>
    obtain ⟨fs, f, e1, e2, e3⟩ := h1.ex
    rename_i q
    have := costF_le F q
    have := (toF_spec hp hF h2).1
    exact ⟨rfl, fun j hj => by rw [Nat.le_zero.1 hj]; exact h1.st, by simp, fs, f, f, e1, e1, rfl, e2, by omega, .inr (.inr (.inr (.inl ⟨q, h2, e3, by omega⟩))), fun _ _ => by rw [e3]; exact h2⟩
  | trap h1 h2 h3 h4 h5 h6 =>
    obtain ⟨fs, f, e1, e2, e3⟩ := h1.ex
    rename_i s q k
    have hcl := costF_le F q
    have hts := (toF_spec hp hF h2).1
    obtain ⟨g, b1, b2, b3, b4, b5, -⟩ := in_blk hp hF hi e1 e2 h2 e3 k (by omega) (by omega) h5
    have hiw := hi.walk hp k
    have hgo : FrOk p g := hiw.fr g (by rw [b1]; simp)
    have hio := hp.ins hgo
    obtain ⟨F', m, a1, a2, a3, a4⟩ := hgo.parts
    rw [b2, e2] at a1
    obtain rfl := Option.some.inj a1
    have hgp := b5 (by omega)
    have hgn : g.pc.toNat = q + k := by omega
    rw [hgn] at a4
    have hop : (insOf p g).op < 17 := by
      by_cases hq : q + k + 1 < toF F q
      · have := cov_end hp hF h2 (by omega) hq
        rw [insAt_eq a4] at this; omega
      · have e : toF F q - 1 = q + k := by omega
        unfold costF at h4
        rw [e, insAt_eq a4] at h4
        split at h4
        · omega
        · omega
    rw [walkSt_succ, nextSt, if_pos (h5 k (Nat.le_refl _))] at h6
    have htr := trap_step (by rw [b3]; omega) h6 b1 (h5 k (Nat.le_refl _)) hio.op1 hop
    refine ⟨rfl, h5, b3, fs, f, g, e1, b1, b2, e2, b4, ?_, fun _ hk => by subst hk; rw [hgn]; exact h2⟩
    rcases htr with h | h
    · exact .inr (.inl h)
    · exact .inr (.inr (.inl h))
  | call h1 h2 h3 h4 h5 =>
    obtain ⟨fs, f, e1, e2, e3⟩ := h1.ex
    rename_i s q
    have hts := (toF_spec hp hF h2).1
    have hc : costF F q = toF F q - q - 1 := by unfold costF; rw [if_pos h5]
    obtain ⟨g, b1, b2, b3, b4, b5, -⟩ := in_blk hp hF hi e1 e2 h2 e3 (costF F q) (Nat.le_refl _) (by omega) h4
    have hiw := hi.walk hp (costF F q)
    have hgo : FrOk p g := hiw.fr g (by rw [b1]; simp)
    obtain ⟨F', m, a1, a2, a3, a4⟩ := hgo.parts
    rw [b2, e2] at a1
    obtain rfl := Option.some.inj a1
    have hgp := b5 (by omega)
    have hgn : g.pc.toNat = toF F q - 1 := by omega
    rw [hgn] at a4
    rw [insAt_eq a4] at h5
    exact ⟨rfl, h4, b3, fs, f, g, e1, b1, b2, e2, b4, .inl h5, fun _ hk => by rw [hgp, hk]; exact h2⟩
  | go h1 h2 h3 h4 h5 h6 ih =>
    obtain ⟨fs, f, e1, e2, e3⟩ := h1.ex
    rename_i s t q k
    have hts := (toF_spec hp hF h2).1
    have hc : costF F q = toF F q - q := by unfold costF; rw [if_neg h5]; omega
    obtain ⟨g, b1, b2, b3, b4, -, b6⟩ := in_blk hp hF hi e1 e2 h2 e3 (costF F q) (Nat.le_refl _) (by omega) h4
    have hgh := b6 (by omega)
    obtain ⟨i1, i2, i3, fs', f', g', c1, c2, c3, c4, c5, c6, c7⟩ := ih (hi.walk hp _)
    rw [b1] at c1
    obtain ⟨rfl, hfg⟩ := List.append_inj' c1 rfl
    simp at hfg
    subst hfg
    have hnz := c7 ⟨g.pc.toNat, hgh, by omega⟩
    refine ⟨by rw [i1, walkSt_add], fun j hj => ?_, by rw [i3, b3]; omega, fs, f, g', e1, c2, by rw [c3, b2], e2, c5, ?_, fun _ hk => by omega⟩
    · by_cases hj' : j ≤ costF F q
      · exact h4 j hj'
      · have e : j = costF F q + (j - costF F q) := by omega
        rw [e, walkSt_add]; exact i2 _ (by omega)
    · rcases c6 with h | h | h | h | ⟨h, h'⟩
      · exact .inl h
      · exact .inr (.inl h)
      · exact .inr (.inr (.inl h))
      · exact .inr (.inr (.inr (.inl h)))
      · exact absurd (hnz h) h'
theorem walk_addF {s : St} (hp : Right p) (hi : StInv p s) {d : Int} (hd : 0 ≤ d) : ∀ i : Nat, (∀ j, j < i → (walkSt p j s).status = 0 ∧ (walkSt p j s).fuel ≠ 0) → walkSt p i (addF s d) = addF (walkSt p i s) d
  | 0, _ => rfl
  | i + 1, h => by
    have ih := walk_addF hp hi hd i (fun j hj => h j (by omega))
    obtain ⟨h1, h2⟩ := h i (by omega)
    rw [walkSt_succ, walkSt_succ, ih]
    unfold nextSt
    rw [if_pos h1, if_pos (show (addF (walkSt p i s) d).status = 0 from h1), step_addF (hi.walk hp i) h1 h2 hd]
theorem LastAt.addF {s : St} {q : Nat} (h : LastAt p F s q) (d : Int) : LastAt p F (addF s d) q := ⟨h.st, h.ex⟩
/-- Left and entered again, with the rest of the fuel: as in one go. -/
theorem FarR.more (hp : Right p) (hF : F ∈ p) {s t u : St} {k m : Nat} {d : Int} (hd : 0 ≤ d) (h : FarR p F s t k) (hi : StInv p s) (h' : FarR p F (addF t d) u m) : FarR p F (addF s d) u (k + m) := by
  induction h with
  | off h1 h2 => rw [Nat.zero_add]; exact h'
  | poor h1 h2 h3 => rw [Nat.zero_add]; exact h'
  | trap h1 h2 h3 h4 h5 h6 =>
    rename_i s q k
    by_cases hk : k = 0
    · subst hk; rw [Nat.zero_add]; exact h'
    obtain ⟨fs, f, e1, e2, e3⟩ := h1.ex
    have hcl := costF_le F q
    have hblk := fun j (hj : j ≤ k) => in_blk hp hF hi e1 e2 h2 e3 j (by omega) (by omega) (fun i hi => h5 i (by omega))
    obtain ⟨g, b1, b2, b3, b4, b5, -⟩ := hblk k (Nat.le_refl _)
    have hla : LastAt p F (walkSt p k s) (q + k) := ⟨h5 k (Nat.le_refl _), fs, g, b1, by rw [b2]; exact e2, b5 (by omega)⟩
    have hno : q + k ∉ hdL F := fun hh => by
      have := cov_one hp hF h2 hh (pc := q + k) (by omega) (by omega) (Nat.le_refl _) (toF_spec hp hF hh).1
      omega
    obtain ⟨rfl, rfl⟩ := h'.det (.off (hla.addF d) hno)
    have hw : ∀ j, j ≤ k + 1 → walkSt p j (addF s d) = addF (walkSt p j s) d := fun j hj => walk_addF hp hi hd j (fun i hij => ⟨h5 i (by omega), by
      obtain ⟨-, -, -, c3, -⟩ := hblk i (by omega)
      rw [c3]; omega⟩)
    rw [Nat.add_zero, ← hw k (by omega)]
    refine .trap (h1.addF d) h2 (by show _ ≤ s.fuel + d; omega) h4 (fun j hj => ?_) ?_
    · rw [hw j (by omega)]; exact h5 j hj
    · rw [hw (k + 1) (Nat.le_refl _)]; exact h6
  | call h1 h2 h3 h4 h5 =>
    rename_i s q
    obtain ⟨fs, f, e1, e2, e3⟩ := h1.ex
    have hts := (toF_spec hp hF h2).1
    have hc : costF F q = toF F q - q - 1 := by unfold costF; rw [if_pos h5]
    have hblk := fun j (hj : j ≤ costF F q) => in_blk hp hF hi e1 e2 h2 e3 j hj (by omega) (fun i hi => h4 i (by omega))
    have hw : ∀ j, j ≤ costF F q → walkSt p j (Tier.addF s d) = Tier.addF (walkSt p j s) d := fun j hj => walk_addF hp hi hd j (fun i hij => ⟨h4 i (by omega), by
      obtain ⟨-, -, -, c3, -⟩ := hblk i (by omega)
      rw [c3]; omega⟩)
    by_cases hk : costF F q = 0
    · rw [hk] at h' ⊢; rw [Nat.zero_add]; exact h'
    obtain ⟨g, b1, b2, b3, b4, b5, -⟩ := hblk _ (Nat.le_refl _)
    have hla : LastAt p F (walkSt p (costF F q) s) (q + costF F q) := ⟨h4 _ (Nat.le_refl _), fs, g, b1, by rw [b2]; exact e2, b5 (by omega)⟩
    have hno : q + costF F q ∉ hdL F := fun hh => by
      have := cov_one hp hF h2 hh (pc := q + costF F q) (by omega) (by omega) (Nat.le_refl _) (toF_spec hp hF hh).1
      omega
    obtain ⟨rfl, rfl⟩ := h'.det (.off (hla.addF d) hno)
    rw [Nat.add_zero, ← hw _ (Nat.le_refl _)]
    refine .call (h1.addF d) h2 (by show _ ≤ s.fuel + d; omega) (fun j hj => ?_) h5
    rw [hw j hj]; exact h4 j hj
  | go h1 h2 h3 h4 h5 h6 ih =>
    rename_i s t q k
    obtain ⟨fs, f, e1, e2, e3⟩ := h1.ex
    have hcl := costF_le F q
    have hblk := fun j (hj : j ≤ costF F q) => in_blk hp hF hi e1 e2 h2 e3 j hj (by omega) (fun i hi => h4 i (by omega))
    have hw : ∀ j, j ≤ costF F q → walkSt p j (Tier.addF s d) = Tier.addF (walkSt p j s) d := fun j hj => walk_addF hp hi hd j (fun i hij => ⟨h4 i (by omega), by
      obtain ⟨-, -, -, c3, -⟩ := hblk i (by omega)
      rw [c3]; omega⟩)
    have hr := ih (hi.walk hp _) h'
    rw [← hw _ (Nat.le_refl _)] at hr
    rw [Nat.add_assoc]
    refine .go (h1.addF d) h2 (by show _ ≤ s.fuel + d; omega) (fun j hj => ?_) h5 hr
    rw [hw j hj]; exact h4 j hj
end
end Tier
