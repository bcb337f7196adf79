/-
  Plain law: a trimmed program runs as the program did, place by place. No program is in sight.
-/
import Derived.Test.YtnbopmlemddakaaDoorTrP
import Derived.Test.YtnbopmlemddakaaDoorOpI
namespace Tier
open Go Go.RowKit Go.Proofs.YtnbopmlemddakaaDoor
section
variable {p : List Fnc} {c : List Bool} {f : Fr}
def mapFr (p : List Fnc) (c : List Bool) (f : Fr) : Fr := ⟨(numC c f.fn.toNat : Int), (posF (fnOf p f.fn) f.pc.toNat : Int), f.regs⟩
def mapSt (p : List Fnc) (c : List Bool) (s : St) : St := { s with frames := s.frames.map (mapFr p c) }
/-- A frame that is come to, of a function that is called. -/
structure FrC (p : List Fnc) (c : List Bool) (f : Fr) : Prop where
  ok : FrOk p f
  cl : cB c f.fn.toNat = true
theorem FrC.ins (h : FrC p c f) : insOf (trimP p c) (mapFr p c f) = trimI (fnOf p f.fn) c (insOf p f) := by
  obtain ⟨F, m, h1, h2, h3, h4⟩ := h.ok.parts
  rw [h2]
  have h5 := trim_fn h.cl h1
  have h6 : fnOf (trimP p c) (mapFr p c f).fn = trimF F c := by
    unfold fnOf mapFr
    dsimp only
    rw [List.getD_eq_getElem?_getD, Int.toNat_natCast, h5]; rfl
  have h7 := trim_code (c := c) (of_rch h3) h4
  conv => lhs; unfold insOf
  rw [h6]
  unfold mapFr
  dsimp only
  rw [h2, List.getD_eq_getElem?_getD, Int.toNat_natCast, h7]; rfl
theorem FrC.rch (h : FrC p c f) : rchB (fnOf p f.fn) f.pc.toNat = true := by
  obtain ⟨F, m, h1, h2, h3, h4⟩ := h.ok.parts
  rw [h2]; exact of_rch h3
theorem FrC.succ (h : FrC p c f) : (posF (fnOf p f.fn) (f.pc + 1).toNat : Int) = (posF (fnOf p f.fn) f.pc.toNat : Int) + 1 := by
  have h0 := h.ok.pc0
  rw [show (f.pc + 1).toNat = f.pc.toNat + 1 by omega, posF_succ, if_pos h.rch]; push_cast; rfl
theorem mapFr_on (h : FrC p c f) (g : Fr) (hg : g.fn = f.fn) (hpc : g.pc = f.pc + 1) : mapFr p c g = { mapFr p c f with pc := (mapFr p c f).pc + 1, regs := g.regs } := by
  unfold mapFr
  dsimp only
  rw [hg, hpc, h.succ]
theorem topSt_map (s : St) (fs : List Fr) (f : Fr) : mapSt p c (topSt s fs f) = topSt (mapSt p c s) (fs.map (mapFr p c)) (mapFr p c f) := by
  unfold mapSt topSt; simp
theorem exec_map (hp : Right p) (hC : Cld p c) {s : St} {fs : List Fr} {f : Fr} (hf : FrC p c f) (hfs : ∀ g ∈ fs, FrC p c g) : execSt (trimP p c) (mapSt p c s) (fs.map (mapFr p c)) (mapFr p c f) = mapSt p c (execSt p s fs f) := by
  have hins := hf.ins
  obtain ⟨F, m, a1, a2, a3, a4⟩ := hf.ok.parts
  have hreg : ∀ r, (mapFr p c f).reg r = f.reg r := fun r => rfl
  have hon : ∀ g : Fr, g.fn = f.fn → g.pc = f.pc + 1 → mapFr p c g = { mapFr p c f with pc := (mapFr p c f).pc + 1, regs := g.regs } := fun g => mapFr_on hf g
  unfold execSt
  rw [hins]
  simp only [trimI_op, trimI_dst, trimI_a, trimI_b, hreg, List.length_map, List.getLast?_map]
  by_cases h1 : mkOk (insOf p f).op (f.reg (insOf p f).b) = true
  · rw [if_pos h1, if_pos h1, topSt_map]
    have ho : (insOf p f).op ≤ 12 := by simp [mkOk] at h1; omega
    rw [trimI_else (by omega) (by omega) (by omega)]
    congr 1
    rw [hon ((f.put (insOf p f).dst (Tier.mk (insOf p f).op (f.reg (insOf p f).a) (f.reg (insOf p f).b) (insOf p f).imm)).at (f.pc + 1)) rfl rfl]; rfl
  rw [if_neg h1, if_neg h1]
  by_cases h2 : (insOf p f).op = 5
  · rw [if_pos h2, if_pos h2]; rfl
  rw [if_neg h2, if_neg h2]
  by_cases h3 : ((insOf p f).op = 13 ∨ (insOf p f).op = 14) ∧ (f.reg (insOf p f).a < 0 ∨ 16 ≤ f.reg (insOf p f).a)
  · rw [if_pos h3, if_pos h3]; rfl
  rw [if_neg h3, if_neg h3]
  by_cases h4 : (insOf p f).op = 13
  · rw [if_pos h4, if_pos h4, topSt_map]
    congr 1
    rw [hon ((f.put (insOf p f).dst (s.mem.getD (f.reg (insOf p f).a).toNat 0)).at (f.pc + 1)) rfl rfl]; rfl
  rw [if_neg h4, if_neg h4]
  by_cases h5 : (insOf p f).op = 14
  · rw [if_pos h5, if_pos h5]
    unfold mapSt topSt
    simp only [List.map_append, List.map_cons, List.map_nil]
    rw [hon (f.at (f.pc + 1)) rfl rfl]; rfl
  rw [if_neg h5, if_neg h5]
  by_cases h6 : (insOf p f).op = 15
  · rw [if_pos h6, if_pos h6, topSt_map, trimI_jump (.inl h6)]
    congr 1
  rw [if_neg h6, if_neg h6]
  by_cases h7 : (insOf p f).op = 16
  · rw [if_pos h7, if_pos h7, topSt_map, trimI_jump (.inr h7)]
    congr 1
    by_cases h8 : f.reg (insOf p f).a = 0
    · rw [if_pos h8, if_pos h8, hon (f.at (f.pc + 1)) rfl rfl]; rfl
    · rw [if_neg h8, if_neg h8]; rfl
  rw [if_neg h7, if_neg h7]
  by_cases h8 : (insOf p f).op = 17
  · rw [if_pos h8, if_pos h8]
    by_cases h9 : fs.length + 1 = 8
    · rw [if_pos h9, if_pos h9]; rfl
    · rw [if_neg h9, if_neg h9, trimI_call h8]
      obtain ⟨k1, k2⟩ := hC.calls hp hf.cl a1 (of_rch a3) a4 h8
      have h10 : fnOf p (insOf p f).imm = p[(insOf p f).imm.toNat] := fnOf_get (List.getElem?_eq_getElem k1)
      have h11 : fnOf (trimP p c) (numC c (insOf p f).imm.toNat : Int) = trimF p[(insOf p f).imm.toNat] c := fnOf_get (by rw [Int.toNat_natCast]; exact trim_fn k2 (List.getElem?_eq_getElem k1))
      rw [h10, h11]
      unfold mapSt
      simp only [List.map_append, List.map_cons, List.map_nil]
      congr 1
  rw [if_neg h8, if_neg h8]
  by_cases h9 : (insOf p f).op = 18
  · rw [if_pos h9, if_pos h9]
    unfold mapSt topSt
    simp only [List.map_append, List.map_cons, List.map_nil]
    rw [hon ((f.put (insOf p f).dst (s.answers.headD 0)).at (f.pc + 1)) rfl rfl]; rfl
  rw [if_neg h9, if_neg h9]
  cases hg : fs.getLast? with
  | none => rfl
  | some g =>
    have hgc := hfs g (List.mem_of_getLast? hg)
    have hgi := hgc.ins
    simp only [Option.map_some]
    unfold mapSt
    simp only [List.map_append, List.map_cons, List.map_nil, List.map_dropLast]
    congr 2
    unfold retFr
    rw [hgi, trimI_dst]
    rw [mapFr_on hgc ((g.put (insOf p g).dst (f.reg (insOf p f).a)).at (g.pc + 1)) rfl rfl]
    rfl
theorem step_map (hp : Right p) (hC : Cld p c) {s : St} (h : ∀ g ∈ s.frames, FrC p c g) : stepSt (trimP p c) (mapSt p c s) = mapSt p c (stepSt p s) := by
  unfold stepSt
  have e : (mapSt p c s).frames = s.frames.map (mapFr p c) := rfl
  have e2 : (mapSt p c s).fuel = s.fuel := rfl
  rw [e, e2, List.getLast?_map]
  by_cases hfu : s.fuel = 0
  · rw [if_pos hfu, if_pos hfu]; rfl
  rw [if_neg hfu, if_neg hfu]
  cases hl : s.frames.getLast? with
  | none => rfl
  | some f =>
    simp only [Option.map_some]
    rw [← List.map_dropLast]
    exact exec_map hp hC (h f (List.mem_of_getLast? hl)) fun g hg => h g (List.dropLast_subset _ hg)
/-- Frames' functions stay called. -/
theorem step_cl (hp : Right p) (hC : Cld p c) {s : St} (hi : StInv p s) (hst : s.status = 0) (h : ∀ g ∈ s.frames, cB c g.fn.toNat = true) : ∀ g ∈ (stepSt p s).frames, cB c g.fn.toNat = true := by
  by_cases hfu : s.fuel = 0
  · unfold stepSt; rw [if_pos hfu]; exact h
  obtain ⟨fs, f, hf⟩ := hi.running hst
  rw [stepSt_exec (p := p) hf hfu]
  have hff : cB c f.fn.toNat = true := h f (by rw [hf]; simp)
  have hfs : ∀ g ∈ fs, cB c g.fn.toNat = true := fun g hg => h g (by rw [hf]; simp [hg])
  have top : ∀ (s' : St) (g : Fr), s'.frames = fs ++ [g] → g.fn = f.fn → ∀ x ∈ s'.frames, cB c x.fn.toNat = true := fun s' g hs hg x hx => by
    rw [hs] at hx
    rcases List.mem_append.1 hx with hx | hx
    · exact hfs x hx
    · rw [List.mem_singleton.1 hx, hg]; exact hff
  obtain ⟨F, m, a1, a2, a3, a4⟩ := (hi.fr f (by rw [hf]; simp)).parts
  rcases exec_split (p := p) fs f with ⟨b1, hx⟩ | ⟨b1, hx⟩ | ⟨b1, hx⟩ | ⟨b1, -, -, hx⟩ | ⟨b1, b2, b3, hx⟩ | ⟨b1, hx⟩ | ⟨b1, hx⟩ | ⟨b1, b2, hx⟩ | ⟨b1, b2, hx⟩ | ⟨b1, hx⟩ | ⟨b1, b2, hx⟩ | ⟨b1, gs, g, b2, hx⟩
  · rw [hx]; exact top _ _ rfl rfl
  · rw [hx]; exact h
  · rw [hx]; exact h
  · rw [hx]; exact top _ _ rfl rfl
  · rw [hx]; exact top _ _ rfl rfl
  · rw [hx]; exact top _ _ rfl rfl
  · rw [hx]; exact top _ _ rfl rfl
  · rw [hx]; exact h
  · rw [hx]
    intro x hm
    obtain ⟨k1, k2⟩ := hC.calls hp hff a1 (of_rch a3) a4 b1
    simp only [List.mem_append, List.mem_cons, List.not_mem_nil, or_false] at hm
    rcases hm with hm | rfl | rfl
    · exact hfs x hm
    · exact hff
    · exact k2
  · rw [hx]; exact top _ _ rfl rfl
  · rw [hx]; intro x hm; simp at hm
  · rw [hx]
    subst b2
    intro x hm
    rcases List.mem_append.1 hm with hm | hm
    · exact hfs x (by simp [hm])
    · rw [List.mem_singleton.1 hm]; exact hfs g (by simp)
theorem walk_map (hp : Right p) (hC : Cld p c) : ∀ (n : Nat) {s : St}, StInv p s → (∀ g ∈ s.frames, cB c g.fn.toNat = true) → walkSt (trimP p c) n (mapSt p c s) = mapSt p c (walkSt p n s) ∧ ∀ g ∈ (walkSt p n s).frames, cB c g.fn.toNat = true
  | 0, s, _, h => ⟨rfl, h⟩
  | n + 1, s, hi, h => by
    have e : (mapSt p c s).status = s.status := rfl
    unfold walkSt
    rw [e]
    by_cases hst : s.status = 0
    · rw [if_pos hst, if_pos hst, step_map hp hC fun g hg => ⟨hi.fr g hg, h g hg⟩]
      have hi2 : StInv p (stepSt p s) := by have h2 := hi.next hp; rw [nxt_run hst] at h2; exact h2
      exact walk_map hp hC n hi2 (step_cl hp hC hi hst h)
    · rw [if_neg hst, if_neg hst]; exact ⟨rfl, h⟩
theorem begin_map (hp : Right p) (hC : Cld p c) (a0 a1 : Int) (ans : List Int) (fuel : Int) : inSt (trimP p c) a0 a1 ans fuel = mapSt p c (inSt p a0 a1 ans fuel) ∧ ∀ g ∈ (inSt p a0 a1 ans fuel).frames, cB c g.fn.toNat = true := by
  have l1 := hp.ok.l1
  have c0 : cB c 0 = true := (hC.cB (by omega)).2 .zero
  have hpar : (fnOf (trimP p c) 0).params = (fnOf p 0).params := by
    have hF : p[(0 : Int).toNat]? = some p[0] := List.getElem?_eq_getElem (by omega)
    have h1 := trim_fn c0 (show p[0]? = some p[0] from List.getElem?_eq_getElem (by omega))
    rw [fnOf_get hF, fnOf_get (F := trimF p[0] c) h1]; rfl
  have hargs : inArgs (trimP p c) a0 a1 = inArgs p a0 a1 := by unfold inArgs; rw [hpar]
  refine ⟨?_, fun g hg => ?_⟩
  · unfold inSt
    rw [hargs]
    unfold mapSt beginSt
    rfl
  · have : g = ⟨0, 0, inArgs p a0 a1 ++ List.replicate (12 - (inArgs p a0 a1).length) 0⟩ := List.mem_singleton.1 hg
    rw [this]; exact c0
end
end Tier
