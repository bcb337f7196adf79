/-
  What a run has set, frame by frame, as bits; it holds what is surely set, along a run. No program is in sight.
-/
import Derived.Test.YtnbopmlemddakaaDoorOpI
import Derived.Test.YtnbopmlemddakaaDoorKr
namespace Tier
open Go Go.RowKit
def BSub (a b : Nat) : Prop := a &&& b = a
theorem BSub.bit {a b : Nat} (h : BSub a b) (i : Nat) (hi : a.testBit i = true) : b.testBit i = true := by
  have e : (a &&& b).testBit i = a.testBit i := by rw [h]
  rw [Nat.testBit_and, hi] at e
  simpa using e
theorem bsub_of {a b : Nat} (h : ∀ i, a.testBit i = true → b.testBit i = true) : BSub a b := by
  unfold BSub
  apply Nat.eq_of_testBit_eq
  intro i
  rw [Nat.testBit_and]
  cases ha : a.testBit i with
  | false => rfl
  | true => rw [h i ha]; rfl
theorem BSub.trans {a b c : Nat} (h1 : BSub a b) (h2 : BSub b c) : BSub a c := bsub_of fun i hi => h2.bit i (h1.bit i hi)
theorem BSub.refl (a : Nat) : BSub a a := Nat.and_self a
theorem BSub.or {a b : Nat} (h : BSub a b) (c : Nat) : BSub a (b ||| c) := bsub_of fun i hi => by rw [Nat.testBit_or, h.bit i hi]; rfl
theorem BSub.ors {a m b c : Nat} (h : BSub a (m ||| c)) (h2 : BSub m b) : BSub a (b ||| c) := bsub_of fun i hi => by
  have := h.bit i hi
  rw [Nat.testBit_or] at this ⊢
  cases hm : m.testBit i with
  | true => rw [h2.bit i hm]; rfl
  | false => rw [hm] at this; simp at this; rw [this]; simp
/-- What is read at a place that is come to is surely set there. -/
theorem Right.reads {p : List Fnc} (hc : checkP p = 0) {F : Fnc} (hF : F ∈ p) {pc m : Nat} {x : Ins} (hs : (sureF F)[pc]? = some (some m)) (hx : F.code[pc]? = some x) : BSub (readsM x (parOf p x)) m := by
  have hE : progE p = 0 := by
    unfold checkP at hc
    by_cases hE : progE p = 0
    · exact hE
    · rw [if_pos hE] at hc; exact absurd hc hE
  unfold checkP at hc
  rw [if_neg (by simp [hE])] at hc
  have h1 := firstE_all hc (fnP p F) (List.mem_map.2 ⟨F, hF, rfl⟩)
  have h2 : badAt p F pc = false := by
    unfold fnP at h1
    by_cases hb : (List.range F.code.length).any (badAt p F) = true
    · rw [if_pos hb] at h1; cases h1
    · have hb' : (List.range F.code.length).any (badAt p F) = false := by simpa using hb
      rw [List.any_eq_false] at hb'
      have := hb' pc (List.mem_range.2 (List.getElem?_eq_some_iff.1 hx).1)
      simpa using this
  unfold badAt at h2
  rw [hx, hs] at h2
  exact mask_of h2
structure MInv (p : List Fnc) (s : St) (ms : List Nat) : Prop where
  len : ms.length = s.frames.length
  lt : ∀ m ∈ ms, m < 4096
  sub : ∀ (j : Nat) (f : Fr) (m mk : Nat), s.frames[j]? = some f → ms[j]? = some mk → (sureF (fnOf p f.fn))[f.pc.toNat]? = some (some m) → BSub m mk
/-- The bits of the last frame, and more. -/
def orLast (ms : List Nat) (b : Nat) : List Nat := ms.set (ms.length - 1) (ms.getD (ms.length - 1) 0 ||| b)
theorem orLast_append (l : List Nat) (m b : Nat) : orLast (l ++ [m]) b = l ++ [m ||| b] := by
  unfold orLast
  simp [List.getD_eq_getElem?_getD]
theorem MInv.split {p : List Fnc} {s : St} {ms : List Nat} (h : MInv p s ms) {fs : List Fr} {f : Fr} (hf : s.frames = fs ++ [f]) : ∃ l mk, ms = l ++ [mk] ∧ l.length = fs.length ∧ mk < 4096 := by
  have hl := h.len
  rw [hf] at hl
  rcases List.eq_nil_or_concat ms with rfl | ⟨l, mk, rfl⟩
  · simp at hl
  · rw [List.concat_eq_append] at hl h ⊢
    exact ⟨l, mk, rfl, by simpa using hl, h.lt mk (by simp)⟩
/-- Frames below the last one are as they were; the last one's bits hold what is surely set there. -/
theorem MInv.last {p : List Fnc} {s s' : St} {l : List Nat} {mk mk' : Nat} {fs : List Fr} {f g : Fr} (h : MInv p s (l ++ [mk])) (hf : s.frames = fs ++ [f]) (hl : l.length = fs.length) (hg : s'.frames = fs ++ [g]) (hm : mk' < 4096) (hs : ∀ m, (sureF (fnOf p g.fn))[g.pc.toNat]? = some (some m) → BSub m mk') : MInv p s' (l ++ [mk']) := by
  refine ⟨by rw [hg]; simp [hl], fun m hm' => ?_, fun j f' m mk2 h1 h2 h3 => ?_⟩
  · rcases List.mem_append.1 hm' with h1 | h1
    · exact h.lt m (by simp [h1])
    · rw [List.mem_singleton.1 h1]; exact hm
  · rw [hg] at h1
    by_cases hj : j < fs.length
    · rw [List.getElem?_append_left hj] at h1
      rw [List.getElem?_append_left (by omega)] at h2
      exact h.sub j f' m mk2 (by rw [hf, List.getElem?_append_left hj]; exact h1) (by rw [List.getElem?_append_left (by omega)]; exact h2) h3
    · have hj2 : j = fs.length := by
        have := (List.getElem?_eq_some_iff.1 h1).1; simp at this; omega
      subst hj2
      rw [List.getElem?_append_right (by omega)] at h1
      rw [List.getElem?_append_right (by omega)] at h2
      simp at h1
      rw [hl] at h2
      simp at h2
      subst h1 h2
      exact hs m h3
theorem two_pow_lt {r : Int} (h : r < 12) : 2 ^ r.toNat < 4096 := by
  have : 2 ^ r.toNat ≤ 2 ^ 11 := Nat.pow_le_pow_right (by omega) (by omega)
  omega
theorem orm_lt {a b : Nat} (ha : a < 4096) (hb : b < 4096) : a ||| b < 4096 := Nat.or_lt_two_pow (n := 12) ha hb
/-- What ProofSafe's law makes of the bits, at a step. -/
def nextM (p : List Fnc) (s : St) (ms : List Nat) : List Nat :=
  if s.frames.length < (stepSt p s).frames.length then ms ++ [2 ^ (parOf p (insOf p (topFr s))).toNat - 1]
  else if (stepSt p s).frames.length < s.frames.length then (if ms.length = 1 then [] else orLast ms.dropLast (2 ^ (insOf p (s.frames.getD (s.frames.length - 2) ⟨0, 0, []⟩)).dst.toNat))
  else if 0 ≤ setR (insOf p (topFr s)) ∧ (insOf p (topFr s)).op ≠ 17 then orLast ms (2 ^ (setR (insOf p (topFr s))).toNat) else ms
where topFr (s : St) : Fr := s.frames.getLast?.getD ⟨0, 0, []⟩
theorem topFr_eq {s : St} {fs : List Fr} {f : Fr} (h : s.frames = fs ++ [f]) : nextM.topFr s = f := by unfold nextM.topFr; rw [h]; simp
theorem MInv.same {p : List Fnc} {s s' : St} {ms : List Nat} (h : MInv p s ms) (hf : s'.frames = s.frames) : MInv p s' ms :=
  ⟨by rw [hf]; exact h.len, h.lt, fun j f m mk h1 => h.sub j f m mk (by rw [← hf]; exact h1)⟩
theorem MInv.step {p : List Fnc} (hc : checkP p = 0) {s : St} {ms : List Nat} (hi : StInv p s) (hst : s.status = 0) (h : MInv p s ms) : MInv p (stepSt p s) (nextM p s ms) := by
  have hp := right_of hc
  obtain ⟨fs, f, hf⟩ := hi.running hst
  obtain ⟨l, mk, rfl, hl, hmk⟩ := h.split hf
  have hfo : FrOk p f := hi.fr f (by rw [hf]; simp)
  obtain ⟨F, m, a1, a2, a3, a4⟩ := hfo.parts
  have hFm := List.mem_of_getElem? a1
  have hio := hp.ins hfo
  have hFo := hp.fnok hfo
  have hdst : (insOf p f).dst < 12 := by have := hio.dst2; have := hFo.r2; omega
  have hd0 := hio.dst1
  have hsub : BSub m mk := h.sub fs.length f m mk (by rw [hf]; simp) (by rw [← hl]; simp) (by rw [a2]; exact a3)
  have hlen : s.frames.length = fs.length + 1 := by rw [hf]; simp
  have pc0 := hfo.pc0
  -- the frames are as they were
  have same : (stepSt p s).frames = s.frames → MInv p (stepSt p s) (nextM p s (l ++ [mk])) := fun he => by
    unfold nextM
    rw [he, if_neg (by omega), if_neg (by omega), topFr_eq hf]
    split
    · next hh =>
      rw [orLast_append]
      have hR : setR (insOf p f) = (insOf p f).dst := by unfold setR at hh ⊢; split <;> simp_all
      rw [hR]
      refine h.last hf hl (by rw [he, hf]) (orm_lt hmk (two_pow_lt hdst)) fun m' hm' => ?_
      rw [a2, a3] at hm'
      obtain rfl := Option.some.inj (Option.some.inj hm')
      exact hsub.or _
    · exact h.same he
  -- the last frame goes on within its function
  have goes : ∀ g : Fr, g.fn = f.fn → (stepSt p s).frames = fs ++ [g] → g.pc.toNat ∈ nextL (insOf p f) f.pc.toNat → (insOf p f).op ≠ 17 → MInv p (stepSt p s) (nextM p s (l ++ [mk])) := fun g hg he hn h17 => by
    obtain ⟨-, m', h1, h2⟩ := hp.next hFm a3 a4 hn
    have hs : ∀ m2, (sureF (fnOf p g.fn))[g.pc.toNat]? = some (some m2) → BSub m2 (m ||| setM (insOf p f)) := fun m2 hm2 => by
      rw [hg, a2, h1] at hm2
      obtain rfl := Option.some.inj (Option.some.inj hm2)
      exact h2
    have hlen2 : (stepSt p s).frames.length = fs.length + 1 := by rw [he]; simp
    unfold nextM
    rw [hlen2, hlen, if_neg (by omega), if_neg (by omega), topFr_eq hf]
    by_cases hsb : setsB (insOf p f) = true
    · have hR : setR (insOf p f) = (insOf p f).dst := by unfold setR; rw [if_pos hsb]
      rw [hR, if_pos ⟨hd0, h17⟩, orLast_append]
      refine h.last hf hl he (orm_lt hmk (two_pow_lt hdst)) fun m2 hm2 => ?_
      have := (hs m2 hm2).ors hsub
      unfold setM at this
      rw [if_pos hsb] at this
      exact this
    · have hR : setR (insOf p f) = -1 := by unfold setR; rw [if_neg hsb]
      rw [hR, if_neg (by omega)]
      refine h.last hf hl he hmk fun m2 hm2 => ?_
      have := (hs m2 hm2).ors hsub
      unfold setM at this
      rw [if_neg hsb, Nat.or_zero] at this
      exact this
  by_cases hfu : s.fuel = 0
  · exact same (by unfold stepSt; rw [if_pos hfu])
  have hst2 := stepSt_exec (p := p) hf hfu
  have on : ∀ g : Fr, g.fn = f.fn → g.pc = f.pc + 1 → (stepSt p s).frames = fs ++ [g] → (insOf p f).op ≠ 15 → (insOf p f).op ≠ 19 → (insOf p f).op ≠ 17 → MInv p (stepSt p s) (nextM p s (l ++ [mk])) := fun g hg hpc he h15 h19 h17 => by
    refine goes g hg he ?_ h17
    have : g.pc.toNat = f.pc.toNat + 1 := by omega
    rw [this]
    unfold nextL
    rw [if_neg h19, if_neg h15]
    split <;> simp
  rcases exec_split (p := p) fs f with ⟨b1, hx⟩ | ⟨b1, hx⟩ | ⟨b1, hx⟩ | ⟨b1, -, -, hx⟩ | ⟨b1, b2, b3, hx⟩ | ⟨b1, hx⟩ | ⟨b1, hx⟩ | ⟨b1, b2, hx⟩ | ⟨b1, b2, hx⟩ | ⟨b1, hx⟩ | ⟨b1, b2, hx⟩ | ⟨b1, gs, g, b2, hx⟩
  · have ho : (insOf p f).op ≤ 12 := by simp [mkOk] at b1; omega
    exact on ((f.put (insOf p f).dst (Tier.mk (insOf p f).op (f.reg (insOf p f).a) (f.reg (insOf p f).b) (insOf p f).imm)).at (f.pc + 1)) rfl rfl (by rw [hst2, hx]; rfl) (by omega) (by omega) (by omega)
  · exact same (by rw [hst2, hx])
  · exact same (by rw [hst2, hx])
  · exact on ((f.put (insOf p f).dst (s.mem.getD (f.reg (insOf p f).a).toNat 0)).at (f.pc + 1)) rfl rfl (by rw [hst2, hx]; rfl) (by omega) (by omega) (by omega)
  · exact on (f.at (f.pc + 1)) rfl rfl (by rw [hst2, hx]; rfl) (by omega) (by omega) (by omega)
  · refine goes (f.at (insOf p f).imm) rfl (by rw [hst2, hx]; rfl) ?_ (by omega)
    unfold nextL
    rw [if_neg (by omega), if_pos b1]
    simp [Fr.at]
  · refine goes (f.at (if f.reg (insOf p f).a = 0 then f.pc + 1 else (insOf p f).imm)) rfl (by rw [hst2, hx]; rfl) ?_ (by omega)
    unfold nextL
    rw [if_neg (by omega), if_neg (by omega), if_pos b1]
    split
    · simp [Fr.at]; left; omega
    · simp [Fr.at]
  · exact same (by rw [hst2, hx])
  · -- a call
    have he : (stepSt p s).frames = fs ++ [f, newFr (insOf p f).imm (fnOf p (insOf p f).imm).params (f.reg (insOf p f).a) (f.reg (insOf p f).b)] := by rw [hst2, hx]
    have hc2 := hio.call b1
    have hml : (insOf p f).imm.toNat < p.length := by omega
    have hFn := hp.ok.fn p[(insOf p f).imm.toNat] (List.getElem_mem hml)
    have hpo : parOf p (insOf p f) = p[(insOf p f).imm.toNat].params := by unfold parOf; rw [List.getElem?_eq_getElem hml]; rfl
    unfold nextM
    rw [he, hlen, if_pos (by simp), topFr_eq hf, hpo]
    refine ⟨by rw [he]; simp [hl], fun m' hm' => ?_, fun j f' m2 mk2 h1 h2 h3 => ?_⟩
    · rcases List.mem_append.1 hm' with h1 | h1
      · exact h.lt m' h1
      · rw [List.mem_singleton.1 h1]
        have : 2 ^ p[(insOf p f).imm.toNat].params.toNat < 4096 := two_pow_lt (by have := hFn.p2; omega)
        omega
    · rw [he] at h1
      by_cases hj : j < fs.length + 1
      · have e1 : (fs ++ [f, newFr (insOf p f).imm (fnOf p (insOf p f).imm).params (f.reg (insOf p f).a) (f.reg (insOf p f).b)])[j]? = (fs ++ [f])[j]? := by
          rw [show fs ++ [f, newFr (insOf p f).imm (fnOf p (insOf p f).imm).params (f.reg (insOf p f).a) (f.reg (insOf p f).b)] = (fs ++ [f]) ++ [newFr (insOf p f).imm (fnOf p (insOf p f).imm).params (f.reg (insOf p f).a) (f.reg (insOf p f).b)] by simp, List.getElem?_append_left (by simp; omega)]
        rw [e1, ← hf] at h1
        rw [List.getElem?_append_left (by simp; omega)] at h2
        exact h.sub j f' m2 mk2 h1 h2 h3
      · have hj2 : j = fs.length + 1 := by
          have := (List.getElem?_eq_some_iff.1 h1).1; simp at this; omega
        subst hj2
        rw [List.getElem?_append_right (by omega)] at h1
        rw [List.getElem?_append_right (by simp; omega)] at h2
        simp at h1
        simp [hl] at h2
        subst h1
        have e3 : fnOf p (newFr (insOf p f).imm (fnOf p (insOf p f).imm).params (f.reg (insOf p f).a) (f.reg (insOf p f).b)).fn = p[(insOf p f).imm.toNat] := fnOf_get (List.getElem?_eq_getElem hml)
        rw [e3] at h3
        have h4 : (sureF p[(insOf p f).imm.toNat])[0]? = some (some m2) := h3
        rw [sure_zero hFn.cok hFn.p2] at h4
        have h5 := Option.some.inj (Option.some.inj h4)
        rw [← h2, h5]; exact BSub.refl _
  · exact on ((f.put (insOf p f).dst (s.answers.headD 0)).at (f.pc + 1)) rfl rfl (by rw [hst2, hx]; rfl) (by omega) (by omega) (by omega)
  · -- the end
    have he : (stepSt p s).frames = [] := by rw [hst2, hx]
    have hl0 : l = [] := List.eq_nil_of_length_eq_zero (by rw [hl, b2]; rfl)
    unfold nextM
    rw [he, hlen, b2, hl0, if_neg (by simp), if_pos (by simp), if_pos (by simp)]
    exact ⟨by rw [he]; rfl, fun m hm => by simp at hm, fun j f m mk hj => by rw [he] at hj; simp at hj⟩
  · -- back to who called
    have he : (stepSt p s).frames = gs ++ [retFr p g (f.reg (insOf p f).a)] := by rw [hst2, hx]
    subst b2
    have hgo : FrOk p g := hi.fr g (by rw [hf]; simp)
    have hcl := (hi.calls gs [] g f (by rw [hf]; simp)).1
    obtain ⟨G, mg, g1, g2, g3, g4⟩ := hgo.parts
    have hgi := hp.ins hgo
    have hgf := hp.fnok hgo
    have hgd : (insOf p g).dst < 12 := by have := hgi.dst2; have := hgf.r2; omega
    rcases List.eq_nil_or_concat l with rfl | ⟨l', mk', rfl⟩
    · simp at hl
    rw [List.concat_eq_append] at hl h ⊢
    have hl' : l'.length = gs.length := by simpa using hl
    have hmk' : mk' < 4096 := h.lt mk' (by simp)
    have hsg : BSub mg mk' := h.sub gs.length g mg mk' (by rw [hf]; simp) (by rw [← hl']; simp) (by rw [g2]; exact g3)
    have hget : s.frames.getD (s.frames.length - 2) ⟨0, 0, []⟩ = g := by
      rw [hf]; simp [List.getD_eq_getElem?_getD]
    unfold nextM
    rw [he, hget, hlen, if_neg (by simp), if_pos (by simp), if_neg (by simp), List.dropLast_concat, orLast_append]
    have h' : MInv p ⟨s.status, s.value, gs ++ [g], s.mem, s.fuel, s.events, s.answers⟩ (l' ++ [mk']) := by
      refine ⟨by simp [hl'], fun m hm => h.lt m (by simp at hm ⊢; rcases hm with hm | hm <;> simp [hm]), fun j f' m2 mk2 h1 h2 h3 => ?_⟩
      have hj : j < gs.length + 1 := by have := (List.getElem?_eq_some_iff.1 h1).1; simpa using this
      exact h.sub j f' m2 mk2 (by rw [hf, List.getElem?_append_left (by simp; omega)]; exact h1) (by rw [List.getElem?_append_left (by simp; omega)]; exact h2) h3
    refine h'.last (fs := gs) (f := g) (g := retFr p g (f.reg (insOf p f).a)) rfl hl' he (orm_lt hmk' (two_pow_lt hgd)) fun m2 hm2 => ?_
    have hpg := hgo.pc0
    have e5 : (retFr p g (f.reg (insOf p f).a)).pc.toNat = g.pc.toNat + 1 := by show (g.pc + 1).toNat = _; omega
    have hm3 : (sureF G)[g.pc.toNat + 1]? = some (some m2) := by rw [← e5, ← g2]; exact hm2
    obtain ⟨-, m', k1, k2⟩ := hp.next (List.mem_of_getElem? g1) g3 g4 (n := g.pc.toNat + 1) (by unfold nextL; rw [if_neg (by omega), if_neg (by omega), if_neg (by omega)]; simp)
    rw [hm3] at k1
    obtain rfl := Option.some.inj (Option.some.inj k1)
    have hsB : setsB (insOf p g) = true := by unfold setsB; simp [hcl]
    have k3 : BSub m2 (mg ||| setM (insOf p g)) := k2
    have := k3.ors hsg
    unfold setM at this
    rw [if_pos hsB] at this
    exact this
end Tier
