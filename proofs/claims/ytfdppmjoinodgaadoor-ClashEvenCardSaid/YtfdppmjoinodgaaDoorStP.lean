/-
  The byte code's machine as plain data: frames, states, one step, many steps; what a right program's states keep. No program is in sight.
-/
import Derived.Test.YtfdppmjoinodgaaDoorSuP
import Derived.Test.YtfdppmjoinodgaaDoorMkS
namespace Tier
open Go Go.RowKit
structure Fr where
  fn : Int
  pc : Int
  regs : List Int
structure St where
  status : Int
  value : Int
  frames : List Fr
  mem : List Int
  fuel : Int
  events : List Int
  answers : List Int
def Fr.reg (f : Fr) (r : Int) : Int := f.regs.getD r.toNat 0
def Fr.put (f : Fr) (r n : Int) : Fr := { f with regs := f.regs.set r.toNat n }
def Fr.at (f : Fr) (pc : Int) : Fr := { f with pc := pc }
def fnOf (p : List Fnc) (fn : Int) : Fnc := p.getD fn.toNat ⟨0, 0, []⟩
def insOf (p : List Fnc) (f : Fr) : Ins := (fnOf p f.fn).code.getD f.pc.toNat ⟨0, 0, 0, 0, 0⟩
def argsOf (n a b : Int) : List Int := if n = 0 then [] else if n = 1 then [a] else [a, b]
def newFr (fn n a b : Int) : Fr := ⟨fn, 0, argsOf n a b ++ List.replicate (12 - (argsOf n a b).length) 0⟩
def retFr (p : List Fnc) (g : Fr) (v : Int) : Fr := (g.put (insOf p g).dst v).at (g.pc + 1)
def topSt (s : St) (fs : List Fr) (f : Fr) : St := { s with frames := fs ++ [f], fuel := s.fuel - 1 }
/-- A step of the frame f, that stands on fs. -/
def execSt (p : List Fnc) (s : St) (fs : List Fr) (f : Fr) : St :=
  if mkOk (insOf p f).op (f.reg (insOf p f).b) = true then topSt s fs ((f.put (insOf p f).dst (mk (insOf p f).op (f.reg (insOf p f).a) (f.reg (insOf p f).b) (insOf p f).imm)).at (f.pc + 1))
  else if (insOf p f).op = 5 then { s with status := 3 }
  else if ((insOf p f).op = 13 ∨ (insOf p f).op = 14) ∧ (f.reg (insOf p f).a < 0 ∨ 16 ≤ f.reg (insOf p f).a) then { s with status := 4 }
  else if (insOf p f).op = 13 then topSt s fs ((f.put (insOf p f).dst (s.mem.getD (f.reg (insOf p f).a).toNat 0)).at (f.pc + 1))
  else if (insOf p f).op = 14 then { topSt s fs (f.at (f.pc + 1)) with mem := s.mem.set (f.reg (insOf p f).a).toNat (f.reg (insOf p f).b) }
  else if (insOf p f).op = 15 then topSt s fs (f.at (insOf p f).imm)
  else if (insOf p f).op = 16 then topSt s fs (f.at (if f.reg (insOf p f).a = 0 then f.pc + 1 else (insOf p f).imm))
  else if (insOf p f).op = 17 then
    (if fs.length + 1 = 8 then { s with fuel := s.fuel - 1, status := 5 } else { s with fuel := s.fuel - 1, frames := fs ++ [f, newFr (insOf p f).imm (fnOf p (insOf p f).imm).params (f.reg (insOf p f).a) (f.reg (insOf p f).b)] })
  else if (insOf p f).op = 18 then { topSt s fs ((f.put (insOf p f).dst (s.answers.headD 0)).at (f.pc + 1)) with events := s.events ++ [f.reg (insOf p f).a], answers := s.answers.tail }
  else match fs.getLast? with
    | none => { s with fuel := s.fuel - 1, frames := [], value := f.reg (insOf p f).a, status := 1 }
    | some g => { s with fuel := s.fuel - 1, frames := fs.dropLast ++ [retFr p g (f.reg (insOf p f).a)] }
def stepSt (p : List Fnc) (s : St) : St :=
  if s.fuel = 0 then { s with status := 2 } else match s.frames.getLast? with
    | none => s
    | some f => execSt p s s.frames.dropLast f
def nextSt (p : List Fnc) (s : St) : St := if s.status = 0 then stepSt p s else s
def walkSt (p : List Fnc) : Nat → St → St
  | 0, s => s
  | n + 1, s => if s.status = 0 then walkSt p n (stepSt p s) else s
/-- A program that is right. -/
structure Right (p : List Fnc) : Prop where
  ok : ProgOk p
  ends : ∀ f ∈ p, endAt f = false
theorem right_of {p : List Fnc} (h : checkP p = 0) : Right p := by
  unfold checkP at h
  by_cases hE : progE p = 0
  · rw [if_neg (by simp [hE])] at h
    refine ⟨prog_ok hE, fun f hf => ?_⟩
    have := firstE_all h (fnP p f) (List.mem_map.2 ⟨f, hf, rfl⟩)
    unfold fnP at this
    split at this
    · omega
    · split at this
      · omega
      · next he => simpa using he
  · rw [if_pos hE] at h; exact absurd h hE
/-- A frame that stands at a place that is come to. -/
structure FrOk (p : List Fnc) (f : Fr) : Prop where
  regs : f.regs.length = 12
  fn0 : 0 ≤ f.fn
  pc0 : 0 ≤ f.pc
  at_ : ∃ (F : Fnc) (m : Nat) (x : Ins), p[f.fn.toNat]? = some F ∧ (sureF F)[f.pc.toNat]? = some (some m) ∧ F.code[f.pc.toNat]? = some x
structure StInv (p : List Fnc) (s : St) : Prop where
  mem : s.mem.length = 16
  fuel0 : 0 ≤ s.fuel
  fuel1 : s.fuel ≤ 10000
  stat0 : 0 ≤ s.status
  stat1 : s.status ≤ 5
  val : s.status ≠ 1 → s.value = 0
  done : s.frames = [] ↔ s.status = 1
  deep : s.frames.length ≤ 8
  ans : s.answers.length ≤ 100
  ev : (s.events.length : Int) + s.fuel ≤ 1000000
  fr : ∀ f ∈ s.frames, FrOk p f
  calls : ∀ (fs gs : List Fr) (f g : Fr), s.frames = fs ++ f :: g :: gs → (insOf p f).op = 17 ∧ (insOf p f).imm = g.fn
section
variable {p : List Fnc}
theorem fnOf_get {fn : Int} {F : Fnc} (h : p[fn.toNat]? = some F) : fnOf p fn = F := by unfold fnOf; rw [List.getD_eq_getElem?_getD, h]; rfl
theorem FrOk.parts {f : Fr} (h : FrOk p f) : ∃ (F : Fnc) (m : Nat), p[f.fn.toNat]? = some F ∧ fnOf p f.fn = F ∧ (sureF F)[f.pc.toNat]? = some (some m) ∧ F.code[f.pc.toNat]? = some (insOf p f) := by
  obtain ⟨F, m, x, h1, h2, h3⟩ := h.at_
  have h4 := fnOf_get h1
  refine ⟨F, m, h1, h4, h2, ?_⟩
  unfold insOf
  rw [h4, List.getD_eq_getElem?_getD, h3]; rfl
theorem Right.fnok (hp : Right p) {f : Fr} (h : FrOk p f) : FnOk (fnOf p f.fn) p.length := by
  obtain ⟨F, m, h1, h2, -, -⟩ := h.parts
  rw [h2]
  exact hp.ok.fn F (List.mem_of_getElem? h1)
theorem Right.ins (hp : Right p) {f : Fr} (h : FrOk p f) : InsOk (insOf p f) (fnOf p f.fn).regs (fnOf p f.fn).code.length p.length := by
  obtain ⟨F, m, h1, h2, -, h4⟩ := h.parts
  have := hp.fnok h
  rw [h2] at this ⊢
  exact this.ins _ (List.mem_of_getElem? h4)
/-- Where an instruction leads, that is come to; and what is surely set there. -/
theorem Right.next (hp : Right p) {F : Fnc} (hF : F ∈ p) {pc m : Nat} {x : Ins} (hs : (sureF F)[pc]? = some (some m)) (hx : F.code[pc]? = some x) {n : Nat} (hn : n ∈ nextL x pc) :
    n < F.code.length ∧ ∃ m', (sureF F)[n]? = some (some m') ∧ m' &&& (m ||| setM x) = m' := by
  have hok := hp.ok.fn F hF
  obtain ⟨m', h1, h2⟩ := sure_closed hok.cok hok.p2 hs hx hn
  have hl := sureF_length hok.cok hok.p2
  have hn1 : n < (sureF F).length := (List.getElem?_eq_some_iff.1 h1).1
  have he := hp.ends F hF
  refine ⟨?_, m', h1, h2⟩
  rcases Nat.lt_or_ge n F.code.length with h | h
  · exact h
  · have : n = F.code.length := by omega
    subst this
    unfold endAt at he
    rw [h1] at he
    simp at he
theorem FrOk.goes (hp : Right p) {f g : Fr} (h : FrOk p f) (hg : g.fn = f.fn) (hr : g.regs.length = 12) (h0 : 0 ≤ g.pc) (hn : g.pc.toNat ∈ nextL (insOf p f) f.pc.toNat) : FrOk p g := by
  obtain ⟨F, m, h1, h2, h3, h4⟩ := h.parts
  obtain ⟨h5, m', h6, -⟩ := hp.next (List.mem_of_getElem? h1) h3 h4 hn
  exact ⟨hr, by rw [hg]; exact h.fn0, h0, F, m', F.code[g.pc.toNat], by rw [hg]; exact h1, h6, List.getElem?_eq_getElem h5⟩
theorem FrOk.on (hp : Right p) {f g : Fr} (h : FrOk p f) (hg : g.fn = f.fn) (hr : g.regs.length = 12) (hpc : g.pc = f.pc + 1) (h15 : (insOf p f).op ≠ 15) (h19 : (insOf p f).op ≠ 19) : FrOk p g := by
  have := h.pc0
  refine h.goes hp hg hr (by omega) ?_
  have e : g.pc.toNat = f.pc.toNat + 1 := by omega
  rw [e]
  unfold nextL
  rw [if_neg h19, if_neg h15]
  split <;> simp
theorem newFr_ok (hp : Right p) {f : Fr} (h : FrOk p f) (hop : (insOf p f).op = 17) (n a b : Int) : FrOk p (newFr (insOf p f).imm n a b) := by
  have hi := hp.ins h
  obtain ⟨i0, i1⟩ := hi.call hop
  have hl : (insOf p f).imm.toNat < p.length := by omega
  have hF := hp.ok.fn p[(insOf p f).imm.toNat] (List.getElem_mem hl)
  refine ⟨?_, i0, by simp [newFr], p[(insOf p f).imm.toNat], _, p[(insOf p f).imm.toNat].code[0]'(by have := hF.c1; omega), List.getElem?_eq_getElem hl, sure_zero hF.cok hF.p2, by
    show p[(insOf p f).imm.toNat].code[(0 : Int).toNat]? = _
    exact List.getElem?_eq_getElem _⟩
  unfold newFr argsOf
  repeat' split
  all_goals simp
theorem put_len (f : Fr) (r n : Int) : (f.put r n).regs.length = f.regs.length := by simp [Fr.put]
theorem StInv.top {s : St} {fs : List Fr} {f g : Fr} (h : StInv p s) (hf : s.frames = fs ++ [f]) (hst : s.status = 0) (hfu : 0 < s.fuel) (hg : FrOk p g) (hgf : g.fn = f.fn) : StInv p (topSt s fs g) := by
  refine ⟨h.mem, by simp [topSt]; omega, by have := h.fuel1; simp [topSt]; omega, h.stat0, h.stat1, h.val, ?_, ?_, h.ans, ?_, ?_, ?_⟩
  · simp [topSt, hst]
  · have := h.deep; rw [hf] at this; simpa [topSt] using this
  · have := h.ev; simp [topSt]; omega
  · intro x hx
    rcases List.mem_append.1 (show x ∈ fs ++ [g] from hx) with h1 | h1
    · exact h.fr x (by rw [hf]; simp [h1])
    · rw [List.mem_singleton.1 h1]; exact hg
  · intro us bs x y he
    have he' : fs ++ [g] = us ++ x :: y :: bs := he
    rcases List.eq_nil_or_concat bs with rfl | ⟨bs', z, rfl⟩
    · have e : us ++ x :: [y] = (us ++ [x]) ++ [y] := by simp
      rw [e] at he'
      have := List.append_inj' he' rfl
      obtain ⟨rfl, h2⟩ := this
      obtain rfl : g = y := by simpa using h2
      have := h.calls us [] x f (by rw [hf]; simp)
      rw [hgf]; exact this
    · have e : us ++ x :: y :: (bs' ++ [z]) = (us ++ x :: y :: bs') ++ [z] := by simp
      rw [List.concat_eq_append, e] at he'
      obtain ⟨rfl, h2⟩ := List.append_inj' he' rfl
      exact h.calls us (bs' ++ [f]) x y (by rw [hf]; simp)
theorem StInv.status {s : St} (h : StInv p s) (hst : s.status = 0) {n : Int} (h0 : 2 ≤ n) (h1 : n ≤ 5) : StInv p { s with status := n } := by
  refine ⟨h.mem, h.fuel0, h.fuel1, by show 0 ≤ n; omega, h1, fun _ => h.val (by omega), ?_, h.deep, h.ans, h.ev, h.fr, h.calls⟩
  have := h.done
  show s.frames = [] ↔ n = 1
  constructor
  · intro e; have := this.1 e; omega
  · intro e; omega
theorem StInv.exec (hp : Right p) {s : St} {fs : List Fr} {f : Fr} (h : StInv p s) (hf : s.frames = fs ++ [f]) (hst : s.status = 0) (hfu : 0 < s.fuel) : StInv p (execSt p s fs f) := by
  have hfo : FrOk p f := h.fr f (by rw [hf]; simp)
  have hi := hp.ins hfo
  have hl := h.deep
  rw [hf] at hl
  simp only [List.length_append, List.length_cons, List.length_nil] at hl
  unfold execSt
  by_cases h1 : mkOk (insOf p f).op (f.reg (insOf p f).b) = true
  · rw [if_pos h1]
    have h2 : (insOf p f).op ≤ 12 := by simp [mkOk] at h1; omega
    exact h.top hf hst hfu (hfo.on hp rfl (by simp [Fr.at, put_len, hfo.regs]) rfl (by omega) (by omega)) rfl
  rw [if_neg h1]
  by_cases h2 : (insOf p f).op = 5
  · rw [if_pos h2]; exact h.status hst (by omega) (by omega)
  rw [if_neg h2]
  by_cases h3 : ((insOf p f).op = 13 ∨ (insOf p f).op = 14) ∧ (f.reg (insOf p f).a < 0 ∨ 16 ≤ f.reg (insOf p f).a)
  · rw [if_pos h3]; exact h.status hst (by omega) (by omega)
  rw [if_neg h3]
  have h4 : 13 ≤ (insOf p f).op := by
    have := hi.op1
    simp [mkOk] at h1
    omega
  by_cases h5 : (insOf p f).op = 13
  · rw [if_pos h5]; exact h.top hf hst hfu (hfo.on hp rfl (by simp [Fr.at, put_len, hfo.regs]) rfl (by omega) (by omega)) rfl
  rw [if_neg h5]
  by_cases h6 : (insOf p f).op = 14
  · rw [if_pos h6]
    have := h.top hf hst hfu (hfo.on hp (g := f.at (f.pc + 1)) rfl hfo.regs rfl (by omega) (by omega)) rfl
    exact ⟨by simp [h.mem], this.fuel0, this.fuel1, this.stat0, this.stat1, this.val, this.done, this.deep, this.ans, this.ev, this.fr, this.calls⟩
  rw [if_neg h6]
  by_cases h7 : (insOf p f).op = 15
  · rw [if_pos h7]
    have hj := hi.jump (.inl h7)
    exact h.top hf hst hfu (hfo.goes hp rfl hfo.regs hj.1 (by unfold nextL; rw [if_neg (by omega), if_pos h7]; simp [Fr.at])) rfl
  rw [if_neg h7]
  by_cases h8 : (insOf p f).op = 16
  · rw [if_pos h8]
    have hj := hi.jump (.inr h8)
    have := hfo.pc0
    by_cases hz : f.reg (insOf p f).a = 0
    · rw [if_pos hz]
      refine h.top hf hst hfu (hfo.on hp (g := f.at (f.pc + 1)) rfl hfo.regs rfl (by omega) (by omega)) rfl
    · rw [if_neg hz]
      refine h.top hf hst hfu (hfo.goes hp rfl hfo.regs hj.1 ?_) rfl
      unfold nextL
      rw [if_neg (by omega), if_neg (by omega), if_pos h8]
      simp [Fr.at]
  rw [if_neg h8]
  by_cases h9 : (insOf p f).op = 17
  · rw [if_pos h9]
    by_cases h10 : fs.length + 1 = 8
    · rw [if_pos h10]
      have := h.status hst (n := 5) (by omega) (by omega)
      exact ⟨this.mem, by show 0 ≤ s.fuel - 1; omega, by have := h.fuel1; show s.fuel - 1 ≤ 10000; omega, this.stat0, this.stat1, this.val, this.done, this.deep, this.ans, by have := h.ev; show (s.events.length : Int) + (s.fuel - 1) ≤ 1000000; omega, this.fr, this.calls⟩
    · rw [if_neg h10]
      refine ⟨h.mem, by show 0 ≤ s.fuel - 1; omega, by have := h.fuel1; show s.fuel - 1 ≤ 10000; omega, h.stat0, h.stat1, h.val, ?_, ?_, h.ans, by have := h.ev; show (s.events.length : Int) + (s.fuel - 1) ≤ 1000000; omega, ?_, ?_⟩
      · simp [hst]
      · simp; omega
      · intro x hx
        simp only [List.mem_append, List.mem_cons, List.not_mem_nil, or_false] at hx
        rcases hx with h1 | rfl | rfl
        · exact h.fr x (by rw [hf]; simp [h1])
        · exact hfo
        · exact newFr_ok hp hfo h9 _ _ _
      · intro us bs x y he
        simp only at he
        have e0 : ∀ z : Fr, fs ++ [f, z] = (fs ++ [f]) ++ [z] := fun z => by simp
        rw [e0] at he
        rcases List.eq_nil_or_concat bs with rfl | ⟨bs', z, rfl⟩
        · have e : us ++ x :: [y] = (us ++ [x]) ++ [y] := by simp
          rw [e] at he
          obtain ⟨h2, h3⟩ := List.append_inj' he rfl
          obtain ⟨rfl, h4⟩ := List.append_inj' h2 rfl
          obtain rfl : f = x := by simpa using h4
          obtain rfl : _ = y := by simpa using h3
          exact ⟨h9, rfl⟩
        · have e : us ++ x :: y :: (bs' ++ [z]) = (us ++ x :: y :: bs') ++ [z] := by simp
          rw [List.concat_eq_append, e] at he
          obtain ⟨h2, h3⟩ := List.append_inj' he rfl
          exact h.calls us bs' x y (by rw [hf, h2])
  rw [if_neg h9]
  by_cases h10 : (insOf p f).op = 18
  · rw [if_pos h10]
    have := h.top hf hst hfu (hfo.on hp (g := (f.put (insOf p f).dst (s.answers.headD 0)).at (f.pc + 1)) rfl (by simp [Fr.at, put_len, hfo.regs]) rfl (by omega) (by omega)) rfl
    exact ⟨this.mem, this.fuel0, this.fuel1, this.stat0, this.stat1, this.val, this.done, this.deep, by have := h.ans; simp; omega, by have := h.ev; simp [topSt]; omega, this.fr, this.calls⟩
  rw [if_neg h10]
  have h11 : (insOf p f).op = 19 := by have := hi.op2; omega
  rcases List.eq_nil_or_concat fs with rfl | ⟨gs, g, rfl⟩
  · refine ⟨h.mem, by show 0 ≤ s.fuel - 1; omega, by have := h.fuel1; show s.fuel - 1 ≤ 10000; omega, by simp, by simp, by simp, by simp, by simp, h.ans, by have := h.ev; simp; omega, by simp, by simp⟩
  · rw [List.concat_eq_append]
    rw [List.concat_eq_append] at hf hl
    simp only [List.getLast?_append, List.getLast?_singleton, Option.some_or, List.dropLast_concat]
    have hgo : FrOk p g := h.fr g (by rw [hf]; simp)
    have hg := h.calls gs [] g f (by rw [hf]; simp)
    have hng : FrOk p (retFr p g (f.reg (insOf p f).a)) := hgo.on hp rfl (by simp [retFr, Fr.at, put_len, hgo.regs]) rfl (by omega) (by omega)
    refine ⟨h.mem, by show 0 ≤ s.fuel - 1; omega, by have := h.fuel1; show s.fuel - 1 ≤ 10000; omega, h.stat0, h.stat1, h.val, ?_, ?_, h.ans, by have := h.ev; simp; omega, ?_, ?_⟩
    · simp [hst]
    · simp at hl ⊢; omega
    · intro x hx
      rcases List.mem_append.1 (show x ∈ gs ++ [_] from hx) with h1 | h1
      · exact h.fr x (by rw [hf]; simp [h1])
      · rw [List.mem_singleton.1 h1]; exact hng
    · intro us bs x y he
      have he' : gs ++ [retFr p g (f.reg (insOf p f).a)] = us ++ x :: y :: bs := he
      rcases List.eq_nil_or_concat bs with rfl | ⟨bs', z, rfl⟩
      · have e : us ++ x :: [y] = (us ++ [x]) ++ [y] := by simp
        rw [e] at he'
        obtain ⟨rfl, h2⟩ := List.append_inj' he' rfl
        obtain rfl : _ = y := by simpa using h2
        exact h.calls us [f] x g (by rw [hf]; simp)
      · have e : us ++ x :: y :: (bs' ++ [z]) = (us ++ x :: y :: bs') ++ [z] := by simp
        rw [List.concat_eq_append, e] at he'
        obtain ⟨rfl, h2⟩ := List.append_inj' he' rfl
        exact h.calls us (bs' ++ [g, f]) x y (by rw [hf]; simp)
theorem StInv.running {s : St} (h : StInv p s) (hst : s.status = 0) : ∃ fs f, s.frames = fs ++ [f] := by
  rcases List.eq_nil_or_concat s.frames with e | ⟨fs, f, e⟩
  · have := h.done.1 e; omega
  · exact ⟨fs, f, by rw [e, List.concat_eq_append]⟩
theorem stepSt_exec {s : St} {fs : List Fr} {f : Fr} (hf : s.frames = fs ++ [f]) (hfu : s.fuel ≠ 0) : stepSt p s = execSt p s fs f := by
  unfold stepSt
  rw [if_neg hfu, hf]
  simp
theorem StInv.step (hp : Right p) {s : St} (h : StInv p s) (hst : s.status = 0) : StInv p (stepSt p s) := by
  by_cases hfu : s.fuel = 0
  · unfold stepSt
    rw [if_pos hfu]
    exact h.status hst (by omega) (by omega)
  · obtain ⟨fs, f, hf⟩ := h.running hst
    rw [stepSt_exec hf hfu]
    exact h.exec hp hf hst (by have := h.fuel0; omega)
theorem StInv.next (hp : Right p) {s : St} (h : StInv p s) : StInv p (nextSt p s) := by
  unfold nextSt
  split
  · next hst => exact h.step hp hst
  · exact h
theorem StInv.walk (hp : Right p) : ∀ (n : Nat) {s : St}, StInv p s → StInv p (walkSt p n s)
  | 0, _, h => h
  | n + 1, s, h => by
    unfold walkSt
    split
    · next hst => exact StInv.walk hp n (h.step hp hst)
    · exact h
end
/-- Where a run begins. -/
def beginSt (args answers : List Int) (fuel : Int) : St := ⟨0, 0, [⟨0, 0, args ++ List.replicate (12 - args.length) 0⟩], List.replicate 16 0, fuel, [], answers⟩
theorem begin_inv {p : List Fnc} (hp : Right p) (args answers : List Int) (fuel : Int) (ha : args.length ≤ 12) (hn : answers.length ≤ 100) (h0 : 0 ≤ fuel) (h1 : fuel ≤ 10000) : StInv p (beginSt args answers fuel) := by
  have hl : 0 < p.length := by have := hp.ok.l1; omega
  have hF := hp.ok.fn p[0] (List.getElem_mem hl)
  refine ⟨by simp [beginSt], h0, h1, by simp [beginSt], by simp [beginSt], by simp [beginSt], by simp [beginSt], by simp [beginSt], hn, by simp [beginSt]; omega, ?_, ?_⟩
  · intro f hf
    obtain rfl : f = _ := List.mem_singleton.1 hf
    refine ⟨by simp; omega, by simp, by simp, p[0], _, p[0].code[0]'(by have := hF.c1; omega), List.getElem?_eq_getElem hl, sure_zero hF.cok hF.p2, ?_⟩
    show p[0].code[(0 : Int).toNat]? = _
    exact List.getElem?_eq_getElem _
  · intro us bs x y he
    have : (beginSt args answers fuel).frames.length = 1 := rfl
    rw [he] at this
    simp at this
    omega
end Tier
