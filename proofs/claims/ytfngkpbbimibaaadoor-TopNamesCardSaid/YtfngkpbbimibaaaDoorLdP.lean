/-
  Plain: two runs that differ at registers that are not live go side by side. No program is in sight.
-/
import Derived.Test.YtfngkpbbimibaaaDoorLvP
import Derived.Test.YtfngkpbbimibaaaDoorStP
namespace Tier
open Go Go.RowKit
/-- Like one another at what is live; S: what is live, by function and place. -/
structure SimF (S : Nat → Nat → Nat) (f g : Fr) : Prop where
  fn : g.fn = f.fn
  pc : g.pc = f.pc
  lf : f.regs.length = 12
  lg : g.regs.length = 12
  regs : ∀ r : Nat, (S f.fn.toNat f.pc.toNat).testBit r = true → g.regs.getD r 0 = f.regs.getD r 0
inductive SimL (S : Nat → Nat → Nat) : List Fr → List Fr → Prop
  | nil : SimL S [] []
  | cons {f g : Fr} {l m : List Fr} (h : SimF S f g) (t : SimL S l m) : SimL S (f :: l) (g :: m)
structure SimS (S : Nat → Nat → Nat) (s t : St) : Prop where
  st : t.status = s.status
  val : t.value = s.value
  fr : SimL S s.frames t.frames
  mem : t.mem = s.mem
  fuel : t.fuel = s.fuel
  ev : t.events = s.events
  an : t.answers = s.answers
section
variable {S : Nat → Nat → Nat} {p : List Fnc}
theorem SimL.length {l m : List Fr} (h : SimL S l m) : m.length = l.length := by
  induction h with
  | nil => rfl
  | cons _ _ ih => simp [ih]
theorem SimL.snoc {l m : List Fr} {f g : Fr} (h : SimL S l m) (hf : SimF S f g) : SimL S (l ++ [f]) (m ++ [g]) := by
  induction h with
  | nil => exact .cons hf .nil
  | cons h _ ih => exact .cons h ih
theorem SimL.unsnoc {l : List Fr} {f : Fr} : ∀ {t : List Fr}, SimL S (l ++ [f]) t → ∃ m g, t = m ++ [g] ∧ SimL S l m ∧ SimF S f g := by
  induction l with
  | nil =>
    intro t h
    cases h with
    | cons h t => cases t; exact ⟨[], _, rfl, .nil, h⟩
  | cons a l ih =>
    intro t h
    cases h with
    | cons h t =>
      obtain ⟨m, g, rfl, h1, h2⟩ := ih t
      exact ⟨_ :: m, g, rfl, .cons h h1, h2⟩
theorem SimL.get {l m : List Fr} (h : SimL S l m) : ∀ {i : Nat} {f : Fr}, l[i]? = some f → ∃ g, m[i]? = some g ∧ SimF S f g := by
  induction h with
  | nil => intro i f h; simp at h
  | cons h t ih =>
    intro i f hi
    cases i with
    | zero => simp at hi; subst hi; exact ⟨_, rfl, h⟩
    | succ i => exact ih (by simpa using hi)
theorem SimL.of {l m : List Fr} (hl : m.length = l.length) (h : ∀ (i : Nat) (f g : Fr), l[i]? = some f → m[i]? = some g → SimF S f g) : SimL S l m := by
  induction l generalizing m with
  | nil => cases m with
    | nil => exact .nil
    | cons _ _ => simp at hl
  | cons f l ih => cases m with
    | nil => simp at hl
    | cons g m => exact .cons (h 0 f g rfl rfl) (ih (by simpa using hl) fun i f g h1 h2 => h (i + 1) f g (by simpa using h1) (by simpa using h2))
theorem SimF.ins {f g : Fr} (h : SimF S f g) : insOf p g = insOf p f := by unfold insOf; rw [h.fn, h.pc]
theorem SimF.reg {f g : Fr} (h : SimF S f g) {r : Int} (hr : (S f.fn.toNat f.pc.toNat).testBit r.toNat = true) : g.reg r = f.reg r := h.regs _ hr
theorem SimF.goes (hS : ∀ (k : Nat) (F : Fnc), p[k]? = some F → PreL p F (S k)) {f g : Fr} (h : SimF S f g) (hfo : FrOk p f) {d v pc : Int} (hn : pc.toNat ∈ nextL (insOf p f) f.pc.toNat) (hd : ∀ r : Nat, (setM (insOf p f)).testBit r = true → r = d.toNat) : SimF S ((f.put d v).at pc) ((g.put d v).at pc) := by
  obtain ⟨F, m, a1, -, a3, a4⟩ := hfo.parts
  refine ⟨h.fn, rfl, by simp [Fr.put, Fr.at, h.lf], by simp [Fr.put, Fr.at, h.lg], fun r hr => ?_⟩
  show (g.regs.set d.toNat v).getD r 0 = (f.regs.set d.toNat v).getD r 0
  rw [List.getD_eq_getElem?_getD, List.getD_eq_getElem?_getD, List.getElem?_set, List.getElem?_set, h.lf, h.lg]
  by_cases e : d.toNat = r
  · rw [if_pos e, if_pos e]
  · rw [if_neg e, if_neg e, ← List.getD_eq_getElem?_getD, ← List.getD_eq_getElem?_getD]
    refine h.regs r ?_
    refine ((hS _ F a1) _ _ (of_rch a3) a4).1 _ hn r hr ?_
    cases hb : (setM (insOf p f)).testBit r with
    | false => rfl
    | true => exact absurd (hd r hb).symm e
theorem SimF.jumps (hS : ∀ (k : Nat) (F : Fnc), p[k]? = some F → PreL p F (S k)) {f g : Fr} (h : SimF S f g) (hfo : FrOk p f) {pc : Int} (hn : pc.toNat ∈ nextL (insOf p f) f.pc.toNat) (hd : setM (insOf p f) = 0) : SimF S (f.at pc) (g.at pc) := by
  obtain ⟨F, m, a1, -, a3, a4⟩ := hfo.parts
  refine ⟨h.fn, rfl, h.lf, h.lg, fun r hr => h.regs r (((hS _ F a1) _ _ (of_rch a3) a4).1 _ hn r hr (by rw [hd]; simp))⟩
theorem setM_bit {x : Ins} {r : Nat} (h : (setM x).testBit r = true) : r = x.dst.toNat := by
  unfold setM at h
  split at h
  · rw [Nat.testBit_two_pow, decide_eq_true_eq] at h; exact h.symm
  · simp at h
theorem par_eq (p : List Fnc) (x : Ins) : parOf p x = (fnOf p x.imm).params := by
  unfold parOf fnOf
  rw [List.getD_eq_getElem?_getD]
  cases p[x.imm.toNat]? <;> rfl
theorem bit_or_l (a b : Nat) : (2 ^ a ||| 2 ^ b).testBit a = true := by rw [Nat.testBit_or, Nat.testBit_two_pow_self]; rfl
theorem bit_or_r (a b : Nat) : (2 ^ a ||| 2 ^ b).testBit b = true := by rw [Nat.testBit_or, Nat.testBit_two_pow_self]; simp
theorem SimS.exec (hp : Right p) (hS : ∀ (k : Nat) (F : Fnc), p[k]? = some F → PreL p F (S k)) {s t : St} {fs gs : List Fr} {f g : Fr} (hi : StInv p s) (h : SimS S s t) (hf : s.frames = fs ++ [f]) (hl : SimL S fs gs) (hfg : SimF S f g) : SimS S (execSt p s fs f) (execSt p t gs g) := by
  have hfo : FrOk p f := hi.fr f (by rw [hf]; simp)
  obtain ⟨F, m, a1, a2, a3, a4⟩ := hfo.parts
  have hio := hp.ins hfo
  have hrd : Sub (readsM (insOf p f) (parOf p (insOf p f))) (S f.fn.toNat f.pc.toNat) := ((hS _ F a1) _ _ (of_rch a3) a4).2
  have pc0 := hfo.pc0
  have hR : ∀ r : Int, (readsM (insOf p f) (parOf p (insOf p f))).testBit r.toNat = true → g.reg r = f.reg r := fun r hr => hfg.reg (hrd _ hr)
  have hpc : (f.pc + 1).toNat = f.pc.toNat + 1 := by omega
  have hon : (insOf p f).op ≠ 15 → (insOf p f).op ≠ 19 → (f.pc + 1).toNat ∈ nextL (insOf p f) f.pc.toNat := fun h15 h19 => by
    rw [hpc]; unfold nextL; rw [if_neg h19, if_neg h15]; split <;> simp
  have top : ∀ f' g' : Fr, SimF S f' g' → SimS S (topSt s fs f') (topSt t gs g') := fun f' g' h' => ⟨h.st, h.val, hl.snoc h', h.mem, by show t.fuel - 1 = s.fuel - 1; rw [h.fuel], h.ev, h.an⟩
  have hsame : SimL S s.frames t.frames := h.fr
  have hst : ∀ n : Int, SimS S { s with status := n } { t with status := n } := fun n => ⟨rfl, h.val, hsame, h.mem, h.fuel, h.ev, h.an⟩
  unfold execSt
  rw [hfg.ins, hfg.pc, ← par_eq]
  have hrest : ∀ (v : Int), (insOf p f).op ≠ 15 → (insOf p f).op ≠ 19 → SimF S ((f.put (insOf p f).dst v).at (f.pc + 1)) ((g.put (insOf p f).dst v).at (f.pc + 1)) := fun v h15 h19 => hfg.goes hS hfo (hon h15 h19) (fun r hr => setM_bit hr)
  by_cases o1 : (insOf p f).op = 1
  · have k1 : ∀ b, mkOk (insOf p f).op b = true := fun b => by rw [o1]; rfl
    rw [if_pos (k1 _), if_pos (k1 _)]
    have k2 : ∀ a b, Tier.mk (insOf p f).op a b (insOf p f).imm = (insOf p f).imm := fun a b => by rw [o1]; rfl
    rw [k2, k2]
    exact top _ _ (hrest _ (by omega) (by omega))
  by_cases o2 : (insOf p f).op ≤ 12
  · have r1 : readsM (insOf p f) (parOf p (insOf p f)) = 2 ^ (insOf p f).a.toNat ||| 2 ^ (insOf p f).b.toNat := by
      unfold readsM; rw [if_neg (by omega), if_neg (by omega), if_neg (by omega)]
    have ha := hR (insOf p f).a (by rw [r1]; exact bit_or_l _ _)
    have hb := hR (insOf p f).b (by rw [r1]; exact bit_or_r _ _)
    rw [ha, hb]
    by_cases h1 : mkOk (insOf p f).op (f.reg (insOf p f).b) = true
    · rw [if_pos h1, if_pos h1]; exact top _ _ (hrest _ (by omega) (by omega))
    · have h5 : (insOf p f).op = 5 := by
        have := hio.op1
        simp [mkOk] at h1
        omega
      rw [if_neg h1, if_neg h1, if_pos h5, if_pos h5]; exact hst 3
  have k0 : ∀ b, mkOk (insOf p f).op b = false := fun b => by unfold mkOk; simp; omega
  simp only [k0, if_neg (show ¬ (insOf p f).op = 5 by omega), Bool.false_eq_true, if_false]
  by_cases o13 : (insOf p f).op = 13
  · have r1 : readsM (insOf p f) (parOf p (insOf p f)) = 2 ^ (insOf p f).a.toNat := by unfold readsM; rw [if_neg (by omega), if_pos (by omega)]
    have ha := hR (insOf p f).a (by rw [r1, Nat.testBit_two_pow_self])
    rw [ha, h.mem]
    by_cases hc : ((insOf p f).op = 13 ∨ (insOf p f).op = 14) ∧ (f.reg (insOf p f).a < 0 ∨ 16 ≤ f.reg (insOf p f).a)
    · rw [if_pos hc, if_pos hc]; exact ⟨rfl, h.val, hsame, rfl, h.fuel, h.ev, h.an⟩
    · rw [if_neg hc, if_neg hc, if_pos o13, if_pos o13]; exact top _ _ (hrest _ (by omega) (by omega))
  by_cases o14 : (insOf p f).op = 14
  · have r1 : readsM (insOf p f) (parOf p (insOf p f)) = 2 ^ (insOf p f).a.toNat ||| 2 ^ (insOf p f).b.toNat := by
      unfold readsM; rw [if_neg (by omega), if_neg (by omega), if_neg (by omega)]
    have ha := hR (insOf p f).a (by rw [r1]; exact bit_or_l _ _)
    have hb := hR (insOf p f).b (by rw [r1]; exact bit_or_r _ _)
    rw [ha, hb, h.mem]
    by_cases hc : ((insOf p f).op = 13 ∨ (insOf p f).op = 14) ∧ (f.reg (insOf p f).a < 0 ∨ 16 ≤ f.reg (insOf p f).a)
    · rw [if_pos hc, if_pos hc]; exact ⟨rfl, h.val, hsame, rfl, h.fuel, h.ev, h.an⟩
    · rw [if_neg hc, if_neg hc, if_neg o13, if_neg o13, if_pos o14, if_pos o14]
      have := top (f.at (f.pc + 1)) (g.at (f.pc + 1)) (hfg.jumps hS hfo (hon (by omega) (by omega)) (by unfold setM setsB; rw [if_neg]; simp; omega))
      exact ⟨this.st, this.val, this.fr, rfl, this.fuel, this.ev, this.an⟩
  have hno : ∀ c : Prop, ¬ (((insOf p f).op = 13 ∨ (insOf p f).op = 14) ∧ c) := fun c hc => by omega
  rw [if_neg (hno _), if_neg (hno _), if_neg o13, if_neg o13, if_neg o14, if_neg o14]
  by_cases o15 : (insOf p f).op = 15
  · rw [if_pos o15, if_pos o15]
    exact top _ _ (hfg.jumps hS hfo (by unfold nextL; rw [if_neg (by omega), if_pos o15]; simp) (by unfold setM setsB; rw [if_neg]; simp; omega))
  rw [if_neg o15, if_neg o15]
  by_cases o16 : (insOf p f).op = 16
  · rw [if_pos o16, if_pos o16]
    have r1 : readsM (insOf p f) (parOf p (insOf p f)) = 2 ^ (insOf p f).a.toNat := by unfold readsM; rw [if_neg (by omega), if_pos (by omega)]
    have ha := hR (insOf p f).a (by rw [r1, Nat.testBit_two_pow_self])
    rw [ha]
    refine top _ _ (hfg.jumps hS hfo ?_ (by unfold setM setsB; rw [if_neg]; simp; omega))
    unfold nextL
    rw [if_neg (by omega), if_neg o15, if_pos o16]
    split
    · rw [hpc]; simp
    · simp
  rw [if_neg o16, if_neg o16]
  by_cases o17 : (insOf p f).op = 17
  · rw [if_pos o17, if_pos o17, hl.length]
    split
    · exact ⟨rfl, h.val, hsame, h.mem, by show t.fuel - 1 = s.fuel - 1; rw [h.fuel], h.ev, h.an⟩
    · have hargs : argsOf (parOf p (insOf p f)) (g.reg (insOf p f).a) (g.reg (insOf p f).b) = argsOf (parOf p (insOf p f)) (f.reg (insOf p f).a) (f.reg (insOf p f).b) := by
        by_cases n0 : parOf p (insOf p f) = 0
        · unfold argsOf; rw [if_pos n0, if_pos n0]
        by_cases n1 : parOf p (insOf p f) = 1
        · have r1 : readsM (insOf p f) (parOf p (insOf p f)) = 2 ^ (insOf p f).a.toNat := by unfold readsM; rw [if_neg (by omega), if_neg (by omega), if_pos o17, if_neg n0, if_pos n1]
          rw [hR (insOf p f).a (by rw [r1, Nat.testBit_two_pow_self])]
          unfold argsOf; rw [if_neg n0, if_pos n1, if_neg n0, if_pos n1]
        · have r1 : readsM (insOf p f) (parOf p (insOf p f)) = 2 ^ (insOf p f).a.toNat ||| 2 ^ (insOf p f).b.toNat := by unfold readsM; rw [if_neg (by omega), if_neg (by omega), if_pos o17, if_neg n0, if_neg n1]
          rw [hR (insOf p f).a (by rw [r1]; exact bit_or_l _ _), hR (insOf p f).b (by rw [r1]; exact bit_or_r _ _)]
      have hnew : newFr (insOf p f).imm (parOf p (insOf p f)) (g.reg (insOf p f).a) (g.reg (insOf p f).b) = newFr (insOf p f).imm (parOf p (insOf p f)) (f.reg (insOf p f).a) (f.reg (insOf p f).b) := by unfold newFr; rw [hargs]
      rw [hnew]
      have hl12 : (newFr (insOf p f).imm (parOf p (insOf p f)) (f.reg (insOf p f).a) (f.reg (insOf p f).b)).regs.length = 12 := (newFr_ok hp hfo o17 _ _ _).regs
      have e : ∀ (l : List Fr) (a b : Fr), l ++ [a, b] = (l ++ [a]) ++ [b] := fun l a b => by simp
      refine ⟨h.st, h.val, ?_, h.mem, by show t.fuel - 1 = s.fuel - 1; rw [h.fuel], h.ev, h.an⟩
      show SimL S (fs ++ [f, _]) (gs ++ [g, _])
      rw [e, e]
      exact (hl.snoc hfg).snoc ⟨rfl, rfl, hl12, hl12, fun _ _ => rfl⟩
  rw [if_neg o17, if_neg o17]
  by_cases o18 : (insOf p f).op = 18
  · have r1 : readsM (insOf p f) (parOf p (insOf p f)) = 2 ^ (insOf p f).a.toNat := by unfold readsM; rw [if_neg (by omega), if_pos (by omega)]
    have ha := hR (insOf p f).a (by rw [r1, Nat.testBit_two_pow_self])
    rw [if_pos o18, if_pos o18, ha, h.an, h.ev]
    have := top _ _ (hrest (s.answers.headD 0) (by omega) (by omega))
    exact ⟨this.st, this.val, this.fr, this.mem, this.fuel, rfl, rfl⟩
  rw [if_neg o18, if_neg o18]
  have r1 : readsM (insOf p f) (parOf p (insOf p f)) = 2 ^ (insOf p f).a.toNat := by have := hio.op2; unfold readsM; rw [if_neg (by omega), if_pos (by omega)]
  have ha := hR (insOf p f).a (by rw [r1, Nat.testBit_two_pow_self])
  rw [ha]
  rcases List.eq_nil_or_concat fs with rfl | ⟨fs', f1, rfl⟩
  · cases hl
    exact ⟨rfl, rfl, .nil, h.mem, by show t.fuel - 1 = s.fuel - 1; rw [h.fuel], h.ev, h.an⟩
  · rw [List.concat_eq_append] at hf hl
    obtain ⟨gs', g1, rfl, hl', h1⟩ := hl.unsnoc
    rw [List.concat_eq_append]
    simp only [List.getLast?_append, List.getLast?_singleton, Option.some_or, List.dropLast_concat]
    have hf1 : FrOk p f1 := hi.fr f1 (by rw [hf]; simp)
    have hc1 := (hi.calls fs' [] f1 f (by rw [hf]; simp)).1
    refine ⟨h.st, h.val, hl'.snoc ?_, h.mem, by show t.fuel - 1 = s.fuel - 1; rw [h.fuel], h.ev, h.an⟩
    unfold retFr
    rw [h1.ins, h1.pc]
    have := hf1.pc0
    exact h1.goes hS hf1 (by
      have e : (f1.pc + 1).toNat = f1.pc.toNat + 1 := by omega
      rw [e]; unfold nextL; rw [if_neg (by omega), if_neg (by omega), if_neg (by omega)]; simp) (fun r hr => setM_bit hr)
theorem SimS.step (hp : Right p) (hS : ∀ (k : Nat) (F : Fnc), p[k]? = some F → PreL p F (S k)) {s t : St} (hi : StInv p s) (hst : s.status = 0) (h : SimS S s t) : SimS S (stepSt p s) (stepSt p t) := by
  by_cases hfu : s.fuel = 0
  · unfold stepSt
    rw [if_pos hfu, if_pos (by rw [h.fuel]; exact hfu)]
    exact ⟨rfl, h.val, h.fr, h.mem, h.fuel, h.ev, h.an⟩
  · obtain ⟨fs, f, hf⟩ := hi.running hst
    have hl := h.fr
    rw [hf] at hl
    obtain ⟨gs, g, hg, hl', hfg⟩ := hl.unsnoc
    rw [stepSt_exec hf hfu, stepSt_exec hg (by rw [h.fuel]; exact hfu)]
    exact h.exec hp hS hi hf hl' hfg
theorem SimS.walk (hp : Right p) (hS : ∀ (k : Nat) (F : Fnc), p[k]? = some F → PreL p F (S k)) : ∀ (n : Nat) {s t : St}, StInv p s → SimS S s t → SimS S (walkSt p n s) (walkSt p n t)
  | 0, _, _, _, h => h
  | n + 1, s, t, hi, h => by
    unfold walkSt
    by_cases hst : s.status = 0
    · rw [if_pos hst, if_pos (by rw [h.st]; exact hst)]
      exact SimS.walk hp hS n (hi.step hp hst) (h.step hp hS hi hst)
    · rw [if_neg hst, if_neg (by rw [h.st]; exact hst)]
      exact h
/-- What goes side by side with a run is itself one. -/
theorem SimS.inv {s t : St} (hi : StInv p s) (h : SimS S s t) : StInv p t := by
  have hget : ∀ {i : Nat} {g : Fr}, t.frames[i]? = some g → ∃ f, s.frames[i]? = some f ∧ SimF S f g := fun {i g} hg => by
    have hlt := (List.getElem?_eq_some_iff.1 hg).1
    have hl : i < s.frames.length := by rw [← h.fr.length]; exact hlt
    obtain ⟨g', h1, h2⟩ := h.fr.get (List.getElem?_eq_getElem hl)
    rw [hg] at h1
    obtain rfl := Option.some.inj h1
    exact ⟨_, List.getElem?_eq_getElem hl, h2⟩
  refine ⟨by rw [h.mem]; exact hi.mem, by rw [h.fuel]; exact hi.fuel0, by rw [h.fuel]; exact hi.fuel1, by rw [h.st]; exact hi.stat0, by rw [h.st]; exact hi.stat1, fun hs => by rw [h.val]; exact hi.val (by rw [← h.st]; exact hs), ?_, by rw [h.fr.length]; exact hi.deep, by rw [h.an]; exact hi.ans, by rw [h.ev, h.fuel]; exact hi.ev, fun g hg => ?_, fun fs gs f g he => ?_⟩
  · rw [h.st, ← hi.done]
    have := h.fr.length
    constructor
    · intro e; rw [e] at this; exact List.length_eq_zero_iff.1 this.symm
    · intro e; rw [e] at this; exact List.length_eq_zero_iff.1 this
  · obtain ⟨i, hi2⟩ := List.getElem?_of_mem hg
    obtain ⟨f, h1, h2⟩ := hget hi2
    have hfo := hi.fr f (List.mem_of_getElem? h1)
    obtain ⟨F, m, x, k1, k2, k3⟩ := hfo.at_
    exact ⟨h2.lg, by rw [h2.fn]; exact hfo.fn0, by rw [h2.pc]; exact hfo.pc0, F, m, x, by rw [h2.fn]; exact k1, by rw [h2.pc]; exact k2, by rw [h2.pc]; exact k3⟩
  · have h1 : t.frames[fs.length]? = some f := by rw [he]; simp
    have h2 : t.frames[fs.length + 1]? = some g := by rw [he, List.getElem?_append_right (by omega)]; simp
    obtain ⟨f0, k1, k2⟩ := hget h1
    obtain ⟨g0, k3, k4⟩ := hget h2
    have hsp : s.frames = s.frames.take fs.length ++ f0 :: g0 :: s.frames.drop (fs.length + 2) := by
      obtain ⟨l1, e1⟩ := List.getElem?_eq_some_iff.1 k1
      obtain ⟨l2, e2⟩ := List.getElem?_eq_some_iff.1 k3
      have d1 := List.drop_eq_getElem_cons l1
      have d2 := List.drop_eq_getElem_cons l2
      rw [e1] at d1; rw [e2] at d2
      rw [← d2, ← d1, List.take_append_drop]
    have := hi.calls _ _ f0 g0 hsp
    rw [k2.ins, k4.fn]; exact this
end
end Tier
