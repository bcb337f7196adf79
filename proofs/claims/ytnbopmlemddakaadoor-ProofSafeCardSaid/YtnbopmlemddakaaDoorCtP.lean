/-
  How often each instruction is done, as plain data; what holds of these numbers along a run. No program is in sight.
-/
import Derived.Test.YtnbopmlemddakaaDoorOpI
namespace Tier
open Go Go.RowKit
def sumC (cs : List (List Int)) : Int := (cs.map List.sum).sum
theorem sum_set : ∀ (l : List Int) (i : Nat) (x y : Int), l[i]? = some x → (l.set i y).sum = l.sum - x + y
  | [], i, x, y, h => by simp at h
  | a :: l, 0, x, y, h => by
    simp at h; subst h
    simp only [List.set_cons_zero, List.sum_cons]; omega
  | a :: l, i + 1, x, y, h => by
    have := sum_set l i x y (by simpa using h)
    simp only [List.set_cons_succ, List.sum_cons]; omega
theorem sum_pos : ∀ {l : List Int}, (∀ x ∈ l, 0 ≤ x) → 0 ≤ l.sum
  | [], _ => by simp
  | a :: l, h => by
    have h1 := sum_pos (fun x hx => h x (List.mem_cons_of_mem _ hx))
    have h2 := h a List.mem_cons_self
    simp only [List.sum_cons]; omega
theorem mem_le_sum : ∀ {l : List Int}, (∀ x ∈ l, 0 ≤ x) → ∀ x ∈ l, x ≤ l.sum
  | [], _, x, hx => by simp at hx
  | a :: l, h, x, hx => by
    have h0 := fun x hx => h x (List.mem_cons_of_mem a hx)
    have h1 := sum_pos h0
    have h2 := h a List.mem_cons_self
    simp only [List.sum_cons]
    rcases List.mem_cons.1 hx with rfl | hx
    · omega
    · have := mem_le_sum h0 x hx; omega
theorem sumC_set (cs : List (List Int)) (i : Nat) (c c' : List Int) (h : cs[i]? = some c) : sumC (cs.set i c') = sumC cs - c.sum + c'.sum := by
  unfold sumC
  rw [List.map_set]
  exact sum_set _ _ _ _ (by rw [List.getElem?_map, h]; rfl)
theorem take_sum {l : List Int} {k : Nat} {x : Int} (h : l[k]? = some x) : (l.take (k + 1)).sum = (l.take k).sum + x := by
  rw [List.take_add_one, h, List.sum_append]; simp
theorem sumC_take {cs : List (List Int)} {i : Nat} {c : List Int} (h : cs[i]? = some c) : sumC (cs.take (i + 1)) = sumC (cs.take i) + c.sum := by
  unfold sumC
  rw [List.map_take, List.map_take]
  exact take_sum (by rw [List.getElem?_map, h]; rfl)
theorem take_sum_le {l : List Int} (h : ∀ x ∈ l, 0 ≤ x) (k : Nat) : 0 ≤ (l.take k).sum ∧ (l.take k).sum ≤ l.sum := by
  have h1 := sum_pos (l := l.take k) (fun x hx => h x (List.mem_of_mem_take hx))
  have h2 := sum_pos (l := l.drop k) (fun x hx => h x (List.mem_of_mem_drop hx))
  have h3 : (l.take k ++ l.drop k).sum = l.sum := by rw [List.take_append_drop]
  rw [List.sum_append] at h3
  omega
def bump (cs : List (List Int)) (i pc : Nat) (d : Int) : List (List Int) := cs.set i ((cs.getD i []).set pc ((cs.getD i []).getD pc 0 + d))
def topF (s : St) : Fr := s.frames.getLast?.getD ⟨0, 0, []⟩
theorem topF_eq {s : St} {fs : List Fr} {f : Fr} (h : s.frames = fs ++ [f]) : topF s = f := by unfold topF; rw [h]; simp
def zeroC (p : List Fnc) : List (List Int) := p.map fun F => List.replicate F.code.length 0
/-- The numbers after so many steps. -/
def cntK (p : List Fnc) (s0 : St) : Nat → List (List Int)
  | 0 => zeroC p
  | k + 1 => if (walkSt p k s0).status = 0 then bump (cntK p s0 k) (topF (walkSt p k s0)).fn.toNat (topF (walkSt p k s0)).pc.toNat ((walkSt p k s0).fuel - (walkSt p (k + 1) s0).fuel) else cntK p s0 k
def atP (f : Fr) (i pc : Nat) : Int := if f.fn = (i : Int) ∧ f.pc = (pc : Int) then 1 else 0
def pend (s : St) (i pc : Nat) : Int := if s.status = 5 then 0 else match s.frames.getLast? with
  | none => 0
  | some f => atP f i pc
structure CInv (p : List Fnc) (F0 : Int) (s : St) (cs : List (List Int)) : Prop where
  len : cs.length = p.length
  lens : ∀ (i : Nat) (F : Fnc) (c : List Int), p[i]? = some F → cs[i]? = some c → c.length = F.code.length
  pos : ∀ c ∈ cs, ∀ x ∈ c, 0 ≤ x
  sum : sumC cs = F0 - s.fuel
  sure : ∀ (i : Nat) (F : Fnc) (c : List Int) (pc : Nat) (x : Int), p[i]? = some F → cs[i]? = some c → (sureF F)[pc]? = some none → c[pc]? = some x → x = 0
  flow : ∀ (i : Nat) (F : Fnc) (c : List Int) (pc : Nat) (z : Ins) (x y : Int), p[i]? = some F → cs[i]? = some c → F.code[pc]? = some z → z.op < 15 → (∀ u ∈ F.code, (u.op = 15 ∨ u.op = 16) → u.imm ≠ ((pc + 1 : Nat) : Int)) → c[pc]? = some x → c[pc + 1]? = some y → x - y = pend s i (pc + 1)
theorem pend_top {s : St} {fs : List Fr} {f : Fr} (h : s.frames = fs ++ [f]) (hs : s.status ≠ 5) (i pc : Nat) : pend s i pc = atP f i pc := by
  unfold pend; rw [if_neg hs, h]; simp
theorem ins_of_at {p : List Fnc} {f : Fr} {i pc : Nat} {F : Fnc} {z : Ins} (hF : p[i]? = some F) (hz : F.code[pc]? = some z) (h1 : f.fn = (i : Int)) (h2 : f.pc = (pc : Int)) : insOf p f = z := by
  have h3 : fnOf p f.fn = F := fnOf_get (by rw [h1]; simpa using hF)
  unfold insOf
  rw [h3, h2, List.getD_eq_getElem?_getD]
  simp [hz]
theorem atP_zero {f : Fr} {i pc : Nat} (h : ¬ (f.fn = (i : Int) ∧ f.pc = (pc : Int))) : atP f i pc = 0 := by unfold atP; rw [if_neg h]
theorem atP_next {f g : Fr} {i pc : Nat} (h1 : g.fn = f.fn) (h2 : g.pc = f.pc + 1) : atP g i (pc + 1) = atP f i pc := by
  unfold atP
  rw [h1, h2]
  by_cases h : f.fn = (i : Int) ∧ f.pc = (pc : Int)
  · rw [if_pos h, if_pos ⟨h.1, by omega⟩]
  · rw [if_neg h, if_neg (fun hh => h ⟨hh.1, by omega⟩)]
theorem atP_at (f : Fr) (i pc : Nat) : atP (f.at (f.pc + 1)) i (pc + 1) = atP f i pc := atP_next rfl rfl
theorem atP_put (f : Fr) (r n : Int) (i pc : Nat) : atP ((f.put r n).at (f.pc + 1)) i (pc + 1) = atP f i pc := atP_next rfl rfl
theorem sum_zeros (n : Nat) : (List.replicate n (0 : Int)).sum = 0 := by
  induction n with
  | zero => rfl
  | succ n ih => rw [List.replicate_succ, List.sum_cons, ih]; rfl
theorem pend_step {p : List Fnc} (hp : Right p) {s : St} {fs : List Fr} {f : Fr} (h : StInv p s) (hf : s.frames = fs ++ [f]) (hst : s.status = 0) {i : Nat} {F : Fnc} (hF : p[i]? = some F) {pc : Nat} {z : Ins} (hz : F.code[pc]? = some z) (hop : z.op < 15)
    (htg : ∀ u ∈ F.code, (u.op = 15 ∨ u.op = 16) → u.imm ≠ ((pc + 1 : Nat) : Int)) :
    pend (stepSt p s) i (pc + 1) = pend s i (pc + 1) + (s.fuel - (stepSt p s).fuel) * atP f i pc - (s.fuel - (stepSt p s).fuel) * atP f i (pc + 1) := by
  have hfo : FrOk p f := h.fr f (by rw [hf]; simp)
  have hz1 : 1 ≤ z.op := ((hp.ok.fn F (List.mem_of_getElem? hF)).ins z (List.mem_of_getElem? hz)).op1
  have hpe := pend_top (s := s) hf (by omega) i (pc + 1)
  by_cases hfu : s.fuel = 0
  · have e : stepSt p s = { s with status := 2 } := by unfold stepSt; rw [if_pos hfu]
    rw [e, pend_top (s := { s with status := 2 }) hf (by simp) i (pc + 1), hpe]
    simp
  have hno : ∀ n : Int, (insOf p f).op = n → (15 ≤ n ∨ n < 1) → atP f i pc = 0 := fun n hn hb => atP_zero fun hh => by
    have := ins_of_at hF hz hh.1 hh.2
    rw [this] at hn; omega
  have hjmp : ∀ q : Int, ((insOf p f).op = 15 ∨ (insOf p f).op = 16) → atP (f.at (insOf p f).imm) i (pc + 1) = 0 := fun _ hn => atP_zero fun hh => by
    have h1 : f.fn = (i : Int) := hh.1
    obtain ⟨F', m, a1, a2, a3, a4⟩ := hfo.parts
    have e1 : F' = F := by rw [h1] at a1; simp [hF] at a1; exact a1.symm
    subst e1
    exact htg _ (List.mem_of_getElem? a4) hn hh.2
  rw [stepSt_exec hf hfu]
  have one : ∀ g : Fr, pend (topSt s fs g) i (pc + 1) = atP g i (pc + 1) := fun g => pend_top (s := topSt s fs g) (fs := fs) rfl (by show s.status ≠ 5; omega) i (pc + 1)
  have d1 : s.fuel - (s.fuel - 1) = 1 := by omega
  rcases exec_split (p := p) fs f with ⟨a1, hx⟩ | ⟨a1, hx⟩ | ⟨a1, hx⟩ | ⟨a1, -, -, hx⟩ | ⟨a1, a2, a3, hx⟩ | ⟨a1, hx⟩ | ⟨a1, hx⟩ | ⟨a1, a2, hx⟩ | ⟨a1, a2, hx⟩ | ⟨a1, hx⟩ | ⟨a1, a2, hx⟩ | ⟨a1, gs, g, a2, hx⟩ <;> rw [hx s, hpe]
  · rw [one, atP_put]; simp [topSt, d1]; omega
  · rw [pend_top (s := { s with status := 3 }) hf (by simp)]; simp
  · rw [pend_top (s := { s with status := 4 }) hf (by simp)]; simp
  · rw [one, atP_put]; simp [topSt, d1]; omega
  · have e : pend { topSt s fs (f.at (f.pc + 1)) with mem := s.mem.set (f.reg (insOf p f).a).toNat (f.reg (insOf p f).b) } i (pc + 1) = atP (f.at (f.pc + 1)) i (pc + 1) := one _
    rw [e, atP_at]; simp [topSt, d1]; omega
  · rw [one, hjmp 0 (.inl a1), hno 15 a1 (by omega)]; simp [topSt, d1]
  · rw [one, hno 16 a1 (by omega)]
    by_cases hr : f.reg (insOf p f).a = 0
    · rw [if_pos hr, atP_at, hno 16 a1 (by omega)]; simp [topSt, d1]
    · rw [if_neg hr, hjmp 0 (.inr a1)]; simp [topSt, d1]
  · have e : pend { s with fuel := s.fuel - 1, status := 5 } i (pc + 1) = 0 := by unfold pend; rw [if_pos rfl]
    rw [e, hno 17 a1 (by omega)]; simp [d1]
  · have e : pend { s with fuel := s.fuel - 1, frames := fs ++ [f, newFr (insOf p f).imm (fnOf p (insOf p f).imm).params (f.reg (insOf p f).a) (f.reg (insOf p f).b)] } i (pc + 1) = 0 := by
      rw [pend_top (fs := fs ++ [f]) (f := newFr (insOf p f).imm (fnOf p (insOf p f).imm).params (f.reg (insOf p f).a) (f.reg (insOf p f).b)) (by simp) (by show s.status ≠ 5; omega)]
      exact atP_zero fun hh => by have h2 : (0 : Int) = ((pc + 1 : Nat) : Int) := hh.2; omega
    rw [e, hno 17 a1 (by omega)]; simp [d1]
  · have e : pend { topSt s fs ((f.put (insOf p f).dst (s.answers.headD 0)).at (f.pc + 1)) with events := s.events ++ [f.reg (insOf p f).a], answers := s.answers.tail } i (pc + 1) = atP ((f.put (insOf p f).dst (s.answers.headD 0)).at (f.pc + 1)) i (pc + 1) := one _
    rw [e, atP_put, hno 18 a1 (by omega)]; simp [topSt, d1]
  · have e : pend { s with fuel := s.fuel - 1, frames := [], value := f.reg (insOf p f).a, status := 1 } i (pc + 1) = 0 := rfl
    rw [e, hno (insOf p f).op rfl (by omega)]; simp [d1]
  · have e : pend { s with fuel := s.fuel - 1, frames := gs ++ [retFr p g (f.reg (insOf p f).a)] } i (pc + 1) = atP g i pc := by
      rw [pend_top (fs := gs) (f := retFr p g (f.reg (insOf p f).a)) rfl (by show s.status ≠ 5; omega)]
      exact atP_next rfl rfl
    have hc := (h.calls gs [] g f (by rw [hf, a2]; simp)).1
    have e2 : atP g i pc = 0 := atP_zero fun hh => by
      have := ins_of_at hF hz hh.1 hh.2
      rw [this] at hc; omega
    rw [e, e2, hno (insOf p f).op rfl (by omega)]; simp [d1]
theorem bump_get {cs : List (List Int)} {a b : Nat} {c : List Int} {x : Int} (hc : cs[a]? = some c) (hx : c[b]? = some x) (d : Int) : bump cs a b d = cs.set a (c.set b (x + d)) := by
  unfold bump
  simp [List.getD_eq_getElem?_getD, hc, hx]
theorem CInv.step {p : List Fnc} (hp : Right p) {F0 : Int} {s : St} {cs : List (List Int)} (h : StInv p s) (hst : s.status = 0) (hc : CInv p F0 s cs) :
    CInv p F0 (stepSt p s) (bump cs (topF s).fn.toNat (topF s).pc.toNat (s.fuel - (stepSt p s).fuel)) := by
  obtain ⟨fs, f, hf⟩ := h.running hst
  rw [topF_eq hf]
  have hfo : FrOk p f := h.fr f (by rw [hf]; simp)
  obtain ⟨F, m, a1, a2, a3, a4⟩ := hfo.parts
  have f0 := hfo.fn0
  have p0 := hfo.pc0
  obtain ⟨c, hcc⟩ : ∃ c, cs[f.fn.toNat]? = some c := ⟨_, List.getElem?_eq_getElem (by rw [hc.len]; exact (List.getElem?_eq_some_iff.1 a1).1)⟩
  have hl := hc.lens _ F c a1 hcc
  obtain ⟨x, hx⟩ : ∃ x, c[f.pc.toNat]? = some x := ⟨_, List.getElem?_eq_getElem (by rw [hl]; exact (List.getElem?_eq_some_iff.1 a4).1)⟩
  obtain ⟨d, hd⟩ : ∃ d, s.fuel - (stepSt p s).fuel = d := ⟨_, rfl⟩
  have hd01 : d = 0 ∨ d = 1 := by
    rcases step_fuel h hst with ⟨h1, -, -⟩ | ⟨h1, -, -⟩ | ⟨h1, h2, -⟩ <;> omega
  have hpd := fun {i : Nat} {G : Fnc} (hG : p[i]? = some G) {pc : Nat} {z : Ins} (hz : G.code[pc]? = some z) (h1 : z.op < 15) h2 => pend_step hp h hf hst hG hz h1 h2
  rw [hd, bump_get hcc hx]
  simp only [hd] at hpd
  have hget : ∀ (i : Nat) (c' : List Int), (cs.set f.fn.toNat (c.set f.pc.toNat (x + d)))[i]? = some c' → ∃ c0, cs[i]? = some c0 ∧ c'.length = c0.length ∧ ∀ (pc : Nat) (y : Int), c'[pc]? = some y → ∃ y0, c0[pc]? = some y0 ∧ y = y0 + d * atP f i pc := by
    intro i c' hi
    by_cases he : f.fn.toNat = i
    · subst he
      rw [List.getElem?_set_self (by exact (List.getElem?_eq_some_iff.1 hcc).1)] at hi
      obtain rfl := Option.some.inj hi
      refine ⟨c, hcc, by simp, fun pc y hy => ?_⟩
      by_cases hq : f.pc.toNat = pc
      · subst hq
        rw [List.getElem?_set_self (by exact (List.getElem?_eq_some_iff.1 hx).1)] at hy
        obtain rfl := Option.some.inj hy
        refine ⟨x, hx, ?_⟩
        have : atP f f.fn.toNat f.pc.toNat = 1 := by unfold atP; rw [if_pos ⟨by omega, by omega⟩]
        rw [this]; omega
      · rw [List.getElem?_set_ne hq] at hy
        refine ⟨y, hy, ?_⟩
        rw [atP_zero (fun hh => by omega)]; omega
    · rw [List.getElem?_set_ne he] at hi
      refine ⟨c', hi, rfl, fun pc y hy => ⟨y, hy, ?_⟩⟩
      rw [atP_zero (fun hh => by omega)]; omega
  have hcm : c ∈ cs := List.mem_of_getElem? hcc
  have hxm : x ∈ c := List.mem_of_getElem? hx
  refine ⟨by simp [hc.len], fun i G c' hG hi => ?_, fun c' hc' y hy => ?_, ?_, fun i G c' pc y hG hi hs hy => ?_, fun i G c' pc z u v hG hi hz h1 h2 hu hv => ?_⟩
  · obtain ⟨c0, h1, h2, -⟩ := hget i c' hi
    rw [h2]; exact hc.lens i G c0 hG h1
  · rcases List.mem_or_eq_of_mem_set hc' with h1 | rfl
    · exact hc.pos _ h1 y hy
    · rcases List.mem_or_eq_of_mem_set hy with h1 | rfl
      · exact hc.pos _ hcm y h1
      · have := hc.pos _ hcm x hxm; omega
  · rw [sumC_set _ _ _ _ hcc, sum_set _ _ _ _ hx]
    have := hc.sum; omega
  · obtain ⟨c0, h1, -, h3⟩ := hget i c' hi
    obtain ⟨y0, h4, h5⟩ := h3 pc y hy
    have h6 := hc.sure i G c0 pc y0 hG h1 hs h4
    rw [h5, h6, atP_zero (fun hh => ?_)]
    · simp
    · have e1 : G = F := by rw [hh.1] at a1; simp [hG] at a1; exact a1
      subst e1
      rw [hh.2] at a3; simp [hs] at a3
  · obtain ⟨c0, g1, -, g3⟩ := hget i c' hi
    obtain ⟨u0, u1, u2⟩ := g3 pc u hu
    obtain ⟨v0, v1, v2⟩ := g3 (pc + 1) v hv
    have h6 := hc.flow i G c0 pc z u0 v0 hG g1 hz h1 h2 u1 v1
    rw [hpd hG hz h1 h2]
    omega
theorem zeroC_get {p : List Fnc} {i : Nat} {c : List Int} (h : (zeroC p)[i]? = some c) : ∃ F, p[i]? = some F ∧ c = List.replicate F.code.length 0 := by
  unfold zeroC at h
  rw [List.getElem?_map] at h
  cases hF : p[i]? with
  | none => rw [hF] at h; cases h
  | some F => rw [hF] at h; exact ⟨F, rfl, (Option.some.inj h).symm⟩
theorem CInv.start {p : List Fnc} (s0 : St) (h0 : s0.status = 0) (f : Fr) (hf : s0.frames = [f]) (hpc : f.pc = 0) : CInv p s0.fuel s0 (zeroC p) := by
  refine ⟨by simp [zeroC], fun i F c hF hi => ?_, fun c hc x hx => ?_, ?_, fun i F c pc x hF hi _ hx => ?_, fun i F c pc z x y hF hi hz h1 h2 hx hy => ?_⟩
  · obtain ⟨F', h1, rfl⟩ := zeroC_get hi
    rw [hF] at h1; obtain rfl := Option.some.inj h1; simp
  · obtain ⟨F, -, rfl⟩ := List.mem_map.1 hc
    rw [(List.mem_replicate.1 hx).2]; omega
  · have : ∀ l : List Fnc, sumC (zeroC l) = 0 := fun l => by
      induction l with
      | nil => rfl
      | cons F l ih => simp only [sumC, zeroC, List.map_cons, List.sum_cons, sum_zeros] at ih ⊢; rw [ih]; simp
    rw [this]; omega
  · obtain ⟨F', -, rfl⟩ := zeroC_get hi
    exact (List.mem_replicate.1 (List.mem_of_getElem? hx)).2
  · obtain ⟨F', -, rfl⟩ := zeroC_get hi
    have e1 := (List.mem_replicate.1 (List.mem_of_getElem? hx)).2
    have e2 := (List.mem_replicate.1 (List.mem_of_getElem? hy)).2
    rw [pend_top (fs := []) (f := f) (by rw [hf]; rfl) (by omega), atP_zero (fun hh => by have := hh.2; omega), e1, e2]; rfl
theorem cnt_inv {p : List Fnc} (hp : Right p) {s0 : St} (h : StInv p s0) (h0 : s0.status = 0) (f : Fr) (hf : s0.frames = [f]) (hpc : f.pc = 0) : ∀ k, CInv p s0.fuel (walkSt p k s0) (cntK p s0 k)
  | 0 => CInv.start s0 h0 f hf hpc
  | k + 1 => by
    have ih := cnt_inv hp h h0 f hf hpc k
    have hw := walkSt_succ (p := p) k s0
    unfold cntK
    by_cases hst : (walkSt p k s0).status = 0
    · rw [if_pos hst]
      have := CInv.step hp (h.walk hp k) hst ih
      rw [nxt_run hst] at hw
      rw [hw]; exact this
    · rw [if_neg hst]
      rw [nxt_stop hst] at hw
      rw [hw]; exact ih
theorem CInv.bound {p : List Fnc} {F0 : Int} {s : St} {cs : List (List Int)} (h : CInv p F0 s cs) {c : List Int} (hc : c ∈ cs) {x : Int} (hx : x ∈ c) : 0 ≤ x ∧ x ≤ F0 - s.fuel := by
  have h1 := h.pos c hc x hx
  have h2 := mem_le_sum (h.pos c hc) x hx
  have h3 : ∀ y ∈ cs.map List.sum, 0 ≤ y := fun y hy => by
    obtain ⟨c', hc', rfl⟩ := List.mem_map.1 hy
    exact sum_pos (h.pos c' hc')
  have h4 := mem_le_sum h3 c.sum (List.mem_map.2 ⟨c, hc, rfl⟩)
  have h5 := h.sum
  unfold sumC at h5
  omega
end Tier
