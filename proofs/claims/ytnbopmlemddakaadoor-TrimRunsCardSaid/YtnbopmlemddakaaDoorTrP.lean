/-
  Plain law of trimming: what is come to, in its order; a trimmed program is right; what was trimmed once is trimmed. No program is in sight.
-/
import Derived.Test.YtnbopmlemddakaaDoorStP
namespace Tier
open Go Go.RowKit
/-- Numbers below n that pass a test: where each stands among them. -/
theorem filt_get (q : Nat → Bool) : ∀ (n i : Nat), i < n → q i = true → ((List.range n).filter q)[(List.range i).countP q]? = some i
  | 0, i, h, _ => by omega
  | n + 1, i, h, hq => by
    rw [List.range_succ, List.filter_append]
    by_cases hi : i < n
    · have ih := filt_get q n i hi hq
      rw [List.getElem?_append_left (List.getElem?_eq_some_iff.1 ih).1]; exact ih
    · have : i = n := by omega
      subst this
      rw [List.getElem?_append_right (by rw [List.countP_eq_length_filter]; omega), List.countP_eq_length_filter, Nat.sub_self]
      simp [hq]
theorem filt_inv (q : Nat → Bool) : ∀ (n k i : Nat), ((List.range n).filter q)[k]? = some i → i < n ∧ q i = true ∧ k = (List.range i).countP q
  | 0, k, i, h => by simp at h
  | n + 1, k, i, h => by
    rw [List.range_succ, List.filter_append] at h
    by_cases hk : k < ((List.range n).filter q).length
    · rw [List.getElem?_append_left hk] at h
      obtain ⟨h1, h2, h3⟩ := filt_inv q n k i h
      exact ⟨by omega, h2, h3⟩
    · rw [List.getElem?_append_right (by omega)] at h
      by_cases hq : q n = true
      · simp only [List.filter_cons, hq, if_true, List.filter_nil] at h
        have hk2 : k - ((List.range n).filter q).length = 0 := by
          have := (List.getElem?_eq_some_iff.1 h).1
          simp at this; omega
        rw [hk2] at h
        simp at h; subst h
        exact ⟨by omega, hq, by rw [List.countP_eq_length_filter]; omega⟩
      · simp [hq] at h
theorem cnt_succ (q : Nat → Bool) (n : Nat) : (List.range (n + 1)).countP q = (List.range n).countP q + if q n = true then 1 else 0 := by
  rw [List.range_succ, List.countP_append, List.countP_cons, List.countP_nil]; simp
theorem cnt_le (q : Nat → Bool) {i n : Nat} (h : i ≤ n) : (List.range i).countP q ≤ (List.range n).countP q := by
  obtain ⟨j, rfl⟩ := Nat.exists_eq_add_of_le h
  clear h
  induction j with
  | zero => exact Nat.le_refl _
  | succ j ih => rw [show i + (j + 1) = (i + j) + 1 from rfl, cnt_succ]; omega
theorem cnt_lt (q : Nat → Bool) {i n : Nat} (h : i < n) (hq : q i = true) : (List.range i).countP q < (List.range n).countP q := by
  have h1 := cnt_le q (show i + 1 ≤ n from h)
  rw [cnt_succ, if_pos hq] at h1; omega
theorem cnt_inj (q : Nat → Bool) {i j : Nat} (hi : q i = true) (hj : q j = true) (h : (List.range i).countP q = (List.range j).countP q) : i = j := by
  rcases Nat.lt_trichotomy i j with h1 | h1 | h1
  · have := cnt_lt q h1 hi; omega
  · exact h1
  · have := cnt_lt q h1 hj; omega
theorem cnt_all (q : Nat → Bool) : ∀ n, (∀ i, i < n → q i = true) → (List.range n).countP q = n
  | 0, _ => rfl
  | n + 1, h => by rw [cnt_succ, if_pos (h n (by omega)), cnt_all q n fun i hi => h i (by omega)]
/-- Is a place come to? -/
def rchB (F : Fnc) (pc : Nat) : Bool := (((sureF F)[pc]?).getD none).isSome
theorem rch_of {F : Fnc} {pc : Nat} (h : rchB F pc = true) : ∃ m, (sureF F)[pc]? = some (some m) := by
  unfold rchB at h
  cases h1 : (sureF F)[pc]? with
  | none => rw [h1] at h; simp at h
  | some o => cases o with
    | none => rw [h1] at h; simp at h
    | some m => exact ⟨m, rfl⟩
theorem of_rch {F : Fnc} {pc m : Nat} (h : (sureF F)[pc]? = some (some m)) : rchB F pc = true := by unfold rchB; rw [h]; rfl
/-- Where a place goes. -/
def posF (F : Fnc) (pc : Nat) : Nat := (List.range pc).countP (rchB F)
def whF (F : Fnc) : List (Option Nat) := (List.range F.code.length).map fun pc => if rchB F pc = true then some (posF F pc) else none
theorem whF_length (F : Fnc) : (whF F).length = F.code.length := by simp [whF]
theorem whF_get (F : Fnc) {pc : Nat} (h : pc < F.code.length) : (whF F)[pc]? = some (if rchB F pc = true then some (posF F pc) else none) := by
  unfold whF; rw [List.getElem?_map, List.getElem?_range h]; rfl
theorem posF_succ (F : Fnc) (pc : Nat) : posF F (pc + 1) = posF F pc + if rchB F pc = true then 1 else 0 := cnt_succ _ _
/-- What is called, from the first function on. -/
inductive Rch (p : List Fnc) : Nat → Prop
  | zero : Rch p 0
  | call {i pc : Nat} {F : Fnc} {x : Ins} : Rch p i → p[i]? = some F → rchB F pc = true → F.code[pc]? = some x → x.op = 17 → Rch p x.imm.toNat
structure Cld (p : List Fnc) (c : List Bool) : Prop where
  len : c.length = p.length
  is : ∀ i, i < p.length → (c[i]? = some true ↔ Rch p i)
theorem Cld.unique {p : List Fnc} {c d : List Bool} (h : Cld p c) (h' : Cld p d) : c = d := by
  apply List.ext_getElem?
  intro i
  by_cases hi : i < p.length
  · have h1 := (h.is i hi).trans (h'.is i hi).symm
    have e1 : c[i]? = some c[i]! := by rw [getElem!_pos c i (by rw [h.len]; exact hi)]; exact List.getElem?_eq_getElem _
    have e2 : d[i]? = some d[i]! := by rw [getElem!_pos d i (by rw [h'.len]; exact hi)]; exact List.getElem?_eq_getElem _
    rw [e1, e2] at h1 ⊢
    simp at h1
    cases hc : c[i]! <;> cases hd : d[i]! <;> simp_all
  · rw [List.getElem?_eq_none (by have := h.len; omega), List.getElem?_eq_none (by have := h'.len; omega)]
def cB (c : List Bool) (i : Nat) : Bool := c.getD i false
def numC (c : List Bool) (i : Nat) : Nat := (List.range i).countP (cB c)
def trimI (F : Fnc) (c : List Bool) (x : Ins) : Ins := if x.op = 15 ∨ x.op = 16 then { x with imm := posF F x.imm.toNat } else if x.op = 17 then { x with imm := numC c x.imm.toNat } else x
def insAt (F : Fnc) (pc : Nat) : Ins := F.code.getD pc ⟨0, 0, 0, 0, 0⟩
def trimTo (F : Fnc) (c : List Bool) (k : Nat) : List Ins := ((List.range k).filter (rchB F)).map fun pc => trimI F c (insAt F pc)
def trimF (F : Fnc) (c : List Bool) : Fnc := ⟨F.params, F.regs, trimTo F c F.code.length⟩
def fncAt (p : List Fnc) (i : Nat) : Fnc := p.getD i ⟨0, 0, []⟩
def trimPTo (p : List Fnc) (c : List Bool) (k : Nat) : List Fnc := ((List.range k).filter (cB c)).map fun i => trimF (fncAt p i) c
def trimP (p : List Fnc) (c : List Bool) : List Fnc := trimPTo p c p.length
theorem trimTo_succ (F : Fnc) (c : List Bool) (k : Nat) : trimTo F c (k + 1) = trimTo F c k ++ if rchB F k = true then [trimI F c (insAt F k)] else [] := by
  unfold trimTo
  rw [List.range_succ, List.filter_append, List.map_append]
  congr 1
  by_cases h : rchB F k = true <;> simp [h]
theorem trimPTo_succ (p : List Fnc) (c : List Bool) (k : Nat) : trimPTo p c (k + 1) = trimPTo p c k ++ if cB c k = true then [trimF (fncAt p k) c] else [] := by
  unfold trimPTo
  rw [List.range_succ, List.filter_append, List.map_append]
  congr 1
  by_cases h : cB c k = true <;> simp [h]
theorem insAt_eq {F : Fnc} {pc : Nat} {x : Ins} (h : F.code[pc]? = some x) : insAt F pc = x := by unfold insAt; rw [List.getD_eq_getElem?_getD, h]; rfl
theorem fncAt_eq {p : List Fnc} {i : Nat} {F : Fnc} (h : p[i]? = some F) : fncAt p i = F := by unfold fncAt; rw [List.getD_eq_getElem?_getD, h]; rfl
theorem trimTo_length (F : Fnc) (c : List Bool) (k : Nat) : (trimTo F c k).length = posF F k := by
  unfold trimTo posF; rw [List.length_map, List.countP_eq_length_filter]
theorem trimPTo_length (p : List Fnc) (c : List Bool) (k : Nat) : (trimPTo p c k).length = numC c k := by
  unfold trimPTo numC; rw [List.length_map, List.countP_eq_length_filter]
theorem trim_code {F : Fnc} {c : List Bool} {pc : Nat} {x : Ins} (hr : rchB F pc = true) (hx : F.code[pc]? = some x) : (trimF F c).code[posF F pc]? = some (trimI F c x) := by
  have h := filt_get (rchB F) F.code.length pc (List.getElem?_eq_some_iff.1 hx).1 hr
  show (trimTo F c F.code.length)[posF F pc]? = _
  unfold trimTo posF
  rw [List.getElem?_map, h]
  simp [insAt_eq hx]
theorem trim_code_inv {F : Fnc} {c : List Bool} {j : Nat} {y : Ins} (h : (trimF F c).code[j]? = some y) : ∃ pc x, rchB F pc = true ∧ F.code[pc]? = some x ∧ j = posF F pc ∧ y = trimI F c x := by
  change (trimTo F c F.code.length)[j]? = _ at h
  unfold trimTo at h
  rw [List.getElem?_map, Option.map_eq_some_iff] at h
  obtain ⟨pc, h1, h2⟩ := h
  obtain ⟨h3, h4, h5⟩ := filt_inv _ _ _ _ h1
  have hx : F.code[pc]? = some F.code[pc] := List.getElem?_eq_getElem h3
  exact ⟨pc, F.code[pc], h4, hx, h5, by rw [← h2, insAt_eq hx]⟩
theorem trim_fn {p : List Fnc} {c : List Bool} {i : Nat} {F : Fnc} (hc : cB c i = true) (hF : p[i]? = some F) : (trimP p c)[numC c i]? = some (trimF F c) := by
  have h := filt_get (cB c) p.length i (List.getElem?_eq_some_iff.1 hF).1 hc
  unfold trimP trimPTo numC
  rw [List.getElem?_map, h]
  simp [fncAt_eq hF]
theorem trim_fn_inv {p : List Fnc} {c : List Bool} {j : Nat} {G : Fnc} (h : (trimP p c)[j]? = some G) : ∃ i F, cB c i = true ∧ p[i]? = some F ∧ j = numC c i ∧ G = trimF F c := by
  unfold trimP trimPTo at h
  rw [List.getElem?_map, Option.map_eq_some_iff] at h
  obtain ⟨i, h1, h2⟩ := h
  obtain ⟨h3, h4, h5⟩ := filt_inv _ _ _ _ h1
  have hx : p[i]? = some p[i] := List.getElem?_eq_getElem h3
  exact ⟨i, p[i], h4, hx, h5, by rw [← h2, fncAt_eq hx]⟩
/-- What is in shape is not refused. -/
theorem insE_of {x : Ins} {regs n funcs : Int} (h : InsOk x regs n funcs) : insE x regs n funcs = 0 := by
  obtain ⟨h1, h2, d1, d2, a1, a2, b1, b2, j, cl, n0, nd, na, nb⟩ := h
  obtain ⟨op, dst, a, b, imm⟩ := x
  dsimp only at *
  have hop : op = 1 ∨ op = 2 ∨ op = 3 ∨ op = 4 ∨ op = 5 ∨ op = 6 ∨ op = 7 ∨ op = 8 ∨ op = 9 ∨ op = 10 ∨ op = 11 ∨ op = 12 ∨ op = 13 ∨ op = 14 ∨ op = 15 ∨ op = 16 ∨ op = 17 ∨ op = 18 ∨ op = 19 := by omega
  rw [insE_op (by exact h1) (by exact h2)]
  rcases hop with rfl | rfl | rfl | rfl | rfl | rfl | rfl | rfl | rfl | rfl | rfl | rfl | rfl | rfl | rfl | rfl | rfl | rfl | rfl <;>
  · refine insH_ok ?_ ?_ ?_ ?_ <;> dsimp only
    · first | exact regB_one (by decide +kernel) d1 d2 | (have e := nd (by simp); subst e; exact regB_zero (by decide +kernel))
    · first | exact regB_one (by decide +kernel) a1 a2 | (have e := na (by simp); subst e; exact regB_zero (by decide +kernel))
    · first | exact regB_one (by decide +kernel) b1 b2 | (have e := nb (by simp); subst e; exact regB_zero (by decide +kernel))
    · first | exact .inl (by decide +kernel) | exact .inr (.inl ⟨by decide +kernel, j (by simp)⟩) | exact .inr (.inr (.inl ⟨by decide +kernel, cl (by simp)⟩)) | exact .inr (.inr (.inr ⟨by decide +kernel, n0 (by simp) (by simp) (by simp) (by simp)⟩))
theorem fnE_of {f : Fnc} {funcs : Int} (h : FnOk f funcs) : fnE f funcs = 0 := by
  obtain ⟨r1, r2, p1, p2, p3, c1, c2, hi⟩ := h
  rw [fnE_code (by simp [wi]; omega) (by simp [wi]; split <;> omega) (by omega) (by omega)]
  apply firstE_none
  intro y hy
  obtain ⟨x, hx, rfl⟩ := List.mem_map.1 hy
  exact insE_of (hi x hx)
theorem progE_of {p : List Fnc} (h : ProgOk p) : progE p = 0 := by
  have h1 := h.l1
  have h2 := h.l2
  unfold progE
  rw [if_neg (by omega)]
  apply firstE_none
  intro y hy
  obtain ⟨f, hf, rfl⟩ := List.mem_map.1 hy
  exact fnE_of (h.fn f hf)
theorem checkP_of {p : List Fnc} (h : ProgOk p) (hb : ∀ f ∈ p, ∀ pc, pc < f.code.length → badAt p f pc = false) (he : ∀ f ∈ p, endAt f = false) : checkP p = 0 := by
  unfold checkP
  rw [if_neg (by simp [progE_of h])]
  apply firstE_none
  intro y hy
  obtain ⟨f, hf, rfl⟩ := List.mem_map.1 hy
  unfold fnP
  rw [if_neg, if_neg (by rw [he f hf]; simp)]
  simp only [List.any_eq_true, List.mem_range, not_exists, not_and]
  intro pc hpc
  rw [hb f hf pc hpc]; simp
theorem not_bad {p : List Fnc} (hc : checkP p = 0) {F : Fnc} (hF : F ∈ p) {pc : Nat} (hp : pc < F.code.length) : badAt p F pc = false := by
  have hE : progE p = 0 := by
    unfold checkP at hc
    by_cases hE : progE p = 0
    · exact hE
    · rw [if_pos hE] at hc; exact absurd hc hE
  unfold checkP at hc
  rw [if_neg (by simp [hE])] at hc
  have h1 := firstE_all hc (fnP p F) (List.mem_map.2 ⟨F, hF, rfl⟩)
  unfold fnP at h1
  by_cases hb : (List.range F.code.length).any (badAt p F) = true
  · rw [if_pos hb] at h1; cases h1
  · have hb' : (List.range F.code.length).any (badAt p F) = false := by simpa using hb
    rw [List.any_eq_false] at hb'
    have := hb' pc (List.mem_range.2 hp)
    simpa using this
section
variable {p : List Fnc} {c : List Bool}
theorem trimI_op (F : Fnc) (x : Ins) : (trimI F c x).op = x.op := by unfold trimI; split; rfl; split <;> rfl
theorem trimI_dst (F : Fnc) (x : Ins) : (trimI F c x).dst = x.dst := by unfold trimI; split; rfl; split <;> rfl
theorem trimI_a (F : Fnc) (x : Ins) : (trimI F c x).a = x.a := by unfold trimI; split; rfl; split <;> rfl
theorem trimI_b (F : Fnc) (x : Ins) : (trimI F c x).b = x.b := by unfold trimI; split; rfl; split <;> rfl
theorem trimI_setM (F : Fnc) (x : Ins) : setM (trimI F c x) = setM x := by unfold setM setsB; rw [trimI_op, trimI_dst]
theorem trimI_jump {F : Fnc} {x : Ins} (h : x.op = 15 ∨ x.op = 16) : (trimI F c x).imm = posF F x.imm.toNat := by unfold trimI; rw [if_pos h]
theorem trimI_call {F : Fnc} {x : Ins} (h : x.op = 17) : (trimI F c x).imm = numC c x.imm.toNat := by unfold trimI; rw [if_neg (by omega), if_pos h]
theorem trimI_else {F : Fnc} {x : Ins} (h1 : x.op ≠ 15) (h2 : x.op ≠ 16) (h3 : x.op ≠ 17) : trimI F c x = x := by unfold trimI; rw [if_neg (by omega), if_neg h3]
/-- Where an instruction that is come to leads. -/
theorem Right.nextR (hp : Right p) {F : Fnc} (hF : F ∈ p) {pc : Nat} {x : Ins} (hr : rchB F pc = true) (hx : F.code[pc]? = some x) {n : Nat} (hn : n ∈ nextL x pc) : n < F.code.length ∧ rchB F n = true := by
  obtain ⟨m, hm⟩ := rch_of hr
  obtain ⟨h1, m', h2, -⟩ := hp.next hF hm hx hn
  exact ⟨h1, of_rch h2⟩
theorem nextL_trim {F : Fnc} {pc : Nat} {x : Ins} (hr : rchB F pc = true) : nextL (trimI F c x) (posF F pc) = (nextL x pc).map (posF F) := by
  have hs : posF F pc + 1 = posF F (pc + 1) := by rw [posF_succ, if_pos hr]
  unfold nextL
  rw [trimI_op]
  by_cases h1 : x.op = 19
  · rw [if_pos h1, if_pos h1]; rfl
  rw [if_neg h1, if_neg h1]
  by_cases h2 : x.op = 15
  · rw [if_pos h2, if_pos h2, trimI_jump (.inl h2)]; simp
  rw [if_neg h2, if_neg h2]
  by_cases h3 : x.op = 16
  · rw [if_pos h3, if_pos h3, trimI_jump (.inr h3), hs]; simp
  rw [if_neg h3, if_neg h3, hs]; rfl
theorem Cld.cB (h : Cld p c) {i : Nat} (hi : i < p.length) : cB c i = true ↔ Rch p i := by
  rw [← h.is i hi]
  unfold Tier.cB
  rw [List.getD_eq_getElem?_getD]
  cases hh : c[i]? with
  | none => simp
  | some b => simp
theorem Cld.calls (h : Cld p c) (hp : Right p) {i : Nat} {F : Fnc} {pc : Nat} {x : Ins} (hi : Tier.cB c i = true) (hF : p[i]? = some F) (hr : rchB F pc = true) (hx : F.code[pc]? = some x) (ho : x.op = 17) : x.imm.toNat < p.length ∧ Tier.cB c x.imm.toNat = true := by
  have hi2 := (List.getElem?_eq_some_iff.1 hF).1
  have hfo := hp.ok.fn F (List.mem_of_getElem? hF)
  have hc := (hfo.ins x (List.mem_of_getElem? hx)).call ho
  have hl : x.imm.toNat < p.length := by omega
  exact ⟨hl, (h.cB hl).2 (.call ((h.cB hi2).1 hi) hF hr hx ho)⟩
theorem rch_zero {F : Fnc} {funcs : Int} (h : FnOk F funcs) : rchB F 0 = true := of_rch (sure_zero h.cok h.p2)
/-- A trimmed function is in shape. -/
theorem trim_fnok (h : Cld p c) (hp : Right p) {i : Nat} {F : Fnc} (hi : cB c i = true) (hF : p[i]? = some F) : FnOk (trimF F c) (trimP p c).length := by
  have hFm := List.mem_of_getElem? hF
  have hfo := hp.ok.fn F hFm
  have hlen : (trimF F c).code.length = posF F F.code.length := trimTo_length _ _ _
  have h0 := cnt_lt (rchB F) (show 0 < F.code.length by have := hfo.c1; omega) (rch_zero hfo)
  have hle : posF F F.code.length ≤ F.code.length := by unfold posF; exact Nat.le_trans List.countP_le_length (by simp)
  have hPl : (trimP p c).length = numC c p.length := trimPTo_length _ _ _
  refine ⟨hfo.r1, hfo.r2, hfo.p1, hfo.p2, hfo.p3, by rw [hlen]; unfold posF; omega, by rw [hlen]; have := hfo.c2; omega, fun y hy => ?_⟩
  obtain ⟨j, hj⟩ := List.getElem?_of_mem hy
  obtain ⟨pc, x, hr, hx, rfl, rfl⟩ := trim_code_inv hj
  have hio := hfo.ins x (List.mem_of_getElem? hx)
  obtain ⟨o1, o2, d1, d2, a1, a2, b1, b2, j1, cl, n0, nd, na, nb⟩ := hio
  refine ⟨?_, ?_, ?_, ?_, ?_, ?_, ?_, ?_, ?_, ?_, ?_, ?_, ?_, ?_⟩ <;> simp only [trimI_op, trimI_dst, trimI_a, trimI_b]
  · exact o1
  · exact o2
  · exact d1
  · exact d2
  · exact a1
  · exact a2
  · exact b1
  · exact b2
  · intro ho
    rw [trimI_jump ho, hlen]
    have hn : x.imm.toNat ∈ nextL x pc := by
      unfold nextL
      rcases ho with ho | ho
      · rw [if_neg (by omega), if_pos ho]; simp
      · rw [if_neg (by omega), if_neg (by omega), if_pos ho]; simp
    obtain ⟨k1, k2⟩ := hp.nextR hFm hr hx hn
    have := cnt_lt (rchB F) k1 k2
    unfold posF; omega
  · intro ho
    rw [trimI_call ho, hPl]
    obtain ⟨k1, k2⟩ := h.calls hp hi hF hr hx ho
    have := cnt_lt (cB c) k1 k2
    unfold numC; omega
  · intro q1 q2 q3 q4
    rw [trimI_else q2 q3 q4]; exact n0 q1 q2 q3 q4
  · exact nd
  · exact na
  · exact nb
theorem trim_progok (h : Cld p c) (hp : Right p) : ProgOk (trimP p c) := by
  have l1 := hp.ok.l1
  have l2 := hp.ok.l2
  have hPl : (trimP p c).length = numC c p.length := trimPTo_length _ _ _
  have h0 := cnt_lt (cB c) (show 0 < p.length by omega) ((h.cB (by omega)).2 .zero)
  have hle : numC c p.length ≤ p.length := by unfold numC; exact Nat.le_trans List.countP_le_length (by simp)
  refine ⟨by rw [hPl]; unfold numC; omega, by omega, fun f hf => ?_⟩
  obtain ⟨j, hj⟩ := List.getElem?_of_mem hf
  obtain ⟨i, F, hi, hF, rfl, rfl⟩ := trim_fn_inv hj
  exact trim_fnok h hp hi hF
/-- What is surely set in a trimmed function is what was. -/
theorem trim_sure (h : Cld p c) (hp : Right p) {i : Nat} {F : Fnc} (hi : cB c i = true) (hF : p[i]? = some F) :
    (∀ pc m, (sureF F)[pc]? = some (some m) → ∃ m', (sureF (trimF F c))[posF F pc]? = some (some m') ∧ m' &&& m = m') ∧
    (∀ j m', (sureF (trimF F c))[j]? = some (some m') → ∃ pc m, j = posF F pc ∧ pc < F.code.length ∧ (sureF F)[pc]? = some (some m) ∧ m &&& m' = m) := by
  have hFm := List.mem_of_getElem? hF
  have hfo := hp.ok.fn F hFm
  have hgo := trim_fnok h hp hi hF
  have low : ∀ {a b d : Nat}, a &&& b = a → (a ||| d) &&& (b ||| d) = a ||| d := fun {a b d} hab => (sub_or (fun k hk => sub_or_left k (Sub.of_and hab k hk)) sub_or_right).and
  have tr : ∀ {a b d : Nat}, a &&& b = a → b &&& d = b → a &&& d = a := fun h1 h2 => ((Sub.of_and h1).trans (Sub.of_and h2)).and
  constructor
  · refine sure_ind (f := F) (fun pc m => rchB F pc = true ∧ ∃ m', (sureF (trimF F c))[posF F pc]? = some (some m') ∧ m' &&& m = m') ⟨rch_zero hfo, _, sure_zero hgo.cok hgo.p2, Nat.and_self _⟩ (fun pc m x n hq hx hn => ?_) (fun n a b ha hb => ?_) (iterS_inv hfo.cok hfo.p2) |> fun H pc m hm => (H pc m hm).2
    · obtain ⟨hr, m', h1, h2⟩ := hq
      obtain ⟨k1, k2⟩ := hp.nextR hFm hr hx hn
      obtain ⟨m2, h3, h4⟩ := sure_closed hgo.cok hgo.p2 h1 (trim_code (c := c) hr hx) (n := posF F n) (by rw [nextL_trim hr]; exact List.mem_map.2 ⟨n, hn, rfl⟩)
      rw [trimI_setM] at h4
      exact ⟨k2, m2, h3, tr h4 (low h2)⟩
    · obtain ⟨hr, m', h1, h2⟩ := ha
      obtain ⟨-, m2, h3, h4⟩ := hb
      rw [h1] at h3
      obtain rfl := Option.some.inj (Option.some.inj h3)
      exact ⟨hr, m', h1, (sub_and (Sub.of_and h2) (Sub.of_and h4)).and⟩
  · refine sure_ind (f := trimF F c) (fun j m' => ∃ pc m, j = posF F pc ∧ pc < F.code.length ∧ (sureF F)[pc]? = some (some m) ∧ m &&& m' = m) ⟨0, _, rfl, by have := hfo.c1; omega, sure_zero hfo.cok hfo.p2, Nat.and_self _⟩ (fun j m' y n hq hy hn => ?_) (fun n a b ha hb => ?_) (iterS_inv hgo.cok hgo.p2)
    · obtain ⟨pc, m, rfl, hpc, h1, h2⟩ := hq
      have hx : F.code[pc]? = some F.code[pc] := List.getElem?_eq_getElem hpc
      have hr := of_rch h1
      rw [trim_code hr hx] at hy
      obtain rfl := Option.some.inj hy
      rw [nextL_trim hr] at hn
      obtain ⟨n0, hn0, rfl⟩ := List.mem_map.1 hn
      obtain ⟨k1, m2, k2, k3⟩ := hp.next hFm h1 hx hn0
      rw [trimI_setM]
      exact ⟨n0, m2, rfl, k1, k2, tr k3 (low h2)⟩
    · obtain ⟨pc, m, e, hpc, h1, h2⟩ := ha
      obtain ⟨pc2, m2, e2, hpc2, h3, h4⟩ := hb
      have : pc = pc2 := cnt_inj (rchB F) (of_rch h1) (of_rch h3) (by unfold posF at e e2; omega)
      subst this
      rw [h1] at h3
      obtain rfl := Option.some.inj (Option.some.inj h3)
      exact ⟨pc, m, e, hpc, h1, (sub_and (Sub.of_and h2) (Sub.of_and h4)).and⟩
theorem trim_sure_eq (h : Cld p c) (hp : Right p) {i : Nat} {F : Fnc} (hi : cB c i = true) (hF : p[i]? = some F) {pc m : Nat} (hm : (sureF F)[pc]? = some (some m)) : (sureF (trimF F c))[posF F pc]? = some (some m) := by
  obtain ⟨h1, h2⟩ := trim_sure h hp hi hF
  obtain ⟨m', k1, k2⟩ := h1 pc m hm
  obtain ⟨pc2, m2, k3, -, k4, k5⟩ := h2 _ _ k1
  have : pc = pc2 := cnt_inj (rchB F) (of_rch hm) (of_rch k4) k3
  subst this
  rw [hm] at k4
  obtain rfl := Option.some.inj (Option.some.inj k4)
  rw [k1]
  congr 2
  rw [← k2, Nat.and_comm]; exact k5
theorem trim_rch_all (h : Cld p c) (hp : Right p) {i : Nat} {F : Fnc} (hi : cB c i = true) (hF : p[i]? = some F) {j : Nat} (hj : j < (trimF F c).code.length) : rchB (trimF F c) j = true := by
  obtain ⟨pc, x, hr, hx, rfl, -⟩ := trim_code_inv (List.getElem?_eq_getElem hj)
  obtain ⟨m, hm⟩ := rch_of hr
  exact of_rch (trim_sure_eq h hp hi hF hm)
theorem trim_par (h : Cld p c) (hp : Right p) {i : Nat} {F : Fnc} (hi : cB c i = true) (hF : p[i]? = some F) {pc : Nat} {x : Ins} (hr : rchB F pc = true) (hx : F.code[pc]? = some x) (ho : x.op = 17) : parOf (trimP p c) (trimI F c x) = parOf p x := by
  obtain ⟨k1, k2⟩ := h.calls hp hi hF hr hx ho
  unfold parOf
  rw [trimI_call ho, Int.toNat_natCast, trim_fn k2 (List.getElem?_eq_getElem k1), List.getElem?_eq_getElem k1]
  rfl
theorem trim_reads (h : Cld p c) (hp : Right p) {i : Nat} {F : Fnc} (hi : cB c i = true) (hF : p[i]? = some F) {pc : Nat} {x : Ins} (hr : rchB F pc = true) (hx : F.code[pc]? = some x) : readsM (trimI F c x) (parOf (trimP p c) (trimI F c x)) = readsM x (parOf p x) := by
  by_cases ho : x.op = 17
  · rw [trim_par h hp hi hF hr hx ho]
    unfold readsM; rw [trimI_op, trimI_a, trimI_b]
  · unfold readsM
    rw [trimI_op, trimI_a, trimI_b]
    rw [if_neg ho, if_neg ho]
/-- A TRIMMED PROGRAM IS RIGHT. -/
theorem trim_right (hk : checkP p = 0) (h : Cld p c) : checkP (trimP p c) = 0 := by
  have hp := right_of hk
  refine checkP_of (trim_progok h hp) (fun G hG j hj => ?_) (fun G hG => ?_)
  · obtain ⟨k, hk'⟩ := List.getElem?_of_mem hG
    obtain ⟨i, F, hi, hF, rfl, rfl⟩ := trim_fn_inv hk'
    obtain ⟨pc, x, hr, hx, rfl, hy⟩ := trim_code_inv (List.getElem?_eq_getElem hj)
    obtain ⟨m, hm⟩ := rch_of hr
    have hb := not_bad hk (List.mem_of_getElem? hF) (List.getElem?_eq_some_iff.1 hx).1
    unfold badAt at hb ⊢
    rw [hx, hm] at hb
    rw [trim_code hr hx, trim_sure_eq h hp hi hF hm]
    dsimp only at hb ⊢
    rw [trim_reads h hp hi hF hr hx]; exact hb
  · obtain ⟨k, hk'⟩ := List.getElem?_of_mem hG
    obtain ⟨i, F, hi, hF, rfl, rfl⟩ := trim_fn_inv hk'
    unfold endAt
    cases h1 : (sureF (trimF F c))[(trimF F c).code.length]? with
    | none => rfl
    | some o => cases o with
      | none => rfl
      | some m =>
        exfalso
        obtain ⟨pc, m2, e, hpc, h2, -⟩ := (trim_sure h hp hi hF).2 _ _ h1
        have := cnt_lt (rchB F) hpc (of_rch h2)
        have hl : (trimF F c).code.length = posF F F.code.length := trimTo_length _ _ _
        unfold posF at *; omega
/-- All functions of a trimmed program are called. -/
theorem trim_rch (h : Cld p c) (hp : Right p) {i : Nat} (hr : Rch p i) (hi : i < p.length) : Rch (trimP p c) (numC c i) := by
  induction hr with
  | zero => exact .zero
  | @call i pc F x hr hF hx1 hx2 ho ih =>
    have hil := (List.getElem?_eq_some_iff.1 hF).1
    have hci := (h.cB hil).2 hr
    have := Rch.call (ih hil) (trim_fn hci hF) (of_rch (trim_sure_eq h hp hci hF (rch_of hx1).choose_spec)) (trim_code hx1 hx2) (by rw [trimI_op]; exact ho)
    rw [trimI_call ho, Int.toNat_natCast] at this
    exact this
theorem trim_called (h : Cld p c) (hp : Right p) : Cld (trimP p c) (List.replicate (trimP p c).length true) := by
  refine ⟨by simp, fun j hj => ⟨fun _ => ?_, fun _ => by simp [hj]⟩⟩
  obtain ⟨i, F, hi, hF, rfl, -⟩ := trim_fn_inv (List.getElem?_eq_getElem hj)
  have hil := (List.getElem?_eq_some_iff.1 hF).1
  exact trim_rch h hp ((h.cB hil).1 hi) hil
theorem posF_all {F : Fnc} (h : ∀ j, j < F.code.length → rchB F j = true) {j : Nat} (hj : j ≤ F.code.length) : posF F j = j := cnt_all _ j fun i hi => h i (by omega)
theorem numC_all (n : Nat) {j : Nat} (hj : j ≤ n) : numC (List.replicate n true) j = j := cnt_all _ j fun i hi => by unfold cB; rw [List.getD_eq_getElem?_getD, List.getElem?_replicate, if_pos (by omega)]; rfl
theorem trimF_all {q : List Fnc} (hq : Right q) {G : Fnc} (hG : G ∈ q) (h : ∀ j, j < G.code.length → rchB G j = true) : trimF G (List.replicate q.length true) = G := by
  have hgo := hq.ok.fn G hG
  have key : ∀ x ∈ G.code, trimI G (List.replicate q.length true) x = x := fun x hx => by
    have hio := hgo.ins x hx
    obtain ⟨op, dst, a, b, imm⟩ := x
    have hj := hio.jump
    have hc := hio.call
    dsimp only at hj hc
    unfold trimI
    dsimp only
    by_cases h1 : op = 15 ∨ op = 16
    · have := hj h1
      rw [if_pos h1, posF_all h (by omega)]
      congr 1; omega
    · rw [if_neg h1]
      by_cases h2 : op = 17
      · have := hc h2
        rw [if_pos h2, numC_all _ (by omega)]
        congr 1; omega
      · rw [if_neg h2]
  have hf : (List.range G.code.length).filter (rchB G) = List.range G.code.length := List.filter_eq_self.2 fun j hj => h j (List.mem_range.1 hj)
  obtain ⟨gp, gr, gc⟩ := G
  unfold trimF trimTo
  dsimp only at *
  rw [hf]
  congr 1
  apply List.ext_getElem
  · simp
  · intro j h1 h2
    have hg : gc[j]? = some gc[j] := List.getElem?_eq_getElem h2
    simp only [List.getElem_map, List.getElem_range]
    rw [insAt_eq (F := ⟨gp, gr, gc⟩) hg]
    exact key _ (List.getElem_mem h2)
/-- WHAT WAS TRIMMED ONCE IS TRIMMED. -/
theorem trim_again (hk : checkP p = 0) (h : Cld p c) : trimP (trimP p c) (List.replicate (trimP p c).length true) = trimP p c := by
  have hp := right_of hk
  have hq := right_of (trim_right hk h)
  have hall : ∀ G ∈ trimP p c, ∀ j, j < G.code.length → rchB G j = true := fun G hG j hj => by
    obtain ⟨k, hk'⟩ := List.getElem?_of_mem hG
    obtain ⟨i, F, hi, hF, -, rfl⟩ := trim_fn_inv hk'
    exact trim_rch_all h hp hi hF hj
  generalize trimP p c = q at *
  have hf : (List.range q.length).filter (cB (List.replicate q.length true)) = List.range q.length := List.filter_eq_self.2 fun j hj => by
    unfold cB; rw [List.getD_eq_getElem?_getD, List.getElem?_replicate, if_pos (List.mem_range.1 hj)]; rfl
  unfold trimP trimPTo
  rw [hf]
  apply List.ext_getElem
  · simp
  · intro j h1 h2
    simp only [List.getElem_map, List.getElem_range]
    rw [fncAt_eq (List.getElem?_eq_getElem h2)]
    exact trimF_all hq (List.getElem_mem h2) (hall _ (List.getElem_mem h2))
theorem trim_where (hk : checkP p = 0) (h : Cld p c) {G : Fnc} (hG : G ∈ trimP p c) : whF G = (List.range G.code.length).map some := by
  have hp := right_of hk
  obtain ⟨k, hk'⟩ := List.getElem?_of_mem hG
  obtain ⟨i, F, hi, hF, -, rfl⟩ := trim_fn_inv hk'
  have hall : ∀ j, j < (trimF F c).code.length → rchB (trimF F c) j = true := fun j hj => trim_rch_all h hp hi hF hj
  unfold whF
  apply List.map_congr_left
  intro j hj
  have hj := List.mem_range.1 hj
  rw [if_pos (hall j hj), posF_all hall (by omega)]
end
end Tier
