/-
  Plain law: two registers of a function changed for one another: it is right as it was, and runs as it did. No program is in sight.
-/
import Derived.Test.YtfngkpbbimibaaaDoorStN
namespace Tier
open Go Go.RowKit
def swI (x y r : Int) : Int := if r = x then y else if r = y then x else r
def swN (x y i : Nat) : Nat := if i = x then y else if i = y then x else i
theorem swI_nat (x y : Nat) {r : Int} (h : 0 ≤ r) : (swI x y r).toNat = swN x y r.toNat ∧ 0 ≤ swI x y r := by
  unfold swI swN
  repeat' split
  all_goals omega
theorem swN_swN (x y i : Nat) : swN x y (swN x y i) = i := by
  unfold swN
  repeat' split
  all_goals omega
theorem swN_inj {x y i j : Nat} (h : swN x y i = swN x y j) : i = j := by
  have := congrArg (swN x y) h
  rwa [swN_swN, swN_swN] at this
theorem swN_lt {x y n i : Nat} (hx : x < n) (hy : y < n) : swN x y i < n ↔ i < n := by
  unfold swN
  repeat' split
  all_goals omega
def swIns (x y : Int) (k : Ins) : Ins :=
  if k.op = 1 then { k with dst := swI x y k.dst }
  else if k.op ≤ 12 ∨ k.op = 17 then { k with dst := swI x y k.dst, a := swI x y k.a, b := swI x y k.b }
  else if k.op = 13 ∨ k.op = 18 then { k with dst := swI x y k.dst, a := swI x y k.a }
  else if k.op = 14 then { k with a := swI x y k.a, b := swI x y k.b }
  else if k.op = 16 ∨ k.op = 19 then { k with a := swI x y k.a }
  else k
def swFn (x y : Int) (f : Fnc) : Fnc := ⟨f.params, f.regs, f.code.map (swIns x y)⟩
theorem swIns_op (x y : Int) (k : Ins) : (swIns x y k).op = k.op ∧ (swIns x y k).imm = k.imm := by
  unfold swIns
  repeat' split
  all_goals exact ⟨rfl, rfl⟩
/-! masks -/
def swM (x y m : Nat) : Nat := if m.testBit x = m.testBit y then m else m ^^^ (2 ^ x ||| 2 ^ y)
theorem swM_bit (x y m i : Nat) : (swM x y m).testBit i = m.testBit (swN x y i) := by
  unfold swM swN
  split
  · next h =>
    by_cases h1 : i = x
    · subst h1; rw [if_pos rfl]; exact h
    · rw [if_neg h1]
      by_cases h2 : i = y
      · subst h2; rw [if_pos rfl]; exact h.symm
      · rw [if_neg h2]
  · next h =>
    have hxy : x ≠ y := fun e => by subst e; exact h rfl
    rw [Nat.testBit_xor, Nat.testBit_or, Nat.testBit_two_pow, Nat.testBit_two_pow]
    by_cases h1 : i = x
    · subst h1
      rw [if_pos rfl]
      cases h3 : m.testBit i <;> cases h4 : m.testBit y <;> simp_all
    · rw [if_neg h1]
      by_cases h2 : i = y
      · subst h2
        rw [if_pos rfl]
        cases h3 : m.testBit i <;> cases h4 : m.testBit x <;> simp_all
      · rw [if_neg h2]
        have e1 : decide (x = i) = false := by simp; omega
        have e2 : decide (y = i) = false := by simp; omega
        rw [e1, e2]; simp
theorem swM_and (x y a b : Nat) : swM x y (a &&& b) = swM x y a &&& swM x y b := Nat.eq_of_testBit_eq fun i => by rw [Nat.testBit_and, swM_bit, swM_bit, swM_bit, Nat.testBit_and]
theorem swM_or (x y a b : Nat) : swM x y (a ||| b) = swM x y a ||| swM x y b := Nat.eq_of_testBit_eq fun i => by rw [Nat.testBit_or, swM_bit, swM_bit, swM_bit, Nat.testBit_or]
theorem swM_swM (x y a : Nat) : swM x y (swM x y a) = a := Nat.eq_of_testBit_eq fun i => by rw [swM_bit, swM_bit, swN_swN]
theorem swM_inj {x y a b : Nat} (h : swM x y a = swM x y b) : a = b := by
  have := congrArg (swM x y) h
  rwa [swM_swM, swM_swM] at this
theorem swM_zero (x y : Nat) : swM x y 0 = 0 := by unfold swM; simp
theorem swM_pow (x y r : Nat) : swM x y (2 ^ r) = 2 ^ swN x y r := Nat.eq_of_testBit_eq fun i => by
  rw [swM_bit, Nat.testBit_two_pow, Nat.testBit_two_pow]
  by_cases h : swN x y r = i
  · rw [decide_eq_true h, decide_eq_true (by rw [← h, swN_swN])]
  · rw [decide_eq_false h, decide_eq_false (fun e => h (by rw [e, swN_swN]))]
theorem swM_low {x y k : Nat} (hx : k ≤ x) (hy : k ≤ y) : swM x y (2 ^ k - 1) = 2 ^ k - 1 := Nat.eq_of_testBit_eq fun i => by
  rw [swM_bit, Nat.testBit_two_pow_sub_one, Nat.testBit_two_pow_sub_one]
  unfold swN
  by_cases h1 : i = x
  · rw [if_pos h1, decide_eq_false (by omega), decide_eq_false (by omega)]
  · rw [if_neg h1]
    by_cases h2 : i = y
    · rw [if_pos h2, decide_eq_false (by omega), decide_eq_false (by omega)]
    · rw [if_neg h2]
/-! what is surely set -/
def swS (x y : Nat) (s : SS) : SS := ⟨s.out.map (Option.map (swM x y)), s.todo⟩
theorem relax_sw (x y b : Nat) (s : SS) (n : Nat) : relax (swM x y b) (swS x y s) n = swS x y (relax b s n) := by
  unfold relax
  rw [show (swS x y s).out[n]? = (s.out[n]?).map (Option.map (swM x y)) from List.getElem?_map]
  cases h : s.out[n]? with
  | none => rfl
  | some o =>
    cases o with
    | none =>
      show SS.mk _ _ = SS.mk _ _
      simp [swS, List.map_set]
    | some was =>
      dsimp only [Option.map_some]
      by_cases e : was &&& b = was
      · rw [if_pos e, if_pos (by rw [← swM_and, e])]
      · rw [if_neg e, if_neg (fun e2 => e (swM_inj (by rw [swM_and]; exact e2)))]
        simp [swS, List.map_set, swM_and]
theorem fold_sw (x y b : Nat) : ∀ (l : List Nat) (s : SS), l.foldl (relax (swM x y b)) (swS x y s) = swS x y (l.foldl (relax b) s)
  | [], s => rfl
  | n :: l, s => by rw [List.foldl_cons, List.foldl_cons, relax_sw, fold_sw x y b l]
theorem bitsAt_sw (x y : Nat) (s : SS) (pc : Nat) : bitsAt (swS x y s) pc = swM x y (bitsAt s pc) := by
  unfold bitsAt
  show (((s.out.map (Option.map (swM x y)))[pc]?).getD none).getD 0 = _
  rw [List.getElem?_map]
  cases h : s.out[pc]? with
  | none => exact (swM_zero x y).symm
  | some o => cases o with
    | none => exact (swM_zero x y).symm
    | some m => rfl
theorem setM_sw (x y : Nat) {k : Ins} (h : 0 ≤ k.dst) : setM (swIns x y k) = swM x y (setM k) := by
  have ho := (swIns_op x y k).1
  have hs : setsB (swIns x y k) = setsB k := by unfold setsB; rw [ho]
  unfold setM
  rw [hs]
  by_cases hb : setsB k = true
  · rw [if_pos hb, if_pos hb, swM_pow, ← (swI_nat x y h).1]
    congr 2
    unfold setsB at hb
    simp at hb
    unfold swIns
    repeat' split
    all_goals first | rfl | (exfalso; omega)
  · rw [if_neg hb, if_neg hb, swM_zero]
theorem nextL_sw (x y : Int) (k : Ins) (pc : Nat) : nextL (swIns x y k) pc = nextL k pc := by
  obtain ⟨h1, h2⟩ := swIns_op x y k
  unfold nextL
  rw [h1, h2]
theorem stepS_sw (x y : Nat) {c : List Ins} (hc : ∀ k ∈ c, 0 ≤ k.dst) (s : SS) : stepS (c.map (swIns x y)) (swS x y s) = swS x y (stepS c s) := by
  unfold stepS
  rw [show (swS x y s).todo = s.todo from rfl]
  cases hl : s.todo.getLast? with
  | none => rfl
  | some pc =>
    dsimp only
    rw [List.getElem?_map]
    cases hx : c[pc]? with
    | none => rfl
    | some k =>
      dsimp only [Option.map_some]
      rw [nextL_sw, setM_sw x y (hc k (List.mem_of_getElem? hx)), bitsAt_sw, ← swM_or]
      exact fold_sw x y _ _ (popS s)
theorem iterS_sw (x y : Nat) {c : List Ins} (hc : ∀ k ∈ c, 0 ≤ k.dst) (s : SS) : ∀ n, iterS (c.map (swIns x y)) n (swS x y s) = swS x y (iterS c n s)
  | 0 => rfl
  | n + 1 => by
    show stepS _ (iterS _ n _) = swS x y (stepS c (iterS c n s))
    rw [iterS_sw x y hc s n, stepS_sw x y hc]
theorem startS_sw {x y : Nat} {f : Fnc} (hx : f.params.toNat ≤ x) (hy : f.params.toNat ≤ y) : startS (swFn x y f) = swS x y (startS f) := by
  unfold startS swS swFn
  simp only [List.length_map, List.map_set, List.map_replicate, Option.map_none, Option.map_some, swM_low hx hy]
/-! still right -/
theorem regB_sw {x y : Nat} {r is regs : Int} (hx : (x : Int) < regs) (hy : (y : Int) < regs) (h : is ≠ 0) : regB (swI x y r) is regs = regB r is regs := by
  unfold regB
  rw [if_neg h, if_neg h]
  unfold wi swI
  by_cases h1 : r = x
  · rw [if_pos h1]
    have e1 : (decide ((0 : Int) ≤ y) && decide ((y : Int) ≤ regs - 1)) = true := by simp; omega
    have e2 : (decide (0 ≤ r) && decide (r ≤ regs - 1)) = true := by simp; omega
    rw [e1, e2]
  · rw [if_neg h1]
    by_cases h2 : r = y
    · rw [if_pos h2]
      have e1 : (decide ((0 : Int) ≤ x) && decide ((x : Int) ≤ regs - 1)) = true := by simp; omega
      have e2 : (decide (0 ≤ r) && decide (r ≤ regs - 1)) = true := by simp; omega
      rw [e1, e2]
    · rw [if_neg h2]
theorem insE_congr {k k' : Ins} {regs n funcs : Int} (h0 : k'.op = k.op) (h4 : k'.imm = k.imm) (h1 : regB k'.dst (bits .and .i64 (hasOf k.op.toNat) 1) regs = regB k.dst (bits .and .i64 (hasOf k.op.toNat) 1) regs)
    (h2 : regB k'.a (bits .and .i64 (hasOf k.op.toNat) 2) regs = regB k.a (bits .and .i64 (hasOf k.op.toNat) 2) regs) (h3 : regB k'.b (bits .and .i64 (hasOf k.op.toNat) 4) regs = regB k.b (bits .and .i64 (hasOf k.op.toNat) 4) regs) : insE k' regs n funcs = insE k regs n funcs := by
  unfold insE insH
  rw [h0, h4, h1, h2, h3]
theorem insE_sw {x y : Nat} {regs : Int} (hx : (x : Int) < regs) (hy : (y : Int) < regs) (k : Ins) (n funcs : Int) : insE (swIns x y k) regs n funcs = insE k regs n funcs := by
  by_cases hw : wi k.op 1 19 = true
  · obtain ⟨op, d, a, b, m⟩ := k
    have hop : op = 1 ∨ op = 2 ∨ op = 3 ∨ op = 4 ∨ op = 5 ∨ op = 6 ∨ op = 7 ∨ op = 8 ∨ op = 9 ∨ op = 10 ∨ op = 11 ∨ op = 12 ∨ op = 13 ∨ op = 14 ∨ op = 15 ∨ op = 16 ∨ op = 17 ∨ op = 18 ∨ op = 19 := by simp [wi] at hw; omega
    clear hw
    rcases hop with rfl | rfl | rfl | rfl | rfl | rfl | rfl | rfl | rfl | rfl | rfl | rfl | rfl | rfl | rfl | rfl | rfl | rfl | rfl
    all_goals
      refine insE_congr rfl rfl ?_ ?_ ?_
      · first | rfl | exact regB_sw hx hy (by dsimp only; decide)
      · first | rfl | exact regB_sw hx hy (by dsimp only; decide)
      · first | rfl | exact regB_sw hx hy (by dsimp only; decide)
  · have h2 : wi k.op 1 19 = false := by simpa using hw
    unfold insE
    rw [(swIns_op x y k).1, if_pos h2, if_pos h2]
theorem fnE_sw {x y : Nat} {f : Fnc} (hx : (x : Int) < f.regs) (hy : (y : Int) < f.regs) (n : Int) : fnE (swFn x y f) n = fnE f n := by
  unfold fnE swFn
  simp only [List.length_map, List.map_map]
  have e : ((fun k => insE k f.regs f.code.length n) ∘ swIns x y) = fun k => insE k f.regs f.code.length n := funext fun k => insE_sw hx hy k _ _
  rw [e]
theorem sureF_sw {x y : Nat} {f : Fnc} {n : Int} (hf : FnOk f n) (hg : FnOk (swFn x y f) n) (px : f.params.toNat ≤ x) (py : f.params.toNat ≤ y) : sureF (swFn x y f) = (sureF f).map (Option.map (swM x y)) := by
  have hd : ∀ k ∈ f.code, 0 ≤ k.dst := fun k hk => (hf.ins k hk).dst1
  have e : iterS (swFn x y f).code (muS (startS f) + 1) (startS (swFn x y f)) = swS x y (iterS f.code (muS (startS f) + 1) (startS f)) := by
    rw [startS_sw px py]
    exact iterS_sw x y hd _ _
  rw [← sureF_of hg.cok hg.p2 (k := muS (startS f) + 1) (by rw [e]; exact sureF_end hf.cok hf.p2), e]
  rfl
theorem readsM_sw (x y : Nat) {k : Ins} (ho2 : k.op ≤ 19) (ha : 0 ≤ k.a) (hb : 0 ≤ k.b) (n : Int) : readsM (swIns x y k) n = swM x y (readsM k n) := by
  have ho := (swIns_op x y k).1
  have ea : 2 ^ (swI x y k.a).toNat = swM x y (2 ^ k.a.toNat) := by rw [swM_pow, (swI_nat x y ha).1]
  have eb : 2 ^ (swI x y k.b).toNat = swM x y (2 ^ k.b.toNat) := by rw [swM_pow, (swI_nat x y hb).1]
  have a' : ¬ (k.op = 1 ∨ k.op = 15) → (swIns x y k).a = swI x y k.a := fun h => by
    unfold swIns
    repeat' split
    all_goals first | rfl | (exfalso; omega)
  have b' : ¬ (k.op = 1 ∨ k.op = 15) → ¬ (k.op = 13 ∨ k.op = 16 ∨ k.op = 18 ∨ k.op = 19) → (swIns x y k).b = swI x y k.b := fun h h2 => by
    unfold swIns
    repeat' split
    all_goals first | rfl | (exfalso; omega)
  unfold readsM
  rw [ho]
  by_cases c1 : k.op = 1 ∨ k.op = 15
  · rw [if_pos c1, if_pos c1, swM_zero]
  rw [if_neg c1, if_neg c1, a' c1, ea]
  by_cases c2 : k.op = 13 ∨ k.op = 16 ∨ k.op = 18 ∨ k.op = 19
  · rw [if_pos c2, if_pos c2]
  rw [if_neg c2, if_neg c2, b' c1 c2, eb, ← swM_or]
  by_cases c3 : k.op = 17
  · rw [if_pos c3, if_pos c3]
    by_cases c4 : n = 0
    · rw [if_pos c4, if_pos c4, swM_zero]
    rw [if_neg c4, if_neg c4]
    by_cases c5 : n = 1
    · rw [if_pos c5, if_pos c5]
    · rw [if_neg c5, if_neg c5]
  · rw [if_neg c3, if_neg c3]
theorem bad_sw (x y r m : Nat) : (swM x y r - (swM x y r &&& swM x y m) != 0) = (r - (r &&& m) != 0) := by
  by_cases h : r &&& m = r
  · rw [sub_mask h, sub_mask (by rw [← swM_and, h])]
  · have h1 : (r - (r &&& m) != 0) = true := by
      cases e : (r - (r &&& m) != 0)
      · exact absurd (mask_of e) h
      · rfl
    rw [h1]
    cases e : (swM x y r - (swM x y r &&& swM x y m) != 0)
    · exact absurd (swM_inj (by rw [swM_and]; exact mask_of e)) h
    · rfl
/-- The first function with two registers changed for one another. -/
def swP (x y : Int) (p : List Fnc) : List Fnc := match p with
  | [] => []
  | f :: l => swFn x y f :: l
theorem swP_zero (x y : Int) (p : List Fnc) : (swP x y p)[0]? = (p[0]?).map (swFn x y) := by cases p <;> rfl
theorem swP_succ (x y : Int) (p : List Fnc) {i : Nat} (h : i ≠ 0) : (swP x y p)[i]? = p[i]? := by
  obtain ⟨j, rfl⟩ := Nat.exists_eq_succ_of_ne_zero h
  cases p <;> rfl
theorem swP_length (x y : Int) (p : List Fnc) : (swP x y p).length = p.length := by cases p <;> rfl
theorem swP_params (x y : Int) (p : List Fnc) (i : Nat) : ((swP x y p)[i]?).map Fnc.params = (p[i]?).map Fnc.params := by
  by_cases h : i = 0
  · subst h
    rw [swP_zero]
    cases p <;> rfl
  · rw [swP_succ x y p h]
theorem fnP_congr {p q : List Fnc} (h : ∀ k : Ins, parOf q k = parOf p k) (f : Fnc) : fnP q f = fnP p f := by
  have e : badAt q f = badAt p f := funext fun pc => by
    unfold badAt
    cases f.code[pc]? with
    | none => rfl
    | some k => cases (sureF f)[pc]? with
      | none => rfl
      | some o => cases o with
        | none => rfl
        | some m => dsimp only; rw [h]
  unfold fnP
  rw [e]
theorem fnP_sw {x y : Nat} {p : List Fnc} {f : Fnc} {n : Int} (hf : FnOk f n) (hg : FnOk (swFn x y f) n) (px : f.params.toNat ≤ x) (py : f.params.toNat ≤ y) : fnP p (swFn x y f) = fnP p f := by
  have hs := sureF_sw hf hg px py
  have e : badAt p (swFn x y f) = badAt p f := funext fun pc => by
    unfold badAt
    rw [hs, show (swFn x y f).code[pc]? = (f.code[pc]?).map (swIns x y) from List.getElem?_map, List.getElem?_map]
    cases hk : f.code[pc]? with
    | none => rfl
    | some k => cases (sureF f)[pc]? with
      | none => rfl
      | some o => cases o with
        | none => rfl
        | some m =>
          have hi := hf.ins k (List.mem_of_getElem? hk)
          dsimp only [Option.map_some]
          rw [show parOf p (swIns x y k) = parOf p k by unfold parOf; rw [(swIns_op x y k).2], readsM_sw x y hi.op2 hi.a1 hi.b1, bad_sw]
  have e2 : endAt (swFn x y f) = endAt f := by
    unfold endAt
    rw [hs, show (swFn x y f).code.length = f.code.length from List.length_map .., List.getElem?_map]
    cases (sureF f)[f.code.length]? with
    | none => rfl
    | some o => cases o <;> rfl
  unfold fnP
  rw [e, e2, show (swFn x y f).code.length = f.code.length from List.length_map ..]
/-- A right program stays right. -/
theorem checkP_sw {x y : Nat} {p : List Fnc} (hc : checkP p = 0) (hx : (x : Int) < (fnOf p 0).regs) (hy : (y : Int) < (fnOf p 0).regs) (px : (fnOf p 0).params.toNat ≤ x) (py : (fnOf p 0).params.toNat ≤ y) : checkP (swP x y p) = 0 := by
  cases p with
  | nil => exact hc
  | cons f l =>
    have hf0 : fnOf (f :: l) 0 = f := rfl
    rw [hf0] at hx hy px py
    have hr := right_of hc
    have hf := hr.ok.fn f (by simp)
    have hE : fnE (swFn x y f) ((f :: l).length : Nat) = fnE f ((f :: l).length : Nat) := fnE_sw hx hy _
    have hz : progE (f :: l) = 0 := by
      unfold checkP at hc
      by_cases h : progE (f :: l) ≠ 0
      · rw [if_pos h] at hc; exact absurd hc h
      · omega
    have hz' : progE (swFn x y f :: l) = 0 := by
      unfold progE at hz ⊢
      simp only [List.map_cons, List.length_cons] at hz hE ⊢
      rw [hE]
      exact hz
    have hfz : fnE f ((f :: l).length : Nat) = 0 := by
      unfold progE at hz
      split at hz
      · omega
      · exact firstE_all hz _ (by simp)
    have hg : FnOk (swFn x y f) ((f :: l).length : Nat) := fn_ok (by rw [hE]; exact hfz)
    have hp : ∀ k : Ins, parOf (swFn x y f :: l) k = parOf (f :: l) k := fun k => by
      have := swP_params x y (f :: l) k.imm.toNat
      unfold parOf
      rw [← this]; rfl
    unfold checkP at hc ⊢
    show (if progE (swFn x y f :: l) ≠ 0 then progE (swFn x y f :: l) else firstE ((swFn x y f :: l).map (fnP (swFn x y f :: l)))) = 0
    rw [if_neg (by simp [hz'])]
    rw [if_neg (by simp [hz])] at hc
    rw [show fnP (swFn x y f :: l) = fnP (f :: l) from funext (fnP_congr hp), List.map_cons, fnP_sw hf hg px py, ← List.map_cons]
    exact hc
/-! it runs as it did -/
def swR (x y : Nat) (l : List Int) : List Int := (List.range 12).map fun i => l.getD (swN x y i) 0
def swFr (x y : Nat) (f : Fr) : Fr := if f.fn = 0 then { f with regs := swR x y f.regs } else f
def swSt (x y : Nat) (s : St) : St := { s with frames := s.frames.map (swFr x y) }
theorem swR_get (x y : Nat) (l : List Int) {i : Nat} (h : i < 12) : (swR x y l).getD i 0 = l.getD (swN x y i) 0 := by
  unfold swR
  rw [List.getD_eq_getElem?_getD, List.getElem?_map, List.getElem?_range h]
  rfl
theorem swFr_zero {x y : Nat} {f : Fr} (h : f.fn = 0) : swFr x y f = { f with regs := swR x y f.regs } := if_pos h
theorem swFr_ne {x y : Nat} {f : Fr} (h : f.fn ≠ 0) : swFr x y f = f := if_neg h
theorem swFr_pc (x y : Nat) (f : Fr) : (swFr x y f).pc = f.pc ∧ (swFr x y f).fn = f.fn := by
  unfold swFr
  split <;> exact ⟨rfl, rfl⟩
theorem swFr_at (x y : Nat) (f : Fr) (pc : Int) : (swFr x y f).at pc = swFr x y (f.at pc) := by
  unfold swFr Fr.at
  dsimp only
  split <;> rfl
theorem swFr_reg {x y : Nat} (hx : x < 12) (hy : y < 12) {f : Fr} (e : f.fn = 0) {r : Int} (h0 : 0 ≤ r) (h1 : r < 12) : (swFr x y f).reg (swI x y r) = f.reg r := by
  rw [swFr_zero e]
  unfold Fr.reg
  dsimp only
  rw [(swI_nat x y h0).1, swR_get x y _ ((swN_lt hx hy).2 (by omega)), swN_swN]
theorem swFr_put {x y : Nat} (_hx : x < 12) (_hy : y < 12) {f : Fr} (e : f.fn = 0) (hl : f.regs.length = 12) {r : Int} (h0 : 0 ≤ r) (h1 : r < 12) (v : Int) : (swFr x y f).put (swI x y r) v = swFr x y (f.put r v) := by
  rw [swFr_zero e, swFr_zero (show (f.put r v).fn = 0 from e)]
  unfold Fr.put
  dsimp only
  rw [(swI_nat x y h0).1]
  congr 1
  apply List.ext_getElem (by simp [swR])
  intro i h2 h3
  have hi : i < 12 := by simpa [swR] using h3
  rw [List.getElem_set]
  simp only [swR, List.getElem_map, List.getElem_range]
  rw [List.getD_eq_getElem?_getD, List.getD_eq_getElem?_getD, List.getElem?_set]
  by_cases e : swN x y r.toNat = i
  · rw [if_pos e, if_pos (by rw [← e, swN_swN]), if_pos (by omega)]
    rfl
  · rw [if_neg e, if_neg (fun e2 => e (by rw [e2, swN_swN]))]
theorem fnOf_sw {x y : Int} {p : List Fnc} {n : Int} : (fnOf (swP x y p) n).params = (fnOf p n).params := by
  unfold fnOf
  have := swP_params x y p n.toNat
  rw [List.getD_eq_getElem?_getD, List.getD_eq_getElem?_getD]
  cases h1 : (swP x y p)[n.toNat]? <;> cases h2 : p[n.toNat]? <;> rw [h1, h2] at this <;> simp at this
  all_goals first | rfl | exact this
theorem insOf_sw {x y : Nat} {p : List Fnc} {f : Fr} (h : FrOk p f) : insOf (swP x y p) (swFr x y f) = if f.fn = 0 then swIns x y (insOf p f) else insOf p f := by
  obtain ⟨F, m, h1, h2, -, h4⟩ := h.parts
  unfold insOf at h4 ⊢
  rw [(swFr_pc x y f).1, (swFr_pc x y f).2]
  by_cases e : f.fn = 0
  · rw [if_pos e]
    have e0 : f.fn.toNat = 0 := by omega
    have h5 : fnOf (swP x y p) f.fn = swFn x y F := by
      unfold fnOf
      rw [e0] at h1 ⊢
      rw [List.getD_eq_getElem?_getD, swP_zero, h1]; rfl
    rw [h5, h2]
    show (F.code.map (swIns x y)).getD _ _ = _
    rw [h2] at h4
    rw [List.getD_eq_getElem?_getD, List.getElem?_map, List.getD_eq_getElem?_getD, h4]
    simp
  · rw [if_neg e]
    have e0 : f.fn.toNat ≠ 0 := by have := h.fn0; omega
    have h5 : fnOf (swP x y p) f.fn = F := by
      unfold fnOf
      rw [List.getD_eq_getElem?_getD, swP_succ _ _ _ e0, h1]; rfl
    rw [h5, h2]
/-- A step by its parts. -/
def exV (p : List Fnc) (s : St) (fs : List Fr) (f : Fr) (op va vb dst imm : Int) : St :=
  if mkOk op vb = true then topSt s fs ((f.put dst (mk op va vb imm)).at (f.pc + 1))
  else if op = 5 then { s with status := 3 }
  else if (op = 13 ∨ op = 14) ∧ (va < 0 ∨ 16 ≤ va) then { s with status := 4 }
  else if op = 13 then topSt s fs ((f.put dst (s.mem.getD va.toNat 0)).at (f.pc + 1))
  else if op = 14 then { topSt s fs (f.at (f.pc + 1)) with mem := s.mem.set va.toNat vb }
  else if op = 15 then topSt s fs (f.at imm)
  else if op = 16 then topSt s fs (f.at (if va = 0 then f.pc + 1 else imm))
  else if op = 17 then
    (if fs.length + 1 = 8 then { s with fuel := s.fuel - 1, status := 5 } else { s with fuel := s.fuel - 1, frames := fs ++ [f, newFr imm (fnOf p imm).params va vb] })
  else if op = 18 then { topSt s fs ((f.put dst (s.answers.headD 0)).at (f.pc + 1)) with events := s.events ++ [va], answers := s.answers.tail }
  else match fs.getLast? with
    | none => { s with fuel := s.fuel - 1, frames := [], value := va, status := 1 }
    | some g => { s with fuel := s.fuel - 1, frames := fs.dropLast ++ [retFr p g va] }
theorem exec_V (p : List Fnc) (s : St) (fs : List Fr) (f : Fr) : execSt p s fs f = exV p s fs f (insOf p f).op (f.reg (insOf p f).a) (f.reg (insOf p f).b) (insOf p f).dst (insOf p f).imm := rfl
/-- What an op does not read does not matter. -/
theorem exV_congr {p : List Fnc} {s : St} {fs : List Fr} {f : Fr} {op va vb dst imm va' vb' dst' : Int} (h0 : 1 ≤ op) (h1 : op ≤ 19) (ha : op ≠ 1 → op ≠ 15 → va' = va) (hb : op ≠ 1 → op ≠ 13 → op ≠ 15 → op ≠ 16 → op ≠ 18 → op ≠ 19 → vb' = vb)
    (hd : op ≤ 13 ∨ op = 18 → dst' = dst) : exV p s fs f op va' vb' dst' imm = exV p s fs f op va vb dst imm := by
  by_cases hm : 2 ≤ op ∧ op ≤ 12
  · rw [ha (by omega) (by omega), hb (by omega) (by omega) (by omega) (by omega) (by omega) (by omega), hd (by omega)]
  have hop : op = 1 ∨ op = 13 ∨ op = 14 ∨ op = 15 ∨ op = 16 ∨ op = 17 ∨ op = 18 ∨ op = 19 := by omega
  rcases hop with rfl | rfl | rfl | rfl | rfl | rfl | rfl | rfl
  · rw [hd (by omega)]
    simp [exV, mkOk, mk]
  · rw [ha (by omega) (by omega), hd (by omega)]
    simp [exV, mkOk]
  · rw [ha (by omega) (by omega), hb (by omega) (by omega) (by omega) (by omega) (by omega) (by omega)]
    simp [exV, mkOk]
  · simp [exV, mkOk]
  · rw [ha (by omega) (by omega)]
    simp [exV, mkOk]
  · rw [ha (by omega) (by omega), hb (by omega) (by omega) (by omega) (by omega) (by omega) (by omega)]
    simp [exV, mkOk]
  · rw [ha (by omega) (by omega), hd (by omega)]
    simp [exV, mkOk]
  · rw [ha (by omega) (by omega)]
    simp [exV, mkOk]
/-- Two registers lie behind the parameters of the first function. -/
structure SwOk (x y : Nat) (p : List Fnc) : Prop where
  hx : x < 12
  hy : y < 12
  px : (fnOf p 0).params.toNat ≤ x
  py : (fnOf p 0).params.toNat ≤ y
theorem swR_low {x y k : Nat} (hx : k ≤ x) (hy : k ≤ y) {l : List Int} (hl : l.length = k) (hk : k ≤ 12) : swR x y (l ++ List.replicate (12 - l.length) 0) = l ++ List.replicate (12 - l.length) 0 := by
  have hget : ∀ i, (l ++ List.replicate (12 - l.length) (0 : Int)).getD i 0 = if i < k then l.getD i 0 else 0 := fun i => by
    rw [List.getD_eq_getElem?_getD]
    by_cases h : i < k
    · rw [if_pos h, List.getElem?_append_left (by omega), List.getD_eq_getElem?_getD]
    · rw [if_neg h, List.getElem?_append_right (by omega), List.getElem?_replicate]
      split <;> rfl
  apply List.ext_getElem (by simp [swR]; omega)
  intro i h1 h2
  have hi : i < 12 := by simpa [swR] using h1
  have e : ∀ (m : List Int) (h : i < m.length), m[i] = m.getD i 0 := fun m h => by rw [List.getD_eq_getElem?_getD, List.getElem?_eq_getElem h]; rfl
  rw [e _ h1, e _ h2, swR_get x y _ hi, hget, hget]
  unfold swN
  by_cases h3 : i = x
  · rw [if_pos h3, if_neg (by omega), if_neg (by omega)]
  · rw [if_neg h3]
    by_cases h4 : i = y
    · rw [if_pos h4, if_neg (by omega), if_neg (by omega)]
    · rw [if_neg h4]
section
variable {x y : Nat} {p : List Fnc}
theorem newFr_sw (h : SwOk x y p) (hp : Right p) {n : Int} (hn0 : 0 ≤ n) (hn1 : n < p.length) (va vb : Int) : swFr x y (newFr n (fnOf p n).params va vb) = newFr n (fnOf (swP x y p) n).params va vb := by
  rw [fnOf_sw]
  by_cases e : n = 0
  · subst e
    have hl : (0 : Nat) < p.length := by omega
    have hF := hp.ok.fn p[0] (List.getElem_mem hl)
    have hf : fnOf p 0 = p[0] := by unfold fnOf; rw [List.getD_eq_getElem?_getD]; show (p[0]?).getD _ = _; rw [List.getElem?_eq_getElem hl]; rfl
    have p1 := hF.p1
    have p2 := hF.p2
    rw [← hf] at p1 p2
    unfold newFr
    rw [swFr_zero rfl]
    dsimp only
    congr 1
    refine swR_low h.px h.py ?_ (by omega)
    unfold argsOf
    by_cases h0 : (fnOf p 0).params = 0
    · rw [if_pos h0]; simp; omega
    · rw [if_neg h0]
      by_cases h1 : (fnOf p 0).params = 1
      · rw [if_pos h1]; simp; omega
      · rw [if_neg h1]; simp; omega
  · exact swFr_ne e
theorem retFr_sw (h : SwOk x y p) (hp : Right p) {g : Fr} (hg : FrOk p g) (ho : (insOf p g).op = 17) (v : Int) : retFr (swP x y p) (swFr x y g) v = swFr x y (retFr p g v) := by
  unfold retFr
  rw [insOf_sw hg, (swFr_pc x y g).1]
  have hi := hp.ins hg
  have hF := hp.fnok hg
  have d0 := hi.dst1
  have d1 : (insOf p g).dst < 12 := by have := hi.dst2; have := hF.r2; omega
  by_cases e : g.fn = 0
  · rw [if_pos e, show (swIns x y (insOf p g)).dst = swI x y (insOf p g).dst by unfold swIns; rw [if_neg (by omega), if_pos (.inr ho)], swFr_put h.hx h.hy e hg.regs d0 d1, swFr_at]
  · rw [if_neg e, swFr_ne e]
    rw [← swFr_at, swFr_ne (show (g.put (insOf p g).dst v).fn ≠ 0 from e)]
theorem topSt_sw (s : St) (fs : List Fr) (f : Fr) : topSt (swSt x y s) (fs.map (swFr x y)) (swFr x y f) = swSt x y (topSt s fs f) := by
  unfold topSt swSt
  simp
theorem exec_sw (h : SwOk x y p) (hp : Right p) {s : St} (hi : StInv p s) {fs : List Fr} {f : Fr} (hf : s.frames = fs ++ [f]) : execSt (swP x y p) (swSt x y s) (fs.map (swFr x y)) (swFr x y f) = swSt x y (execSt p s fs f) := by
  have hfo := hi.fr f (by rw [hf]; simp)
  have hk := hp.ins hfo
  have hF := hp.fnok hfo
  have r12 : ∀ r : Int, r < (fnOf p f.fn).regs → r < 12 := fun r hr => by have := hF.r2; omega
  rw [exec_V, exec_V, insOf_sw hfo]
  -- the parts of the step
  have key : ∀ (dst' : Int), (∀ v, (insOf p f).op ≤ 13 ∨ (insOf p f).op = 18 → (swFr x y f).put dst' v = swFr x y (f.put (insOf p f).dst v)) →
      exV (swP x y p) (swSt x y s) (fs.map (swFr x y)) (swFr x y f) (insOf p f).op (f.reg (insOf p f).a) (f.reg (insOf p f).b) dst' (insOf p f).imm = swSt x y (exV p s fs f (insOf p f).op (f.reg (insOf p f).a) (f.reg (insOf p f).b) (insOf p f).dst (insOf p f).imm) := by
    intro dst' hput
    have o1 := hk.op1
    have o2 := hk.op2
    unfold exV
    by_cases c1 : mkOk (insOf p f).op (f.reg (insOf p f).b) = true
    · have hle : (insOf p f).op ≤ 12 := by simp [mkOk] at c1; omega
      rw [if_pos c1, if_pos c1, hput _ (.inl (by omega)), swFr_at, (swFr_pc x y f).1, topSt_sw]
    rw [if_neg c1, if_neg c1]
    by_cases c2 : (insOf p f).op = 5
    · rw [if_pos c2, if_pos c2]; rfl
    rw [if_neg c2, if_neg c2]
    by_cases c3 : ((insOf p f).op = 13 ∨ (insOf p f).op = 14) ∧ (f.reg (insOf p f).a < 0 ∨ 16 ≤ f.reg (insOf p f).a)
    · rw [if_pos c3, if_pos c3]; rfl
    rw [if_neg c3, if_neg c3]
    by_cases c4 : (insOf p f).op = 13
    · rw [if_pos c4, if_pos c4, hput _ (.inl (by omega)), swFr_at, (swFr_pc x y f).1, topSt_sw]; rfl
    rw [if_neg c4, if_neg c4]
    by_cases c5 : (insOf p f).op = 14
    · rw [if_pos c5, if_pos c5, swFr_at, (swFr_pc x y f).1, topSt_sw]; rfl
    rw [if_neg c5, if_neg c5]
    by_cases c6 : (insOf p f).op = 15
    · rw [if_pos c6, if_pos c6, swFr_at, topSt_sw]
    rw [if_neg c6, if_neg c6]
    by_cases c7 : (insOf p f).op = 16
    · rw [if_pos c7, if_pos c7, swFr_at, (swFr_pc x y f).1, topSt_sw]
    rw [if_neg c7, if_neg c7]
    by_cases c8 : (insOf p f).op = 17
    · rw [if_pos c8, if_pos c8, List.length_map]
      by_cases c9 : fs.length + 1 = 8
      · rw [if_pos c9, if_pos c9]; rfl
      · rw [if_neg c9, if_neg c9]
        obtain ⟨i0, i1⟩ := hk.call c8
        rw [← newFr_sw h hp i0 i1]
        unfold swSt
        simp
    rw [if_neg c8, if_neg c8]
    by_cases c10 : (insOf p f).op = 18
    · rw [if_pos c10, if_pos c10, show (swSt x y s).answers = s.answers from rfl, hput _ (.inr c10), swFr_at, (swFr_pc x y f).1, topSt_sw]; rfl
    rw [if_neg c10, if_neg c10]
    rcases List.eq_nil_or_concat fs with rfl | ⟨gs, g, rfl⟩
    · rfl
    · have hgo : FrOk p g := hi.fr g (by rw [hf]; simp)
      have hop := (hi.calls gs [] g f (by rw [hf]; simp)).1
      rw [List.concat_eq_append]
      have e1 : ((gs ++ [g]).map (swFr x y)).getLast? = some (swFr x y g) := by simp
      have e2 : (gs ++ [g]).getLast? = some g := by simp
      rw [e1, e2]
      dsimp only
      rw [retFr_sw h hp hgo hop]
      unfold swSt
      simp
  by_cases e : f.fn = 0
  · rw [if_pos e, (swIns_op x y _).1, (swIns_op x y _).2]
    rw [← key (swI x y (insOf p f).dst) (fun v _ => swFr_put h.hx h.hy e hfo.regs hk.dst1 (r12 _ hk.dst2) v)]
    refine exV_congr hk.op1 hk.op2 (fun h1 h2 => ?_) (fun h1 h2 h3 h4 h5 h6 => ?_) (fun h1 => ?_)
    · rw [show (swIns x y (insOf p f)).a = swI x y (insOf p f).a by
        have := hk.op1; have := hk.op2
        unfold swIns
        repeat' split
        all_goals first | rfl | (exfalso; omega)]
      exact swFr_reg h.hx h.hy e hk.a1 (r12 _ hk.a2)
    · rw [show (swIns x y (insOf p f)).b = swI x y (insOf p f).b by
        have := hk.op1; have := hk.op2
        unfold swIns
        repeat' split
        all_goals first | rfl | (exfalso; omega)]
      exact swFr_reg h.hx h.hy e hk.b1 (r12 _ hk.b2)
    · have := hk.op1
      unfold swIns
      repeat' split
      all_goals first | rfl | (exfalso; omega)
  · rw [if_neg e]
    have hs : swFr x y f = f := swFr_ne e
    rw [← key (insOf p f).dst (fun v _ => by rw [hs, swFr_ne (show (f.put (insOf p f).dst v).fn ≠ 0 from e)])]
    rw [hs]
theorem walk_sw (h : SwOk x y p) (hp : Right p) : ∀ (n : Nat) {s : St}, StInv p s → walkSt (swP x y p) n (swSt x y s) = swSt x y (walkSt p n s)
  | 0, _, _ => rfl
  | n + 1, s, hi => by
    unfold walkSt
    rw [show (swSt x y s).status = s.status from rfl]
    by_cases hst : s.status = 0
    · rw [if_pos hst, if_pos hst]
      have e : stepSt (swP x y p) (swSt x y s) = swSt x y (stepSt p s) := by
        unfold stepSt
        rw [show (swSt x y s).fuel = s.fuel from rfl]
        by_cases hfu : s.fuel = 0
        · rw [if_pos hfu, if_pos hfu]; rfl
        · rw [if_neg hfu, if_neg hfu]
          obtain ⟨fs, f, hf⟩ := hi.running hst
          have e1 : (swSt x y s).frames = fs.map (swFr x y) ++ [swFr x y f] := by unfold swSt; simp [hf]
          rw [e1, hf]
          simp only [List.getLast?_append, List.getLast?_singleton, Option.some_or, List.dropLast_concat]
          exact exec_sw h hp hi hf
      rw [e]
      exact walk_sw h hp n (hi.step hp hst)
    · rw [if_neg hst, if_neg hst]
end
end Tier
