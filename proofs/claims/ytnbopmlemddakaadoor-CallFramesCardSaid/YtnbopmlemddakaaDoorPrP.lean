/-
  Plain law: what proof.Check says of a program; a program whose registers are all set first is right. No program is in sight.
-/
import Derived.Test.YtnbopmlemddakaaDoorSuC
namespace Tier
open Go Go.RowKit
/-- What an instruction reads, as bits; n: how many parameters the function has that it calls. -/
def readsM (x : Ins) (n : Int) : Nat :=
  if x.op = 1 ∨ x.op = 15 then 0 else if x.op = 13 ∨ x.op = 16 ∨ x.op = 18 ∨ x.op = 19 then 2 ^ x.a.toNat
  else if x.op = 17 then (if n = 0 then 0 else if n = 1 then 2 ^ x.a.toNat else 2 ^ x.a.toNat ||| 2 ^ x.b.toNat) else 2 ^ x.a.toNat ||| 2 ^ x.b.toNat
def parOf (p : List Fnc) (x : Ins) : Int := ((p[x.imm.toNat]?).map Fnc.params).getD 0
/-- Is something read at this place that is not surely set? -/
def badAt (p : List Fnc) (f : Fnc) (pc : Nat) : Bool :=
  match f.code[pc]?, (sureF f)[pc]? with
  | some x, some (some m) => readsM x (parOf p x) - (readsM x (parOf p x) &&& m) != 0
  | _, _ => false
def endAt (f : Fnc) : Bool := (((sureF f)[f.code.length]?).getD none).isSome
def fnP (p : List Fnc) (f : Fnc) : Int := if (List.range f.code.length).any (badAt p f) = true then 6 else if endAt f = true then 7 else 0
def checkP (p : List Fnc) : Int := if progE p ≠ 0 then progE p else firstE (p.map (fnP p))
theorem sub_mask {a m : Nat} (h : a &&& m = a) : (a - (a &&& m) != 0) = false := by rw [h]; simp
theorem mask_of {a m : Nat} (h : (a - (a &&& m) != 0) = false) : a &&& m = a := by
  have := Nat.and_le_left (n := a) (m := m)
  simp at h; omega
def low (k : Nat) : Nat := 2 ^ k - 1
theorem low_bit (k i : Nat) : (low k).testBit i = decide (i < k) := Nat.testBit_two_pow_sub_one k i
/-- a lies within b. -/
def Sub (a b : Nat) : Prop := ∀ i, a.testBit i = true → b.testBit i = true
theorem Sub.and {a b : Nat} (h : Sub a b) : a &&& b = a := by
  apply Nat.eq_of_testBit_eq
  intro i
  rw [Nat.testBit_and]
  cases ha : a.testBit i
  · rfl
  · rw [h i ha]; rfl
theorem Sub.of_and {a b : Nat} (h : a &&& b = a) : Sub a b := by
  intro i hi
  have := congrArg (fun k => k.testBit i) h
  simp only [Nat.testBit_and] at this
  rw [hi] at this; simpa using this
theorem pow_bit (d i : Nat) : (2 ^ d).testBit i = decide (d = i) := Nat.testBit_two_pow
theorem sub_low_pow {d k : Nat} (h : d < k) : Sub (2 ^ d) (low k) := by
  intro i hi
  rw [pow_bit] at hi
  rw [low_bit]
  simp at hi ⊢; omega
theorem sub_or {a b c : Nat} (h1 : Sub a c) (h2 : Sub b c) : Sub (a ||| b) c := by
  intro i hi
  rw [Nat.testBit_or] at hi
  cases ha : a.testBit i
  · rw [ha] at hi; exact h2 i (by simpa using hi)
  · exact h1 i ha
theorem Sub.trans {a b c : Nat} (h1 : Sub a b) (h2 : Sub b c) : Sub a c := fun i hi => h2 i (h1 i hi)
theorem sub_zero (a : Nat) : Sub 0 a := fun i hi => by simp at hi
theorem sub_or_left {a b : Nat} : Sub a (a ||| b) := fun i hi => by rw [Nat.testBit_or, hi]; rfl
theorem sub_or_right {a b : Nat} : Sub b (a ||| b) := fun i hi => by rw [Nat.testBit_or, hi]; simp
theorem sub_and {a b c : Nat} (h1 : Sub a b) (h2 : Sub a c) : Sub a (b &&& c) := fun i hi => by rw [Nat.testBit_and, h1 i hi, h2 i hi]; rfl
theorem reads_low {x : Ins} {regs n funcs : Int} (h : InsOk x regs n funcs) (k : Int) : Sub (readsM x k) (low regs.toNat) := by
  have ha : Sub (2 ^ x.a.toNat) (low regs.toNat) := sub_low_pow (by have := h.a1; have := h.a2; omega)
  have hb : Sub (2 ^ x.b.toNat) (low regs.toNat) := sub_low_pow (by have := h.b1; have := h.b2; omega)
  unfold readsM
  split
  · exact sub_zero _
  · split
    · exact ha
    · split
      · split
        · exact sub_zero _
        · split
          · exact ha
          · exact sub_or ha hb
      · exact sub_or ha hb
theorem preOf_get (bp br : Int) (i : Nat) (x : Ins) (h : (preOf bp br true)[i]? = some x) : x = ⟨1, pickedI bp 3 + i, 0, 0, pickedI bp 3 + i⟩ := by
  simp only [preOf, if_true, preIns, List.getElem?_map] at h
  rw [Option.map_eq_some_iff] at h
  obtain ⟨j, hj, rfl⟩ := h
  rw [List.getElem?_range (by
    have := (List.getElem?_eq_some_iff.1 hj).1
    simpa using this)] at hj
  simp at hj; subst hj; rfl
theorem preOf_len (bp br : Int) : (preOf bp br true).length = ((if pickedI bp 3 < 1 then 1 else pickedI bp 3) + pickedI br 11 - pickedI bp 3).toNat := by simp [preOf, preIns]
theorem full_ok (bp br : Int) (raws : List Ins) (funcs : Int) (p : List Fnc) (hf : FnOk (mkFn bp br raws funcs true) funcs) : fnP p (mkFn bp br raws funcs true) = 0 := by
  have hlen := mkFn_len bp br raws funcs true
  have hreg := mkFn_regs bp br raws funcs true
  have hpl := preOf_len bp br
  rw [hreg] at hpl
  have hpar : (mkFn bp br raws funcs true).params = pickedI bp 3 := rfl
  have p0 := picked_in bp 3 (by omega)
  have hr1 := hf.r1
  have hr2 := hf.p3
  rw [hpar] at hr2
  have hcode : ∀ pc x, (mkFn bp br raws funcs true).code[pc]? = some x → pc < (preOf bp br true).length → x = ⟨1, pickedI bp 3 + pc, 0, 0, pickedI bp 3 + pc⟩ := by
    intro pc x hx hpc
    rw [mkFn_code, List.append_assoc, List.getElem?_append_left hpc] at hx
    exact preOf_get bp br pc x hx
  have hlast : ∀ x, (mkFn bp br raws funcs true).code[(mkFn bp br raws funcs true).code.length - 1]? = some x → x.op = 19 := by
    intro x hx
    rw [hlen, mkFn_code] at hx
    rw [List.getElem?_append_right (by simp; omega)] at hx
    have : (preOf bp br true).length + min raws.length 22 + 2 - 1 - (preOf bp br true ++ (raws.take 22).map (fun x => rawIns x (mkFn bp br raws funcs true).regs ((preOf bp br true).length + (min raws.length 22 : Nat) + 2) funcs)).length = 1 := by simp; omega
    rw [this] at hx
    simp at hx; rw [← hx]
  generalize mkFn bp br raws funcs true = f at *
  generalize (preOf bp br true).length = np at *
  have hQ := sure_ind (f := f) (fun pc m => pc < f.code.length ∧ Sub (low (min (f.params.toNat + pc) f.regs.toNat)) m) ⟨by have := hf.c1; omega, by
      intro i hi
      rw [low_bit] at hi
      have : (2 ^ f.params.toNat - 1) = low f.params.toNat := rfl
      rw [this, low_bit]
      simp at hi ⊢; omega⟩ (fun pc m x n hq hx hn => by
      obtain ⟨hpc, hs⟩ := hq
      have hio := hf.ins x (List.mem_of_getElem? hx)
      by_cases hp : pc < np
      · have := hcode pc x hx hp
        subst this
        simp [nextL] at hn
        subst hn
        refine ⟨by omega, fun i hi => ?_⟩
        rw [low_bit] at hi
        simp at hi
        rw [Nat.testBit_or]
        by_cases hi2 : i < min (f.params.toNat + pc) f.regs.toNat
        · rw [hs i (by rw [low_bit]; simpa using hi2)]; rfl
        · have : i = f.params.toNat + pc := by omega
          have h2 : setM ⟨1, pickedI bp 3 + pc, 0, 0, pickedI bp 3 + pc⟩ = 2 ^ i := by
            unfold setM
            rw [if_pos (by simp [setsB])]
            dsimp only
            congr 1; omega
          rw [h2, pow_bit]; simp
      · have hmin : min (f.params.toNat + pc) f.regs.toNat = f.regs.toNat := by omega
        rw [hmin] at hs
        have hne : n < f.code.length := by
          unfold nextL at hn
          have hpl : pc = f.code.length - 1 → x.op = 19 := fun h => hlast x (by rw [← h]; exact hx)
          have hj := hio.jump
          split at hn
          · simp at hn
          · split at hn
            · have := hj (.inl (by assumption)); simp at hn; omega
            · split at hn
              · have := hj (.inr (by assumption))
                simp at hn
                rcases hn with rfl | rfl
                · have : pc ≠ f.code.length - 1 := fun h => absurd (hpl h) (by assumption)
                  omega
                · omega
              · simp at hn
                have : pc ≠ f.code.length - 1 := fun h => absurd (hpl h) (by assumption)
                omega
        refine ⟨hne, fun i hi => ?_⟩
        rw [low_bit] at hi
        simp at hi
        rw [Nat.testBit_or, hs i (by rw [low_bit]; simp; omega)]; rfl) (fun n a b ha hb => ⟨ha.1, sub_and ha.2 hb.2⟩) (iterS_inv hf.cok hf.p2)
  unfold fnP
  rw [if_neg, if_neg]
  · unfold endAt
    cases h1 : (sureF f)[f.code.length]? with
    | none => simp
    | some o => cases o with
      | none => simp
      | some m => exact absurd (hQ _ _ h1).1 (by omega)
  · simp only [List.any_eq_true, List.mem_range, not_exists, not_and]
    intro pc hpc
    unfold badAt
    cases hx : f.code[pc]? with
    | none => simp
    | some x =>
      cases h1 : (sureF f)[pc]? with
      | none => simp
      | some o => cases o with
        | none => simp
        | some m =>
          dsimp only
          have hq := (hQ _ _ h1).2
          have hio := hf.ins x (List.mem_of_getElem? hx)
          have hsub : Sub (readsM x (parOf p x)) m := by
            by_cases hp : pc < np
            · have := hcode pc x hx hp
              subst this
              simp only [readsM, true_or, if_true]
              exact sub_zero _
            · have hmin : min (f.params.toNat + pc) f.regs.toNat = f.regs.toNat := by omega
              rw [hmin] at hq
              exact (reads_low hio _).trans hq
          rw [sub_mask hsub.and]; simp
end Tier
namespace Go.Proofs.YtnbopmlemddakaaDoor
open Go.RowKit Tier
/-- A right program out of raw numbers. -/
def mkP (l : List Fnc) : List Fnc := if checkP (mkProg l false) = 0 then mkProg l false else mkProg l true
theorem full_right (l : List Fnc) : checkP (mkProg l true) = 0 := by
  have hp := progE_mk l true
  have ho := prog_ok hp
  unfold checkP
  rw [if_neg (by simp [hp])]
  apply firstE_none
  intro y hy
  obtain ⟨f, hf, rfl⟩ := List.mem_map.1 hy
  have hfo := ho.fn f hf
  rw [mkProg_length] at hfo
  obtain ⟨g, rfl⟩ := mkProg_mem hf
  exact full_ok _ _ _ _ _ hfo
theorem mkP_right (l : List Fnc) : checkP (mkP l) = 0 := by
  unfold mkP
  split
  · assumption
  · exact full_right l
theorem mkP_length (l : List Fnc) : (mkP l).length = funcsN l := by
  unfold mkP
  split <;> exact mkProg_length _ _
end Go.Proofs.YtnbopmlemddakaaDoor
