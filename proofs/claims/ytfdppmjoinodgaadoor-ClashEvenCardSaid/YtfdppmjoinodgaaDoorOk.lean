/-
  Plain law: a program out of raw numbers is in shape: code.go's answer is 0. No program is in sight.
-/
import Derived.Test.YtfdppmjoinodgaaDoorShS
namespace Tier
open Go Go.RowKit
theorem regB_one {n regs : Int} {is : Int} (h : is ≠ 0) (h0 : 0 ≤ n) (h1 : n < regs) : regB n is regs = true := by
  unfold regB; rw [if_neg h]; simp [wi]; omega
theorem regB_zero {regs is : Int} (h : is = 0) : regB 0 is regs = true := by unfold regB; rw [if_pos h]; rfl
/-- What an op has, as truths: Dst, A, B; and its number: any, a target, a function, none. -/
theorem insH_ok {h : Int} {x : Ins} {regs n funcs : Int} (hd : regB x.dst (bits .and .i64 h 1) regs = true) (ha : regB x.a (bits .and .i64 h 2) regs = true) (hb : regB x.b (bits .and .i64 h 4) regs = true)
    (hi : bits .and .i64 h 8 ≠ 0 ∨ (bits .and .i64 h 16 ≠ 0 ∧ 0 ≤ x.imm ∧ x.imm < n) ∨ (bits .and .i64 h 32 ≠ 0 ∧ 0 ≤ x.imm ∧ x.imm < funcs) ∨ (bits .and .i64 h 48 = 0 ∧ x.imm = 0)) : insH h x regs n funcs = 0 := by
  unfold insH
  rw [if_neg (by simp [hd]), if_neg (by simp [ha]), if_neg (by simp [hb])]
  by_cases c1 : bits .and .i64 h 8 ≠ 0
  · rw [if_pos c1]
  · rw [if_neg c1]
    by_cases c2 : bits .and .i64 h 16 ≠ 0 ∧ wi x.imm 0 (n - 1) = true
    · rw [if_pos c2]
    · rw [if_neg c2]
      by_cases c3 : bits .and .i64 h 32 ≠ 0 ∧ wi x.imm 0 (funcs - 1) = true
      · rw [if_pos c3]
      · rw [if_neg c3]
        rcases hi with hi | ⟨hi, h0, h1⟩ | ⟨hi, h0, h1⟩ | hi
        · exact absurd hi c1
        · exact absurd ⟨hi, by simp [wi]; omega⟩ c2
        · exact absurd ⟨hi, by simp [wi]; omega⟩ c3
        · rw [if_pos hi]
theorem insE_op {x : Ins} {regs n funcs : Int} (h0 : 1 ≤ x.op) (h1 : x.op ≤ 19) : insE x regs n funcs = insH (hasOf x.op.toNat) x regs n funcs := by
  unfold insE; rw [if_neg (by simp [wi]; omega)]
theorem insE_raw (x : Ins) (regs places funcs : Int) (h1 : 1 ≤ regs) (h2 : 1 ≤ places) (h3 : 1 ≤ funcs) : insE (rawIns x regs places funcs) regs places funcs = 0 := by
  have p0 := picked_in x.op 19 (by omega)
  have p1 := picked_in x.dst regs h1
  have p2 := picked_in x.a regs h1
  have p3 := picked_in x.b regs h1
  have p4 := picked_in x.imm places h2
  have p5 := picked_in x.imm funcs h3
  unfold rawIns
  generalize pickedI x.op 19 = k at *
  have hk : k = 0 ∨ k = 1 ∨ k = 2 ∨ k = 3 ∨ k = 4 ∨ k = 5 ∨ k = 6 ∨ k = 7 ∨ k = 8 ∨ k = 9 ∨ k = 10 ∨ k = 11 ∨ k = 12 ∨ k = 13 ∨ k = 14 ∨ k = 15 ∨ k = 16 ∨ k = 17 ∨ k = 18 := by omega
  rcases hk with rfl | rfl | rfl | rfl | rfl | rfl | rfl | rfl | rfl | rfl | rfl | rfl | rfl | rfl | rfl | rfl | rfl | rfl | rfl <;>
  · simp only [Int.reduceAdd, Int.reduceEq, Int.reduceLE, if_true, if_false, or_false, or_true]
    rw [insE_op (by simp) (by simp)]
    refine insH_ok ?_ ?_ ?_ ?_ <;> dsimp only
    · first | exact regB_one (by decide +kernel) p1.1 p1.2 | exact regB_zero (by decide +kernel)
    · first | exact regB_one (by decide +kernel) p2.1 p2.2 | exact regB_zero (by decide +kernel)
    · first | exact regB_one (by decide +kernel) p3.1 p3.2 | exact regB_zero (by decide +kernel)
    · first | exact .inl (by decide +kernel) | exact .inr (.inl ⟨by decide +kernel, p4.1, p4.2⟩) | exact .inr (.inr (.inl ⟨by decide +kernel, p5.1, p5.2⟩)) | exact .inr (.inr (.inr ⟨by decide +kernel, rfl⟩))
theorem insE_set (d m regs n funcs : Int) (h0 : 0 ≤ d) (h1 : d < regs) : insE ⟨1, d, 0, 0, m⟩ regs n funcs = 0 := by
  rw [insE_op (by simp) (by simp)]
  refine insH_ok ?_ ?_ ?_ ?_ <;> dsimp only
  · exact regB_one (by decide +kernel) h0 h1
  · exact regB_zero (by decide +kernel)
  · exact regB_zero (by decide +kernel)
  · exact .inl (by decide +kernel)
theorem insE_ret (a regs n funcs : Int) (h0 : 0 ≤ a) (h1 : a < regs) : insE ⟨19, 0, a, 0, 0⟩ regs n funcs = 0 := by
  rw [insE_op (by simp) (by simp)]
  refine insH_ok ?_ ?_ ?_ ?_ <;> dsimp only
  · exact regB_zero (by decide +kernel)
  · exact regB_one (by decide +kernel) h0 h1
  · exact regB_zero (by decide +kernel)
  · exact .inr (.inr (.inr ⟨by decide +kernel, rfl⟩))
/-- The bounds of a function out of raw numbers. -/
theorem mkFn_params (bp br : Int) (raws : List Ins) (funcs : Int) (all : Bool) : 0 ≤ (mkFn bp br raws funcs all).params ∧ (mkFn bp br raws funcs all).params ≤ 2 ∧ (mkFn bp br raws funcs all).params ≤ (mkFn bp br raws funcs all).regs ∧
    1 ≤ (mkFn bp br raws funcs all).regs ∧ (mkFn bp br raws funcs all).regs ≤ 12 := by
  have p0 := picked_in bp 3 (by omega)
  have p1 := picked_in br 11 (by omega)
  simp only [mkFn]
  split <;> omega
theorem mkFn_regs (bp br : Int) (raws : List Ins) (funcs : Int) (all : Bool) : (if pickedI bp 3 < 1 then 1 else pickedI bp 3) + pickedI br 11 = (mkFn bp br raws funcs all).regs := rfl
def preOf (bp br : Int) (all : Bool) : List Ins := if all then preIns (pickedI bp 3) ((if pickedI bp 3 < 1 then 1 else pickedI bp 3) + pickedI br 11) else []
theorem preOf_le (bp br : Int) (all : Bool) : (preOf bp br all).length ≤ 12 := by
  have p0 := picked_in bp 3 (by omega)
  have p1 := picked_in br 11 (by omega)
  unfold preOf
  cases all
  · simp
  · simp only [if_true, preIns, List.length_map, List.length_range]; split <;> omega
theorem mkFn_code (bp br : Int) (raws : List Ins) (funcs : Int) (all : Bool) : (mkFn bp br raws funcs all).code =
    preOf bp br all ++ (raws.take 22).map (fun x => rawIns x (mkFn bp br raws funcs all).regs ((preOf bp br all).length + (min raws.length 22 : Nat) + 2) funcs) ++ [⟨1, 0, 0, 0, 7⟩, ⟨19, 0, 0, 0, 0⟩] := rfl
theorem mkFn_len (bp br : Int) (raws : List Ins) (funcs : Int) (all : Bool) : (mkFn bp br raws funcs all).code.length = (preOf bp br all).length + min raws.length 22 + 2 := by
  rw [mkFn_code]; simp; omega
theorem mkFn_size (bp br : Int) (raws : List Ins) (funcs : Int) (all : Bool) : 2 ≤ (mkFn bp br raws funcs all).code.length ∧ (mkFn bp br raws funcs all).code.length ≤ 36 := by
  have := preOf_le bp br all
  rw [mkFn_len]; omega
theorem mkFn_ins (bp br : Int) (raws : List Ins) (funcs : Int) (all : Bool) (hf : 1 ≤ funcs) : ∀ x ∈ (mkFn bp br raws funcs all).code, insE x (mkFn bp br raws funcs all).regs (mkFn bp br raws funcs all).code.length funcs = 0 := by
  have hl := mkFn_len bp br raws funcs all
  have hp := mkFn_params bp br raws funcs all
  have hr := mkFn_regs bp br raws funcs all
  intro x hx
  rw [hl]
  rw [mkFn_code] at hx
  generalize (mkFn bp br raws funcs all).regs = R at *
  simp only [List.mem_append, List.mem_map, List.mem_cons, List.not_mem_nil, or_false] at hx
  rcases hx with (hx | ⟨y, -, rfl⟩) | rfl | rfl
  · unfold preOf at hx
    cases all
    · simp at hx
    · simp only [if_true, preIns, List.mem_map, List.mem_range] at hx
      obtain ⟨i, hi, rfl⟩ := hx
      have p0 := picked_in bp 3 (by omega)
      exact insE_set _ _ _ _ _ (by omega) (by rw [← hr]; omega)
  · exact insE_raw y R _ funcs (by omega) (by omega) hf
  · exact insE_set _ _ _ _ _ (by omega) (by omega)
  · exact insE_ret _ _ _ _ (by omega) (by omega)
theorem firstE_none {l : List Int} (h : ∀ x ∈ l, x = 0) : firstE l = 0 := firstE_zero fun j hj => by
  rw [List.getElem?_eq_getElem hj, h _ (List.getElem_mem hj)]
theorem fnE_mk (bp br : Int) (raws : List Ins) (funcs : Int) (all : Bool) (hf : 1 ≤ funcs) : fnE (mkFn bp br raws funcs all) funcs = 0 := by
  have hp := mkFn_params bp br raws funcs all
  have hs := mkFn_size bp br raws funcs all
  rw [fnE_code (by simp [wi]; omega) (by simp [wi]; split <;> omega) (by omega) (by omega)]
  apply firstE_none
  intro y hy
  obtain ⟨x, hx, rfl⟩ := List.mem_map.1 hy
  exact mkFn_ins bp br raws funcs all hf x hx
end Tier
namespace Go.Proofs.YtfdppmjoinodgaaDoor
open Go.RowKit Tier
theorem funcsN_in (l : List Fnc) : 1 ≤ funcsN l ∧ funcsN l ≤ 4 := by unfold funcsN; omega
theorem mkProg_mem {l : List Fnc} {all : Bool} {f : Fnc} (h : f ∈ mkProg l all) : ∃ g : Fnc, f = mkFn g.params g.regs g.code (funcsN l : Nat) all := by
  obtain ⟨i, -, rfl⟩ := List.mem_map.1 h
  exact ⟨rawOf l i, rfl⟩
theorem progE_mk (l : List Fnc) (all : Bool) : progE (mkProg l all) = 0 := by
  have h := funcsN_in l
  unfold progE
  rw [if_neg (by rw [mkProg_length]; omega)]
  apply firstE_none
  intro y hy
  obtain ⟨f, hf, rfl⟩ := List.mem_map.1 hy
  obtain ⟨g, rfl⟩ := mkProg_mem hf
  rw [mkProg_length]
  exact fnE_mk _ _ _ _ _ (by omega)
end Go.Proofs.YtfdppmjoinodgaaDoor
/-
  Plain law: what a program in shape is: bounds of its functions and instructions. No program is in sight.
-/
namespace Tier
open Go Go.RowKit
theorem firstE_all {l : List Int} (h : firstE l = 0) : ∀ x ∈ l, x = 0 := by
  induction l with
  | nil => intro x hx; simp at hx
  | cons y l ih =>
    rw [firstE_cons] at h
    by_cases hy : y = 0
    · rw [if_neg (by simp [hy])] at h
      intro x hx
      rcases List.mem_cons.1 hx with rfl | hx
      · exact hy
      · exact ih h x hx
    · rw [if_pos hy] at h
      exact absurd h hy
theorem regB_in {n is regs : Int} (h : regB n is regs = true) (hr : 1 ≤ regs) : 0 ≤ n ∧ n < regs := by
  unfold regB at h
  by_cases h0 : is = 0
  · rw [if_pos h0] at h
    simp at h; subst h
    exact ⟨Int.le_refl _, by omega⟩
  · rw [if_neg h0] at h
    simp [wi] at h; omega
theorem regB_nil {n is regs : Int} (h : regB n is regs = true) (h0 : is = 0) : n = 0 := by
  unfold regB at h
  rw [if_pos h0] at h
  simpa using h
/-- An instruction in shape. -/
structure InsOk (x : Ins) (regs n funcs : Int) : Prop where
  op1 : 1 ≤ x.op
  op2 : x.op ≤ 19
  dst1 : 0 ≤ x.dst
  dst2 : x.dst < regs
  a1 : 0 ≤ x.a
  a2 : x.a < regs
  b1 : 0 ≤ x.b
  b2 : x.b < regs
  jump : x.op = 15 ∨ x.op = 16 → 0 ≤ x.imm ∧ x.imm < n
  call : x.op = 17 → 0 ≤ x.imm ∧ x.imm < funcs
  noImm : x.op ≠ 1 → x.op ≠ 15 → x.op ≠ 16 → x.op ≠ 17 → x.imm = 0
  noDst : x.op = 14 ∨ x.op = 15 ∨ x.op = 16 ∨ x.op = 19 → x.dst = 0
  noA : x.op = 1 ∨ x.op = 15 → x.a = 0
  noB : x.op = 1 ∨ x.op = 13 ∨ x.op = 15 ∨ x.op = 16 ∨ x.op = 18 ∨ x.op = 19 → x.b = 0
theorem insE_kind {x : Ins} {regs n funcs : Int} (h : insE x regs n funcs = 0) : 1 ≤ x.op ∧ x.op ≤ 19 ∧ insH (hasOf x.op.toNat) x regs n funcs = 0 := by
  unfold insE at h
  by_cases hw : wi x.op 1 19 = false
  · rw [if_pos hw] at h; cases h
  · rw [if_neg hw] at h
    have : wi x.op 1 19 = true := by simpa using hw
    simp [wi] at this
    exact ⟨this.1, this.2, h⟩
theorem insH_parts {h : Int} {x : Ins} {regs n funcs : Int} (k : insH h x regs n funcs = 0) : regB x.dst (bits .and .i64 h 1) regs = true ∧ regB x.a (bits .and .i64 h 2) regs = true ∧ regB x.b (bits .and .i64 h 4) regs = true ∧
    (bits .and .i64 h 8 ≠ 0 ∨ (bits .and .i64 h 16 ≠ 0 ∧ 0 ≤ x.imm ∧ x.imm < n) ∨ (bits .and .i64 h 32 ≠ 0 ∧ 0 ≤ x.imm ∧ x.imm < funcs) ∨ (bits .and .i64 h 48 = 0 ∧ x.imm = 0)) := by
  unfold insH at k
  by_cases d : regB x.dst (bits .and .i64 h 1) regs = false
  · rw [if_pos d] at k; cases k
  rw [if_neg d] at k
  by_cases a : regB x.a (bits .and .i64 h 2) regs = false
  · rw [if_pos a] at k; cases k
  rw [if_neg a] at k
  by_cases b : regB x.b (bits .and .i64 h 4) regs = false
  · rw [if_pos b] at k; cases k
  rw [if_neg b] at k
  refine ⟨by simpa using d, by simpa using a, by simpa using b, ?_⟩
  by_cases c1 : bits .and .i64 h 8 ≠ 0
  · exact .inl c1
  rw [if_neg c1] at k
  by_cases c2 : bits .and .i64 h 16 ≠ 0 ∧ wi x.imm 0 (n - 1) = true
  · have := c2.2
    simp [wi] at this
    exact .inr (.inl ⟨c2.1, by omega, by omega⟩)
  rw [if_neg c2] at k
  by_cases c3 : bits .and .i64 h 32 ≠ 0 ∧ wi x.imm 0 (funcs - 1) = true
  · have := c3.2
    simp [wi] at this
    exact .inr (.inr (.inl ⟨c3.1, by omega, by omega⟩))
  rw [if_neg c3] at k
  by_cases c4 : bits .and .i64 h 48 = 0 ∧ x.imm = 0
  · exact .inr (.inr (.inr c4))
  · rw [if_neg c4] at k; cases k
theorem ins_ok {x : Ins} {regs n funcs : Int} (h : insE x regs n funcs = 0) (hr : 1 ≤ regs) : InsOk x regs n funcs := by
  obtain ⟨h1, h2, h3⟩ := insE_kind h
  obtain ⟨d, a, b, i⟩ := insH_parts h3
  have d1 := regB_in d hr
  have a1 := regB_in a hr
  have b1 := regB_in b hr
  have d0 := regB_nil d
  have a0 := regB_nil a
  have b0 := regB_nil b
  clear d a b h h3
  obtain ⟨op, dst, xa, xb, imm⟩ := x
  dsimp only at *
  have hop : op = 1 ∨ op = 2 ∨ op = 3 ∨ op = 4 ∨ op = 5 ∨ op = 6 ∨ op = 7 ∨ op = 8 ∨ op = 9 ∨ op = 10 ∨ op = 11 ∨ op = 12 ∨ op = 13 ∨ op = 14 ∨ op = 15 ∨ op = 16 ∨ op = 17 ∨ op = 18 ∨ op = 19 := by omega
  refine ⟨h1, h2, d1.1, d1.2, a1.1, a1.2, b1.1, b1.2, ?_, ?_, ?_, ?_, ?_, ?_⟩ <;> dsimp only
  · rintro (rfl | rfl) <;>
    · rcases i with i | i | i | i
      · exact absurd (by decide +kernel) i
      · exact i.2
      · exact absurd (by decide +kernel) i.1
      · exact absurd i.1 (by decide +kernel)
  · rintro rfl
    rcases i with i | i | i | i
    · exact absurd (by decide +kernel) i
    · exact absurd (by decide +kernel) i.1
    · exact i.2
    · exact absurd i.1 (by decide +kernel)
  · intro n1 n2 n3 n4
    rcases i with i | i | i | i
    · exfalso
      rcases hop with rfl | rfl | rfl | rfl | rfl | rfl | rfl | rfl | rfl | rfl | rfl | rfl | rfl | rfl | rfl | rfl | rfl | rfl | rfl <;> first | exact n1 rfl | exact i (by decide +kernel)
    · exfalso
      rcases hop with rfl | rfl | rfl | rfl | rfl | rfl | rfl | rfl | rfl | rfl | rfl | rfl | rfl | rfl | rfl | rfl | rfl | rfl | rfl <;> first | exact n2 rfl | exact n3 rfl | exact i.1 (by decide +kernel)
    · exfalso
      rcases hop with rfl | rfl | rfl | rfl | rfl | rfl | rfl | rfl | rfl | rfl | rfl | rfl | rfl | rfl | rfl | rfl | rfl | rfl | rfl <;> first | exact n4 rfl | exact i.1 (by decide +kernel)
    · exact i.2
  · rintro (rfl | rfl | rfl | rfl) <;> exact d0 (by decide +kernel)
  · rintro (rfl | rfl) <;> exact a0 (by decide +kernel)
  · rintro (rfl | rfl | rfl | rfl | rfl | rfl) <;> exact b0 (by decide +kernel)
/-- A function in shape. -/
structure FnOk (f : Fnc) (funcs : Int) : Prop where
  r1 : 1 ≤ f.regs
  r2 : f.regs ≤ 12
  p1 : 0 ≤ f.params
  p2 : f.params ≤ 2
  p3 : f.params ≤ f.regs
  c1 : 1 ≤ f.code.length
  c2 : f.code.length ≤ 40
  ins : ∀ x ∈ f.code, InsOk x f.regs f.code.length funcs
theorem fn_ok {f : Fnc} {funcs : Int} (h : fnE f funcs = 0) : FnOk f funcs := by
  unfold fnE at h
  by_cases c : wi f.regs 1 12 = false ∨ wi f.params 0 (if f.regs < 2 then f.regs else 2) = false
  · rw [if_pos c] at h; cases h
  rw [if_neg c] at h
  by_cases d : f.code.length < 1 ∨ 40 < f.code.length
  · rw [if_pos d] at h; cases h
  rw [if_neg d] at h
  have c1 : wi f.regs 1 12 = true := by
    cases k : wi f.regs 1 12
    · exact absurd (.inl k) c
    · rfl
  have c2 : wi f.params 0 (if f.regs < 2 then f.regs else 2) = true := by
    cases k : wi f.params 0 (if f.regs < 2 then f.regs else 2)
    · exact absurd (.inr k) c
    · rfl
  simp [wi] at c1 c2
  have hp : f.params ≤ 2 ∧ f.params ≤ f.regs := by
    have := c2.2
    split at this <;> omega
  exact ⟨c1.1, c1.2, c2.1, hp.1, hp.2, by omega, by omega, fun x hx => ins_ok (firstE_all h _ (List.mem_map.2 ⟨x, hx, rfl⟩)) c1.1⟩
/-- A program in shape. -/
structure ProgOk (p : List Fnc) : Prop where
  l1 : 1 ≤ p.length
  l2 : p.length ≤ 4
  fn : ∀ f ∈ p, FnOk f p.length
theorem prog_ok {p : List Fnc} (h : progE p = 0) : ProgOk p := by
  unfold progE at h
  by_cases d : p.length < 1 ∨ 4 < p.length
  · rw [if_pos d] at h; cases h
  rw [if_neg d] at h
  exact ⟨by omega, by omega, fun f hf => fn_ok (firstE_all h _ (List.mem_map.2 ⟨f, hf, rfl⟩))⟩
end Tier
