/-
  Plain law: what a program in shape is: bounds of its functions and instructions. No program is in sight.
-/
import Derived.Test.YtnbopmlemddakaaDoorOk
namespace Tier
open Go Go.RowKit
theorem firstE_all {l : List Int} (h : firstE l = 0) : ∀ x ∈ l, x = 0 := by
  induction l with
  | nil => intro x hx; simp at hx
  | cons y l ih =>
    rw [firstE_cons] at h
    by_cases hy : y = 0
    · rw [if_neg (by simp [hy])] at h
      intro x hx
      rcases List.mem_cons.1 hx with rfl | hx
      · exact hy
      · exact ih h x hx
    · rw [if_pos hy] at h
      exact absurd h hy
theorem regB_in {n is regs : Int} (h : regB n is regs = true) (hr : 1 ≤ regs) : 0 ≤ n ∧ n < regs := by
  unfold regB at h
  by_cases h0 : is = 0
  · rw [if_pos h0] at h
    simp at h; subst h
    exact ⟨Int.le_refl _, by omega⟩
  · rw [if_neg h0] at h
    simp [wi] at h; omega
theorem regB_nil {n is regs : Int} (h : regB n is regs = true) (h0 : is = 0) : n = 0 := by
  unfold regB at h
  rw [if_pos h0] at h
  simpa using h
/-- An instruction in shape. -/
structure InsOk (x : Ins) (regs n funcs : Int) : Prop where
  op1 : 1 ≤ x.op
  op2 : x.op ≤ 19
  dst1 : 0 ≤ x.dst
  dst2 : x.dst < regs
  a1 : 0 ≤ x.a
  a2 : x.a < regs
  b1 : 0 ≤ x.b
  b2 : x.b < regs
  jump : x.op = 15 ∨ x.op = 16 → 0 ≤ x.imm ∧ x.imm < n
  call : x.op = 17 → 0 ≤ x.imm ∧ x.imm < funcs
  noImm : x.op ≠ 1 → x.op ≠ 15 → x.op ≠ 16 → x.op ≠ 17 → x.imm = 0
  noDst : x.op = 14 ∨ x.op = 15 ∨ x.op = 16 ∨ x.op = 19 → x.dst = 0
  noA : x.op = 1 ∨ x.op = 15 → x.a = 0
  noB : x.op = 1 ∨ x.op = 13 ∨ x.op = 15 ∨ x.op = 16 ∨ x.op = 18 ∨ x.op = 19 → x.b = 0
theorem insE_kind {x : Ins} {regs n funcs : Int} (h : insE x regs n funcs = 0) : 1 ≤ x.op ∧ x.op ≤ 19 ∧ insH (hasOf x.op.toNat) x regs n funcs = 0 := by
  unfold insE at h
  by_cases hw : wi x.op 1 19 = false
  · rw [if_pos hw] at h; cases h
  · rw [if_neg hw] at h
    have : wi x.op 1 19 = true := by simpa using hw
    simp [wi] at this
    exact ⟨this.1, this.2, h⟩
theorem insH_parts {h : Int} {x : Ins} {regs n funcs : Int} (k : insH h x regs n funcs = 0) : regB x.dst (bits .and .i64 h 1) regs = true ∧ regB x.a (bits .and .i64 h 2) regs = true ∧ regB x.b (bits .and .i64 h 4) regs = true ∧
    (bits .and .i64 h 8 ≠ 0 ∨ (bits .and .i64 h 16 ≠ 0 ∧ 0 ≤ x.imm ∧ x.imm < n) ∨ (bits .and .i64 h 32 ≠ 0 ∧ 0 ≤ x.imm ∧ x.imm < funcs) ∨ (bits .and .i64 h 48 = 0 ∧ x.imm = 0)) := by
  unfold insH at k
  by_cases d : regB x.dst (bits .and .i64 h 1) regs = false
  · rw [if_pos d] at k; cases k
  rw [if_neg d] at k
  by_cases a : regB x.a (bits .and .i64 h 2) regs = false
  · rw [if_pos a] at k; cases k
  rw [if_neg a] at k
  by_cases b : regB x.b (bits .and .i64 h 4) regs = false
  · rw [if_pos b] at k; cases k
  rw [if_neg b] at k
  refine ⟨by simpa using d, by simpa using a, by simpa using b, ?_⟩
  by_cases c1 : bits .and .i64 h 8 ≠ 0
  · exact .inl c1
  rw [if_neg c1] at k
  by_cases c2 : bits .and .i64 h 16 ≠ 0 ∧ wi x.imm 0 (n - 1) = true
  · have := c2.2
    simp [wi] at this
    exact .inr (.inl ⟨c2.1, by omega, by omega⟩)
  rw [if_neg c2] at k
  by_cases c3 : bits .and .i64 h 32 ≠ 0 ∧ wi x.imm 0 (funcs - 1) = true
  · have := c3.2
    simp [wi] at this
    exact .inr (.inr (.inl ⟨c3.1, by omega, by omega⟩))
  rw [if_neg c3] at k
  by_cases c4 : bits .and .i64 h 48 = 0 ∧ x.imm = 0
  · exact .inr (.inr (.inr c4))
  · rw [if_neg c4] at k; cases k
theorem ins_ok {x : Ins} {regs n funcs : Int} (h : insE x regs n funcs = 0) (hr : 1 ≤ regs) : InsOk x regs n funcs := by
  obtain ⟨h1, h2, h3⟩ := insE_kind h
  obtain ⟨d, a, b, i⟩ := insH_parts h3
  have d1 := regB_in d hr
  have a1 := regB_in a hr
  have b1 := regB_in b hr
  have d0 := regB_nil d
  have a0 := regB_nil a
  have b0 := regB_nil b
  clear d a b h h3
  obtain ⟨op, dst, xa, xb, imm⟩ := x
  dsimp only at *
  have hop : op = 1 ∨ op = 2 ∨ op = 3 ∨ op = 4 ∨ op = 5 ∨ op = 6 ∨ op = 7 ∨ op = 8 ∨ op = 9 ∨ op = 10 ∨ op = 11 ∨ op = 12 ∨ op = 13 ∨ op = 14 ∨ op = 15 ∨ op = 16 ∨ op = 17 ∨ op = 18 ∨ op = 19 := by omega
  refine ⟨h1, h2, d1.1, d1.2, a1.1, a1.2, b1.1, b1.2, ?_, ?_, ?_, ?_, ?_, ?_⟩ <;> dsimp only
  · rintro (rfl | rfl) <;>
    · rcases i with i | i | i | i
      · exact absurd (by decide +kernel) i
      · exact i.2
      · exact absurd (by decide +kernel) i.1
      · exact absurd i.1 (by decide +kernel)
  · rintro rfl
    rcases i with i | i | i | i
    · exact absurd (by decide +kernel) i
    · exact absurd (by decide +kernel) i.1
    · exact i.2
    · exact absurd i.1 (by decide +kernel)
  · intro n1 n2 n3 n4
    rcases i with i | i | i | i
    · exfalso
      rcases hop with rfl | rfl | rfl | rfl | rfl | rfl | rfl | rfl | rfl | rfl | rfl | rfl | rfl | rfl | rfl | rfl | rfl | rfl | rfl <;> first | exact n1 rfl | exact i (by decide +kernel)
    · exfalso
      rcases hop with rfl | rfl | rfl | rfl | rfl | rfl | rfl | rfl | rfl | rfl | rfl | rfl | rfl | rfl | rfl | rfl | rfl | rfl | rfl <;> first | exact n2 rfl | exact n3 rfl | exact i.1 (by decide +kernel)
    · exfalso
      rcases hop with rfl | rfl | rfl | rfl | rfl | rfl | rfl | rfl | rfl | rfl | rfl | rfl | rfl | rfl | rfl | rfl | rfl | rfl | rfl <;> first | exact n4 rfl | exact i.1 (by decide +kernel)
    · exact i.2
  · rintro (rfl | rfl | rfl | rfl) <;> exact d0 (by decide +kernel)
  · rintro (rfl | rfl) <;> exact a0 (by decide +kernel)
  · rintro (rfl | rfl | rfl | rfl | rfl | rfl) <;> exact b0 (by decide +kernel)
/-- A function in shape. -/
structure FnOk (f : Fnc) (funcs : Int) : Prop where
  r1 : 1 ≤ f.regs
  r2 : f.regs ≤ 12
  p1 : 0 ≤ f.params
  p2 : f.params ≤ 2
  p3 : f.params ≤ f.regs
  c1 : 1 ≤ f.code.length
  c2 : f.code.length ≤ 40
  ins : ∀ x ∈ f.code, InsOk x f.regs f.code.length funcs
theorem fn_ok {f : Fnc} {funcs : Int} (h : fnE f funcs = 0) : FnOk f funcs := by
  unfold fnE at h
  by_cases c : wi f.regs 1 12 = false ∨ wi f.params 0 (if f.regs < 2 then f.regs else 2) = false
  · rw [if_pos c] at h; cases h
  rw [if_neg c] at h
  by_cases d : f.code.length < 1 ∨ 40 < f.code.length
  · rw [if_pos d] at h; cases h
  rw [if_neg d] at h
  have c1 : wi f.regs 1 12 = true := by
    cases k : wi f.regs 1 12
    · exact absurd (.inl k) c
    · rfl
  have c2 : wi f.params 0 (if f.regs < 2 then f.regs else 2) = true := by
    cases k : wi f.params 0 (if f.regs < 2 then f.regs else 2)
    · exact absurd (.inr k) c
    · rfl
  simp [wi] at c1 c2
  have hp : f.params ≤ 2 ∧ f.params ≤ f.regs := by
    have := c2.2
    split at this <;> omega
  exact ⟨c1.1, c1.2, c2.1, hp.1, hp.2, by omega, by omega, fun x hx => ins_ok (firstE_all h _ (List.mem_map.2 ⟨x, hx, rfl⟩)) c1.1⟩
/-- A program in shape. -/
structure ProgOk (p : List Fnc) : Prop where
  l1 : 1 ≤ p.length
  l2 : p.length ≤ 4
  fn : ∀ f ∈ p, FnOk f p.length
theorem prog_ok {p : List Fnc} (h : progE p = 0) : ProgOk p := by
  unfold progE at h
  by_cases d : p.length < 1 ∨ 4 < p.length
  · rw [if_pos d] at h; cases h
  rw [if_neg d] at h
  exact ⟨by omega, by omega, fun f hf => fn_ok (firstE_all h _ (List.mem_map.2 ⟨f, hf, rfl⟩))⟩
end Tier
