/-
  Plain law: a program whose first function has one wrong instruction more is refused. No program is in sight.
-/
import Derived.Test.YtmnlbkdkpgfomaaDoorUn
namespace Tier
open Go Go.RowKit
theorem insE_more {x : Ins} {regs n funcs : Int} (h : insE x regs n funcs = 0) : insE x regs (n + 1) funcs = 0 := by
  obtain ⟨h1, h2, h3⟩ := insE_kind h
  obtain ⟨d, a, b, i⟩ := insH_parts h3
  rw [insE_op h1 h2]
  refine insH_ok d a b ?_
  rcases i with i | i | i | i
  · exact .inl i
  · exact .inr (.inl ⟨i.1, i.2.1, by omega⟩)
  · exact .inr (.inr (.inl i))
  · exact .inr (.inr (.inr i))
theorem code_refused {f f' : Fnc} {p : List Fnc} {x : Ins} (h : progE (f :: p) = 0) (hl : f.code.length < 40) (e1 : f'.params = f.params) (e2 : f'.regs = f.regs) (e3 : f'.code = f.code ++ [x]) (e : Int) (he : e ≠ 0)
    (hx : insE x f.regs (f.code.length + 1 : Nat) (p.length + 1 : Nat) = e) : progE (f' :: p) = e := by
  have ho := prog_ok h
  have hfo := ho.fn f (by simp)
  have hl1 := ho.l1
  have hl2 := ho.l2
  have h1 := hfo.r1
  have h2 := hfo.r2
  have h3 := hfo.p1
  have h4 := hfo.p2
  have h5 := hfo.p3
  have hc := hfo.c1
  have hall := h
  simp only [List.length_cons] at *
  unfold progE at hall ⊢
  rw [List.length_cons, if_neg (by omega)] at hall
  rw [List.length_cons, if_neg (by omega)]
  have hf0 : fnE f (p.length + 1 : Nat) = 0 := firstE_all hall _ (by simp)
  have hins : ∀ y ∈ f.code, insE y f.regs f.code.length (p.length + 1 : Nat) = 0 := by
    rw [fnE_code (by simp [wi]; omega) (by simp [wi]; split <;> omega) (by omega) (by omega)] at hf0
    exact fun y hy => firstE_all hf0 _ (List.mem_map.2 ⟨y, hy, rfl⟩)
  rw [List.map_cons, firstE_cons]
  have key : fnE f' (p.length + 1 : Nat) = e := by
    have hlen : f'.code.length = f.code.length + 1 := by rw [e3]; simp
    rw [fnE_code (by rw [e2]; simp [wi]; omega) (by rw [e1, e2]; simp [wi]; split <;> omega) (by omega) (by omega), hlen, e2, e3, List.map_append, List.map_cons, List.map_nil, hx]
    apply firstE_append
    intro y hy
    obtain ⟨z, hz, rfl⟩ := List.mem_map.1 hy
    have := insE_more (hins z hz)
    push_cast at this ⊢
    exact this
  rw [key, if_pos he]
theorem insH_dst {h : Int} {x : Ins} {regs n funcs : Int} (hd : regB x.dst (bits .and .i64 h 1) regs = false) : insH h x regs n funcs = 2 := if_pos hd
theorem insH_a {h : Int} {x : Ins} {regs n funcs : Int} (hd : regB x.dst (bits .and .i64 h 1) regs = true) (ha : regB x.a (bits .and .i64 h 2) regs = false) : insH h x regs n funcs = 2 := by
  unfold insH; rw [if_neg (by simp [hd]), if_pos ha]
theorem insH_imm {h : Int} {x : Ins} {regs n funcs : Int} (hd : regB x.dst (bits .and .i64 h 1) regs = true) (ha : regB x.a (bits .and .i64 h 2) regs = true) (hb : regB x.b (bits .and .i64 h 4) regs = true)
    (h8 : bits .and .i64 h 8 = 0) (h16 : bits .and .i64 h 16 = 0 ∨ wi x.imm 0 (n - 1) = false) (h32 : bits .and .i64 h 32 = 0 ∨ wi x.imm 0 (funcs - 1) = false) (h48 : ¬ (bits .and .i64 h 48 = 0 ∧ x.imm = 0)) : insH h x regs n funcs = 2 := by
  unfold insH
  rw [if_neg (by simp [hd]), if_neg (by simp [ha]), if_neg (by simp [hb]), if_neg (by simp [h8]), if_neg, if_neg, if_neg h48]
  · rintro ⟨a, b⟩; rcases h32 with h | h
    · exact a h
    · rw [h] at b; simp at b
  · rintro ⟨a, b⟩; rcases h16 with h | h
    · exact a h
    · rw [h] at b; simp at b
def badIns (k : Nat) (regs len funcs : Int) : Ins :=
  if k = 0 then ⟨1, regs, 0, 0, 0⟩ else if k = 1 then ⟨15, 0, 0, 0, len + 1⟩ else if k = 2 then ⟨17, 0, 0, 0, funcs⟩ else if k = 3 then ⟨19, 0, -1, 0, 0⟩ else if k = 4 then ⟨15, 0, 1, 0, 0⟩ else ⟨2, 0, 0, 0, 1⟩
theorem bad_range (k : Nat) (hk : k < 6) (regs len funcs : Int) (h1 : 1 ≤ regs) : insE (badIns k regs len funcs) regs (len + 1) funcs = 2 := by
  have hc : k = 0 ∨ k = 1 ∨ k = 2 ∨ k = 3 ∨ k = 4 ∨ k = 5 := by omega
  have one0 : ∀ is : Int, is ≠ 0 → regB 0 is regs = true := fun is h => regB_one h (by omega) (by omega)
  rcases hc with rfl | rfl | rfl | rfl | rfl | rfl <;> simp only [badIns, Nat.reduceEqDiff, if_true, if_false] <;> rw [insE_op (by simp) (by simp)]
  · change insH (hasOf 1) _ _ _ _ = 2
    refine insH_dst ?_
    have : (bits .and .i64 (hasOf 1) 1) ≠ 0 := by decide +kernel
    dsimp only
    unfold regB; rw [if_neg this]; simp [wi]; omega
  · change insH (hasOf 15) _ _ _ _ = 2
    refine insH_imm (regB_zero (by decide +kernel)) (regB_zero (by decide +kernel)) (regB_zero (by decide +kernel)) (by decide +kernel) (.inr ?_) (.inl (by decide +kernel)) ?_
    · simp [wi]; omega
    · rintro ⟨a, b⟩; exact absurd a (by decide +kernel)
  · change insH (hasOf 17) _ _ _ _ = 2
    refine insH_imm (one0 _ (by decide +kernel)) (one0 _ (by decide +kernel)) (one0 _ (by decide +kernel)) (by decide +kernel) (.inl (by decide +kernel)) (.inr ?_) ?_
    · simp [wi]; omega
    · rintro ⟨a, b⟩; exact absurd a (by decide +kernel)
  · change insH (hasOf 19) _ _ _ _ = 2
    refine insH_a (regB_zero (by decide +kernel)) ?_
    have : (bits .and .i64 (hasOf 19) 2) ≠ 0 := by decide +kernel
    dsimp only
    unfold regB; rw [if_neg this]; simp [wi]
  · change insH (hasOf 15) _ _ _ _ = 2
    refine insH_a (regB_zero (by decide +kernel)) ?_
    have : (bits .and .i64 (hasOf 15) 2) = 0 := by decide +kernel
    dsimp only
    unfold regB; rw [if_pos this]; rfl
  · change insH (hasOf 2) _ _ _ _ = 2
    refine insH_imm (one0 _ (by decide +kernel)) (one0 _ (by decide +kernel)) (one0 _ (by decide +kernel)) (by decide +kernel) (.inl (by decide +kernel)) (.inl (by decide +kernel)) ?_
    rintro ⟨a, b⟩; simp at b
theorem bad_kind (op : Int) (h : 19 < op) (regs n funcs : Int) : insE ⟨op, 0, 0, 0, 0⟩ regs n funcs = 3 := by
  unfold insE; rw [if_pos (by simp [wi]; omega)]
end Tier
