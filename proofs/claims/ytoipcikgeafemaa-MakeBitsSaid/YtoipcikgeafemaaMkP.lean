/-
  Plain laws of step.Make: what is made by each op, as numbers and as 64 bits, and what the statements MakeLaws to MakeLess say of it. No program is in sight.
-/
import Derived.Test.YtoipcikgeafemaaLib
namespace Tier
open Go Go.RowKit
/-- A truth as a number. -/
def flagI (c : Bool) : Int := if c then 1 else 0
/-- What an op makes. -/
def mk (op a b imm : Int) : Int :=
  if op = 1 then imm else if op = 2 then wrap64 (a + b) else if op = 3 then wrap64 (a - b) else if op = 4 then wrap64 (a * b)
  else if op = 5 then (if b = 0 then 0 else wrap64 (a.tdiv b)) else if op = 6 then bits .and .i64 a b else if op = 7 then bits .or .i64 a b else if op = 8 then bits .xor .i64 a b
  else if op = 9 then wrap64 (a * 2 ^ (b % 64).toNat) else if op = 10 then a / 2 ^ (b % 64).toNat else if op = 11 then flagI (decide (a < b)) else if op = 12 then flagI (a == b) else 0
/-- Whether it makes one. -/
def mkOk (op b : Int) : Bool := decide (1 ≤ op) && decide (op ≤ 12) && !(op == 5 && b == 0)
def mkErr (op b : Int) : Int := if 1 ≤ op ∧ op ≤ 12 then (if op = 5 ∧ b = 0 then 9 else 0) else 3
def pickedI (n many : Int) : Int := (if n < 0 then -(n + 1) else n) % many
theorem wrap64_zero : wrap64 0 = 0 := by unfold wrap64; omega
theorem ret_int {k : IntKind} {a b : Int} (h : a = b) : Ending.returned (.int k a) = .returned (.int k b) := by rw [h]

theorem mk1 (a b i : Int) : mk 1 a b i = i := rfl
theorem mk2 (a b i : Int) : mk 2 a b i = (V a + V b).toInt := by show wrap64 _ = _; rw [wrap64_toInt, V_add]
theorem mk3 (a b i : Int) : mk 3 a b i = (V a - V b).toInt := by show wrap64 _ = _; rw [wrap64_toInt, V_sub]
theorem mk4 (a b i : Int) : mk 4 a b i = (V a * V b).toInt := by show wrap64 _ = _; rw [wrap64_toInt, V_mul]
theorem mk5 (a b i : Int) : mk 5 a b i = if b = 0 then 0 else wrap64 (a.tdiv b) := rfl
theorem mk6 (a b i : Int) : mk 6 a b i = (V a &&& V b).toInt := bits_and a b
theorem mk7 (a b i : Int) : mk 7 a b i = (V a ||| V b).toInt := bits_or a b
theorem mk8 (a b i : Int) : mk 8 a b i = (V a ^^^ V b).toInt := bits_xor a b
theorem mk9 (a b i : Int) : mk 9 a b i = wrap64 (a * 2 ^ (b % 64).toNat) := rfl
theorem mk10 (a b i : Int) : mk 10 a b i = a / 2 ^ (b % 64).toNat := rfl
theorem mk11 (a b i : Int) : mk 11 a b i = flagI (decide (a < b)) := rfl
theorem mk12 (a b i : Int) : mk 12 a b i = flagI (a == b) := rfl
theorem mkErr_ok (op b : Int) (h1 : 1 ≤ op) (h2 : op ≤ 12) (h3 : op ≠ 5) : (mkErr op b == 0) = true := by simp [mkErr, h1, h2, h3]

theorem picked_in (n many : Int) (h : 1 ≤ many) : 0 ≤ pickedI n many ∧ pickedI n many < many := by
  unfold pickedI; exact ⟨Int.emod_nonneg _ (by omega), Int.emod_lt_of_pos _ (by omega)⟩

/-! MakeLaws -/
theorem laws_t {a : Int} (ha : In a) (b : Int) : mk 3 (mk 2 a b 0) b 0 = a := by
  rw [mk2, mk3, V_toInt, BitVec.add_sub_cancel, ha.v]
theorem laws_y {a : Int} (ha : In a) (b : Int) : mk 8 (mk 8 a b 0) b 0 = a := by
  rw [mk8, mk8, V_toInt, BitVec.xor_assoc, BitVec.xor_self, BitVec.xor_zero, ha.v]
theorem laws_w (a b : Int) : mk 2 (mk 6 a b 0) (mk 7 a b 0) 0 = mk 2 a b 0 := by
  rw [mk6, mk7, mk2, mk2, V_toInt, V_toInt, and_add_or]
theorem laws_q (a b c : Int) : mk 4 a (mk 2 b c 0) 0 = mk 2 (mk 4 a b 0) (mk 4 a c 0) 0 := by
  rw [mk2, mk2, mk4, mk4, mk4, V_toInt, V_toInt, V_toInt, BitVec.mul_add]
theorem laws_e (a : Int) : mk 12 a a 0 = 1 := by simp [mk12, flagI]
theorem laws_c (op a b : Int) (h : op = 2 ∨ op = 4 ∨ op = 6 ∨ op = 7 ∨ op = 8 ∨ op = 12) : mk op a b 0 = mk op b a 0 := by
  rcases h with rfl | rfl | rfl | rfl | rfl | rfl
  · rw [mk2, mk2, BitVec.add_comm]
  · rw [mk4, mk4, BitVec.mul_comm]
  · rw [mk6, mk6, BitVec.and_comm]
  · rw [mk7, mk7, BitVec.or_comm]
  · rw [mk8, mk8, BitVec.xor_comm]
  · rw [mk12, mk12]; congr 1; rw [Bool.eq_iff_iff]; simp; exact eq_comm

/-! MakeBits -/
theorem V_m1 : V (-1) = BitVec.allOnes 64 := by decide
theorem bits_nx (a b : Int) : mk 8 (mk 6 a b 0) (-1) 0 = mk 7 (mk 8 a (-1) 0) (mk 8 b (-1) 0) 0 := by
  rw [mk6, mk8, mk8, mk8, mk7, V_toInt, V_toInt, V_toInt, V_m1, BitVec.xor_allOnes, BitVec.xor_allOnes, BitVec.xor_allOnes, BitVec.not_and]
theorem bits_z {a : Int} (ha : In a) : mk 6 a (-1) 0 = a := by rw [mk6, V_m1, BitVec.and_allOnes, ha.v]
theorem bits_u {a : Int} (ha : In a) : mk 7 a 0 0 = a := by
  have h : V 0 = 0#64 := by decide
  rw [mk7, h, BitVec.or_zero, ha.v]
theorem bits_v (a : Int) : mk 3 0 a 0 = mk 2 (mk 8 a (-1) 0) 1 0 := by
  have h : V 0 = 0#64 := by decide
  have h1 : V 1 = 1#64 := by decide
  rw [mk3, mk8, mk2, V_toInt, V_m1, BitVec.xor_allOnes, h, h1, BitVec.zero_sub, BitVec.neg_eq_not_add]
theorem bits_n (a : Int) : mk 6 a (mk 8 a (-1) 0) 0 = 0 := by
  rw [mk8, mk6, V_toInt, V_m1, BitVec.xor_allOnes, BitVec.and_not_self]; decide

/-! MakeShifts -/
theorem sh_d (a : Int) : mk 9 a 1 0 = mk 2 a a 0 := by
  show wrap64 _ = wrap64 _; congr 1; show a * 2 ^ 1 = _; omega
theorem sh_x (a k : Int) : mk 9 a (k + 64) 0 = mk 9 a k 0 := by rw [mk9, mk9, show (k + 64) % 64 = k % 64 by omega]
theorem sh_u (a k : Int) : mk 10 a (k - 64) 0 = mk 10 a k 0 := by rw [mk10, mk10, show (k - 64) % 64 = k % 64 by omega]
theorem flag_lt (a b : Int) : mk 11 a b 0 = if a < b then 1 else 0 := by simp [mk11, flagI]
theorem sh_h {a : Int} (ha : In a) : mk 10 a 63 0 = - mk 11 a 0 0 := by
  unfold In at ha
  rw [mk10, flag_lt]
  have h : (63 % 64 : Int).toNat = 63 := by decide
  rw [h]; simp only [Int.reducePow]
  split <;> omega
theorem sh_neg (a k : Int) : (mk 10 a k 0 < 0) ↔ a < 0 := by
  rw [mk10]
  have hp : (0 : Int) < 2 ^ (k % 64).toNat := Int.pow_pos (by omega)
  rw [Int.ediv_lt_iff_lt_mul hp, Int.zero_mul]

/-! MakeOrders -/
theorem ord_sum (a b : Int) : mk 11 a b 0 + mk 11 b a 0 + mk 12 a b 0 = 1 := by
  rw [flag_lt, flag_lt, mk12]; unfold flagI
  by_cases h : a = b
  · subst h; simp
  · simp only [beq_iff_eq, h, if_false]; split <;> split <;> omega
theorem flag_01 (c : Bool) : 0 ≤ flagI c ∧ flagI c ≤ 1 := by cases c <;> decide

/-! MakeLess -/
theorem w_in {n : Int} (h : In n) : wrap64 n = n := by rw [wrap64_toInt, h.v]
theorem less_q (x y z : Int) (hx : 0 ≤ x ∧ x < 1099511627776) (hy : 0 ≤ y ∧ y < 1099511627776) (hz : 0 ≤ z ∧ z < 1099511627776) : mk 11 (mk 2 x z 0) (mk 2 y z 0) 0 = mk 11 x y 0 := by
  have e1 : mk 2 x z 0 = x + z := w_in (by unfold In; omega)
  have e2 : mk 2 y z 0 = y + z := w_in (by unfold In; omega)
  rw [e1, e2, flag_lt, flag_lt]; split <;> split <;> omega
theorem less_r (x y : Int) (hx : 0 ≤ x ∧ x < 1099511627776) (hy : 0 ≤ y ∧ y < 1099511627776) : mk 11 (mk 3 x y 0) 0 0 = mk 11 x y 0 := by
  have e1 : mk 3 x y 0 = x - y := w_in (by unfold In; omega)
  rw [e1, flag_lt, flag_lt]; split <;> split <;> omega
theorem less_h (x : Int) (hx : 0 ≤ x ∧ x < 1099511627776) : mk 10 (mk 4 x 2 0) 1 0 = x := by
  have e1 : mk 4 x 2 0 = x * 2 := w_in (by unfold In; omega)
  rw [e1, mk10]; show x * 2 / 2 ^ 1 = x; omega

/-! MakeDivides -/
theorem div_rest (a b : Int) (ha : In a) (hb : In b) (h0 : b ≠ 0) : mk 3 a (mk 4 (mk 5 a b 0) b 0) 0 = a.tmod b := by
  rw [mk3, mk4, V_toInt, mk5, if_neg h0]
  have h1 : V (wrap64 (a.tdiv b)) = V (a.tdiv b) := by rw [wrap64_toInt, V_toInt]
  rw [h1, ← V_mul, ← V_sub]
  have h2 : a - a.tdiv b * b = a.tmod b := by have := Int.mul_tdiv_add_tmod a b; rw [Int.mul_comm] at this; omega
  rw [h2]
  refine In.v ?_
  unfold In at *
  by_cases hp : 0 < b
  · have := Int.tmod_lt_of_pos a hp
    have h3 : -b < a.tmod b := Int.lt_tmod_of_pos a hp
    omega
  · have h4 : a.tmod b = a.tmod (-b) := (Int.tmod_neg ..).symm
    have := Int.tmod_lt_of_pos a (show 0 < -b by omega)
    have h3 : -(-b) < a.tmod (-b) := Int.lt_tmod_of_pos a (by omega)
    omega
theorem div_bounds (a b : Int) (h0 : b ≠ 0) : (0 < b → -b < a.tmod b ∧ a.tmod b < b) ∧ (b < 0 → b < a.tmod b ∧ a.tmod b < -b) := by
  refine ⟨fun hp => ⟨Int.lt_tmod_of_pos a hp, Int.tmod_lt_of_pos a hp⟩, fun hn => ?_⟩
  have h4 : a.tmod b = a.tmod (-b) := (Int.tmod_neg ..).symm
  rw [h4]
  exact ⟨by have := Int.lt_tmod_of_pos a (show 0 < -b by omega); omega, Int.tmod_lt_of_pos a (by omega)⟩
theorem div_sign (a b : Int) (h : a.tmod b ≠ 0) : (a.tmod b < 0) ↔ a < 0 := by
  by_cases ha : 0 ≤ a
  · have := Int.tmod_nonneg b ha; omega
  · have := Int.tmod_nonneg b (show 0 ≤ -a by omega); rw [Int.neg_tmod] at this; omega
end Tier
