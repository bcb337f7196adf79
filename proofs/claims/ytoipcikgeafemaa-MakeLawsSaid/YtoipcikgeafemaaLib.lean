/-
  Plain facts on 64-bit numbers: what Go's int arithmetic comes to as bit vectors of 64 bits. No program is in sight.
-/
import Derived.WalkKit
namespace Tier
open Go Go.RowKit

/-- A number as 64 bits. -/
abbrev V (n : Int) : BitVec 64 := BitVec.ofInt 64 n

theorem wrap64_toInt (n : Int) : wrap64 n = (V n).toInt := by
  rw [BitVec.toInt_ofInt]; unfold wrap64 Int.bmod; simp only [Nat.reducePow]; omega

theorem wrap_toInt (r : BitVec 64) : IntKind.i64.wrap (r.toNat : Int) = r.toInt := by
  rw [IntKind.wrap_i64, BitVec.toInt_eq_toNat_cond]
  have := r.isLt
  split <;> omega

theorem bits_and (x y : Int) : bits .and .i64 x y = (V x &&& V y).toInt := wrap_toInt _
theorem bits_or (x y : Int) : bits .or .i64 x y = (V x ||| V y).toInt := wrap_toInt _
theorem bits_xor (x y : Int) : bits .xor .i64 x y = (V x ^^^ V y).toInt := wrap_toInt _
theorem bits_andNot (x y : Int) : bits .andNot .i64 x y = (V x &&& ~~~ V y).toInt := wrap_toInt _

/-- A number of 64 bits is what its bits say. -/
def In (n : Int) : Prop := -9223372036854775808 ≤ n ∧ n ≤ 9223372036854775807
theorem In.v {n : Int} (h : In n) : (V n).toInt = n := by
  rw [BitVec.toInt_ofInt]; unfold In at h; unfold Int.bmod; simp only [Nat.reducePow]; omega
theorem in_toInt (x : BitVec 64) : In x.toInt := by
  have := x.toInt_lt; have := x.le_toInt; unfold In; simp at *; omega
theorem V_toInt (x : BitVec 64) : V x.toInt = x := BitVec.ofInt_toInt
theorem V_inj {a b : Int} (ha : In a) (hb : In b) (h : V a = V b) : a = b := by
  rw [← ha.v, ← hb.v, h]
theorem in_of_wf {n : Int} (h : (Lit.int .i64 n).wf = true) : In n := by
  simp [Lit.wf, IntKind.min, IntKind.max, IntKind.signed, IntKind.bits] at h
  exact h
theorem V_add (a b : Int) : V (a + b) = V a + V b := BitVec.ofInt_add ..
theorem V_mul (a b : Int) : V (a * b) = V a * V b := BitVec.ofInt_mul ..
theorem V_neg (a : Int) : V (-a) = - V a := by simp [V, BitVec.ofInt_neg]
theorem V_sub (a b : Int) : V (a - b) = V a - V b := by rw [Int.sub_eq_add_neg, V_add, V_neg, BitVec.sub_eq_add_neg]

theorem and63 (b : Int) : bits .and .i64 b 63 = b % 64 := by
  rw [bits_and]
  have h : (V b &&& V 63) = V (b % 64) := by
    apply BitVec.eq_of_toNat_eq
    rw [BitVec.toNat_and]
    have h1 : (V 63).toNat = 2 ^ 6 - 1 := by decide
    rw [h1, Nat.and_two_pow_sub_one_eq_mod, BitVec.toNat_ofInt, BitVec.toNat_ofInt]
    simp only [Nat.reducePow]; omega
  rw [h]; exact In.v (by unfold In; omega)
theorem nat_and_add_or : ∀ (n x y : Nat), x < 2 ^ n → (x &&& y) + (x ||| y) = x + y := by
  intro n
  induction n with
  | zero => intro x y h; have : x = 0 := by simpa using h
            subst this; simp
  | succ n ih =>
    intro x y h
    have h1 := ih (x / 2) (y / 2) (by rw [Nat.pow_succ] at h; omega)
    rw [← Nat.and_div_two, ← Nat.or_div_two] at h1
    have h2 : (x &&& y) % 2 + (x ||| y) % 2 = x % 2 + y % 2 := by
      have a := Nat.and_mod_two_pow (a := x) (b := y) (n := 1)
      have b := Nat.or_mod_two_pow (a := x) (b := y) (n := 1)
      simp only [Nat.pow_one] at a b
      rw [a, b]
      rcases Nat.mod_two_eq_zero_or_one x with hx | hx <;> rcases Nat.mod_two_eq_zero_or_one y with hy | hy <;> simp [hx, hy]
    omega
theorem and_add_or (x y : BitVec 64) : (x &&& y) + (x ||| y) = x + y := by
  apply BitVec.eq_of_toNat_eq
  rw [BitVec.toNat_add, BitVec.toNat_add, BitVec.toNat_and, BitVec.toNat_or, nat_and_add_or 64 _ _ x.isLt]
end Tier
