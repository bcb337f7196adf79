/-
  Plain facts: Go's &^ on numbers that are not below 0. No program is in sight.
-/
import Derived.Test.YtfdppmjoinodgaaDoorLib
namespace Tier
open Go Go.RowKit
theorem andNot_nat (a m : Nat) (ha : a < 9223372036854775808) (hm : m < 9223372036854775808) : bits .andNot .i64 (a : Int) (m : Int) = ((a - (a &&& m) : Nat) : Int) := by
  rw [bits_andNot]
  have hv : (V (a : Int) &&& V (m : Int)).toNat = a &&& m := by
    rw [BitVec.toNat_and, V, V, BitVec.ofInt_natCast, BitVec.ofInt_natCast, BitVec.toNat_ofNat, BitVec.toNat_ofNat, Nat.mod_eq_of_lt (by omega), Nat.mod_eq_of_lt (by omega)]
  have hu : V (a : Int) &&& ~~~ V (m : Int) = V (a : Int) - (V (a : Int) &&& V (m : Int)) := by
    have h := and_add_or (V (a : Int) &&& ~~~ V (m : Int)) (V (a : Int) &&& V (m : Int))
    have h1 : (V (a : Int) &&& ~~~ V (m : Int)) &&& (V (a : Int) &&& V (m : Int)) = 0#64 := by
      apply BitVec.eq_of_getLsbD_eq
      intro i hi
      simp only [BitVec.getLsbD_and, BitVec.getLsbD_not, BitVec.getLsbD_zero]
      cases (V (a : Int)).getLsbD i <;> cases (V (m : Int)).getLsbD i <;> simp
    have h2 : (V (a : Int) &&& ~~~ V (m : Int)) ||| (V (a : Int) &&& V (m : Int)) = V (a : Int) := by
      apply BitVec.eq_of_getLsbD_eq
      intro i hi
      simp only [BitVec.getLsbD_and, BitVec.getLsbD_or, BitVec.getLsbD_not]
      cases (V (a : Int)).getLsbD i <;> cases (V (m : Int)).getLsbD i <;> simp [hi]
    rw [h1, h2, BitVec.zero_add] at h
    generalize V (a : Int) &&& ~~~ V (m : Int) = u at *
    generalize V (a : Int) &&& V (m : Int) = v at *
    rw [h]; exact (BitVec.add_sub_cancel u v).symm
  have hle : a &&& m ≤ a := Nat.and_le_left
  have h : V (a : Int) &&& ~~~ V (m : Int) = BitVec.ofNat 64 (a - (a &&& m)) := by
    apply BitVec.eq_of_toNat_eq
    rw [hu, BitVec.toNat_sub, hv, V, BitVec.ofInt_natCast, BitVec.toNat_ofNat, BitVec.toNat_ofNat, Nat.mod_eq_of_lt (by omega : a < 2 ^ 64)]
    simp only [Nat.reducePow]
    omega
  rw [h, toInt_nat _ (by omega)]
theorem and_nat (a m : Nat) (ha : a < 9223372036854775808) (hm : m < 9223372036854775808) : bits .and .i64 (a : Int) (m : Int) = ((a &&& m : Nat) : Int) := by
  rw [bits_and]
  have hle : a &&& m ≤ a := Nat.and_le_left
  have h : V (a : Int) &&& V (m : Int) = BitVec.ofNat 64 (a &&& m) := by
    apply BitVec.eq_of_toNat_eq
    rw [BitVec.toNat_and, V, V, BitVec.ofInt_natCast, BitVec.ofInt_natCast, BitVec.toNat_ofNat, BitVec.toNat_ofNat, BitVec.toNat_ofNat, Nat.mod_eq_of_lt (by omega), Nat.mod_eq_of_lt (by omega), Nat.mod_eq_of_lt (by omega)]
  rw [h, toInt_nat _ (by omega)]
end Tier
