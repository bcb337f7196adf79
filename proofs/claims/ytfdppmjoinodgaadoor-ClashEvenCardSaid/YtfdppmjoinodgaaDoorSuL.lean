/-
  Plain law: what is surely set holds the parameters, and nothing beyond the registers. No program is in sight.
-/
import Derived.Test.YtfdppmjoinodgaaDoorSuP
namespace Tier
open Go Go.RowKit
theorem sure_ge {f : Fnc} (hc : COk f.code) (h : f.params ≤ 2) : ∀ (i m : Nat), (sureF f)[i]? = some (some m) → m &&& (2 ^ f.params.toNat - 1) = 2 ^ f.params.toNat - 1 := by
  refine sure_ind (fun _ m => m &&& (2 ^ f.params.toNat - 1) = 2 ^ f.params.toNat - 1) (Nat.and_self _) (fun pc m x n hq _ _ => ?_) (fun n a b ha hb => ?_) (iterS_inv hc h)
  · apply Nat.eq_of_testBit_eq
    intro i
    have := congrArg (fun k => k.testBit i) hq
    simp only [Nat.testBit_and, Nat.testBit_or] at *
    cases h1 : (2 ^ f.params.toNat - 1).testBit i <;> simp_all
  · rw [Nat.and_assoc, hb, ha]
theorem sure_regs {f : Fnc} {funcs : Int} (hf : FnOk f funcs) : ∀ (i m : Nat), (sureF f)[i]? = some (some m) → m < 2 ^ f.regs.toNat := by
  have hp := hf.p3
  have hp1 := hf.p1
  refine sure_ind (fun _ m => m < 2 ^ f.regs.toNat) ?_ (fun pc m x n hq hx _ => ?_) (fun n a b ha hb => Nat.lt_of_le_of_lt Nat.and_le_left ha) (iterS_inv hf.cok hf.p2)
  · have : 2 ^ f.params.toNat ≤ 2 ^ f.regs.toNat := Nat.pow_le_pow_right (by omega) (by omega)
    have : 0 < 2 ^ f.params.toNat := Nat.two_pow_pos _
    omega
  · refine Nat.or_lt_two_pow hq ?_
    have hio := hf.ins x (List.mem_of_getElem? hx)
    unfold setM
    split
    · have h1 := hio.dst1
      have h2 := hio.dst2
      exact Nat.pow_lt_pow_right (by omega) (by omega)
    · exact Nat.two_pow_pos _
end Tier
