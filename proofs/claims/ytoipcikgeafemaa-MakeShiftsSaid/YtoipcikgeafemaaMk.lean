/-
  What step.Make (and step.pure under it) computes, for every op and all numbers: contracts of pure, flag, Make, made and picked. No condition but that the numbers are Go ints.
-/
import Derived.Test.YtoipcikgeafemaaRows
import Derived.WalkKit
import Derived.Deep.Light
import Derived.Test.YtoipcikgeafemaaMkP
namespace Go.Proofs.Ytoipcikgeafemaa
open Go.RowKit Tier

theorem flag_any (c : Bool) (w : World) : Calls Try.prog 13 #[.bool c] w fun e w' => e = .returned (.int .i64 (flagI c)) ∧ w = w' := by
  cases c
  · go_enter Try.func13, Try.ntmps13
    go_wp2
    go_ret
    exact ⟨rfl, rfl⟩
  · go_enter Try.func13, Try.ntmps13
    go_wp2
    go_ret
    exact ⟨rfl, rfl⟩

theorem pure_any (op a b imm : Int) (w : World) :
    Calls Try.prog 12 #[.int .i64 op, .int .i64 a, .int .i64 b, .int .i64 imm] w fun e w' => e = .returned (.tuple #[.int .i64 (mk op a b imm), .bool (mkOk op b)]) ∧ w = w' := by
  have h63 := and63 b
  have h0 : 0 ≤ b % 64 := by omega
  have h1 : b % 64 < 64 := by omega
  by_cases hb : b = 0
  · subst hb
    go_enter Try.func12, Try.ntmps12
    go_wp2_with (go_at_call 13; refine (flag_any _ _).mono ?_; rintro e w' ⟨rfl, rfl⟩)
    all_goals go_ret2
    all_goals (refine ⟨?_, rfl⟩; go_light; simp_all [mk, mkOk, wrap64_zero]; try omega)
  · have hb' : (b == 0) = false := by simpa using hb
    go_enter Try.func12, Try.ntmps12
    go_wp2_with (go_at_call 13; refine (flag_any _ _).mono ?_; rintro e w' ⟨rfl, rfl⟩)
    all_goals go_ret2
    all_goals (refine ⟨?_, rfl⟩; go_light; simp_all [mk, mkOk, wrap64_zero]; try omega)

theorem make_any (op a b imm : Int) (w : World) :
    Calls Try.prog 10 #[.int .i64 op, .int .i64 a, .int .i64 b, .int .i64 imm] w fun e w' => e = .returned (.tuple #[.int .i64 (mk op a b imm), .int .i64 (mkErr op b)]) ∧ w = w' := by
  by_cases h1 : 1 ≤ op
  · by_cases h2 : op ≤ 12
    · by_cases h3 : mkOk op b = true
      · go_enter Try.func10, Try.ntmps10
        go_wp2_with (go_at_call 12; refine (pure_any _ _ _ _ _).mono ?_; rintro e w' ⟨rfl, rfl⟩)
        go_ret2
        refine ⟨?_, rfl⟩
        go_light
        simp [mkErr, h1, h2]
        simp [mkOk, h1, h2] at h3
        omega
      · have h3' : mkOk op b = false := by simpa using h3
        have h4 : op = 5 ∧ b = 0 := by simp [mkOk, h1, h2] at h3; omega
        obtain ⟨rfl, rfl⟩ := h4
        clear h3
        go_enter Try.func10, Try.ntmps10
        go_wp2_with (go_at_call 12; refine (pure_any _ _ _ _ _).mono ?_; rintro e w' ⟨rfl, rfl⟩)
        go_ret2
        refine ⟨?_, rfl⟩
        simp [mkErr, mk]
    · go_enter Try.func10, Try.ntmps10
      go_wp2_with fail
      go_ret2
      refine ⟨?_, rfl⟩
      go_light
      simp [mkErr, mk, show ¬ op = 1 by omega, show ¬ op = 2 by omega, show ¬ op = 3 by omega, show ¬ op = 4 by omega, show ¬ op = 5 by omega, show ¬ op = 6 by omega, show ¬ op = 7 by omega, show ¬ op = 8 by omega, show ¬ op = 9 by omega, show ¬ op = 10 by omega, show ¬ op = 11 by omega, show ¬ op = 12 by omega, h2]
  · go_enter Try.func10, Try.ntmps10
    go_wp2_with fail
    go_ret2
    refine ⟨?_, rfl⟩
    go_light
    simp [mkErr, mk, show ¬ op = 1 by omega, show ¬ op = 2 by omega, show ¬ op = 3 by omega, show ¬ op = 4 by omega, show ¬ op = 5 by omega, show ¬ op = 6 by omega, show ¬ op = 7 by omega, show ¬ op = 8 by omega, show ¬ op = 9 by omega, show ¬ op = 10 by omega, show ¬ op = 11 by omega, show ¬ op = 12 by omega]
    omega

theorem made_any (op a b : Int) (w : World) :
    Calls Try.prog 9 #[.int .i64 op, .int .i64 a, .int .i64 b] w fun e w' => e = .returned (.tuple #[.int .i64 (mk op a b 0), .bool (mkErr op b == 0)]) ∧ w = w' := by
  go_enter Try.func9, Try.ntmps9
  go_wp2_with (go_at_call 10; refine (make_any _ _ _ _ _).mono ?_; rintro e w' ⟨rfl, rfl⟩)
  go_ret2
  exact ⟨rfl, rfl⟩

theorem picked_any (n many : Int) (w : World) (hn : In n) (hm : 1 ≤ many) (hm2 : many ≤ 9223372036854775807) :
    Calls Try.prog 11 #[.int .i64 n, .int .i64 many] w fun e w' => e = .returned (.int .i64 (pickedI n many)) ∧ w = w' := by
  unfold In at hn
  by_cases h : n < 0
  · go_enter Try.func11, Try.ntmps11
    go_wp2_with fail
    go_ret
    refine ⟨ret_int ?_, rfl⟩
    unfold pickedI
    rw [if_pos h, ← Int.tmod_eq_emod_of_nonneg (by omega), Int.neg_tmod]
  · go_enter Try.func11, Try.ntmps11
    go_wp2_with fail
    go_ret
    refine ⟨ret_int ?_, rfl⟩
    unfold pickedI
    rw [if_neg (by omega)]
end Go.Proofs.Ytoipcikgeafemaa
