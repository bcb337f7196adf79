/-
  Contracts of rv.Encode (for every instruction), rv.signed, rv.number; over the tables as the program's start lays them.
-/
import Derived.Test.YtjjpgkjjiooieaaDoorRvD
namespace Tier
open Go Go.RowKit
theorem bad_inv {n : Int} {b : Bool} (h : bad n b = false) : 0 ≤ n ∧ n ≤ 31 ∧ (n = 0 ∨ b = true) := by
  cases b <;> simp [bad] at h ⊢ <;> omega
theorem chk_inv {s rd rs1 rs2 imm : Int} {b0 b1 b2 : Bool} (h : chk s rd rs1 rs2 imm b0 b1 b2 = 0) :
    bad rd b0 = false ∧ bad rs1 b1 = false ∧ bad rs2 b2 = false ∧ immLo s ≤ imm ∧ imm ≤ immHi s ∧ imm.tmod (immSt s) = 0 := by
  unfold chk at h
  split at h
  · omega
  · rename_i hn
    simp only [not_or, Bool.not_eq_true, ne_eq, Decidable.not_not] at hn
    exact ⟨hn.1, hn.2.1, hn.2.2.1, by omega, by omega, hn.2.2.2.2.2⟩
theorem chkI_inv {op rd rs1 rs2 imm : Int} (h : chkI op rd rs1 rs2 imm = 0) : 1 ≤ op ∧ op ≤ 29 ∧ chk (shapeOf op.toNat) rd rs1 rs2 imm (fieldOf (shapeOf op.toNat).toNat 0) (fieldOf (shapeOf op.toNat).toNat 1) (fieldOf (shapeOf op.toNat).toNat 2) = 0 := by
  unfold chkI at h
  split at h
  · omega
  · split at h
    · omega
    · exact ⟨by omega, by omega, h⟩
/-- The word of an instruction that may be; 0 of any other. -/
def encI (op rd rs1 rs2 imm : Int) : Int :=
  if chkI op rd rs1 rs2 imm = 0 then encW (shapeOf op.toNat) (codeOf op.toNat) (f3Of op.toNat) (f7Of op.toNat) rd rs1 rs2 imm else 0
def sgnI (n m : Int) : Int := if n / 2 ^ (m.toNat - 1) % 2 = 1 then wrap64 (n - wrap64 (2 ^ m.toNat)) else n
def numI (w sh : Int) : Int :=
  if sh = 1 then sgnI (fldI w 20 12) 12 else if sh = 2 then fldI w 20 6 else if sh = 3 then sgnI (orI (fldI w 25 7 * 32) (fldI w 7 5)) 12
  else if sh = 4 then sgnI (orI (orI (orI (fldI w 31 1 * 4096) (fldI w 7 1 * 2048)) (fldI w 25 6 * 32)) (fldI w 8 4 * 2)) 13
  else if sh = 5 then sgnI (orI (orI (orI (fldI w 31 1 * 1048576) (fldI w 12 8 * 4096)) (fldI w 20 1 * 2048)) (fldI w 21 10 * 2)) 21
  else if sh = 6 then sgnI (fldI w 12 20) 20 else 0
theorem and_1 (x : Int) : bits .and .i64 x 1 = x % 2 := and_mask x 1 (by omega)
end Tier
namespace Go.Proofs.YtjjpgkjjiooieaaDoor
open Go.RowKit Tier
set_option maxRecDepth 100000 in
theorem enc_any (op rd rs1 rs2 imm : Int) (w : World) (ht : Tab w) :
    Calls Tryd.prog 15 #[.agg #[.int .i64 op, .int .i64 rd, .int .i64 rs1, .int .i64 rs2, .int .i64 imm]] w fun e w' => e = .returned (.tuple #[.int .i64 (encI op rd rs1 rs2 imm), .int .i64 (chkI op rd rs1 rs2 imm)]) ∧ Below w.heap.size w w' := by
  by_cases ho : chkI op rd rs1 rs2 imm = 0
  · obtain ⟨h1, h2, h3⟩ := chkI_inv ho
    obtain ⟨n, rfl⟩ := Int.eq_ofNat_of_zero_le (show 0 ≤ op by omega)
    obtain ⟨s0, s1, c0, c1, g0, g1, k0, k1⟩ := forms_ok n (by omega) (by omega)
    obtain ⟨i0, i1, i2, i3, i4, _⟩ := chk_inv h3
    obtain ⟨a0, a1, _⟩ := bad_inv i0
    obtain ⟨b0, b1, _⟩ := bad_inv i1
    obtain ⟨d0, d1, _⟩ := bad_inv i2
    rw [ho, show encI n rd rs1 rs2 imm = encW (shapeOf n) (codeOf n) (f3Of n) (f7Of n) rd rs1 rs2 imm from if_pos ho]
    have t0 : w.cell? ⟨0, n * 4, none⟩ = some (.int .i64 (shapeOf n)) := ht.forms _ (by omega)
    simp only [Int.toNat_natCast] at i3 i4
    have hs : shapeOf n = 0 ∨ shapeOf n = 1 ∨ shapeOf n = 2 ∨ shapeOf n = 3 ∨ shapeOf n = 4 ∨ shapeOf n = 5 ∨ shapeOf n = 6 ∨ shapeOf n = 7 := by omega
    rcases hs with hs | hs | hs | hs | hs | hs | hs | hs
    · rw [hs] at t0 i3 i4 ⊢
      exact enc_core0 n rd rs1 rs2 imm _ _ _ w h1 h2 ht t0 (ht.forms _ (by omega)) (ht.forms _ (by omega)) (ht.forms _ (by omega)) c0 c1 g0 g1 k0 k1 a0 a1 b0 b1 d0 d1 ho
    · rw [hs] at t0 i3 i4 ⊢
      exact enc_core1 n rd rs1 rs2 imm _ _ _ w h1 h2 ht t0 (ht.forms _ (by omega)) (ht.forms _ (by omega)) (ht.forms _ (by omega)) c0 c1 g0 g1 k0 k1 a0 a1 b0 b1 d0 d1 ho
    · rw [hs] at t0 i3 i4 ⊢
      exact enc_core2 n rd rs1 rs2 imm _ _ _ w h1 h2 ht t0 (ht.forms _ (by omega)) (ht.forms _ (by omega)) (ht.forms _ (by omega)) c0 c1 g0 g1 k0 k1 a0 a1 b0 b1 d0 d1 i3 i4 ho
    · rw [hs] at t0 i3 i4 ⊢
      exact enc_core3 n rd rs1 rs2 imm _ _ _ w h1 h2 ht t0 (ht.forms _ (by omega)) (ht.forms _ (by omega)) (ht.forms _ (by omega)) c0 c1 g0 g1 k0 k1 a0 a1 b0 b1 d0 d1 ho
    · rw [hs] at t0 i3 i4 ⊢
      exact enc_core4 n rd rs1 rs2 imm _ _ _ w h1 h2 ht t0 (ht.forms _ (by omega)) (ht.forms _ (by omega)) (ht.forms _ (by omega)) c0 c1 g0 g1 k0 k1 a0 a1 b0 b1 d0 d1 ho
    · rw [hs] at t0 i3 i4 ⊢
      exact enc_core5 n rd rs1 rs2 imm _ _ _ w h1 h2 ht t0 (ht.forms _ (by omega)) (ht.forms _ (by omega)) (ht.forms _ (by omega)) c0 c1 g0 g1 k0 k1 a0 a1 b0 b1 d0 d1 ho
    · rw [hs] at t0 i3 i4 ⊢
      exact enc_core6 n rd rs1 rs2 imm _ _ _ w h1 h2 ht t0 (ht.forms _ (by omega)) (ht.forms _ (by omega)) (ht.forms _ (by omega)) c0 c1 g0 g1 k0 k1 a0 a1 b0 b1 d0 d1 ho
    · rw [hs] at t0 i3 i4 ⊢
      exact enc_core7 n rd rs1 rs2 imm _ _ _ w h1 h2 ht t0 (ht.forms _ (by omega)) (ht.forms _ (by omega)) (ht.forms _ (by omega)) c0 c1 g0 g1 k0 k1 a0 a1 b0 b1 d0 d1 ho
  · rw [show encI op rd rs1 rs2 imm = 0 from if_neg ho]
    have hx : (chkI op rd rs1 rs2 imm == 0) = false := by simpa using ho
    go_enter Tryd.func15, Tryd.ntmps15
    go_wp2_with fail
    refine (check_any _ _ _ _ _ _ (ht.alloc _)).mono ?_
    rintro e w1 ⟨rfl, hb⟩
    have HB := Lib.hid (show Below w.heap.size w w1 from ((Below.refl _ _).alloc (Nat.le_refl _) _).trans (hb.mono (by simp)))
    clear hb ht
    go_wp2_with fail
    go_ret2
    exact ⟨rfl, HB.out⟩

theorem sgn_any (n m : Int) (w : World) (hm : 1 ≤ m) (hm2 : m ≤ 40) :
    Calls Tryd.prog 33 #[.int .i64 n, .int .i64 m] w fun e w' => e = .returned (.int .i64 (sgnI n m)) ∧ ∃ k, w' = w.drewN k := by
  have ha := and_1
  by_cases h : n / 2 ^ (m.toNat - 1) % 2 = 1
  · have X := Lib.hid (show sgnI n m = wrap64 (n - wrap64 (2 ^ m.toNat)) from if_pos h)
    go_enter Tryd.func33, Tryd.ntmps33
    go_wp2_with fail
    all_goals (try go_quiet (fail))
    all_goals go_wp2_with fail
    go_ret
    exact ⟨ret_int X.out.symm, 0, rfl⟩
  · have X := Lib.hid (show sgnI n m = n from if_neg h)
    have h' : (n / 2 ^ (m.toNat - 1) % 2 == 1) = false := by simpa using h
    go_enter Tryd.func33, Tryd.ntmps33
    go_wp2_with fail
    all_goals (try go_quiet (fail))
    all_goals go_wp2_with fail
    go_ret
    exact ⟨ret_int X.out.symm, 0, rfl⟩

theorem num_core0 (x : Int) (w : World) : Calls Tryd.prog 28 #[.int .i64 x, .int .i64 0] w fun e w' => e = .returned (.int .i64 (numI x 0)) ∧ ∃ k, w' = w.drewN k := by
  go_enter Tryd.func28, Tryd.ntmps28
  go_wp2_with (first | (go_at_call 22; refine (bits_any _ _ _ _ (by omega) (by omega) (by omega) (by omega)).mono ?_; rintro e w' ⟨rfl, kk, rfl⟩) | (go_at_call 33; refine (sgn_any _ _ _ (by omega) (by omega)).mono ?_; rintro e w' ⟨rfl, kk, rfl⟩))
  go_ret
  exact ⟨rfl, 0, rfl⟩

theorem num_core1 (x : Int) (w : World) : Calls Tryd.prog 28 #[.int .i64 x, .int .i64 1] w fun e w' => e = .returned (.int .i64 (numI x 1)) ∧ ∃ k, w' = w.drewN k := by
  have q0 := fld_bd x 20 12
  simp only [Int.reduceToNat, Int.reducePow] at q0
  go_enter Tryd.func28, Tryd.ntmps28
  go_wp2_with (first | (go_at_call 22; refine (bits_any _ _ _ _ (by omega) (by omega) (by omega) (by omega)).mono ?_; rintro e w' ⟨rfl, kk, rfl⟩) | (go_at_call 33; refine (sgn_any _ _ _ (by omega) (by omega)).mono ?_; rintro e w' ⟨rfl, kk, rfl⟩))
  go_ret
  exact ⟨rfl, _, rfl⟩

theorem num_core2 (x : Int) (w : World) : Calls Tryd.prog 28 #[.int .i64 x, .int .i64 2] w fun e w' => e = .returned (.int .i64 (numI x 2)) ∧ ∃ k, w' = w.drewN k := by
  have q0 := fld_bd x 20 6
  simp only [Int.reduceToNat, Int.reducePow] at q0
  go_enter Tryd.func28, Tryd.ntmps28
  go_wp2_with (first | (go_at_call 22; refine (bits_any _ _ _ _ (by omega) (by omega) (by omega) (by omega)).mono ?_; rintro e w' ⟨rfl, kk, rfl⟩) | (go_at_call 33; refine (sgn_any _ _ _ (by omega) (by omega)).mono ?_; rintro e w' ⟨rfl, kk, rfl⟩))
  go_ret
  exact ⟨rfl, _, rfl⟩

theorem num_core3 (x : Int) (w : World) : Calls Tryd.prog 28 #[.int .i64 x, .int .i64 3] w fun e w' => e = .returned (.int .i64 (numI x 3)) ∧ ∃ k, w' = w.drewN k := by
  have q0 := fld_bd x 25 7
  simp only [Int.reduceToNat, Int.reducePow] at q0
  have q1 := fld_bd x 7 5
  simp only [Int.reduceToNat, Int.reducePow] at q1
  go_enter Tryd.func28, Tryd.ntmps28
  go_wp2_with (first | (go_at_call 22; refine (bits_any _ _ _ _ (by omega) (by omega) (by omega) (by omega)).mono ?_; rintro e w' ⟨rfl, kk, rfl⟩) | (go_at_call 33; refine (sgn_any _ _ _ (by omega) (by omega)).mono ?_; rintro e w' ⟨rfl, kk, rfl⟩))
  go_ret
  exact ⟨rfl, _, rfl⟩

theorem num_core4 (x : Int) (w : World) : Calls Tryd.prog 28 #[.int .i64 x, .int .i64 4] w fun e w' => e = .returned (.int .i64 (numI x 4)) ∧ ∃ k, w' = w.drewN k := by
  have q0 := fld_bd x 31 1
  simp only [Int.reduceToNat, Int.reducePow] at q0
  have q1 := fld_bd x 7 1
  simp only [Int.reduceToNat, Int.reducePow] at q1
  have q2 := fld_bd x 25 6
  simp only [Int.reduceToNat, Int.reducePow] at q2
  have q3 := fld_bd x 8 4
  simp only [Int.reduceToNat, Int.reducePow] at q3
  go_enter Tryd.func28, Tryd.ntmps28
  go_wp2_with (first | (go_at_call 22; refine (bits_any _ _ _ _ (by omega) (by omega) (by omega) (by omega)).mono ?_; rintro e w' ⟨rfl, kk, rfl⟩) | (go_at_call 33; refine (sgn_any _ _ _ (by omega) (by omega)).mono ?_; rintro e w' ⟨rfl, kk, rfl⟩))
  go_ret
  exact ⟨rfl, _, rfl⟩

theorem num_core5 (x : Int) (w : World) : Calls Tryd.prog 28 #[.int .i64 x, .int .i64 5] w fun e w' => e = .returned (.int .i64 (numI x 5)) ∧ ∃ k, w' = w.drewN k := by
  have q0 := fld_bd x 31 1
  simp only [Int.reduceToNat, Int.reducePow] at q0
  have q1 := fld_bd x 12 8
  simp only [Int.reduceToNat, Int.reducePow] at q1
  have q2 := fld_bd x 20 1
  simp only [Int.reduceToNat, Int.reducePow] at q2
  have q3 := fld_bd x 21 10
  simp only [Int.reduceToNat, Int.reducePow] at q3
  go_enter Tryd.func28, Tryd.ntmps28
  go_wp2_with (first | (go_at_call 22; refine (bits_any _ _ _ _ (by omega) (by omega) (by omega) (by omega)).mono ?_; rintro e w' ⟨rfl, kk, rfl⟩) | (go_at_call 33; refine (sgn_any _ _ _ (by omega) (by omega)).mono ?_; rintro e w' ⟨rfl, kk, rfl⟩))
  go_ret
  exact ⟨rfl, _, rfl⟩

theorem num_core6 (x : Int) (w : World) : Calls Tryd.prog 28 #[.int .i64 x, .int .i64 6] w fun e w' => e = .returned (.int .i64 (numI x 6)) ∧ ∃ k, w' = w.drewN k := by
  have q0 := fld_bd x 12 20
  simp only [Int.reduceToNat, Int.reducePow] at q0
  go_enter Tryd.func28, Tryd.ntmps28
  go_wp2_with (first | (go_at_call 22; refine (bits_any _ _ _ _ (by omega) (by omega) (by omega) (by omega)).mono ?_; rintro e w' ⟨rfl, kk, rfl⟩) | (go_at_call 33; refine (sgn_any _ _ _ (by omega) (by omega)).mono ?_; rintro e w' ⟨rfl, kk, rfl⟩))
  go_ret
  exact ⟨rfl, _, rfl⟩

theorem num_core7 (x : Int) (w : World) : Calls Tryd.prog 28 #[.int .i64 x, .int .i64 7] w fun e w' => e = .returned (.int .i64 (numI x 7)) ∧ ∃ k, w' = w.drewN k := by
  go_enter Tryd.func28, Tryd.ntmps28
  go_wp2_with (first | (go_at_call 22; refine (bits_any _ _ _ _ (by omega) (by omega) (by omega) (by omega)).mono ?_; rintro e w' ⟨rfl, kk, rfl⟩) | (go_at_call 33; refine (sgn_any _ _ _ (by omega) (by omega)).mono ?_; rintro e w' ⟨rfl, kk, rfl⟩))
  go_ret
  exact ⟨rfl, 0, rfl⟩

theorem num_any (x : Int) (s : Nat) (hs : (s : Int) ≤ 7) (w : World) : Calls Tryd.prog 28 #[.int .i64 x, .int .i64 s] w fun e w' => e = .returned (.int .i64 (numI x s)) ∧ ∃ k, w' = w.drewN k := by
  have h : s = 0 ∨ s = 1 ∨ s = 2 ∨ s = 3 ∨ s = 4 ∨ s = 5 ∨ s = 6 ∨ s = 7 := by omega
  rcases h with rfl | rfl | rfl | rfl | rfl | rfl | rfl | rfl
  · exact num_core0 x w
  · exact num_core1 x w
  · exact num_core2 x w
  · exact num_core3 x w
  · exact num_core4 x w
  · exact num_core5 x w
  · exact num_core6 x w
  · exact num_core7 x w
end Go.Proofs.YtjjpgkjjiooieaaDoor
