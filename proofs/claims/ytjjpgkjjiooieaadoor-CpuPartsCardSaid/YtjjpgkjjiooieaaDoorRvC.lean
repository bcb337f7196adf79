/-
  Contracts of rv.imm and rv.Check: for every instruction, over the tables as the program's start lays them.
-/
import Derived.Test.YtjjpgkjjiooieaaDoorRows
import Derived.WalkKit
import Derived.Deep.Light
import Derived.Lib.Hide
import Derived.Test.YtjjpgkjjiooieaaDoorRvP
namespace Go.Proofs.YtjjpgkjjiooieaaDoor
open Go.RowKit Tier
theorem imm_any (sh : Int) (w : World) : Calls Tryd.prog 26 #[.int .i64 sh] w fun e w' => e = .returned (.tuple #[.int .i64 (immLo sh), .int .i64 (immHi sh), .int .i64 (immSt sh)]) ∧ w = w' := by
  go_enter Tryd.func26, Tryd.ntmps26
  go_wp2_with fail
  all_goals go_ret3
  all_goals (refine ⟨?_, rfl⟩; go_light; simp_all [immLo, immHi, immSt])
set_option maxRecDepth 100000 in
set_option maxHeartbeats 4000000 in
theorem check_core (op : Nat) (rd rs1 rs2 imm : Int) (s : Nat) (c g h : Int) (b0 b1 b2 : Bool) (w : World) (hz : 1 < w.heap.size) (hz0 : 0 < w.heap.size) (h1 : (1 : Int) ≤ op) (h2 : (op : Int) ≤ 29) (hs : (s : Int) ≤ 7)
    (c0 : w.cell? ⟨0, op * 4, none⟩ = some (.int .i64 s)) (c1 : w.cell? ⟨0, op * 4 + 1, none⟩ = some (.int .i64 c)) (c2 : w.cell? ⟨0, op * 4 + 2, none⟩ = some (.int .i64 g)) (c3 : w.cell? ⟨0, op * 4 + 3, none⟩ = some (.int .i64 h)) 
    (d0 : w.cell? ⟨1, s * 3, none⟩ = some (.bool b0)) (d1 : w.cell? ⟨1, s * 3 + 1, none⟩ = some (.bool b1)) (d2 : w.cell? ⟨1, s * 3 + 2, none⟩ = some (.bool b2)) :
    Calls Tryd.prog 21 #[.agg #[.int .i64 op, .int .i64 rd, .int .i64 rs1, .int .i64 rs2, .int .i64 imm]] w fun e w' => e = .returned (.int .i64 (chk s rd rs1 rs2 imm b0 b1 b2)) ∧ Below w.heap.size w w' := by
  have i0 : ∀ w, (Instr.index 66 (.agg #[.int .i64 rd, .int .i64 rs1, .int .i64 rs2]) (.int .i64 0)).run Tryd.prog w = .ok (.int .i64 rd) w := fun _ => by kernel_rfl
  have i1 : ∀ w, (Instr.index 66 (.agg #[.int .i64 rd, .int .i64 rs1, .int .i64 rs2]) (.int .i64 1)).run Tryd.prog w = .ok (.int .i64 rs1) w := fun _ => by kernel_rfl
  have i2 : ∀ w, (Instr.index 66 (.agg #[.int .i64 rd, .int .i64 rs1, .int .i64 rs2]) (.int .i64 2)).run Tryd.prog w = .ok (.int .i64 rs2) w := fun _ => by kernel_rfl
  go_enter Tryd.func21, Tryd.ntmps21
  go_wp2_with fail
  go_loop [28] (fun i => ∃ k : Nat, k ≤ 3 ∧ i = .int .i64 k ∧ (1 ≤ k → bad rd b0 = false) ∧ (2 ≤ k → bad rs1 b1 = false) ∧ (3 ≤ k → bad rs2 b2 = false)) (fun i => 3 - (intOf i).toNat)
  case atStart => exact ⟨0, by omega, rfl, by omega, by omega, by omega⟩
  case round =>
    obtain ⟨k, hk, rfl, hb⟩ := hrel
    have HB := Lib.hid hb
    clear hb
    have hcase : k = 0 ∨ k = 1 ∨ k = 2 ∨ k = 3 := by omega
    clear hk
    rcases hcase with rfl | rfl | rfl | rfl
    · rcases bad_cases rd b0 with hc | hc | ⟨e0, e1, e2, e3⟩ | ⟨e0, e1, e2, e3⟩ | ⟨e0, e1, e2⟩
      · have X := Lib.hid (chk_bad0 (s := s) (rd := rd) (rs1 := rs1) (rs2 := rs2) (imm := imm) (b0 := b0) (b1 := b1) (b2 := b2) (bad_lo hc))
        go_wp2_with fail
        go_ret
        refine ⟨ret_int ?_, ?_⟩
        · exact X.out.symm
        · exact (by repeat (first | exact Below.refl _ _ | apply Below.drew | refine Below.alloc ?_ (by simp <;> omega) _ | refine Below.setCell ?_ (by simp <;> omega) _))
      · have X := Lib.hid (chk_bad0 (s := s) (rd := rd) (rs1 := rs1) (rs2 := rs2) (imm := imm) (b0 := b0) (b1 := b1) (b2 := b2) (bad_hi hc))
        go_wp2_with fail
        go_ret
        refine ⟨ret_int ?_, ?_⟩
        · exact X.out.symm
        · exact (by repeat (first | exact Below.refl _ _ | apply Below.drew | refine Below.alloc ?_ (by simp <;> omega) _ | refine Below.setCell ?_ (by simp <;> omega) _))
      · subst e3
        have X := Lib.hid (chk_bad0 (s := s) (rd := rd) (rs1 := rs1) (rs2 := rs2) (imm := imm) (b1 := b1) (b2 := b2) (bad_is e2 rfl))
        go_wp2_with fail
        go_ret
        refine ⟨ret_int ?_, ?_⟩
        · exact X.out.symm
        · exact (by repeat (first | exact Below.refl _ _ | apply Below.drew | refine Below.alloc ?_ (by simp <;> omega) _ | refine Below.setCell ?_ (by simp <;> omega) _))
      · subst e3
        have X := Lib.hid (bad_no (b := true) e0 e1 (.inl rfl))
        go_wp2_with fail
        go_round
        case rel => exact ⟨1, by omega, by go_num, fun _ => X.out, by omega, by omega⟩
        case measure => simp [intOf]
      · have X := Lib.hid (bad_no (b := b0) e0 e1 (.inr e2))
        go_wp2_with fail
        go_round
        case rel => exact ⟨1, by omega, by go_num, fun _ => X.out, by omega, by omega⟩
        case measure => simp [intOf]
    · rcases bad_cases rs1 b1 with hc | hc | ⟨e0, e1, e2, e3⟩ | ⟨e0, e1, e2, e3⟩ | ⟨e0, e1, e2⟩
      · have X := Lib.hid (chk_bad1 (s := s) (rd := rd) (rs1 := rs1) (rs2 := rs2) (imm := imm) (b0 := b0) (b1 := b1) (b2 := b2) (bad_lo hc))
        go_wp2_with fail
        go_ret
        refine ⟨ret_int ?_, ?_⟩
        · exact X.out.symm
        · exact (by repeat (first | exact Below.refl _ _ | apply Below.drew | refine Below.alloc ?_ (by simp <;> omega) _ | refine Below.setCell ?_ (by simp <;> omega) _))
      · have X := Lib.hid (chk_bad1 (s := s) (rd := rd) (rs1 := rs1) (rs2 := rs2) (imm := imm) (b0 := b0) (b1 := b1) (b2 := b2) (bad_hi hc))
        go_wp2_with fail
        go_ret
        refine ⟨ret_int ?_, ?_⟩
        · exact X.out.symm
        · exact (by repeat (first | exact Below.refl _ _ | apply Below.drew | refine Below.alloc ?_ (by simp <;> omega) _ | refine Below.setCell ?_ (by simp <;> omega) _))
      · subst e3
        have X := Lib.hid (chk_bad1 (s := s) (rd := rd) (rs1 := rs1) (rs2 := rs2) (imm := imm) (b0 := b0) (b2 := b2) (bad_is e2 rfl))
        go_wp2_with fail
        go_ret
        refine ⟨ret_int ?_, ?_⟩
        · exact X.out.symm
        · exact (by repeat (first | exact Below.refl _ _ | apply Below.drew | refine Below.alloc ?_ (by simp <;> omega) _ | refine Below.setCell ?_ (by simp <;> omega) _))
      · subst e3
        have X := Lib.hid (bad_no (b := true) e0 e1 (.inl rfl))
        go_wp2_with fail
        go_round
        case rel => exact ⟨2, by omega, by go_num, fun _ => HB.out.1 (by omega), fun _ => X.out, by omega⟩
        case measure => simp [intOf]
      · have X := Lib.hid (bad_no (b := b1) e0 e1 (.inr e2))
        go_wp2_with fail
        go_round
        case rel => exact ⟨2, by omega, by go_num, fun _ => HB.out.1 (by omega), fun _ => X.out, by omega⟩
        case measure => simp [intOf]
    · rcases bad_cases rs2 b2 with hc | hc | ⟨e0, e1, e2, e3⟩ | ⟨e0, e1, e2, e3⟩ | ⟨e0, e1, e2⟩
      · have X := Lib.hid (chk_bad2 (s := s) (rd := rd) (rs1 := rs1) (rs2 := rs2) (imm := imm) (b0 := b0) (b1 := b1) (b2 := b2) (bad_lo hc))
        go_wp2_with fail
        go_ret
        refine ⟨ret_int ?_, ?_⟩
        · exact X.out.symm
        · exact (by repeat (first | exact Below.refl _ _ | apply Below.drew | refine Below.alloc ?_ (by simp <;> omega) _ | refine Below.setCell ?_ (by simp <;> omega) _))
      · have X := Lib.hid (chk_bad2 (s := s) (rd := rd) (rs1 := rs1) (rs2 := rs2) (imm := imm) (b0 := b0) (b1 := b1) (b2 := b2) (bad_hi hc))
        go_wp2_with fail
        go_ret
        refine ⟨ret_int ?_, ?_⟩
        · exact X.out.symm
        · exact (by repeat (first | exact Below.refl _ _ | apply Below.drew | refine Below.alloc ?_ (by simp <;> omega) _ | refine Below.setCell ?_ (by simp <;> omega) _))
      · subst e3
        have X := Lib.hid (chk_bad2 (s := s) (rd := rd) (rs1 := rs1) (rs2 := rs2) (imm := imm) (b0 := b0) (b1 := b1) (bad_is e2 rfl))
        go_wp2_with fail
        go_ret
        refine ⟨ret_int ?_, ?_⟩
        · exact X.out.symm
        · exact (by repeat (first | exact Below.refl _ _ | apply Below.drew | refine Below.alloc ?_ (by simp <;> omega) _ | refine Below.setCell ?_ (by simp <;> omega) _))
      · subst e3
        have X := Lib.hid (bad_no (b := true) e0 e1 (.inl rfl))
        go_wp2_with fail
        go_round
        case rel => exact ⟨3, by omega, by go_num, fun _ => HB.out.1 (by omega), fun _ => HB.out.2.1 (by omega), fun _ => X.out⟩
        case measure => simp [intOf]
      · have X := Lib.hid (bad_no (b := b2) e0 e1 (.inr e2))
        go_wp2_with fail
        go_round
        case rel => exact ⟨3, by omega, by go_num, fun _ => HB.out.1 (by omega), fun _ => HB.out.2.1 (by omega), fun _ => X.out⟩
        case measure => simp [intOf]
    · have hst := immSt_pos (s : Int)
      have Y := Lib.hid (show bad rd b0 = false ∧ bad rs1 b1 = false ∧ bad rs2 b2 = false from ⟨HB.out.1 (by omega), HB.out.2.1 (by omega), HB.out.2.2 (by omega)⟩)
      by_cases a1 : imm < immLo s
      · have X := Lib.hid (chk_imm (s := s) (rd := rd) (rs1 := rs1) (rs2 := rs2) (imm := imm) (b0 := b0) (b1 := b1) (b2 := b2) (.inl a1))
        go_wp2_with (go_at_call 26; refine (imm_any _ _).mono ?_; rintro e w' ⟨rfl, rfl⟩)
        go_ret
        refine ⟨ret_int ?_, ?_⟩
        · exact X.out.symm
        · exact (by repeat (first | exact Below.refl _ _ | apply Below.drew | refine Below.alloc ?_ (by simp <;> omega) _ | refine Below.setCell ?_ (by simp <;> omega) _))
      · by_cases a2 : immHi s < imm
        · have X := Lib.hid (chk_imm (s := s) (rd := rd) (rs1 := rs1) (rs2 := rs2) (imm := imm) (b0 := b0) (b1 := b1) (b2 := b2) (.inr (.inl a2)))
          go_wp2_with (go_at_call 26; refine (imm_any _ _).mono ?_; rintro e w' ⟨rfl, rfl⟩)
          go_ret
          refine ⟨ret_int ?_, ?_⟩
          · exact X.out.symm
          · exact (by repeat (first | exact Below.refl _ _ | apply Below.drew | refine Below.alloc ?_ (by simp <;> omega) _ | refine Below.setCell ?_ (by simp <;> omega) _))
        · by_cases a3 : (imm.tmod (immSt s) != 0) = true
          · have X := Lib.hid (chk_imm (s := s) (rd := rd) (rs1 := rs1) (rs2 := rs2) (imm := imm) (b0 := b0) (b1 := b1) (b2 := b2) (.inr (.inr (by simpa using a3))))
            go_wp2_with (go_at_call 26; refine (imm_any _ _).mono ?_; rintro e w' ⟨rfl, rfl⟩)
            go_ret
            refine ⟨ret_int ?_, ?_⟩
            · exact X.out.symm
            · exact (by repeat (first | exact Below.refl _ _ | apply Below.drew | refine Below.alloc ?_ (by simp <;> omega) _ | refine Below.setCell ?_ (by simp <;> omega) _))
          · have a4 : (imm.tmod (immSt s) != 0) = false := by simpa using a3
            clear a3
            have X := Lib.hid (chk_ok (s := s) (imm := imm) Y.out.1 Y.out.2.1 Y.out.2.2 a1 a2 (by simpa using a4))
            go_wp2_with (go_at_call 26; refine (imm_any _ _).mono ?_; rintro e w' ⟨rfl, rfl⟩)
            go_ret
            refine ⟨ret_int ?_, ?_⟩
            · exact X.out.symm
            · exact (by repeat (first | exact Below.refl _ _ | apply Below.drew | refine Below.alloc ?_ (by simp <;> omega) _ | refine Below.setCell ?_ (by simp <;> omega) _))

theorem check_any (op rd rs1 rs2 imm : Int) (w : World) (ht : Tab w) :
    Calls Tryd.prog 21 #[.agg #[.int .i64 op, .int .i64 rd, .int .i64 rs1, .int .i64 rs2, .int .i64 imm]] w fun e w' => e = .returned (.int .i64 (chkI op rd rs1 rs2 imm)) ∧ Below w.heap.size w w' := by
  by_cases h1 : op < 1
  · have X := Lib.hid (show chkI op rd rs1 rs2 imm = 3 from if_pos h1)
    clear ht
    go_enter Tryd.func21, Tryd.ntmps21
    go_wp2_with fail
    go_ret
    refine ⟨ret_int X.out.symm, ?_⟩
    repeat (first | exact Below.refl _ _ | refine Below.alloc ?_ (by simp <;> omega) _)
  · by_cases h2 : 29 < op
    · have X := Lib.hid (show chkI op rd rs1 rs2 imm = 3 from (if_neg h1).trans (if_pos h2))
      clear ht
      go_enter Tryd.func21, Tryd.ntmps21
      go_wp2_with fail
      go_ret
      refine ⟨ret_int X.out.symm, ?_⟩
      repeat (first | exact Below.refl _ _ | refine Below.alloc ?_ (by simp <;> omega) _)
    · obtain ⟨n, rfl⟩ := Int.eq_ofNat_of_zero_le (show 0 ≤ op by omega)
      obtain ⟨s0, s1, _⟩ := forms_ok n (by omega) (by omega)
      have e : chkI n rd rs1 rs2 imm = chk (shapeOf n) rd rs1 rs2 imm (fieldOf (shapeOf n).toNat 0) (fieldOf (shapeOf n).toNat 1) (fieldOf (shapeOf n).toNat 2) := (if_neg h1).trans (if_neg h2)
      rw [e]
      have t0 : w.cell? ⟨0, n * 4, none⟩ = some (.int .i64 (shapeOf n)) := ht.forms _ (by omega)
      obtain ⟨s, hs⟩ := Int.eq_ofNat_of_zero_le s0
      have es : (shapeOf n).toNat = s := by omega
      rw [hs] at t0 s1
      rw [es, hs]
      exact check_core n rd rs1 rs2 imm s _ _ _ _ _ _ w ht.size (Nat.lt_trans Nat.zero_lt_one ht.size) (by omega) (by omega) s1 t0 (ht.forms _ (by omega)) (ht.forms _ (by omega)) (ht.forms _ (by omega)) (ht.fields _ (by omega)) (ht.fields _ (by omega)) (ht.fields _ (by omega))

end Go.Proofs.YtjjpgkjjiooieaaDoor
