/-
  Contracts of code.within, code.reg, code.instr: for every instruction; over the table 'has' as the program's start lays it.
-/
import Derived.Test.YtnbopmlemddakaaDoorRows
import Derived.WalkKit
import Derived.Deep.Light
import Derived.Lib.Hide
import Derived.Test.YtnbopmlemddakaaDoorPgP
namespace Go.Proofs.YtnbopmlemddakaaDoor
open Go.RowKit Tier
theorem within_any (n lo hi : Int) (w : World) : Calls Tryd.prog 50 #[.int .i64 n, .int .i64 lo, .int .i64 hi] w fun e w' => e = .returned (.bool (wi n lo hi)) ∧ w = w' := by
  go_enter Tryd.func50, Tryd.ntmps50
  go_wp2_with fail
  all_goals go_ret
  all_goals (refine ⟨?_, rfl⟩; go_light; simp_all [wi]; try omega)
theorem reg_any (n is regs : Int) (w : World) (h0 : -4611686018427387904 ≤ regs) (h1 : regs ≤ 4611686018427387904) : Calls Tryd.prog 62 #[.int .i64 n, .int .i64 is, .int .i64 regs] w fun e w' => e = .returned (.bool (regB n is regs)) ∧ w = w' := by
  by_cases h : is = 0
  · have X := Lib.hid (show regB n is regs = (n == 0) from if_pos h)
    have h' : (is == 0) = true := by simpa using h
    clear h
    go_enter Tryd.func62, Tryd.ntmps62
    go_wp2_with (go_at_call 50; refine (within_any _ _ _ _).mono ?_; rintro e w' ⟨rfl, rfl⟩)
    go_ret
    exact ⟨by rw [X.out]; rfl, rfl⟩
  · have X := Lib.hid (show regB n is regs = wi n 0 (regs - 1) from if_neg h)
    have h' : (is == 0) = false := by simpa using h
    clear h
    go_enter Tryd.func62, Tryd.ntmps62
    go_wp2_with (go_at_call 50; refine (within_any _ _ _ _).mono ?_; rintro e w' ⟨rfl, rfl⟩)
    go_ret
    exact ⟨by rw [X.out]; rfl, rfl⟩
set_option maxRecDepth 100000 in
set_option maxHeartbeats 2000000 in
theorem ins_core (op : Nat) (dst a b imm params regs : Int) (cb : Option Addr) (n cap : Nat) (funcs h : Int) (w : World) (hz : 0 < w.heap.size) (hop : (1 : Int) ≤ op) (hop2 : (op : Int) ≤ 19)
    (hr0 : -4611686018427387904 ≤ regs) (hr1 : regs ≤ 4611686018427387904) (hf0 : 0 ≤ funcs) (hf1 : funcs ≤ 4611686018427387904) (hn : (n : Int) ≤ 4611686018427387904)
    (c0 : w.cell? ⟨0, op, none⟩ = some (.int .i64 h)) (hh : h = hasOf op) :
    Calls Tryd.prog 51 #[.agg #[.int .i64 op, .int .i64 dst, .int .i64 a, .int .i64 b, .int .i64 imm], .agg #[.int .i64 params, .int .i64 regs, .slice cb n cap], .int .i64 funcs] w
      fun e w' => e = .returned (.int .i64 (insE ⟨op, dst, a, b, imm⟩ regs n funcs)) ∧ Below w.heap.size w w' := by
  have hw : wi op 1 19 = true := by simp [wi]; omega
  have X := Lib.hid (show insE ⟨op, dst, a, b, imm⟩ regs n funcs = insH h ⟨op, dst, a, b, imm⟩ regs n funcs by unfold insE; rw [if_neg (by simp [hw]), hh]; rfl)
  clear hh
  go_enter Tryd.func51, Tryd.ntmps51
  go_wp2_with (first | (go_at_call 50; refine (within_any _ _ _ _).mono ?_; rintro e w' ⟨rfl, rfl⟩) | (go_at_call 62; refine (reg_any _ _ _ _ (by omega) (by omega)).mono ?_; rintro e w' ⟨rfl, rfl⟩))
  all_goals go_ret
  all_goals (refine ⟨ret_int ?_, ?_⟩)
  all_goals first | (rw [X.out]; unfold insH; clear X; go_light; simp_all; done) | skip
  all_goals first | ((repeat (first | exact hb | exact Below.refl _ _ | apply Below.drew | apply below_drewN | refine Below.alloc ?_ (by first | omega | (simp; done) | (simp; omega)) _ | refine Below.setCell ?_ (by first | omega | (simp; done) | (simp; omega)) _)); done) | skip
  all_goals (rw [X.out]; unfold insH; clear X; go_light; simp_all)
end Go.Proofs.YtnbopmlemddakaaDoor
