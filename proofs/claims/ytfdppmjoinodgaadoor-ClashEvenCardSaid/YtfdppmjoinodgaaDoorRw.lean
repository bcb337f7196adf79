/-
  Contracts of picked, and of instr, which makes an instruction out of raw numbers.
-/
import Derived.Test.YtfdppmjoinodgaaDoorRows
import Derived.WalkKit
import Derived.Deep.Light
import Derived.Lib.Hide
import Derived.Test.YtfdppmjoinodgaaDoorPgP
namespace Go.Proofs.YtfdppmjoinodgaaDoor
open Go.RowKit Tier
theorem picked_any (n many : Int) (w : World) (hn : In n) (hm : 1 ≤ many) (hm2 : many ≤ 9223372036854775807) :
    Calls Tryd.prog 13 #[.int .i64 n, .int .i64 many] w fun e w' => e = .returned (.int .i64 (pickedI n many)) ∧ w = w' := by
  unfold In at hn
  by_cases h : n < 0
  · go_enter Tryd.func13, Tryd.ntmps13
    go_wp2_with fail
    go_ret
    refine ⟨ret_int ?_, rfl⟩
    unfold pickedI
    rw [if_pos h, ← Int.tmod_eq_emod_of_nonneg (by omega), Int.neg_tmod]
  · go_enter Tryd.func13, Tryd.ntmps13
    go_wp2_with fail
    go_ret
    refine ⟨ret_int ?_, rfl⟩
    unfold pickedI
    rw [if_neg (by omega)]
def InI (x : Ins) : Prop := In x.op ∧ In x.dst ∧ In x.a ∧ In x.b ∧ In x.imm
set_option maxRecDepth 100000 in
set_option maxHeartbeats 2000000 in
theorem raw_any (x : Ins) (regs places funcs : Int) (w : World) (hx : InI x) (h1 : 1 ≤ regs) (h2 : regs ≤ 9223372036854775807) (h3 : 1 ≤ places) (h4 : places ≤ 9223372036854775807) (h5 : 1 ≤ funcs) (h6 : funcs ≤ 9223372036854775807) :
    Calls Tryd.prog 50 #[.agg #[.int .i64 x.op, .int .i64 x.dst, .int .i64 x.a, .int .i64 x.b, .int .i64 x.imm], .int .i64 regs, .int .i64 places, .int .i64 funcs] w
      fun e w' => (∃ y : Ins, y = rawIns x regs places funcs ∧ e = .returned (.agg #[.int .i64 y.op, .int .i64 y.dst, .int .i64 y.a, .int .i64 y.b, .int .i64 y.imm])) ∧ Below w.heap.size w w' := by
  obtain ⟨op, dst, a, b, imm⟩ := x
  obtain ⟨x0, x1, x2, x3, x4⟩ := hx
  dsimp only at *
  have p0 := picked_in op 19 (by omega)
  have p1 := picked_in dst regs h1
  have p2 := picked_in a regs h1
  have p3 := picked_in b regs h1
  have p4 := picked_in imm places h3
  have p5 := picked_in imm funcs h5
  have hcase : 1 + pickedI op 19 = 1 ∨ (2 ≤ 1 + pickedI op 19 ∧ 1 + pickedI op 19 ≤ 12) ∨ 1 + pickedI op 19 = 13 ∨ 1 + pickedI op 19 = 18 ∨ 1 + pickedI op 19 = 14 ∨ 1 + pickedI op 19 = 15 ∨ 1 + pickedI op 19 = 16 ∨ 1 + pickedI op 19 = 17 ∨ 1 + pickedI op 19 = 19 := by omega
  obtain ⟨k, hk⟩ : ∃ k, pickedI op 19 = k := ⟨_, rfl⟩
  have X : ∀ y, rawIns ⟨op, dst, a, b, imm⟩ regs places funcs = y → rawIns ⟨op, dst, a, b, imm⟩ regs places funcs = y := fun _ h => h
  have HX := Lib.hid (show ∀ y : Ins, y = (if 1 + k = 1 then ⟨1 + k, pickedI dst regs, 0, 0, imm⟩
    else if 1 + k ≤ 12 then ⟨1 + k, pickedI dst regs, pickedI a regs, pickedI b regs, 0⟩
    else if 1 + k = 13 ∨ 1 + k = 18 then ⟨1 + k, pickedI dst regs, pickedI a regs, 0, 0⟩
    else if 1 + k = 14 then ⟨1 + k, 0, pickedI a regs, pickedI b regs, 0⟩
    else if 1 + k = 15 then ⟨1 + k, 0, 0, 0, pickedI imm places⟩
    else if 1 + k = 16 then ⟨1 + k, 0, pickedI a regs, 0, pickedI imm places⟩
    else if 1 + k = 17 then ⟨1 + k, pickedI dst regs, pickedI a regs, pickedI b regs, pickedI imm funcs⟩
    else ⟨1 + k, 0, pickedI a regs, 0, 0⟩) → y = rawIns ⟨op, dst, a, b, imm⟩ regs places funcs from fun y h => by rw [h, ← hk]; rfl)
  clear X
  rw [hk] at p0 hcase
  rcases hcase with g | g | g | g | g | g | g | g | g
  · obtain rfl : k = 0 := by omega
    go_enter Tryd.func50, Tryd.ntmps50
    go_wp2_with (go_at_call 13; refine (picked_any _ _ _ (by assumption) (by omega) (by omega)).mono ?_; rintro e w' ⟨rfl, rfl⟩)
    refine bodyPost_ret (v := .agg #[.int .i64 1, .int .i64 (pickedI dst regs), .int .i64 0, .int .i64 0, .int .i64 imm]) (by simp [results, Tryd.results50, go_sem]) rfl ⟨⟨⟨1, (pickedI dst regs), 0, 0, imm⟩, HX.out _ ?_, rfl⟩, ?_⟩
    · rfl
    · repeat (first | exact hb | exact Below.refl _ _ | apply Below.drew | apply below_drewN | refine Below.alloc ?_ (by first | omega | (simp; done) | (simp; omega)) _ | refine Below.setCell ?_ (by first | omega | (simp; done) | (simp; omega)) _)
  · have HG := Lib.hid g
    go_enter Tryd.func50, Tryd.ntmps50
    go_wp2_with (go_at_call 13; refine (picked_any _ _ _ (by assumption) (by omega) (by omega)).mono ?_; rintro e w' ⟨rfl, rfl⟩)
    refine bodyPost_ret (v := .agg #[.int .i64 (1 + k), .int .i64 (pickedI dst regs), .int .i64 (pickedI a regs), .int .i64 (pickedI b regs), .int .i64 0]) (by simp [results, Tryd.results50, go_sem]) rfl ⟨⟨⟨(1 + k), (pickedI dst regs), (pickedI a regs), (pickedI b regs), 0⟩, HX.out _ ?_, rfl⟩, ?_⟩
    · rw [if_neg (by omega), if_pos (by omega)]
    · repeat (first | exact hb | exact Below.refl _ _ | apply Below.drew | apply below_drewN | refine Below.alloc ?_ (by first | omega | (simp; done) | (simp; omega)) _ | refine Below.setCell ?_ (by first | omega | (simp; done) | (simp; omega)) _)
  · obtain rfl : k = 12 := by omega
    go_enter Tryd.func50, Tryd.ntmps50
    go_wp2_with (go_at_call 13; refine (picked_any _ _ _ (by assumption) (by omega) (by omega)).mono ?_; rintro e w' ⟨rfl, rfl⟩)
    refine bodyPost_ret (v := .agg #[.int .i64 13, .int .i64 (pickedI dst regs), .int .i64 (pickedI a regs), .int .i64 0, .int .i64 0]) (by simp [results, Tryd.results50, go_sem]) rfl ⟨⟨⟨13, (pickedI dst regs), (pickedI a regs), 0, 0⟩, HX.out _ ?_, rfl⟩, ?_⟩
    · rfl
    · repeat (first | exact hb | exact Below.refl _ _ | apply Below.drew | apply below_drewN | refine Below.alloc ?_ (by first | omega | (simp; done) | (simp; omega)) _ | refine Below.setCell ?_ (by first | omega | (simp; done) | (simp; omega)) _)
  · obtain rfl : k = 17 := by omega
    go_enter Tryd.func50, Tryd.ntmps50
    go_wp2_with (go_at_call 13; refine (picked_any _ _ _ (by assumption) (by omega) (by omega)).mono ?_; rintro e w' ⟨rfl, rfl⟩)
    refine bodyPost_ret (v := .agg #[.int .i64 18, .int .i64 (pickedI dst regs), .int .i64 (pickedI a regs), .int .i64 0, .int .i64 0]) (by simp [results, Tryd.results50, go_sem]) rfl ⟨⟨⟨18, (pickedI dst regs), (pickedI a regs), 0, 0⟩, HX.out _ ?_, rfl⟩, ?_⟩
    · rfl
    · repeat (first | exact hb | exact Below.refl _ _ | apply Below.drew | apply below_drewN | refine Below.alloc ?_ (by first | omega | (simp; done) | (simp; omega)) _ | refine Below.setCell ?_ (by first | omega | (simp; done) | (simp; omega)) _)
  · obtain rfl : k = 13 := by omega
    go_enter Tryd.func50, Tryd.ntmps50
    go_wp2_with (go_at_call 13; refine (picked_any _ _ _ (by assumption) (by omega) (by omega)).mono ?_; rintro e w' ⟨rfl, rfl⟩)
    refine bodyPost_ret (v := .agg #[.int .i64 14, .int .i64 0, .int .i64 (pickedI a regs), .int .i64 (pickedI b regs), .int .i64 0]) (by simp [results, Tryd.results50, go_sem]) rfl ⟨⟨⟨14, 0, (pickedI a regs), (pickedI b regs), 0⟩, HX.out _ ?_, rfl⟩, ?_⟩
    · rfl
    · repeat (first | exact hb | exact Below.refl _ _ | apply Below.drew | apply below_drewN | refine Below.alloc ?_ (by first | omega | (simp; done) | (simp; omega)) _ | refine Below.setCell ?_ (by first | omega | (simp; done) | (simp; omega)) _)
  · obtain rfl : k = 14 := by omega
    go_enter Tryd.func50, Tryd.ntmps50
    go_wp2_with (go_at_call 13; refine (picked_any _ _ _ (by assumption) (by omega) (by omega)).mono ?_; rintro e w' ⟨rfl, rfl⟩)
    refine bodyPost_ret (v := .agg #[.int .i64 15, .int .i64 0, .int .i64 0, .int .i64 0, .int .i64 (pickedI imm places)]) (by simp [results, Tryd.results50, go_sem]) rfl ⟨⟨⟨15, 0, 0, 0, (pickedI imm places)⟩, HX.out _ ?_, rfl⟩, ?_⟩
    · rfl
    · repeat (first | exact hb | exact Below.refl _ _ | apply Below.drew | apply below_drewN | refine Below.alloc ?_ (by first | omega | (simp; done) | (simp; omega)) _ | refine Below.setCell ?_ (by first | omega | (simp; done) | (simp; omega)) _)
  · obtain rfl : k = 15 := by omega
    go_enter Tryd.func50, Tryd.ntmps50
    go_wp2_with (go_at_call 13; refine (picked_any _ _ _ (by assumption) (by omega) (by omega)).mono ?_; rintro e w' ⟨rfl, rfl⟩)
    refine bodyPost_ret (v := .agg #[.int .i64 16, .int .i64 0, .int .i64 (pickedI a regs), .int .i64 0, .int .i64 (pickedI imm places)]) (by simp [results, Tryd.results50, go_sem]) rfl ⟨⟨⟨16, 0, (pickedI a regs), 0, (pickedI imm places)⟩, HX.out _ ?_, rfl⟩, ?_⟩
    · rfl
    · repeat (first | exact hb | exact Below.refl _ _ | apply Below.drew | apply below_drewN | refine Below.alloc ?_ (by first | omega | (simp; done) | (simp; omega)) _ | refine Below.setCell ?_ (by first | omega | (simp; done) | (simp; omega)) _)
  · obtain rfl : k = 16 := by omega
    go_enter Tryd.func50, Tryd.ntmps50
    go_wp2_with (go_at_call 13; refine (picked_any _ _ _ (by assumption) (by omega) (by omega)).mono ?_; rintro e w' ⟨rfl, rfl⟩)
    refine bodyPost_ret (v := .agg #[.int .i64 17, .int .i64 (pickedI dst regs), .int .i64 (pickedI a regs), .int .i64 (pickedI b regs), .int .i64 (pickedI imm funcs)]) (by simp [results, Tryd.results50, go_sem]) rfl ⟨⟨⟨17, (pickedI dst regs), (pickedI a regs), (pickedI b regs), (pickedI imm funcs)⟩, HX.out _ ?_, rfl⟩, ?_⟩
    · rfl
    · repeat (first | exact hb | exact Below.refl _ _ | apply Below.drew | apply below_drewN | refine Below.alloc ?_ (by first | omega | (simp; done) | (simp; omega)) _ | refine Below.setCell ?_ (by first | omega | (simp; done) | (simp; omega)) _)
  · obtain rfl : k = 18 := by omega
    go_enter Tryd.func50, Tryd.ntmps50
    go_wp2_with (go_at_call 13; refine (picked_any _ _ _ (by assumption) (by omega) (by omega)).mono ?_; rintro e w' ⟨rfl, rfl⟩)
    refine bodyPost_ret (v := .agg #[.int .i64 19, .int .i64 0, .int .i64 (pickedI a regs), .int .i64 0, .int .i64 0]) (by simp [results, Tryd.results50, go_sem]) rfl ⟨⟨⟨19, 0, (pickedI a regs), 0, 0⟩, HX.out _ ?_, rfl⟩, ?_⟩
    · rfl
    · repeat (first | exact hb | exact Below.refl _ _ | apply Below.drew | apply below_drewN | refine Below.alloc ?_ (by first | omega | (simp; done) | (simp; omega)) _ | refine Below.setCell ?_ (by first | omega | (simp; done) | (simp; omega)) _)
end Go.Proofs.YtfdppmjoinodgaaDoor
