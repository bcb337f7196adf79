/-
  The contract of rv.Decode: over the tables as the program's start lays them.
-/
import Derived.Test.YtjjpgkjjiooieaaDoorRvE
namespace Tier
open Go Go.RowKit
/-- The fields that Decode tells for the op k. -/
def dRd (k : Nat) (x : Int) : Int := if fieldOf (shapeOf k).toNat 0 then fldI x 7 5 else 0
def dRs1 (k : Nat) (x : Int) : Int := if fieldOf (shapeOf k).toNat 1 then fldI x 15 5 else 0
def dRs2 (k : Nat) (x : Int) : Int := if fieldOf (shapeOf k).toNat 2 then fldI x 20 5 else 0
def dImm (k : Nat) (x : Int) : Int := numI x (shapeOf k)
/-- The word x is that of op k with these fields. -/
def hit (k : Nat) (x : Int) : Prop := chkI k (dRd k x) (dRs1 k x) (dRs2 k x) (dImm k x) = 0 ∧ encI k (dRd k x) (dRs1 k x) (dRs2 k x) (dImm k x) = x
/-- What Decode answers. -/
def decP (x op rd rs1 rs2 imm err : Int) : Prop :=
  ((x < 0 ∨ 4294967296 ≤ x) ∧ op = 0 ∧ rd = 0 ∧ rs1 = 0 ∧ rs2 = 0 ∧ imm = 0 ∧ err = 2) ∨
  (0 ≤ x ∧ x < 4294967296 ∧ (∀ j : Nat, 1 ≤ j → j < 30 → ¬ hit j x) ∧ op = 0 ∧ rd = 0 ∧ rs1 = 0 ∧ rs2 = 0 ∧ imm = 0 ∧ err = 3) ∨
  (0 ≤ x ∧ x < 4294967296 ∧ ∃ k : Nat, 1 ≤ k ∧ k < 30 ∧ (∀ j : Nat, 1 ≤ j → j < k → ¬ hit j x) ∧ hit k x ∧ op = k ∧ rd = dRd k x ∧ rs1 = dRs1 k x ∧ rs2 = dRs2 k x ∧ imm = dImm k x ∧ err = 0)
end Tier
namespace Go.Proofs.YtjjpgkjjiooieaaDoor
open Go.RowKit Tier
theorem idx0 {a b c : Value} (w : World) : (Instr.index 66 (.agg #[a, b, c]) (.int .i64 0)).run Tryd.prog w = .ok a w := by kernel_rfl
theorem pidx0 {a b c : Option Addr} (w : World) : (Instr.index 73 (.agg #[.pointer a, .pointer b, .pointer c]) (.int .i64 0)).run Tryd.prog w = .ok (.pointer a) w := by kernel_rfl
theorem pidx1 {a b c : Option Addr} (w : World) : (Instr.index 73 (.agg #[.pointer a, .pointer b, .pointer c]) (.int .i64 1)).run Tryd.prog w = .ok (.pointer b) w := by kernel_rfl
theorem pidx2 {a b c : Option Addr} (w : World) : (Instr.index 73 (.agg #[.pointer a, .pointer b, .pointer c]) (.int .i64 2)).run Tryd.prog w = .ok (.pointer c) w := by kernel_rfl
set_option maxRecDepth 100000 in
set_option maxHeartbeats 2000000 in
theorem dec_any (x : Int) (w : World) (ht : Tab w) :
    Calls Tryd.prog 24 #[.int .i64 x] w fun e w' => (∃ op rd rs1 rs2 imm err : Int, e = .returned (.tuple #[.agg #[.int .i64 op, .int .i64 rd, .int .i64 rs1, .int .i64 rs2, .int .i64 imm], .int .i64 err]) ∧ decP x op rd rs1 rs2 imm err) ∧ Below w.heap.size w w' := by
  by_cases h0 : x < 0
  · clear ht
    go_enter Tryd.func24, Tryd.ntmps24
    go_wp2_with fail
    refine bodyPost_ret (v := .tuple #[.agg #[.int .i64 0, .int .i64 0, .int .i64 0, .int .i64 0, .int .i64 0], .int .i64 2]) (by simp [results, Tryd.results24, go_sem]) rfl ⟨⟨0, 0, 0, 0, 0, 2, rfl, .inl ⟨.inl h0, rfl, rfl, rfl, rfl, rfl, rfl⟩⟩, ?_⟩
    repeat (first | exact hb | exact Below.refl _ _ | apply Below.drew | apply below_drewN | refine Below.alloc ?_ (by first | omega | (simp; done) | (simp; omega)) _ | refine Below.setCell ?_ (by first | omega | (simp; done) | (simp; omega)) _)
  · by_cases h1 : 4294967296 ≤ x
    · clear ht
      go_enter Tryd.func24, Tryd.ntmps24
      go_wp2_with fail
      refine bodyPost_ret (v := .tuple #[.agg #[.int .i64 0, .int .i64 0, .int .i64 0, .int .i64 0, .int .i64 0], .int .i64 2]) (by simp [results, Tryd.results24, go_sem]) rfl ⟨⟨0, 0, 0, 0, 0, 2, rfl, .inl ⟨.inr h1, rfl, rfl, rfl, rfl, rfl, rfl⟩⟩, ?_⟩
      repeat (first | exact hb | exact Below.refl _ _ | apply Below.drew | apply below_drewN | refine Below.alloc ?_ (by first | omega | (simp; done) | (simp; omega)) _ | refine Below.setCell ?_ (by first | omega | (simp; done) | (simp; omega)) _)
    · have HT := Lib.hid ht
      clear ht
      go_enter Tryd.func24, Tryd.ntmps24
      go_wp2_with fail
      obtain ⟨W0, hW0⟩ : ∃ W0, W0 = w.alloc (.cells #[.int .i64 0, .int .i64 0, .int .i64 0, .int .i64 0, .int .i64 0] 27) := ⟨_, rfl⟩
      go_loopw [4] (fun v wr => ∃ k : Nat, 1 ≤ k ∧ k ≤ 30 ∧ v = .int .i64 k ∧ (∀ j : Nat, 1 ≤ j → j < k → ¬ hit j x) ∧ Below (w.heap.size + 1) (w.alloc (.cells #[.int .i64 0, .int .i64 0, .int .i64 0, .int .i64 0, .int .i64 0] 27)) wr) (fun v _ => 30 - (intOf v).toNat)
      case atStart => exact ⟨1, by omega, by omega, rfl, by omega, Below.refl _ _⟩
      case round =>
        clear hW0 W0
        obtain ⟨k, hk1, hk2, rfl, hj, hb⟩ := hrel
        have HJ := Lib.hid hj
        have HB := Lib.hid hb
        have hT : Tab wr := (HT.out.alloc _).keeps (by simpa using hb)
        obtain ⟨r1, z1⟩ := aft (W := w.alloc (.cells #[.int .i64 0, .int .i64 0, .int .i64 0, .int .i64 0, .int .i64 0] 27)) (by simpa using hb) (b := w.heap.size) (by simp)
        have f1 := fun o => hb.frozen (p := ⟨w.heap.size, o, none⟩) (by simp)
        have z0 := hT.size
        have z00 := Nat.lt_trans Nat.zero_lt_one z0
        clear hj hb
        by_cases hk : k = 30
        · subst hk
          clear hT
          go_wp2_with fail
          refine bodyPost_ret (v := .tuple #[.agg #[.int .i64 0, .int .i64 0, .int .i64 0, .int .i64 0, .int .i64 0], .int .i64 3]) (by simp [results, Tryd.results24, go_sem, r1]) rfl ⟨⟨0, 0, 0, 0, 0, 3, rfl, .inr (.inl ⟨h0, by omega, HJ.out, rfl, rfl, rfl, rfl, rfl, rfl⟩)⟩, ?_⟩
          have hb : Below w.heap.size w wr := ((Below.refl _ _).alloc (Nat.le_refl _) _).trans (HB.out.mono (by omega))
          repeat (first | exact hb | exact Below.refl _ _ | apply Below.drew | apply below_drewN | refine Below.alloc ?_ (by first | omega | (simp; done) | (simp; omega)) _ | refine Below.setCell ?_ (by first | omega | (simp; done) | (simp; omega)) _)
        · obtain ⟨s0, s1, _⟩ := forms_ok k (by omega) (by omega)
          obtain ⟨s, hs⟩ := Int.eq_ofNat_of_zero_le s0
          have es : (shapeOf k).toNat = s := by omega
          have t0 : wr.cell? ⟨0, k * 4, none⟩ = some (.int .i64 (shapeOf k)) := hT.forms _ (by omega)
          rw [hs] at t0 s1
          have t1 : wr.cell? ⟨0, k * 4 + 1, none⟩ = some (.int .i64 (codeOf k)) := hT.forms _ (by omega)
          have t2 : wr.cell? ⟨0, k * 4 + 2, none⟩ = some (.int .i64 (f3Of k)) := hT.forms _ (by omega)
          have t3 : wr.cell? ⟨0, k * 4 + 3, none⟩ = some (.int .i64 (f7Of k)) := hT.forms _ (by omega)
          have d0 : wr.cell? ⟨1, s * 3, none⟩ = some (.bool (fieldOf s 0)) := hT.fields _ (by omega)
          have d1 : wr.cell? ⟨1, s * 3 + 1, none⟩ = some (.bool (fieldOf s 1)) := hT.fields _ (by omega)
          have d2 : wr.cell? ⟨1, s * 3 + 2, none⟩ = some (.bool (fieldOf s 2)) := hT.fields _ (by omega)
          have HX := Lib.hid (show dRd k x = (if fieldOf s 0 then fldI x 7 5 else 0) ∧ dRs1 k x = (if fieldOf s 1 then fldI x 15 5 else 0) ∧ dRs2 k x = (if fieldOf s 2 then fldI x 20 5 else 0) ∧ dImm k x = numI x s from ⟨by rw [← es]; rfl, by rw [← es]; rfl, by rw [← es]; rfl, by rw [← hs]; rfl⟩)
          have HTr := Lib.hid hT
          clear hT es hs
          generalize fieldOf s 0 = b0 at *
          generalize fieldOf s 1 = b1 at *
          generalize fieldOf s 2 = b2 at *
          generalize codeOf k = cc at *
          generalize f3Of k = cg at *
          generalize f7Of k = ch at *
          have p0 : ∀ (a b c : Option Addr) W, (Instr.index 73 (.agg #[.pointer a, .pointer b, .pointer c]) (.int .i64 0)).run Tryd.prog W = .ok (.pointer a) W := fun _ _ _ W => pidx0 W
          have p1 : ∀ (a b c : Option Addr) W, (Instr.index 73 (.agg #[.pointer a, .pointer b, .pointer c]) (.int .i64 1)).run Tryd.prog W = .ok (.pointer b) W := fun _ _ _ W => pidx1 W
          have p2 : ∀ (a b c : Option Addr) W, (Instr.index 73 (.agg #[.pointer a, .pointer b, .pointer c]) (.int .i64 2)).run Tryd.prog W = .ok (.pointer c) W := fun _ _ _ W => pidx2 W
          have l0 : ∀ W, (Instr.index 66 (.agg #[.int .i64 7, .int .i64 15, .int .i64 20]) (.int .i64 0)).run Tryd.prog W = .ok (.int .i64 7) W := fun _ => by kernel_rfl
          have l1 : ∀ W, (Instr.index 66 (.agg #[.int .i64 7, .int .i64 15, .int .i64 20]) (.int .i64 1)).run Tryd.prog W = .ok (.int .i64 15) W := fun _ => by kernel_rfl
          have l2 : ∀ W, (Instr.index 66 (.agg #[.int .i64 7, .int .i64 15, .int .i64 20]) (.int .i64 2)).run Tryd.prog W = .ok (.int .i64 20) W := fun _ => by kernel_rfl
          go_wp2_with (go_at_call 28; refine (num_any _ _ (by omega) _).mono ?_; rintro e w' ⟨rfl, kk, rfl⟩)
          obtain ⟨wo, hwo⟩ : ∃ wo : World, wo = wr := ⟨_, rfl⟩
          subst hwo
          go_loopw [35] (fun v wi => ∃ m q : Nat, m ≤ 3 ∧ v = .int .i64 m ∧ wi = ((wo.alloc (.cells #[.int .i64 s, .int .i64 cc, .int .i64 cg, .int .i64 ch] 59)).alloc (.cells #[.int .i64 k, .int .i64 (if 1 ≤ m ∧ b0 = true then fldI x 7 5 else 0), .int .i64 (if 2 ≤ m ∧ b1 = true then fldI x 15 5 else 0), .int .i64 (if 3 ≤ m ∧ b2 = true then fldI x 20 5 else 0), .int .i64 (numI x s)] 27)).drewN q) (fun v _ => 3 - (intOf v).toNat)
          case atStart => exact ⟨0, kk, by omega, rfl, rfl⟩
          case round =>
            obtain ⟨m, q, hm, rfl, rfl⟩ := hrel
            have hc : m = 0 ∨ m = 1 ∨ m = 2 ∨ m = 3 := by omega
            clear hm
            rcases hc with rfl | rfl | rfl | rfl
            · simp only [Nat.reduceLeDiff, false_and, if_false]
              cases b0
              · simp only [Bool.false_eq_true, if_false] at *
                go_wp2_with (go_at_call 22; refine (bits_any _ _ _ _ (by omega) (by omega) (by omega) (by omega)).mono ?_; rintro e w' ⟨rfl, kk2, rfl⟩)
                go_roundw
                case rel => exact ⟨1, q, by omega, by go_num, by simp⟩
                case measure => simp [intOf]
              · simp only [if_true] at *
                go_wp2_with (go_at_call 22; refine (bits_any _ _ _ _ (by omega) (by omega) (by omega) (by omega)).mono ?_; rintro e w' ⟨rfl, kk2, rfl⟩)
                go_roundw
                case rel => exact ⟨1, q + kk2, by omega, by go_num, by rw [set_new _ _ _ _ _ _ _ (by simp)]; simp⟩
                case measure => simp [intOf]
            · simp only [Nat.reduceLeDiff, Nat.le_refl, false_and, true_and, if_false]
              cases b1
              · simp only [Bool.false_eq_true, if_false] at *
                go_wp2_with (go_at_call 22; refine (bits_any _ _ _ _ (by omega) (by omega) (by omega) (by omega)).mono ?_; rintro e w' ⟨rfl, kk2, rfl⟩)
                go_roundw
                case rel => exact ⟨2, q, by omega, by go_num, by simp⟩
                case measure => simp [intOf]
              · simp only [if_true] at *
                go_wp2_with (go_at_call 22; refine (bits_any _ _ _ _ (by omega) (by omega) (by omega) (by omega)).mono ?_; rintro e w' ⟨rfl, kk2, rfl⟩)
                go_roundw
                case rel => exact ⟨2, q + kk2, by omega, by go_num, by rw [set_new _ _ _ _ _ _ _ (by simp)]; simp⟩
                case measure => simp [intOf]
            · simp only [Nat.reduceLeDiff, Nat.le_refl, false_and, true_and, if_false]
              cases b2
              · simp only [Bool.false_eq_true, if_false] at *
                go_wp2_with (go_at_call 22; refine (bits_any _ _ _ _ (by omega) (by omega) (by omega) (by omega)).mono ?_; rintro e w' ⟨rfl, kk2, rfl⟩)
                go_roundw
                case rel => exact ⟨3, q, by omega, by go_num, by simp⟩
                case measure => simp [intOf]
              · simp only [if_true] at *
                go_wp2_with (go_at_call 22; refine (bits_any _ _ _ _ (by omega) (by omega) (by omega) (by omega)).mono ?_; rintro e w' ⟨rfl, kk2, rfl⟩)
                go_roundw
                case rel => exact ⟨3, q + kk2, by omega, by go_num, by rw [set_new _ _ _ _ _ _ _ (by simp)]; simp⟩
                case measure => simp [intOf]
            · simp only [Nat.reduceLeDiff, Nat.le_refl, true_and]
              obtain ⟨x0, x1, x2, x3⟩ := HX.out
              obtain ⟨rd, e0⟩ : ∃ r, r = dRd k x := ⟨_, rfl⟩
              obtain ⟨rs1, e1⟩ : ∃ r, r = dRs1 k x := ⟨_, rfl⟩
              obtain ⟨rs2, e2⟩ : ∃ r, r = dRs2 k x := ⟨_, rfl⟩
              obtain ⟨imm, e3⟩ : ∃ r, r = dImm k x := ⟨_, rfl⟩
              rw [← x0, ← x1, ← x2, ← x3, ← e0, ← e1, ← e2, ← e3]
              have HE := Lib.hid (show rd = dRd k x ∧ rs1 = dRs1 k x ∧ rs2 = dRs2 k x ∧ imm = dImm k x from ⟨e0, e1, e2, e3⟩)
              have HH := Lib.hid (show hit k x ↔ chkI k rd rs1 rs2 imm = 0 ∧ encI k rd rs1 rs2 imm = x by rw [e0, e1, e2, e3]; exact Iff.rfl)
              clear x0 x1 x2 x3 e0 e1 e2 e3 HX
              go_wp2_with fail
              refine (enc_any _ _ _ _ _ _ (((HTr.out.alloc _).alloc _).drewN _)).mono ?_
              rintro e w2 ⟨rfl, hb⟩
              obtain ⟨v1, y1⟩ := aft hb (b := w.heap.size) (by simp; omega)
              obtain ⟨v2, y2⟩ := aft hb (b := wo.heap.size + 1) (by simp)
              have g1 := fun o => hb.frozen (p := ⟨w.heap.size, o, none⟩) (by simp; omega)
              have HB2 := Lib.hid (show Below (wo.heap.size + 2) (((wo.alloc (.cells #[.int .i64 s, .int .i64 cc, .int .i64 cg, .int .i64 ch] 59)).alloc (.cells #[.int .i64 k, .int .i64 rd, .int .i64 rs1, .int .i64 rs2, .int .i64 imm] 27)).drewN q) w2 from by simpa using hb)
              clear hb
              by_cases ha : chkI k rd rs1 rs2 imm = 0
              · by_cases hc : encI k rd rs1 rs2 imm = x
                · rw [ha, hc]
                  have HHit := Lib.hid (HH.out.2 ⟨ha, hc⟩)
                  clear ha hc
                  go_wp2_with fail
                  have hb : Below w.heap.size w w2 := (((Below.refl _ _).alloc (Nat.le_refl _) _).trans (HB.out.mono (by omega))).trans ((((((Below.refl _ _).alloc (by omega) _).alloc (by simp; omega) _) |> fun h => below_drewN h q)).trans (HB2.out.mono (by omega)))
                  refine bodyPost_ret (v := .tuple #[.agg #[.int .i64 k, .int .i64 rd, .int .i64 rs1, .int .i64 rs2, .int .i64 imm], .int .i64 0]) (by simp [results, Tryd.results24, go_sem, v1, r1, z1, Nat.lt_succ_of_lt z1]) rfl ⟨⟨k, rd, rs1, rs2, imm, 0, rfl, .inr (.inr ⟨h0, by omega, k, hk1, by omega, HJ.out, HHit.out, rfl, HE.out.1, HE.out.2.1, HE.out.2.2.1, HE.out.2.2.2, rfl⟩)⟩, ?_⟩
                  repeat (first | exact hb | exact Below.refl _ _ | apply Below.drew | apply below_drewN | refine Below.alloc ?_ (by first | omega | (simp; done) | (simp; omega)) _ | refine Below.setCell ?_ (by first | omega | (simp; done) | (simp; omega)) _)
                · have hc' : (encI k rd rs1 rs2 imm == x) = false := by simpa using hc
                  have HHit := Lib.hid (fun h => hc (HH.out.1 h).2)
                  rw [ha]
                  clear ha hc
                  go_wp2_with fail
                  go_roundw
                  case rel =>
                    refine ⟨k + 1, by omega, by omega, by go_num, ?_, ?_⟩
                    · intro j j1 j2
                      by_cases hjk : j = k
                      · subst hjk; exact HHit.out
                      · exact HJ.out j j1 (by omega)
                    · exact HB.out.trans (((((Below.refl _ _).alloc (by omega) _).alloc (by simp; omega) _) |> fun h => below_drewN h q).trans (HB2.out.mono (by omega)))
                  case measure => simp [intOf]; omega
              · have ha' : (chkI k rd rs1 rs2 imm == 0) = false := by simpa using ha
                have HHit := Lib.hid (fun h => ha (HH.out.1 h).1)
                clear ha
                go_wp2_with fail
                go_roundw
                case rel =>
                  refine ⟨k + 1, by omega, by omega, by go_num, ?_, ?_⟩
                  · intro j j1 j2
                    by_cases hjk : j = k
                    · subst hjk; exact HHit.out
                    · exact HJ.out j j1 (by omega)
                  · exact HB.out.trans (((((Below.refl _ _).alloc (by omega) _).alloc (by simp; omega) _) |> fun h => below_drewN h q).trans (HB2.out.mono (by omega)))
                case measure => simp [intOf]; omega
end Go.Proofs.YtjjpgkjjiooieaaDoor
