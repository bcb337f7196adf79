/-
  The walks of the statements on the machine's words: RvBack, RvFixed, RvApart: true for every input, over the tables as the program's start lays them.
-/
import Derived.Test.YtoipcikgeafemaaDoorRvW
namespace Go.Proofs.YtoipcikgeafemaaDoor
open Go.RowKit Tier
set_option maxRecDepth 100000 in
set_option maxHeartbeats 2000000 in
theorem back_walk (a b c d i : Int) (w : World) (ht : Tab w) (ha : In a) (hb : In b) (hc : In c) (hd : In d) (hi : In i) :
    Calls Tryd.prog 6 #[.agg #[.int .i64 a, .int .i64 b, .int .i64 c, .int .i64 d, .int .i64 i]] w fun e w' => e = .returned (.bool true) ∧ Below w.heap.size w w' := by
  have HT := Lib.hid ht
  go_enter Tryd.func6, Tryd.ntmps6
  go_wp2_with fail
  refine (rv_any _ _ _ _ _ _ ha hb hc hd hi).mono ?_
  rintro e w1 ⟨⟨op, rd, rs1, rs2, imm, rfl, hv⟩, hb1⟩
  have HB1 := Lib.hid (show Below w.heap.size w w1 from ((Below.refl _ _).alloc (Nat.le_refl _) _).trans (hb1.mono (by simp)))
  have hT1 := HT.out.keeps HB1.out
  obtain ⟨n, -, -, -, k, -⟩ := keys hv
  have x0 := k.lo
  have x1 := k.hi
  clear k hb1
  have HV := Lib.hid hv
  clear hv ht ha hb hc hd hi
  go_wp2_with fail
  refine (enc_any _ _ _ _ _ _ (hT1.alloc _)).mono ?_
  rintro e w2 ⟨rfl, hb2⟩
  rw [HV.out]
  have hT2 := (hT1.alloc _).keeps hb2
  obtain ⟨r1, z1⟩ := aft hb2 (b := w1.heap.size) (by simp)
  have HB2 := Lib.hid (show Below w1.heap.size w1 w2 from ((Below.refl _ _).alloc (Nat.le_refl _) _).trans (hb2.mono (by simp)))
  clear hb2
  go_wp2_with fail
  refine (dec_any _ _ hT2).mono ?_
  rintro e w3 ⟨⟨op', rd', rs1', rs2', imm', err, rfl, hd⟩, hb3⟩
  obtain ⟨rfl, rfl, rfl, rfl, rfl, rfl⟩ := dec_enc HV.out hd
  have hT3 := hT2.keeps hb3
  obtain ⟨r2, z2⟩ := aft hb3 z1
  have HB3 := Lib.hid hb3
  clear hb3 hd hT1 hT2
  go_wp2_with fail
  refine (check_any _ _ _ _ _ _ (hT3.alloc _)).mono ?_
  rintro e w4 ⟨rfl, hb4⟩
  rw [HV.out]
  have HB4 := Lib.hid hb4
  clear hb4 hT3
  go_wp2_with fail
  go_ret
  exact ⟨rfl, bthen (balloc (bthen (bthen HB1.out HB2.out) HB3.out) _) HB4.out⟩

set_option maxRecDepth 100000 in
set_option maxHeartbeats 2000000 in
theorem fixed_walk (x : Int) (w : World) (ht : Tab w) :
    Calls Tryd.prog 7 #[.int .i64 x] w fun e w' => e = .returned (.bool true) ∧ Below w.heap.size w w' := by
  go_enter Tryd.func7, Tryd.ntmps7
  go_wp2_with fail
  refine (dec_any _ _ ht).mono ?_
  rintro e w1 ⟨⟨op, rd, rs1, rs2, imm, err, rfl, hd⟩, hb1⟩
  have hT1 := ht.keeps hb1
  have HB1 := Lib.hid hb1
  clear hb1 ht
  rcases hd with ⟨hx, rfl, rfl, rfl, rfl, rfl, rfl⟩ | ⟨hx0, hx1, -, rfl, rfl, rfl, rfl, rfl, rfl⟩ | ⟨hx0, hx1, m, m1, m2, -, hm, rfl, rfl, rfl, rfl, rfl, rfl⟩
  · rcases hx with hx | hx
    · go_wp2_with fail
      go_ret
      exact ⟨rfl, balloc HB1.out _⟩
    · by_cases hx' : x < 0
      · omega
      · go_wp2_with fail
        go_ret
        refine ⟨?_, balloc HB1.out _⟩
        go_light
        simp [hx]
  · have hx0' : ¬ x < 0 := by omega
    go_wp2_with fail
    go_ret
    refine ⟨?_, balloc HB1.out _⟩
    go_light
    simp; omega
  · have HM := Lib.hid hm
    clear hm
    go_wp2_with fail
    refine (enc_any _ _ _ _ _ _ (hT1.alloc _)).mono ?_
    rintro e w2 ⟨rfl, hb2⟩
    rw [HM.out.1, HM.out.2]
    have HB2 := Lib.hid hb2
    clear hb2 hT1
    go_wp2_with fail
    go_ret
    exact ⟨rfl, bthen (balloc HB1.out _) HB2.out⟩

theorem and_3 (x : Int) : bits .and .i64 x 3 = x % 4 := and_mask x 2 (by omega)
set_option maxRecDepth 100000 in
set_option maxHeartbeats 2000000 in
theorem apart_walk (a b c d i a' b' c' d' i' : Int) (w : World) (ht : Tab w) (ha : In a) (hb : In b) (hc : In c) (hd : In d) (hi : In i) (ha' : In a') (hb' : In b') (hc' : In c') (hd' : In d') (hi' : In i') :
    Calls Tryd.prog 3 #[.agg #[.int .i64 a, .int .i64 b, .int .i64 c, .int .i64 d, .int .i64 i], .agg #[.int .i64 a', .int .i64 b', .int .i64 c', .int .i64 d', .int .i64 i']] w fun e w' => e = .returned (.bool true) ∧ Below w.heap.size w w' := by
  have HT := Lib.hid ht
  go_enter Tryd.func3, Tryd.ntmps3
  go_wp2_with fail
  refine (rv_any _ _ _ _ _ _ ha hb hc hd hi).mono ?_
  rintro e w1 ⟨⟨op, rd, rs1, rs2, imm, rfl, hv⟩, hb1⟩
  have HB1 := Lib.hid (show Below w.heap.size w w1 from (((Below.refl _ _).alloc (Nat.le_refl _) _).alloc (by simp) _).trans (hb1.mono (by simp; omega)))
  obtain ⟨r0, z0⟩ := aft hb1 (b := w.heap.size + 1) (by simp)
  have hT1 := HT.out.keeps HB1.out
  have HV := Lib.hid hv
  clear hv ht ha hb hc hd hi hb1
  go_wp2_with fail
  refine (rv_any _ _ _ _ _ _ ha' hb' hc' hd' hi').mono ?_
  rintro e w2 ⟨⟨op', rd', rs1', rs2', imm', rfl, hv'⟩, hb2⟩
  obtain ⟨r1, z1⟩ := aft hb2 (b := w1.heap.size) (by simp)
  have hT2 := (hT1.alloc _).keeps hb2
  have HB2 := Lib.hid hb2
  have HV' := Lib.hid hv'
  clear hv' ha' hb' hc' hd' hi' hb2 hT1
  go_wp2_with fail
  refine (enc_any _ _ _ _ _ _ (hT2.alloc _)).mono ?_
  rintro e w3 ⟨rfl, hb3⟩
  rw [HV.out]
  have hT3 := (hT2.alloc _).keeps hb3
  obtain ⟨r2, z2⟩ := aft hb3 (b := w1.heap.size) (by simp; omega)
  obtain ⟨r3, z3⟩ := aft hb3 (b := w2.heap.size) (by simp)
  have HB3 := Lib.hid hb3
  clear hb3 hT2
  go_wp2_with fail
  refine (enc_any _ _ _ _ _ _ hT3).mono ?_
  rintro e w4 ⟨rfl, hb4⟩
  rw [HV'.out]
  obtain ⟨r4, z4⟩ := aft hb4 z2
  obtain ⟨r5, z5⟩ := aft hb4 z3
  have HB4 := Lib.hid hb4
  clear hb4 hT3
  obtain ⟨n, -, n1, n2, k, -⟩ := keys HV.out
  have hlow : bits .and .i64 (encI op rd rs1 rs2 imm) 3 = 3 := by
    rw [and_3]
    have h1 := k.code
    have h2 : ∀ j : Fin 30, 1 ≤ j.val → codeOf j % 4 = 3 := by decide
    have h3 := h2 ⟨n, by omega⟩ n1
    dsimp only at h3
    omega
  clear k
  by_cases he : encI op rd rs1 rs2 imm = encI op' rd' rs1' rs2' imm'
  · obtain ⟨rfl, rfl, rfl, rfl, rfl⟩ := enc_inj HV.out HV'.out he
    clear he
    go_wp2_with fail
    go_ret
    exact ⟨rfl, bthen (bthen (balloc (bthen (balloc HB1.out _) HB2.out) _) HB3.out) HB4.out⟩
  · have he' : (encI op rd rs1 rs2 imm == encI op' rd' rs1' rs2' imm') = false := by simpa using he
    have HNE := Lib.hid (show ¬ (op = op' ∧ rd = rd' ∧ rs1 = rs1' ∧ rs2 = rs2' ∧ imm = imm') from fun h => he (by obtain ⟨rfl, rfl, rfl, rfl, rfl⟩ := h; rfl))
    clear he
    have fin : Below w.heap.size w w4 := bthen (bthen (balloc (bthen (balloc HB1.out _) HB2.out) _) HB3.out) HB4.out
    have HF := Lib.hid fin
    clear fin
    go_wp2_with fail
    · exact absurd ⟨by assumption, by assumption, by assumption, by assumption, by assumption⟩ HNE.out
    all_goals (go_ret; refine ⟨?_, HF.out⟩; go_light; simp [he']; try simp_all)
end Go.Proofs.YtoipcikgeafemaaDoor
