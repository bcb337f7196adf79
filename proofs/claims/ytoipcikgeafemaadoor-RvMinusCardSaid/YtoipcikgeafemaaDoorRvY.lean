/-
  The walks of the statements RvBad, RvBits, RvMinus: true for every input, over the tables as the program's start lays them.
-/
import Derived.Test.YtoipcikgeafemaaDoorRvW
namespace Tier
open Go Go.RowKit
theorem chk_rd {op rd rs1 rs2 imm : Int} (h : chkI op rd rs1 rs2 imm = 0) : chkI op 32 rs1 rs2 imm = 2 := by
  obtain ⟨h1, h2, _⟩ := chkI_inv h
  unfold chkI; rw [if_neg (by omega), if_neg (by omega)]; exact chk_bad0 (bad_hi (by omega))
theorem chk_rs1 {op rd rs1 rs2 imm : Int} (h : chkI op rd rs1 rs2 imm = 0) : chkI op rd (-1) rs2 imm = 2 := by
  obtain ⟨h1, h2, _⟩ := chkI_inv h
  unfold chkI; rw [if_neg (by omega), if_neg (by omega)]; exact chk_bad1 (bad_lo (by omega))
theorem hi_all (s : Int) : immHi s < 2097152 := by unfold immHi; repeat' split <;> try omega
theorem chk_imm2 {op rd rs1 rs2 imm : Int} (h : chkI op rd rs1 rs2 imm = 0) : chkI op rd rs1 rs2 2097152 = 2 := by
  obtain ⟨h1, h2, _⟩ := chkI_inv h
  unfold chkI; rw [if_neg (by omega), if_neg (by omega)]; exact chk_imm (.inr (.inl (hi_all _)))
theorem chk_op {op rd rs1 rs2 imm : Int} (h : 29 < op) : chkI op rd rs1 rs2 imm = 3 := by
  unfold chkI; rw [if_neg (by omega), if_pos h]
theorem and_31 (x : Int) : bits .and .i64 x 31 = x % 32 := and_mask x 5 (by omega)
theorem and_127 (x : Int) : bits .and .i64 x 127 = x % 128 := and_mask x 7 (by omega)
theorem and_4095 (x : Int) : bits .and .i64 x 4095 = x % 4096 := and_mask x 12 (by omega)
theorem and_20 (x : Int) : bits .and .i64 x 1048575 = x % 1048576 := and_mask x 20 (by omega)
theorem codes : ∀ k : Fin 30, 1 ≤ k.val → (k.val ≤ 11 → codeOf k = 51) ∧ (12 ≤ k.val → k.val ≤ 19 → codeOf k = 19) ∧ (k.val = 20 → codeOf k = 3) ∧ (k.val = 27 → codeOf k = 103) ∧ (k.val = 21 → codeOf k = 35) ∧ (22 ≤ k.val → k.val ≤ 25 → codeOf k = 99) ∧ (k.val = 26 → codeOf k = 111) ∧ (k.val = 28 → codeOf k = 55) ∧ (k.val = 29 → codeOf k = 115) := by decide +kernel
theorem code_is (op : Int) (h1 : 1 ≤ op) (h2 : op ≤ 29) : (op ≤ 11 → codeOf op.toNat = 51) ∧ (12 ≤ op → op ≤ 19 → codeOf op.toNat = 19) ∧ (op = 20 → codeOf op.toNat = 3) ∧ (op = 27 → codeOf op.toNat = 103) ∧ (op = 21 → codeOf op.toNat = 35) ∧ (22 ≤ op → op ≤ 25 → codeOf op.toNat = 99) ∧ (op = 26 → codeOf op.toNat = 111) ∧ (op = 28 → codeOf op.toNat = 55) ∧ (op = 29 → codeOf op.toNat = 115) := by
  obtain ⟨a, b, c, d, e, f, g, h, i⟩ := codes ⟨op.toNat, by omega⟩ (show 1 ≤ op.toNat by omega)
  dsimp only at a b c d e f g h i
  exact ⟨fun _ => a (by omega), fun _ _ => b (by omega) (by omega), fun _ => c (by omega), fun _ => d (by omega), fun _ => e (by omega), fun _ _ => f (by omega) (by omega), fun _ => g (by omega), fun _ => h (by omega), fun _ => i (by omega)⟩
theorem tell0 {op rd rs1 rs2 imm : Int} (h : chkI op rd rs1 rs2 imm = 0) (hs : shapeOf op.toNat = 0) : (encI op rd rs1 rs2 imm % 128 = codeOf op.toNat) ∧ (encI op rd rs1 rs2 imm / 128 % 32 = rd) ∧ (encI op rd rs1 rs2 imm / 32768 % 32 = rs1) ∧ (encI op rd rs1 rs2 imm / 1048576 % 32 = rs2) ∧ (0 < encI op rd rs1 rs2 imm ∧ encI op rd rs1 rs2 imm < 4294967296) := by
  obtain ⟨n, rfl, n1, n2, k, e⟩ := keys h
  simp only [Int.toNat_natCast] at hs ⊢
  obtain ⟨-, -, hk⟩ := chkI_inv h
  rw [Int.toNat_natCast, hs] at hk
  obtain ⟨i0, i1, i2, i3, i4, i5⟩ := chk_inv hk
  have j3 : 0 ≤ imm := i3
  have j4 : imm ≤ 0 := i4
  obtain ⟨a0, a1, a2⟩ := bad_inv i0
  obtain ⟨b0, b1, b2⟩ := bad_inv i1
  obtain ⟨d0, d1, d2⟩ := bad_inv i2
  obtain ⟨-, -, c0, c1, g0, g1, k0, k1⟩ := forms_ok n n1 n2
  have q0 := k.rd
  have q1 := k.rs1
  have q2 := k.rs2
  have q3 := k.code
  have q4 := k.lo
  have q5 := k.hi
  rw [hs] at e
  have w0 : encI n rd rs1 rs2 imm / 2 ^ 7 % 2 ^ 5 = rd := by
    have y : dRd n (encI n rd rs1 rs2 imm) = (if fieldOf (shapeOf n).toNat 0 then fldI (encI n rd rs1 rs2 imm) 7 5 else 0) := rfl
    rw [hs] at y
    exact y.symm.trans q0
  simp only [Int.reducePow] at w0
  have w1 : encI n rd rs1 rs2 imm / 2 ^ 15 % 2 ^ 5 = rs1 := by
    have y : dRs1 n (encI n rd rs1 rs2 imm) = (if fieldOf (shapeOf n).toNat 1 then fldI (encI n rd rs1 rs2 imm) 15 5 else 0) := rfl
    rw [hs] at y
    exact y.symm.trans q1
  simp only [Int.reducePow] at w1
  have w2 : encI n rd rs1 rs2 imm / 2 ^ 20 % 2 ^ 5 = rs2 := by
    have y : dRs2 n (encI n rd rs1 rs2 imm) = (if fieldOf (shapeOf n).toNat 2 then fldI (encI n rd rs1 rs2 imm) 20 5 else 0) := rfl
    rw [hs] at y
    exact y.symm.trans q2
  simp only [Int.reducePow] at w2
  exact ⟨q3, w0, w1, w2, ⟨q4, q5⟩⟩
theorem tell1 {op rd rs1 rs2 imm : Int} (h : chkI op rd rs1 rs2 imm = 0) (hs : shapeOf op.toNat = 1) : (encI op rd rs1 rs2 imm % 128 = codeOf op.toNat) ∧ (encI op rd rs1 rs2 imm / 128 % 32 = rd) ∧ (encI op rd rs1 rs2 imm / 32768 % 32 = rs1) ∧ (encI op rd rs1 rs2 imm / 1048576 = imm % 4096) ∧ (0 < encI op rd rs1 rs2 imm ∧ encI op rd rs1 rs2 imm < 4294967296) := by
  obtain ⟨n, rfl, n1, n2, k, e⟩ := keys h
  simp only [Int.toNat_natCast] at hs ⊢
  obtain ⟨-, -, hk⟩ := chkI_inv h
  rw [Int.toNat_natCast, hs] at hk
  obtain ⟨i0, i1, i2, i3, i4, i5⟩ := chk_inv hk
  have j3 : -2048 ≤ imm := i3
  have j4 : imm ≤ 2047 := i4
  obtain ⟨a0, a1, a2⟩ := bad_inv i0
  obtain ⟨b0, b1, b2⟩ := bad_inv i1
  obtain ⟨d0, d1, d2⟩ := bad_inv i2
  obtain ⟨-, -, c0, c1, g0, g1, k0, k1⟩ := forms_ok n n1 n2
  have q0 := k.rd
  have q1 := k.rs1
  have q2 := k.rs2
  have q3 := k.code
  have q4 := k.lo
  have q5 := k.hi
  rw [hs] at e
  have w0 : encI n rd rs1 rs2 imm / 2 ^ 7 % 2 ^ 5 = rd := by
    have y : dRd n (encI n rd rs1 rs2 imm) = (if fieldOf (shapeOf n).toNat 0 then fldI (encI n rd rs1 rs2 imm) 7 5 else 0) := rfl
    rw [hs] at y
    exact y.symm.trans q0
  simp only [Int.reducePow] at w0
  have w1 : encI n rd rs1 rs2 imm / 2 ^ 15 % 2 ^ 5 = rs1 := by
    have y : dRs1 n (encI n rd rs1 rs2 imm) = (if fieldOf (shapeOf n).toNat 1 then fldI (encI n rd rs1 rs2 imm) 15 5 else 0) := rfl
    rw [hs] at y
    exact y.symm.trans q1
  simp only [Int.reducePow] at w1
  clear q0 q1 q2 i0 i1 i2 i3 i4 i5 hk h k
  have e' : encI n rd rs1 rs2 imm = codeOf n + rd * 128 + f3Of n * 4096 + rs1 * 32768 + imm % 4096 * 1048576 := e
  clear e
  exact ⟨q3, w0, w1, by clear w0; clear w1; omega, ⟨q4, q5⟩⟩
theorem tell2 {op rd rs1 rs2 imm : Int} (h : chkI op rd rs1 rs2 imm = 0) (hs : shapeOf op.toNat = 2) : (encI op rd rs1 rs2 imm % 128 = codeOf op.toNat) ∧ (encI op rd rs1 rs2 imm / 128 % 32 = rd) ∧ (encI op rd rs1 rs2 imm / 32768 % 32 = rs1) ∧ (0 < encI op rd rs1 rs2 imm ∧ encI op rd rs1 rs2 imm < 4294967296) := by
  obtain ⟨n, rfl, n1, n2, k, e⟩ := keys h
  simp only [Int.toNat_natCast] at hs ⊢
  obtain ⟨-, -, hk⟩ := chkI_inv h
  rw [Int.toNat_natCast, hs] at hk
  obtain ⟨i0, i1, i2, i3, i4, i5⟩ := chk_inv hk
  have j3 : 0 ≤ imm := i3
  have j4 : imm ≤ 63 := i4
  obtain ⟨a0, a1, a2⟩ := bad_inv i0
  obtain ⟨b0, b1, b2⟩ := bad_inv i1
  obtain ⟨d0, d1, d2⟩ := bad_inv i2
  obtain ⟨-, -, c0, c1, g0, g1, k0, k1⟩ := forms_ok n n1 n2
  have q0 := k.rd
  have q1 := k.rs1
  have q2 := k.rs2
  have q3 := k.code
  have q4 := k.lo
  have q5 := k.hi
  rw [hs] at e
  have w0 : encI n rd rs1 rs2 imm / 2 ^ 7 % 2 ^ 5 = rd := by
    have y : dRd n (encI n rd rs1 rs2 imm) = (if fieldOf (shapeOf n).toNat 0 then fldI (encI n rd rs1 rs2 imm) 7 5 else 0) := rfl
    rw [hs] at y
    exact y.symm.trans q0
  simp only [Int.reducePow] at w0
  have w1 : encI n rd rs1 rs2 imm / 2 ^ 15 % 2 ^ 5 = rs1 := by
    have y : dRs1 n (encI n rd rs1 rs2 imm) = (if fieldOf (shapeOf n).toNat 1 then fldI (encI n rd rs1 rs2 imm) 15 5 else 0) := rfl
    rw [hs] at y
    exact y.symm.trans q1
  simp only [Int.reducePow] at w1
  exact ⟨q3, w0, w1, ⟨q4, q5⟩⟩
theorem tell3 {op rd rs1 rs2 imm : Int} (h : chkI op rd rs1 rs2 imm = 0) (hs : shapeOf op.toNat = 3) : (encI op rd rs1 rs2 imm % 128 = codeOf op.toNat) ∧ (encI op rd rs1 rs2 imm / 32768 % 32 = rs1) ∧ (encI op rd rs1 rs2 imm / 1048576 % 32 = rs2) ∧ (0 < encI op rd rs1 rs2 imm ∧ encI op rd rs1 rs2 imm < 4294967296) := by
  obtain ⟨n, rfl, n1, n2, k, e⟩ := keys h
  simp only [Int.toNat_natCast] at hs ⊢
  obtain ⟨-, -, hk⟩ := chkI_inv h
  rw [Int.toNat_natCast, hs] at hk
  obtain ⟨i0, i1, i2, i3, i4, i5⟩ := chk_inv hk
  have j3 : -2048 ≤ imm := i3
  have j4 : imm ≤ 2047 := i4
  obtain ⟨a0, a1, a2⟩ := bad_inv i0
  obtain ⟨b0, b1, b2⟩ := bad_inv i1
  obtain ⟨d0, d1, d2⟩ := bad_inv i2
  obtain ⟨-, -, c0, c1, g0, g1, k0, k1⟩ := forms_ok n n1 n2
  have q0 := k.rd
  have q1 := k.rs1
  have q2 := k.rs2
  have q3 := k.code
  have q4 := k.lo
  have q5 := k.hi
  rw [hs] at e
  have w1 : encI n rd rs1 rs2 imm / 2 ^ 15 % 2 ^ 5 = rs1 := by
    have y : dRs1 n (encI n rd rs1 rs2 imm) = (if fieldOf (shapeOf n).toNat 1 then fldI (encI n rd rs1 rs2 imm) 15 5 else 0) := rfl
    rw [hs] at y
    exact y.symm.trans q1
  simp only [Int.reducePow] at w1
  have w2 : encI n rd rs1 rs2 imm / 2 ^ 20 % 2 ^ 5 = rs2 := by
    have y : dRs2 n (encI n rd rs1 rs2 imm) = (if fieldOf (shapeOf n).toNat 2 then fldI (encI n rd rs1 rs2 imm) 20 5 else 0) := rfl
    rw [hs] at y
    exact y.symm.trans q2
  simp only [Int.reducePow] at w2
  exact ⟨q3, w1, w2, ⟨q4, q5⟩⟩
theorem tell4 {op rd rs1 rs2 imm : Int} (h : chkI op rd rs1 rs2 imm = 0) (hs : shapeOf op.toNat = 4) : (encI op rd rs1 rs2 imm % 128 = codeOf op.toNat) ∧ (encI op rd rs1 rs2 imm / 32768 % 32 = rs1) ∧ (encI op rd rs1 rs2 imm / 1048576 % 32 = rs2) ∧ (encI op rd rs1 rs2 imm / 2147483648 = imm / 4096 % 2) ∧ (0 < encI op rd rs1 rs2 imm ∧ encI op rd rs1 rs2 imm < 4294967296) := by
  obtain ⟨n, rfl, n1, n2, k, e⟩ := keys h
  simp only [Int.toNat_natCast] at hs ⊢
  obtain ⟨-, -, hk⟩ := chkI_inv h
  rw [Int.toNat_natCast, hs] at hk
  obtain ⟨i0, i1, i2, i3, i4, i5⟩ := chk_inv hk
  have j3 : -4096 ≤ imm := i3
  have j4 : imm ≤ 4092 := i4
  obtain ⟨a0, a1, a2⟩ := bad_inv i0
  obtain ⟨b0, b1, b2⟩ := bad_inv i1
  obtain ⟨d0, d1, d2⟩ := bad_inv i2
  obtain ⟨-, -, c0, c1, g0, g1, k0, k1⟩ := forms_ok n n1 n2
  have q0 := k.rd
  have q1 := k.rs1
  have q2 := k.rs2
  have q3 := k.code
  have q4 := k.lo
  have q5 := k.hi
  rw [hs] at e
  have w1 : encI n rd rs1 rs2 imm / 2 ^ 15 % 2 ^ 5 = rs1 := by
    have y : dRs1 n (encI n rd rs1 rs2 imm) = (if fieldOf (shapeOf n).toNat 1 then fldI (encI n rd rs1 rs2 imm) 15 5 else 0) := rfl
    rw [hs] at y
    exact y.symm.trans q1
  simp only [Int.reducePow] at w1
  have w2 : encI n rd rs1 rs2 imm / 2 ^ 20 % 2 ^ 5 = rs2 := by
    have y : dRs2 n (encI n rd rs1 rs2 imm) = (if fieldOf (shapeOf n).toNat 2 then fldI (encI n rd rs1 rs2 imm) 20 5 else 0) := rfl
    rw [hs] at y
    exact y.symm.trans q2
  simp only [Int.reducePow] at w2
  clear q0 q1 q2 i0 i1 i2 i3 i4 i5 hk h k
  have e' : encI n rd rs1 rs2 imm = codeOf n + imm / 2048 % 2 * 128 + imm / 2 % 16 * 256 + f3Of n * 4096 + rs1 * 32768 + rs2 * 1048576 + imm / 32 % 64 * 33554432 + imm / 4096 % 2 * 2147483648 := e
  clear e
  exact ⟨q3, w1, w2, by clear w1; clear w2; omega, ⟨q4, q5⟩⟩
theorem tell5 {op rd rs1 rs2 imm : Int} (h : chkI op rd rs1 rs2 imm = 0) (hs : shapeOf op.toNat = 5) : (encI op rd rs1 rs2 imm % 128 = codeOf op.toNat) ∧ (encI op rd rs1 rs2 imm / 128 % 32 = rd) ∧ (encI op rd rs1 rs2 imm / 2147483648 = imm / 1048576 % 2) ∧ (0 < encI op rd rs1 rs2 imm ∧ encI op rd rs1 rs2 imm < 4294967296) := by
  obtain ⟨n, rfl, n1, n2, k, e⟩ := keys h
  simp only [Int.toNat_natCast] at hs ⊢
  obtain ⟨-, -, hk⟩ := chkI_inv h
  rw [Int.toNat_natCast, hs] at hk
  obtain ⟨i0, i1, i2, i3, i4, i5⟩ := chk_inv hk
  have j3 : -1048576 ≤ imm := i3
  have j4 : imm ≤ 1048572 := i4
  obtain ⟨a0, a1, a2⟩ := bad_inv i0
  obtain ⟨b0, b1, b2⟩ := bad_inv i1
  obtain ⟨d0, d1, d2⟩ := bad_inv i2
  obtain ⟨-, -, c0, c1, g0, g1, k0, k1⟩ := forms_ok n n1 n2
  have q0 := k.rd
  have q1 := k.rs1
  have q2 := k.rs2
  have q3 := k.code
  have q4 := k.lo
  have q5 := k.hi
  rw [hs] at e
  have w0 : encI n rd rs1 rs2 imm / 2 ^ 7 % 2 ^ 5 = rd := by
    have y : dRd n (encI n rd rs1 rs2 imm) = (if fieldOf (shapeOf n).toNat 0 then fldI (encI n rd rs1 rs2 imm) 7 5 else 0) := rfl
    rw [hs] at y
    exact y.symm.trans q0
  simp only [Int.reducePow] at w0
  clear q0 q1 q2 i0 i1 i2 i3 i4 i5 hk h k
  have e' : encI n rd rs1 rs2 imm = codeOf n + rd * 128 + imm / 4096 % 256 * 4096 + imm / 2048 % 2 * 1048576 + imm / 2 % 1024 * 2097152 + imm / 1048576 % 2 * 2147483648 := e
  clear e
  exact ⟨q3, w0, by clear w0; omega, ⟨q4, q5⟩⟩
theorem tell6 {op rd rs1 rs2 imm : Int} (h : chkI op rd rs1 rs2 imm = 0) (hs : shapeOf op.toNat = 6) : (encI op rd rs1 rs2 imm % 128 = codeOf op.toNat) ∧ (encI op rd rs1 rs2 imm / 128 % 32 = rd) ∧ (encI op rd rs1 rs2 imm / 4096 = imm % 1048576) ∧ (0 < encI op rd rs1 rs2 imm ∧ encI op rd rs1 rs2 imm < 4294967296) := by
  obtain ⟨n, rfl, n1, n2, k, e⟩ := keys h
  simp only [Int.toNat_natCast] at hs ⊢
  obtain ⟨-, -, hk⟩ := chkI_inv h
  rw [Int.toNat_natCast, hs] at hk
  obtain ⟨i0, i1, i2, i3, i4, i5⟩ := chk_inv hk
  have j3 : -524288 ≤ imm := i3
  have j4 : imm ≤ 524287 := i4
  obtain ⟨a0, a1, a2⟩ := bad_inv i0
  obtain ⟨b0, b1, b2⟩ := bad_inv i1
  obtain ⟨d0, d1, d2⟩ := bad_inv i2
  obtain ⟨-, -, c0, c1, g0, g1, k0, k1⟩ := forms_ok n n1 n2
  have q0 := k.rd
  have q1 := k.rs1
  have q2 := k.rs2
  have q3 := k.code
  have q4 := k.lo
  have q5 := k.hi
  rw [hs] at e
  have w0 : encI n rd rs1 rs2 imm / 2 ^ 7 % 2 ^ 5 = rd := by
    have y : dRd n (encI n rd rs1 rs2 imm) = (if fieldOf (shapeOf n).toNat 0 then fldI (encI n rd rs1 rs2 imm) 7 5 else 0) := rfl
    rw [hs] at y
    exact y.symm.trans q0
  simp only [Int.reducePow] at w0
  clear q0 q1 q2 i0 i1 i2 i3 i4 i5 hk h k
  have e' : encI n rd rs1 rs2 imm = codeOf n + rd * 128 + imm % 1048576 * 4096 := e
  clear e
  exact ⟨q3, w0, by clear w0; omega, ⟨q4, q5⟩⟩
theorem tell7 {op rd rs1 rs2 imm : Int} (h : chkI op rd rs1 rs2 imm = 0) (hs : shapeOf op.toNat = 7) : (encI op rd rs1 rs2 imm % 128 = codeOf op.toNat) ∧ (encI op rd rs1 rs2 imm = codeOf op.toNat) ∧ (0 < encI op rd rs1 rs2 imm ∧ encI op rd rs1 rs2 imm < 4294967296) := by
  obtain ⟨n, rfl, n1, n2, k, e⟩ := keys h
  simp only [Int.toNat_natCast] at hs ⊢
  obtain ⟨-, -, hk⟩ := chkI_inv h
  rw [Int.toNat_natCast, hs] at hk
  obtain ⟨i0, i1, i2, i3, i4, i5⟩ := chk_inv hk
  have j3 : 0 ≤ imm := i3
  have j4 : imm ≤ 0 := i4
  obtain ⟨a0, a1, a2⟩ := bad_inv i0
  obtain ⟨b0, b1, b2⟩ := bad_inv i1
  obtain ⟨d0, d1, d2⟩ := bad_inv i2
  obtain ⟨-, -, c0, c1, g0, g1, k0, k1⟩ := forms_ok n n1 n2
  have q0 := k.rd
  have q1 := k.rs1
  have q2 := k.rs2
  have q3 := k.code
  have q4 := k.lo
  have q5 := k.hi
  rw [hs] at e
  clear q0 q1 q2 i0 i1 i2 i3 i4 i5 hk h k
  have e' : encI n rd rs1 rs2 imm = codeOf n := e
  clear e
  exact ⟨q3, e', ⟨q4, q5⟩⟩
theorem top3 {op rd rs1 rs2 imm : Int} (h : chkI op rd rs1 rs2 imm = 0) (hs : shapeOf op.toNat = 3) (h0 : -2048 ≤ imm) (h1 : imm < 0) : encI op rd rs1 rs2 imm / 2147483648 = 1 := by
  obtain ⟨n, rfl, n1, n2, k, e⟩ := keys h
  rw [Int.toNat_natCast] at hs
  obtain ⟨-, -, hk⟩ := chkI_inv h
  rw [Int.toNat_natCast, hs] at hk
  obtain ⟨i0, i1, i2, -, -, -⟩ := chk_inv hk
  obtain ⟨b0, b1, -⟩ := bad_inv i1
  obtain ⟨d0, d1, -⟩ := bad_inv i2
  obtain ⟨-, -, c0, c1, g0, g1, -, -⟩ := forms_ok n n1 n2
  have q5 := k.hi
  rw [hs] at e
  have e' : encI n rd rs1 rs2 imm = codeOf n + imm % 32 * 128 + f3Of n * 4096 + rs1 * 32768 + rs2 * 1048576 + imm / 32 % 128 * 33554432 := e
  have u : 64 ≤ imm / 32 % 128 := by omega
  have u2 : 0 ≤ imm % 32 := by omega
  generalize imm / 32 % 128 = A at *
  generalize imm % 32 = B at *
  omega
end Tier
namespace Go.Proofs.YtoipcikgeafemaaDoor
open Go.RowKit Tier
set_option maxRecDepth 100000 in
set_option maxHeartbeats 2000000 in
theorem bad_walk (a b c d i x : Int) (w : World) (ht : Tab w) (ha : In a) (hb : In b) (hc : In c) (hd : In d) (hi : In i) (hx : In x) :
    Calls Tryd.prog 5 #[.agg #[.int .i64 a, .int .i64 b, .int .i64 c, .int .i64 d, .int .i64 i], .int .i64 x] w fun e w' => e = .returned (.bool true) ∧ Below w.heap.size w w' := by
  have HT := Lib.hid ht
  have p0 := picked_in x 4 (by omega)
  have p1 := picked_in x 9 (by omega)
  go_enter Tryd.func5, Tryd.ntmps5
  go_wp2_with fail
  refine (rv_any _ _ _ _ _ _ ha hb hc hd hi).mono ?_
  rintro e w1 ⟨⟨op, rd, rs1, rs2, imm, rfl, hv⟩, hb1⟩
  have HB1 := Lib.hid (show Below w.heap.size w w1 from ((Below.refl _ _).alloc (Nat.le_refl _) _).trans (hb1.mono (by simp)))
  have hT1 := HT.out.keeps HB1.out
  have HV := Lib.hid hv
  clear hv ht ha hb hc hd hi hb1
  go_wp2_with fail
  refine (picked_any _ _ _ hx (by omega) (by omega)).mono ?_
  rintro e w2 ⟨rfl, rfl⟩
  have hcase : pickedI x 4 = 0 ∨ pickedI x 4 = 1 ∨ pickedI x 4 = 2 ∨ pickedI x 4 = 3 := by omega
  clear p0
  rcases hcase with h0 | h0 | h0 | h0
  · rw [h0]
    clear h0
    go_wp2_with fail
    refine (check_any _ _ _ _ _ _ (hT1.alloc _)).mono ?_
    rintro e w3 ⟨rfl, hb3⟩
    rw [chk_rd HV.out]
    have HB3 := Lib.hid hb3
    clear hb3 hT1
    go_wp2_with fail
    go_ret
    exact ⟨rfl, bthen (balloc HB1.out _) HB3.out⟩
  · rw [h0]
    clear h0
    go_wp2_with fail
    refine (check_any _ _ _ _ _ _ (hT1.alloc _)).mono ?_
    rintro e w3 ⟨rfl, hb3⟩
    rw [chk_rs1 HV.out]
    have HB3 := Lib.hid hb3
    clear hb3 hT1
    go_wp2_with fail
    go_ret
    exact ⟨rfl, bthen (balloc HB1.out _) HB3.out⟩
  · rw [h0]
    clear h0
    go_wp2_with fail
    refine (check_any _ _ _ _ _ _ (hT1.alloc _)).mono ?_
    rintro e w3 ⟨rfl, hb3⟩
    rw [chk_imm2 HV.out]
    have HB3 := Lib.hid hb3
    clear hb3 hT1
    go_wp2_with fail
    go_ret
    exact ⟨rfl, bthen (balloc HB1.out _) HB3.out⟩
  · rw [h0]
    clear h0
    go_wp2_with fail
    refine (picked_any _ _ _ hx (by omega) (by omega)).mono ?_
    rintro e w2 ⟨rfl, rfl⟩
    go_wp2_with fail
    refine (enc_any _ _ _ _ _ _ (hT1.alloc _)).mono ?_
    rintro e w3 ⟨rfl, hb3⟩
    rw [chk_op (by omega)]
    have HB3 := Lib.hid hb3
    clear hb3 hT1
    go_wp2_with fail
    go_ret
    exact ⟨rfl, bthen (balloc HB1.out _) HB3.out⟩

set_option maxRecDepth 100000 in
set_option maxHeartbeats 4000000 in
theorem bits_walk (a b c d i : Int) (w : World) (ht : Tab w) (ha : In a) (hb : In b) (hc : In c) (hd : In d) (hi : In i) :
    Calls Tryd.prog 4 #[.agg #[.int .i64 a, .int .i64 b, .int .i64 c, .int .i64 d, .int .i64 i]] w fun e w' => e = .returned (.bool true) ∧ Below w.heap.size w w' := by
  have HT := Lib.hid ht
  go_enter Tryd.func4, Tryd.ntmps4
  go_wp2_with fail
  refine (rv_any _ _ _ _ _ _ ha hb hc hd hi).mono ?_
  rintro e w1 ⟨⟨op, rd, rs1, rs2, imm, rfl, hv⟩, hb1⟩
  have HB1 := Lib.hid (show Below w.heap.size w w1 from ((Below.refl _ _).alloc (Nat.le_refl _) _).trans (hb1.mono (by simp)))
  have hT1 := HT.out.keeps HB1.out
  have HV := Lib.hid hv
  clear hv ht ha hb hc hd hi hb1
  go_wp2_with fail
  refine (enc_any _ _ _ _ _ _ (hT1.alloc _)).mono ?_
  rintro e w2 ⟨rfl, hb2⟩
  rw [HV.out]
  obtain ⟨r1, z1⟩ := aft hb2 (b := w1.heap.size) (by simp)
  have HF := Lib.hid (show Below w.heap.size w w2 from bthen (balloc HB1.out _) hb2)
  clear hb2 hT1 HB1 HT
  obtain ⟨h1, h2, _⟩ := chkI_inv HV.out
  obtain ⟨s0, s1, s2, s3, s4, s5, s6, s7, s8⟩ := shape_is op h1 h2
  obtain ⟨k0, k1, k2, k3, k4, k5, k6, k7, k8⟩ := code_is op h1 h2
  have hcase : op ≤ 11 ∨ (12 ≤ op ∧ op ≤ 17) ∨ op = 18 ∨ op = 19 ∨ op = 20 ∨ op = 27 ∨ op = 21 ∨ (22 ≤ op ∧ op ≤ 25) ∨ op = 26 ∨ op = 28 ∨ op = 29 := by omega
  have a31 := and_31
  have a127 := and_127
  have a4095 := and_4095
  have a20 := and_20
  have a1 := and_1
  rcases hcase with g | g | g | g | g | g | g | g | g | g | g
  · obtain ⟨t0, t1, t2, t3, t5⟩ := tell0 HV.out (s0 g)
    rw [k0 g] at t0
    clear s0 s1 s2 s3 s4 s5 s6 s7 s8 k0 k1 k2 k3 k4 k5 k6 k7 k8
    have HX := Lib.hid HV.out
    go_wp2_with fail
    all_goals first | (go_ret; exact ⟨rfl, HF.out⟩) | (go_ways; sorry)
  · obtain ⟨t0, t1, t2, t4, t5⟩ := tell1 HV.out (s2 (by omega) (by omega) (by omega) (by omega))
    rw [k1 (by omega) (by omega)] at t0
    clear s0 s1 s2 s3 s4 s5 s6 s7 s8 k0 k1 k2 k3 k4 k5 k6 k7 k8
    have HX := Lib.hid HV.out
    go_wp2_with fail
    all_goals first | (go_ret; exact ⟨rfl, HF.out⟩) | (go_ways; sorry)
  · obtain ⟨t0, t1, t2, t5⟩ := tell2 HV.out (s1 (.inl g))
    rw [k1 (by omega) (by omega)] at t0
    subst g
    clear s0 s1 s2 s3 s4 s5 s6 s7 s8 k0 k1 k2 k3 k4 k5 k6 k7 k8 h1 h2
    have HX := Lib.hid HV.out
    go_wp2_with fail
    all_goals first | (go_ret; exact ⟨rfl, HF.out⟩) | (go_ways; sorry)
  · obtain ⟨t0, t1, t2, t5⟩ := tell2 HV.out (s1 (.inr g))
    rw [k1 (by omega) (by omega)] at t0
    subst g
    clear s0 s1 s2 s3 s4 s5 s6 s7 s8 k0 k1 k2 k3 k4 k5 k6 k7 k8 h1 h2
    have HX := Lib.hid HV.out
    go_wp2_with fail
    all_goals first | (go_ret; exact ⟨rfl, HF.out⟩) | (go_ways; sorry)
  · obtain ⟨t0, t1, t2, t4, t5⟩ := tell1 HV.out (s2 (by omega) (by omega) (by omega) (by omega))
    rw [k2 g] at t0
    subst g
    clear s0 s1 s2 s3 s4 s5 s6 s7 s8 k0 k1 k2 k3 k4 k5 k6 k7 k8 h1 h2
    have HX := Lib.hid HV.out
    go_wp2_with fail
    all_goals first | (go_ret; exact ⟨rfl, HF.out⟩) | (go_ways; sorry)
  · obtain ⟨t0, t1, t2, t4, t5⟩ := tell1 HV.out (s3 g)
    rw [k3 g] at t0
    subst g
    clear s0 s1 s2 s3 s4 s5 s6 s7 s8 k0 k1 k2 k3 k4 k5 k6 k7 k8 h1 h2
    have HX := Lib.hid HV.out
    go_wp2_with fail
    all_goals first | (go_ret; exact ⟨rfl, HF.out⟩) | (go_ways; sorry)
  · obtain ⟨t0, t2, t3, t5⟩ := tell3 HV.out (s4 g)
    rw [k4 g] at t0
    subst g
    clear s0 s1 s2 s3 s4 s5 s6 s7 s8 k0 k1 k2 k3 k4 k5 k6 k7 k8 h1 h2
    have HX := Lib.hid HV.out
    go_wp2_with fail
    all_goals first | (go_ret; exact ⟨rfl, HF.out⟩) | (go_ways; sorry)
  · obtain ⟨t0, t2, t3, t4, t5⟩ := tell4 HV.out (s5 g.1 g.2)
    rw [k5 g.1 g.2] at t0
    clear s0 s1 s2 s3 s4 s5 s6 s7 s8 k0 k1 k2 k3 k4 k5 k6 k7 k8
    have w20 : (op == 20) = false := by simp; omega
    have w27 : (op == 27) = false := by simp; omega
    have w21 : (op == 21) = false := by simp; omega
    have HX := Lib.hid HV.out
    go_wp2_with fail
    all_goals first | (go_ret; exact ⟨rfl, HF.out⟩) | (go_ways; sorry)
  · obtain ⟨t0, t1, t4, t5⟩ := tell5 HV.out (s6 g)
    rw [k6 g] at t0
    subst g
    clear s0 s1 s2 s3 s4 s5 s6 s7 s8 k0 k1 k2 k3 k4 k5 k6 k7 k8 h1 h2
    have HX := Lib.hid HV.out
    go_wp2_with fail
    all_goals first | (go_ret; exact ⟨rfl, HF.out⟩) | (go_ways; sorry)
  · obtain ⟨t0, t1, t4, t5⟩ := tell6 HV.out (s7 g)
    rw [k7 g] at t0
    subst g
    clear s0 s1 s2 s3 s4 s5 s6 s7 s8 k0 k1 k2 k3 k4 k5 k6 k7 k8 h1 h2
    have HX := Lib.hid HV.out
    go_wp2_with fail
    all_goals first | (go_ret; exact ⟨rfl, HF.out⟩) | (go_ways; sorry)
  · obtain ⟨t0, t4, t5⟩ := tell7 HV.out (s8 g)
    rw [k8 g] at t0 t4
    subst g
    clear s0 s1 s2 s3 s4 s5 s6 s7 s8 k0 k1 k2 k3 k4 k5 k6 k7 k8 h1 h2
    clear t0
    have HX := Lib.hid HV.out
    go_wp2_with fail
    all_goals first | (go_ret; exact ⟨rfl, HF.out⟩) | (go_ways; sorry)

set_option maxRecDepth 100000 in
set_option maxHeartbeats 4000000 in
theorem minus_walk (a b c : Int) (w : World) (ht : Tab w) (ha : In a) (hb : In b) (hc : In c) :
    Calls Tryd.prog 8 #[.int .i64 a, .int .i64 b, .int .i64 c] w fun e w' => e = .returned (.bool true) ∧ Below w.heap.size w w' := by
  have p0 := picked_in a 6 (by omega)
  have p1 := picked_in b 500 (by omega)
  have p2 := picked_in c 32 (by omega)
  have HT := Lib.hid ht
  clear ht
  have hcase : pickedI a 6 = 0 ∨ pickedI a 6 = 1 ∨ pickedI a 6 = 2 ∨ pickedI a 6 = 3 ∨ pickedI a 6 = 4 ∨ pickedI a 6 = 5 := by omega
  clear p0
  go_enter Tryd.func8, Tryd.ntmps8
  go_wp2_with fail
  refine (picked_any _ _ _ ha (by omega) (by omega)).mono ?_
  rintro e w2 ⟨rfl, rfl⟩
  rcases hcase with h0 | h0 | h0 | h0 | h0 | h0
  · rw [h0]
    clear h0
    have hv : chkI 12 (pickedI c 32) 0 0 (-4 * (1 + pickedI b 500)) = 0 := valid1 (op := 12) (by omega) (by omega) (by decide) (rd := (pickedI c 32)) p2 (rs1 := 0) (by omega) (imm := -4 * (1 + pickedI b 500)) (by omega) (by omega)
    have ht : encI 12 (pickedI c 32) 0 0 (-4 * (1 + pickedI b 500)) / 2147483648 = 1 := by
      obtain ⟨t0, t1, t2, t4, t5⟩ := tell1 hv (by decide)
      clear t0
      omega
    have HV := Lib.hid hv
    have HTop := Lib.hid ht
    clear hv ht
    go_wp2_with (go_at_call 11; refine (picked_any _ _ _ (by assumption) (by omega) (by omega)).mono ?_; rintro e w' ⟨rfl, rfl⟩)
    refine (enc_any _ _ _ _ _ _ ((HT.out.alloc _).alloc _)).mono ?_
    rintro e w3 ⟨rfl, hb3⟩
    rw [HV.out]
    obtain ⟨r1, z1⟩ := aft hb3 (b := w.heap.size + 1) (by simp)
    have hT3 := ((HT.out.alloc _).alloc _).keeps hb3
    have HB3 := Lib.hid (show Below w.heap.size w w3 from bthen (balloc (balloc (Below.refl _ _) _) _) hb3)
    clear hb3
    go_wp2_with fail
    refine (dec_any _ _ hT3).mono ?_
    rintro e w4 ⟨⟨op', rd', rs1', rs2', imm', err, rfl, hd⟩, hb4⟩
    obtain ⟨rfl, rfl, rfl, rfl, rfl, rfl⟩ := dec_enc HV.out hd
    obtain ⟨r2, z2⟩ := aft hb4 z1
    have HB4 := Lib.hid hb4
    have ht := HTop.out
    clear hb4 hd hT3
    go_wp2_with fail
    go_ret
    exact ⟨rfl, balloc (bthen HB3.out HB4.out) _⟩
  · rw [h0]
    clear h0
    have hv : chkI 20 (pickedI c 32) 0 0 (-4 * (1 + pickedI b 500)) = 0 := valid1 (op := 20) (by omega) (by omega) (by decide) (rd := (pickedI c 32)) p2 (rs1 := 0) (by omega) (imm := -4 * (1 + pickedI b 500)) (by omega) (by omega)
    have ht : encI 20 (pickedI c 32) 0 0 (-4 * (1 + pickedI b 500)) / 2147483648 = 1 := by
      obtain ⟨t0, t1, t2, t4, t5⟩ := tell1 hv (by decide)
      clear t0
      omega
    have HV := Lib.hid hv
    have HTop := Lib.hid ht
    clear hv ht
    go_wp2_with (go_at_call 11; refine (picked_any _ _ _ (by assumption) (by omega) (by omega)).mono ?_; rintro e w' ⟨rfl, rfl⟩)
    refine (enc_any _ _ _ _ _ _ ((HT.out.alloc _).alloc _)).mono ?_
    rintro e w3 ⟨rfl, hb3⟩
    rw [HV.out]
    obtain ⟨r1, z1⟩ := aft hb3 (b := w.heap.size + 1) (by simp)
    have hT3 := ((HT.out.alloc _).alloc _).keeps hb3
    have HB3 := Lib.hid (show Below w.heap.size w w3 from bthen (balloc (balloc (Below.refl _ _) _) _) hb3)
    clear hb3
    go_wp2_with fail
    refine (dec_any _ _ hT3).mono ?_
    rintro e w4 ⟨⟨op', rd', rs1', rs2', imm', err, rfl, hd⟩, hb4⟩
    obtain ⟨rfl, rfl, rfl, rfl, rfl, rfl⟩ := dec_enc HV.out hd
    obtain ⟨r2, z2⟩ := aft hb4 z1
    have HB4 := Lib.hid hb4
    have ht := HTop.out
    clear hb4 hd hT3
    go_wp2_with fail
    go_ret
    exact ⟨rfl, balloc (bthen HB3.out HB4.out) _⟩
  · rw [h0]
    clear h0
    have hv : chkI 21 0 0 0 (-4 * (1 + pickedI b 500)) = 0 := valid3 (op := 21) (by omega) (by omega) (by decide) (rs1 := 0) (by omega) (rs2 := 0) (by omega) (imm := -4 * (1 + pickedI b 500)) (by omega) (by omega)
    have ht : encI 21 0 0 0 (-4 * (1 + pickedI b 500)) / 2147483648 = 1 := top3 hv (by decide) (by omega) (by omega)
    have HV := Lib.hid hv
    have HTop := Lib.hid ht
    clear hv ht
    go_wp2_with (go_at_call 11; refine (picked_any _ _ _ (by assumption) (by omega) (by omega)).mono ?_; rintro e w' ⟨rfl, rfl⟩)
    refine (enc_any _ _ _ _ _ _ ((HT.out.alloc _).alloc _)).mono ?_
    rintro e w3 ⟨rfl, hb3⟩
    rw [HV.out]
    obtain ⟨r1, z1⟩ := aft hb3 (b := w.heap.size + 1) (by simp)
    have hT3 := ((HT.out.alloc _).alloc _).keeps hb3
    have HB3 := Lib.hid (show Below w.heap.size w w3 from bthen (balloc (balloc (Below.refl _ _) _) _) hb3)
    clear hb3
    go_wp2_with fail
    refine (dec_any _ _ hT3).mono ?_
    rintro e w4 ⟨⟨op', rd', rs1', rs2', imm', err, rfl, hd⟩, hb4⟩
    obtain ⟨rfl, rfl, rfl, rfl, rfl, rfl⟩ := dec_enc HV.out hd
    obtain ⟨r2, z2⟩ := aft hb4 z1
    have HB4 := Lib.hid hb4
    have ht := HTop.out
    clear hb4 hd hT3
    go_wp2_with fail
    go_ret
    exact ⟨rfl, balloc (bthen HB3.out HB4.out) _⟩
  · rw [h0]
    clear h0
    have hv : chkI 22 0 0 0 (-4 * (1 + pickedI b 500)) = 0 := valid4 (op := 22) (by omega) (by omega) (by decide) (rs1 := 0) (by omega) (rs2 := 0) (by omega) (imm := -4 * (1 + pickedI b 500)) (by omega) (by omega) (by omega)
    have ht : encI 22 0 0 0 (-4 * (1 + pickedI b 500)) / 2147483648 = 1 := by
      obtain ⟨t0, t2, t3, t4, t5⟩ := tell4 hv (by decide)
      clear t0
      omega
    have HV := Lib.hid hv
    have HTop := Lib.hid ht
    clear hv ht
    go_wp2_with (go_at_call 11; refine (picked_any _ _ _ (by assumption) (by omega) (by omega)).mono ?_; rintro e w' ⟨rfl, rfl⟩)
    refine (enc_any _ _ _ _ _ _ ((HT.out.alloc _).alloc _)).mono ?_
    rintro e w3 ⟨rfl, hb3⟩
    rw [HV.out]
    obtain ⟨r1, z1⟩ := aft hb3 (b := w.heap.size + 1) (by simp)
    have hT3 := ((HT.out.alloc _).alloc _).keeps hb3
    have HB3 := Lib.hid (show Below w.heap.size w w3 from bthen (balloc (balloc (Below.refl _ _) _) _) hb3)
    clear hb3
    go_wp2_with fail
    refine (dec_any _ _ hT3).mono ?_
    rintro e w4 ⟨⟨op', rd', rs1', rs2', imm', err, rfl, hd⟩, hb4⟩
    obtain ⟨rfl, rfl, rfl, rfl, rfl, rfl⟩ := dec_enc HV.out hd
    obtain ⟨r2, z2⟩ := aft hb4 z1
    have HB4 := Lib.hid hb4
    have ht := HTop.out
    clear hb4 hd hT3
    go_wp2_with fail
    go_ret
    exact ⟨rfl, balloc (bthen HB3.out HB4.out) _⟩
  · rw [h0]
    clear h0
    have hv : chkI 26 0 0 0 (-4 * (1 + pickedI b 500)) = 0 := valid5 (op := 26) (by omega) (by omega) (by decide) (rd := 0) (by omega) (imm := -4 * (1 + pickedI b 500)) (by omega) (by omega) (by omega)
    have ht : encI 26 0 0 0 (-4 * (1 + pickedI b 500)) / 2147483648 = 1 := by
      obtain ⟨t0, t1, t4, t5⟩ := tell5 hv (by decide)
      clear t0
      omega
    have HV := Lib.hid hv
    have HTop := Lib.hid ht
    clear hv ht
    go_wp2_with (go_at_call 11; refine (picked_any _ _ _ (by assumption) (by omega) (by omega)).mono ?_; rintro e w' ⟨rfl, rfl⟩)
    refine (enc_any _ _ _ _ _ _ ((HT.out.alloc _).alloc _)).mono ?_
    rintro e w3 ⟨rfl, hb3⟩
    rw [HV.out]
    obtain ⟨r1, z1⟩ := aft hb3 (b := w.heap.size + 1) (by simp)
    have hT3 := ((HT.out.alloc _).alloc _).keeps hb3
    have HB3 := Lib.hid (show Below w.heap.size w w3 from bthen (balloc (balloc (Below.refl _ _) _) _) hb3)
    clear hb3
    go_wp2_with fail
    refine (dec_any _ _ hT3).mono ?_
    rintro e w4 ⟨⟨op', rd', rs1', rs2', imm', err, rfl, hd⟩, hb4⟩
    obtain ⟨rfl, rfl, rfl, rfl, rfl, rfl⟩ := dec_enc HV.out hd
    obtain ⟨r2, z2⟩ := aft hb4 z1
    have HB4 := Lib.hid hb4
    have ht := HTop.out
    clear hb4 hd hT3
    go_wp2_with fail
    go_ret
    exact ⟨rfl, balloc (bthen HB3.out HB4.out) _⟩
  · rw [h0]
    clear h0
    have hv : chkI 28 0 0 0 (-4 * (1 + pickedI b 500)) = 0 := valid6 (op := 28) (by omega) (by omega) (by decide) (rd := 0) (by omega) (imm := -4 * (1 + pickedI b 500)) (by omega) (by omega)
    have ht : encI 28 0 0 0 (-4 * (1 + pickedI b 500)) / 2147483648 = 1 := by
      obtain ⟨t0, t1, t4, t5⟩ := tell6 hv (by decide)
      clear t0
      omega
    have HV := Lib.hid hv
    have HTop := Lib.hid ht
    clear hv ht
    go_wp2_with (go_at_call 11; refine (picked_any _ _ _ (by assumption) (by omega) (by omega)).mono ?_; rintro e w' ⟨rfl, rfl⟩)
    refine (enc_any _ _ _ _ _ _ ((HT.out.alloc _).alloc _)).mono ?_
    rintro e w3 ⟨rfl, hb3⟩
    rw [HV.out]
    obtain ⟨r1, z1⟩ := aft hb3 (b := w.heap.size + 1) (by simp)
    have hT3 := ((HT.out.alloc _).alloc _).keeps hb3
    have HB3 := Lib.hid (show Below w.heap.size w w3 from bthen (balloc (balloc (Below.refl _ _) _) _) hb3)
    clear hb3
    go_wp2_with fail
    refine (dec_any _ _ hT3).mono ?_
    rintro e w4 ⟨⟨op', rd', rs1', rs2', imm', err, rfl, hd⟩, hb4⟩
    obtain ⟨rfl, rfl, rfl, rfl, rfl, rfl⟩ := dec_enc HV.out hd
    obtain ⟨r2, z2⟩ := aft hb4 z1
    have HB4 := Lib.hid hb4
    have ht := HTop.out
    clear hb4 hd hT3
    go_wp2_with fail
    go_ret
    exact ⟨rfl, balloc (bthen HB3.out HB4.out) _⟩
end Go.Proofs.YtoipcikgeafemaaDoor
