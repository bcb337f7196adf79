/-
  Plain laws of the machine's words: what the word of an instruction tells of its op, its registers, its number; no two instructions have one word; decoding undoes encoding. No program is in sight.
-/
import Derived.Test.YtjjpgkjjiooieaaDoorRvL
namespace Tier
open Go Go.RowKit
theorem orHi {a b : Int} (k m n : Nat) (ha : a = ((2 ^ k * m : Nat) : Int)) (hb : b = (n : Int)) (h : n < 2 ^ k) (h1 : 2 ^ k * m < 2 ^ 40) (h2 : n < 2 ^ 40) : orI a b = ((2 ^ k * m + n : Nat) : Int) := by
  subst ha hb
  rw [(orC _ _ h1 h2).1, Nat.or_comm, or_lo k n m h, Nat.add_comm]
theorem wr_in (n : Int) (h : In n) : wrap64 n = n := by rw [wrap64_toInt, h.v]
theorem sgn12 (v : Int) (h0 : 0 ≤ v) (h1 : v < 4096) : sgnI v 12 = if 2048 ≤ v then v - 4096 else v := by
  unfold sgnI
  have e1 : wrap64 (2 ^ (12 : Int).toNat) = 4096 := wr_in _ (by unfold In; decide)
  have e2 : wrap64 (v - 4096) = v - 4096 := wr_in _ (by unfold In; omega)
  rw [e1, e2]
  have e3 : (2 : Int) ^ ((12 : Int).toNat - 1) = 2048 := by decide
  rw [e3]
  by_cases h : 2048 ≤ v
  · rw [if_pos (by omega), if_pos h]
  · rw [if_neg (by omega), if_neg h]
theorem sgn13 (v : Int) (h0 : 0 ≤ v) (h1 : v < 8192) : sgnI v 13 = if 4096 ≤ v then v - 8192 else v := by
  unfold sgnI
  have e1 : wrap64 (2 ^ (13 : Int).toNat) = 8192 := wr_in _ (by unfold In; decide)
  have e2 : wrap64 (v - 8192) = v - 8192 := wr_in _ (by unfold In; omega)
  rw [e1, e2]
  have e3 : (2 : Int) ^ ((13 : Int).toNat - 1) = 4096 := by decide
  rw [e3]
  by_cases h : 4096 ≤ v
  · rw [if_pos (by omega), if_pos h]
  · rw [if_neg (by omega), if_neg h]
theorem sgn20 (v : Int) (h0 : 0 ≤ v) (h1 : v < 1048576) : sgnI v 20 = if 524288 ≤ v then v - 1048576 else v := by
  unfold sgnI
  have e1 : wrap64 (2 ^ (20 : Int).toNat) = 1048576 := wr_in _ (by unfold In; decide)
  have e2 : wrap64 (v - 1048576) = v - 1048576 := wr_in _ (by unfold In; omega)
  rw [e1, e2]
  have e3 : (2 : Int) ^ ((20 : Int).toNat - 1) = 524288 := by decide
  rw [e3]
  by_cases h : 524288 ≤ v
  · rw [if_pos (by omega), if_pos h]
  · rw [if_neg (by omega), if_neg h]
theorem sgn21 (v : Int) (h0 : 0 ≤ v) (h1 : v < 2097152) : sgnI v 21 = if 1048576 ≤ v then v - 2097152 else v := by
  unfold sgnI
  have e1 : wrap64 (2 ^ (21 : Int).toNat) = 2097152 := wr_in _ (by unfold In; decide)
  have e2 : wrap64 (v - 2097152) = v - 2097152 := wr_in _ (by unfold In; omega)
  rw [e1, e2]
  have e3 : (2 : Int) ^ ((21 : Int).toNat - 1) = 1048576 := by decide
  rw [e3]
  by_cases h : 1048576 ≤ v
  · rw [if_pos (by omega), if_pos h]
  · rw [if_neg (by omega), if_neg h]
theorem dig (x lo B d w rest : Int) (hB : 0 < B) (h : x = lo + B * (d + w * rest)) (l0 : 0 ≤ lo) (l1 : lo < B) (d0 : 0 ≤ d) (d1 : d < w) : x / B % w = d := by
  have e : x / B = d + w * rest := by
    rw [h, Int.add_mul_ediv_left _ _ (by omega), Int.ediv_eq_zero_of_lt l0 l1]; omega
  rw [e, Int.add_mul_emod_self_left]; exact Int.emod_eq_of_lt d0 d1
theorem fld_eq (x : Int) (f m : Nat) : fldI x f m = x / 2 ^ f % 2 ^ m := rfl
/-- What the word tells. -/
structure Keys (n : Nat) (rd rs1 rs2 imm x : Int) : Prop where
  lo : 0 < x
  hi : x < 4294967296
  code : x % 128 = codeOf n
  f3 : shapeOf n ≤ 4 → x / 4096 % 8 = f3Of n
  f7 : shapeOf n = 0 → x / 33554432 = f7Of n
  rd : dRd n x = rd
  rs1 : dRs1 n x = rs1
  rs2 : dRs2 n x = rs2
  imm : dImm n x = imm
theorem forms_more : ∀ op : Nat, 1 ≤ op → op ≤ 29 → (5 ≤ shapeOf op → f3Of op = 0) ∧ (f7Of op ≤ 32) ∧ (0 < codeOf op) := by
  intro op h1 h2
  have : ∀ k : Fin 30, 1 ≤ k.val → (5 ≤ shapeOf k → f3Of k = 0) ∧ (f7Of k ≤ 32) ∧ 0 < codeOf k := by decide
  exact this ⟨op, by omega⟩ h1
theorem keys0 (n : Nat) (h1 : 1 ≤ n) (h2 : n ≤ 29) (hs : shapeOf n = 0) (rd rs1 rs2 imm : Int) (h : chkI n rd rs1 rs2 imm = 0) : Keys n rd rs1 rs2 imm (encI n rd rs1 rs2 imm) ∧ encI n rd rs1 rs2 imm = sumW 0 (codeOf n) (f3Of n) (f7Of n) rd rs1 rs2 imm := by
  obtain ⟨-, -, hk⟩ := chkI_inv h
  rw [Int.toNat_natCast, hs] at hk
  obtain ⟨i0, i1, i2, i3, i4, i5⟩ := chk_inv hk
  obtain ⟨a0, a1, a2⟩ := bad_inv i0
  obtain ⟨b0, b1, b2⟩ := bad_inv i1
  obtain ⟨d0, d1, d2⟩ := bad_inv i2
  obtain ⟨-, -, c0, c1, g0, g1, k0, k1⟩ := forms_ok n h1 h2
  obtain ⟨m0, m1, m2⟩ := forms_more n h1 h2
  have j3 : 0 ≤ imm := i3
  have j4 : imm ≤ 0 := i4
  clear i0 i1 i2 i3 i4
  have he : encI n rd rs1 rs2 imm = encW 0 (codeOf n) (f3Of n) (f7Of n) rd rs1 rs2 imm := by
    unfold encI; rw [if_pos h, Int.toNat_natCast, hs]
  obtain ⟨c, hc⟩ := Int.eq_ofNat_of_zero_le c0
  obtain ⟨g, hg⟩ := Int.eq_ofNat_of_zero_le g0
  obtain ⟨q, hq⟩ := Int.eq_ofNat_of_zero_le k0
  obtain ⟨rd, rfl⟩ := Int.eq_ofNat_of_zero_le a0
  obtain ⟨rs1, rfl⟩ := Int.eq_ofNat_of_zero_le b0
  obtain ⟨rs2, rfl⟩ := Int.eq_ofNat_of_zero_le d0
  have hsum : encI n rd rs1 rs2 imm = sumW 0 c g q rd rs1 rs2 imm := by rw [he, hc, hg, hq]; exact sum0 c g q rd rs1 rs2 imm (by omega) (by omega) (by omega) (by omega) (by omega) (by omega)
  refine ⟨?_, by rw [hsum, hc, hg, hq]⟩
  rw [hsum]
  clear hsum he h hk
  show Keys n rd rs1 rs2 imm ((c : Int) + rd * 128 + g * 4096 + rs1 * 32768 + rs2 * 1048576 + q * 33554432)
  generalize hx : (c : Int) + rd * 128 + g * 4096 + rs1 * 32768 + rs2 * 1048576 + q * 33554432 = x
  have x0 : 0 < x := by omega
  have x1 : x < 4294967296 := by omega
  refine ⟨x0, x1, by omega, fun hh => by omega, fun hh => by omega, ?_, ?_, ?_, ?_⟩
  · show (if fieldOf (shapeOf n).toNat 0 then fldI x 7 5 else 0) = _; rw [hs]; show x / 2 ^ 7 % 2 ^ 5 = _; simp only [Int.reducePow]; omega
  · show (if fieldOf (shapeOf n).toNat 1 then fldI x 15 5 else 0) = _; rw [hs]; show x / 2 ^ 15 % 2 ^ 5 = _; simp only [Int.reducePow]; omega
  · show (if fieldOf (shapeOf n).toNat 2 then fldI x 20 5 else 0) = _; rw [hs]; show x / 2 ^ 20 % 2 ^ 5 = _; simp only [Int.reducePow]; omega
  · show numI x (shapeOf n) = imm
    rw [hs]; show (0 : Int) = imm; omega
theorem keys1 (n : Nat) (h1 : 1 ≤ n) (h2 : n ≤ 29) (hs : shapeOf n = 1) (rd rs1 rs2 imm : Int) (h : chkI n rd rs1 rs2 imm = 0) : Keys n rd rs1 rs2 imm (encI n rd rs1 rs2 imm) ∧ encI n rd rs1 rs2 imm = sumW 1 (codeOf n) (f3Of n) (f7Of n) rd rs1 rs2 imm := by
  obtain ⟨-, -, hk⟩ := chkI_inv h
  rw [Int.toNat_natCast, hs] at hk
  obtain ⟨i0, i1, i2, i3, i4, i5⟩ := chk_inv hk
  obtain ⟨a0, a1, a2⟩ := bad_inv i0
  obtain ⟨b0, b1, b2⟩ := bad_inv i1
  obtain ⟨d0, d1, d2⟩ := bad_inv i2
  obtain ⟨-, -, c0, c1, g0, g1, k0, k1⟩ := forms_ok n h1 h2
  obtain ⟨m0, m1, m2⟩ := forms_more n h1 h2
  have j3 : -2048 ≤ imm := i3
  have j4 : imm ≤ 2047 := i4
  clear i0 i1 i2 i3 i4
  have he : encI n rd rs1 rs2 imm = encW 1 (codeOf n) (f3Of n) (f7Of n) rd rs1 rs2 imm := by
    unfold encI; rw [if_pos h, Int.toNat_natCast, hs]
  have zrs2 : rs2 = 0 := d2.resolve_right (by decide)
  obtain ⟨c, hc⟩ := Int.eq_ofNat_of_zero_le c0
  obtain ⟨g, hg⟩ := Int.eq_ofNat_of_zero_le g0
  obtain ⟨q, hq⟩ := Int.eq_ofNat_of_zero_le k0
  obtain ⟨rd, rfl⟩ := Int.eq_ofNat_of_zero_le a0
  obtain ⟨rs1, rfl⟩ := Int.eq_ofNat_of_zero_le b0
  obtain ⟨rs2, rfl⟩ := Int.eq_ofNat_of_zero_le d0
  have hsum : encI n rd rs1 rs2 imm = sumW 1 c g q rd rs1 rs2 imm := by rw [he, hc, hg, hq]; exact sum1 c g q rd rs1 rs2 imm (by omega) (by omega) (by omega) (by omega) (by omega) (by omega) (by omega)
  refine ⟨?_, by rw [hsum, hc, hg, hq]⟩
  rw [hsum]
  clear hsum he h hk
  show Keys n rd rs1 rs2 imm ((c : Int) + rd * 128 + g * 4096 + rs1 * 32768 + imm % 4096 * 1048576)
  generalize hx : (c : Int) + rd * 128 + g * 4096 + rs1 * 32768 + imm % 4096 * 1048576 = x
  have x0 : 0 < x := by omega
  have x1 : x < 4294967296 := by omega
  refine ⟨x0, x1, by omega, fun hh => by omega, fun hh => by rw [hs] at hh; omega, ?_, ?_, ?_, ?_⟩
  · show (if fieldOf (shapeOf n).toNat 0 then fldI x 7 5 else 0) = _; rw [hs]; show x / 2 ^ 7 % 2 ^ 5 = _; simp only [Int.reducePow]; omega
  · show (if fieldOf (shapeOf n).toNat 1 then fldI x 15 5 else 0) = _; rw [hs]; show x / 2 ^ 15 % 2 ^ 5 = _; simp only [Int.reducePow]; omega
  · show (if fieldOf (shapeOf n).toNat 2 then fldI x 20 5 else 0) = _; rw [hs, zrs2]; rfl
  · show numI x (shapeOf n) = imm
    rw [hs]; show sgnI (x / 2 ^ 20 % 2 ^ 12) 12 = imm; simp only [Int.reducePow]; rw [sgn12 _ (by omega) (by omega)]; split <;> omega
theorem keys2 (n : Nat) (h1 : 1 ≤ n) (h2 : n ≤ 29) (hs : shapeOf n = 2) (rd rs1 rs2 imm : Int) (h : chkI n rd rs1 rs2 imm = 0) : Keys n rd rs1 rs2 imm (encI n rd rs1 rs2 imm) ∧ encI n rd rs1 rs2 imm = sumW 2 (codeOf n) (f3Of n) (f7Of n) rd rs1 rs2 imm := by
  obtain ⟨-, -, hk⟩ := chkI_inv h
  rw [Int.toNat_natCast, hs] at hk
  obtain ⟨i0, i1, i2, i3, i4, i5⟩ := chk_inv hk
  obtain ⟨a0, a1, a2⟩ := bad_inv i0
  obtain ⟨b0, b1, b2⟩ := bad_inv i1
  obtain ⟨d0, d1, d2⟩ := bad_inv i2
  obtain ⟨-, -, c0, c1, g0, g1, k0, k1⟩ := forms_ok n h1 h2
  obtain ⟨m0, m1, m2⟩ := forms_more n h1 h2
  have j3 : 0 ≤ imm := i3
  have j4 : imm ≤ 63 := i4
  clear i0 i1 i2 i3 i4
  have he : encI n rd rs1 rs2 imm = encW 2 (codeOf n) (f3Of n) (f7Of n) rd rs1 rs2 imm := by
    unfold encI; rw [if_pos h, Int.toNat_natCast, hs]
  have zrs2 : rs2 = 0 := d2.resolve_right (by decide)
  obtain ⟨c, hc⟩ := Int.eq_ofNat_of_zero_le c0
  obtain ⟨g, hg⟩ := Int.eq_ofNat_of_zero_le g0
  obtain ⟨q, hq⟩ := Int.eq_ofNat_of_zero_le k0
  obtain ⟨rd, rfl⟩ := Int.eq_ofNat_of_zero_le a0
  obtain ⟨rs1, rfl⟩ := Int.eq_ofNat_of_zero_le b0
  obtain ⟨rs2, rfl⟩ := Int.eq_ofNat_of_zero_le d0
  have hsum : encI n rd rs1 rs2 imm = sumW 2 c g q rd rs1 rs2 imm := by rw [he, hc, hg, hq]; exact sum2 c g q rd rs1 rs2 imm (by omega) (by omega) (by omega) (by omega) (by omega) (by omega) (by omega) (by omega) (by omega)
  refine ⟨?_, by rw [hsum, hc, hg, hq]⟩
  rw [hsum]
  clear hsum he h hk
  show Keys n rd rs1 rs2 imm ((c : Int) + rd * 128 + g * 4096 + rs1 * 32768 + imm * 1048576 + q * 67108864)
  generalize hx : (c : Int) + rd * 128 + g * 4096 + rs1 * 32768 + imm * 1048576 + q * 67108864 = x
  have x0 : 0 < x := by omega
  have x1 : x < 4294967296 := by omega
  refine ⟨x0, x1, by omega, fun hh => by omega, fun hh => by rw [hs] at hh; omega, ?_, ?_, ?_, ?_⟩
  · show (if fieldOf (shapeOf n).toNat 0 then fldI x 7 5 else 0) = _; rw [hs]; show x / 2 ^ 7 % 2 ^ 5 = _; simp only [Int.reducePow]; omega
  · show (if fieldOf (shapeOf n).toNat 1 then fldI x 15 5 else 0) = _; rw [hs]; show x / 2 ^ 15 % 2 ^ 5 = _; simp only [Int.reducePow]; omega
  · show (if fieldOf (shapeOf n).toNat 2 then fldI x 20 5 else 0) = _; rw [hs, zrs2]; rfl
  · show numI x (shapeOf n) = imm
    rw [hs]; show x / 2 ^ 20 % 2 ^ 6 = imm; simp only [Int.reducePow]; omega
theorem keys3 (n : Nat) (h1 : 1 ≤ n) (h2 : n ≤ 29) (hs : shapeOf n = 3) (rd rs1 rs2 imm : Int) (h : chkI n rd rs1 rs2 imm = 0) : Keys n rd rs1 rs2 imm (encI n rd rs1 rs2 imm) ∧ encI n rd rs1 rs2 imm = sumW 3 (codeOf n) (f3Of n) (f7Of n) rd rs1 rs2 imm := by
  obtain ⟨-, -, hk⟩ := chkI_inv h
  rw [Int.toNat_natCast, hs] at hk
  obtain ⟨i0, i1, i2, i3, i4, i5⟩ := chk_inv hk
  obtain ⟨a0, a1, a2⟩ := bad_inv i0
  obtain ⟨b0, b1, b2⟩ := bad_inv i1
  obtain ⟨d0, d1, d2⟩ := bad_inv i2
  obtain ⟨-, -, c0, c1, g0, g1, k0, k1⟩ := forms_ok n h1 h2
  obtain ⟨m0, m1, m2⟩ := forms_more n h1 h2
  have j3 : -2048 ≤ imm := i3
  have j4 : imm ≤ 2047 := i4
  clear i0 i1 i2 i3 i4
  have he : encI n rd rs1 rs2 imm = encW 3 (codeOf n) (f3Of n) (f7Of n) rd rs1 rs2 imm := by
    unfold encI; rw [if_pos h, Int.toNat_natCast, hs]
  have zrd : rd = 0 := a2.resolve_right (by decide)
  obtain ⟨c, hc⟩ := Int.eq_ofNat_of_zero_le c0
  obtain ⟨g, hg⟩ := Int.eq_ofNat_of_zero_le g0
  obtain ⟨q, hq⟩ := Int.eq_ofNat_of_zero_le k0
  obtain ⟨rd, rfl⟩ := Int.eq_ofNat_of_zero_le a0
  obtain ⟨rs1, rfl⟩ := Int.eq_ofNat_of_zero_le b0
  obtain ⟨rs2, rfl⟩ := Int.eq_ofNat_of_zero_le d0
  have hsum : encI n rd rs1 rs2 imm = sumW 3 c g q rd rs1 rs2 imm := by rw [he, hc, hg, hq]; exact sum3 c g q rd rs1 rs2 imm (by omega) (by omega) (by omega) (by omega) (by omega) (by omega) (by omega)
  refine ⟨?_, by rw [hsum, hc, hg, hq]⟩
  rw [hsum]
  clear hsum he h hk
  show Keys n rd rs1 rs2 imm ((c : Int) + imm % 32 * 128 + g * 4096 + rs1 * 32768 + rs2 * 1048576 + imm / 32 % 128 * 33554432)
  generalize hx : (c : Int) + imm % 32 * 128 + g * 4096 + rs1 * 32768 + rs2 * 1048576 + imm / 32 % 128 * 33554432 = x
  obtain ⟨u, hu⟩ : ∃ y, y = imm % 32 := ⟨_, rfl⟩
  have bu : 0 ≤ u ∧ u < 32 := by omega
  obtain ⟨v, hv⟩ : ∃ y, y = imm / 32 % 128 := ⟨_, rfl⟩
  have bv : 0 ≤ v ∧ v < 128 := by omega
  have hval : imm = if 2048 ≤ v * 32 + u then v * 32 + u - 4096 else v * 32 + u := by split <;> omega
  rw [← hu, ← hv] at hx
  clear hu hv
  have x0 : 0 < x := by omega
  have x1 : x < 4294967296 := by omega
  have Du : x / 128 % 32 = u := dig x ((c : Int) * 1) 128 u 32 ((g : Int) * 1 + (rs1 : Int) * 8 + (rs2 : Int) * 256 + v * 8192) (by decide) (by omega) (by omega) (by omega) (by omega) (by omega)
  have Dg : x / 4096 % 8 = (g : Int) := dig x ((c : Int) * 1 + u * 128) 4096 (g : Int) 8 ((rs1 : Int) * 1 + (rs2 : Int) * 32 + v * 1024) (by decide) (by omega) (by omega) (by omega) (by omega) (by omega)
  have Drs1 : x / 32768 % 32 = (rs1 : Int) := dig x ((c : Int) * 1 + u * 128 + (g : Int) * 4096) 32768 (rs1 : Int) 32 ((rs2 : Int) * 1 + v * 32) (by decide) (by omega) (by omega) (by omega) (by omega) (by omega)
  have Drs2 : x / 1048576 % 32 = (rs2 : Int) := dig x ((c : Int) * 1 + u * 128 + (g : Int) * 4096 + (rs1 : Int) * 32768) 1048576 (rs2 : Int) 32 (v * 1) (by decide) (by omega) (by omega) (by omega) (by omega) (by omega)
  have Dv : x / 33554432 % 128 = v := dig x ((c : Int) * 1 + u * 128 + (g : Int) * 4096 + (rs1 : Int) * 32768 + (rs2 : Int) * 1048576) 33554432 v 128 (0) (by decide) (by omega) (by omega) (by omega) (by omega) (by omega)
  refine ⟨x0, x1, by omega, fun hh => by rw [hg]; exact Dg, fun hh => by rw [hs] at hh; omega, ?_, ?_, ?_, ?_⟩
  · show (if fieldOf (shapeOf n).toNat 0 then fldI x 7 5 else 0) = _; rw [hs, zrd]; rfl
  · show (if fieldOf (shapeOf n).toNat 1 then fldI x 15 5 else 0) = _; rw [hs]; show x / 2 ^ 15 % 2 ^ 5 = _; simp only [Int.reducePow]; exact Drs1
  · show (if fieldOf (shapeOf n).toNat 2 then fldI x 20 5 else 0) = _; rw [hs]; show x / 2 ^ 20 % 2 ^ 5 = _; simp only [Int.reducePow]; exact Drs2
  · show numI x (shapeOf n) = imm
    rw [hs]; show sgnI (orI (x / 2 ^ 25 % 2 ^ 7 * 32) (x / 2 ^ 7 % 2 ^ 5)) 12 = imm
    simp only [Int.reducePow]
    rw [Dv, Du, orHi 5 v.toNat u.toNat (by simp only [Nat.reducePow]; omega) (by omega) (by simp only [Nat.reducePow]; omega) (by simp only [Nat.reducePow]; omega) (by simp only [Nat.reducePow]; omega)]
    simp only [Nat.reducePow]
    rw [show ((32 * v.toNat + u.toNat : Nat) : Int) = v * 32 + u by omega, sgn12 _ (by omega) (by omega)]; exact hval.symm
theorem keys4 (n : Nat) (h1 : 1 ≤ n) (h2 : n ≤ 29) (hs : shapeOf n = 4) (rd rs1 rs2 imm : Int) (h : chkI n rd rs1 rs2 imm = 0) : Keys n rd rs1 rs2 imm (encI n rd rs1 rs2 imm) ∧ encI n rd rs1 rs2 imm = sumW 4 (codeOf n) (f3Of n) (f7Of n) rd rs1 rs2 imm := by
  obtain ⟨-, -, hk⟩ := chkI_inv h
  rw [Int.toNat_natCast, hs] at hk
  obtain ⟨i0, i1, i2, i3, i4, i5⟩ := chk_inv hk
  obtain ⟨a0, a1, a2⟩ := bad_inv i0
  obtain ⟨b0, b1, b2⟩ := bad_inv i1
  obtain ⟨d0, d1, d2⟩ := bad_inv i2
  obtain ⟨-, -, c0, c1, g0, g1, k0, k1⟩ := forms_ok n h1 h2
  obtain ⟨m0, m1, m2⟩ := forms_more n h1 h2
  have j3 : -4096 ≤ imm := i3
  have j4 : imm ≤ 4092 := i4
  clear i0 i1 i2 i3 i4
  have he : encI n rd rs1 rs2 imm = encW 4 (codeOf n) (f3Of n) (f7Of n) rd rs1 rs2 imm := by
    unfold encI; rw [if_pos h, Int.toNat_natCast, hs]
  have zrd : rd = 0 := a2.resolve_right (by decide)
  obtain ⟨c, hc⟩ := Int.eq_ofNat_of_zero_le c0
  obtain ⟨g, hg⟩ := Int.eq_ofNat_of_zero_le g0
  obtain ⟨q, hq⟩ := Int.eq_ofNat_of_zero_le k0
  obtain ⟨rd, rfl⟩ := Int.eq_ofNat_of_zero_le a0
  obtain ⟨rs1, rfl⟩ := Int.eq_ofNat_of_zero_le b0
  obtain ⟨rs2, rfl⟩ := Int.eq_ofNat_of_zero_le d0
  have hsum : encI n rd rs1 rs2 imm = sumW 4 c g q rd rs1 rs2 imm := by rw [he, hc, hg, hq]; exact sum4 c g q rd rs1 rs2 imm (by omega) (by omega) (by omega) (by omega) (by omega) (by omega) (by omega)
  refine ⟨?_, by rw [hsum, hc, hg, hq]⟩
  rw [hsum]
  clear hsum he h hk
  show Keys n rd rs1 rs2 imm ((c : Int) + imm / 2048 % 2 * 128 + imm / 2 % 16 * 256 + g * 4096 + rs1 * 32768 + rs2 * 1048576 + imm / 32 % 64 * 33554432 + imm / 4096 % 2 * 2147483648)
  generalize hx : (c : Int) + imm / 2048 % 2 * 128 + imm / 2 % 16 * 256 + g * 4096 + rs1 * 32768 + rs2 * 1048576 + imm / 32 % 64 * 33554432 + imm / 4096 % 2 * 2147483648 = x
  obtain ⟨p3, hp3⟩ : ∃ y, y = imm / 2048 % 2 := ⟨_, rfl⟩
  have bp3 : 0 ≤ p3 ∧ p3 < 2 := by omega
  obtain ⟨p2, hp2⟩ : ∃ y, y = imm / 2 % 16 := ⟨_, rfl⟩
  have bp2 : 0 ≤ p2 ∧ p2 < 16 := by omega
  obtain ⟨p1, hp1⟩ : ∃ y, y = imm / 32 % 64 := ⟨_, rfl⟩
  have bp1 : 0 ≤ p1 ∧ p1 < 64 := by omega
  obtain ⟨p0, hp0⟩ : ∃ y, y = imm / 4096 % 2 := ⟨_, rfl⟩
  have bp0 : 0 ≤ p0 ∧ p0 < 2 := by omega
  have w4 : imm % 4 = 0 := by
    have q5 := i5
    rw [show immSt 4 = 4 from rfl, Int.tmod_eq_emod] at q5
    split at q5 <;> omega
  have hval : imm = if 4096 ≤ p0 * 4096 + p3 * 2048 + p1 * 32 + p2 * 2 then p0 * 4096 + p3 * 2048 + p1 * 32 + p2 * 2 - 8192 else p0 * 4096 + p3 * 2048 + p1 * 32 + p2 * 2 := by split <;> omega
  rw [← hp3, ← hp2, ← hp1, ← hp0] at hx
  clear hp3 hp2 hp1 hp0
  have x0 : 0 < x := by omega
  have x1 : x < 4294967296 := by omega
  have Dp3 : x / 128 % 2 = p3 := dig x ((c : Int) * 1) 128 p3 2 (p2 * 1 + (g : Int) * 16 + (rs1 : Int) * 128 + (rs2 : Int) * 4096 + p1 * 131072 + p0 * 8388608) (by decide) (by omega) (by omega) (by omega) (by omega) (by omega)
  have Dp2 : x / 256 % 16 = p2 := dig x ((c : Int) * 1 + p3 * 128) 256 p2 16 ((g : Int) * 1 + (rs1 : Int) * 8 + (rs2 : Int) * 256 + p1 * 8192 + p0 * 524288) (by decide) (by omega) (by omega) (by omega) (by omega) (by omega)
  have Dg : x / 4096 % 8 = (g : Int) := dig x ((c : Int) * 1 + p3 * 128 + p2 * 256) 4096 (g : Int) 8 ((rs1 : Int) * 1 + (rs2 : Int) * 32 + p1 * 1024 + p0 * 65536) (by decide) (by omega) (by omega) (by omega) (by omega) (by omega)
  have Drs1 : x / 32768 % 32 = (rs1 : Int) := dig x ((c : Int) * 1 + p3 * 128 + p2 * 256 + (g : Int) * 4096) 32768 (rs1 : Int) 32 ((rs2 : Int) * 1 + p1 * 32 + p0 * 2048) (by decide) (by omega) (by omega) (by omega) (by omega) (by omega)
  have Drs2 : x / 1048576 % 32 = (rs2 : Int) := dig x ((c : Int) * 1 + p3 * 128 + p2 * 256 + (g : Int) * 4096 + (rs1 : Int) * 32768) 1048576 (rs2 : Int) 32 (p1 * 1 + p0 * 64) (by decide) (by omega) (by omega) (by omega) (by omega) (by omega)
  have Dp1 : x / 33554432 % 64 = p1 := dig x ((c : Int) * 1 + p3 * 128 + p2 * 256 + (g : Int) * 4096 + (rs1 : Int) * 32768 + (rs2 : Int) * 1048576) 33554432 p1 64 (p0 * 1) (by decide) (by omega) (by omega) (by omega) (by omega) (by omega)
  have Dp0 : x / 2147483648 % 2 = p0 := dig x ((c : Int) * 1 + p3 * 128 + p2 * 256 + (g : Int) * 4096 + (rs1 : Int) * 32768 + (rs2 : Int) * 1048576 + p1 * 33554432) 2147483648 p0 2 (0) (by decide) (by omega) (by omega) (by omega) (by omega) (by omega)
  refine ⟨x0, x1, by omega, fun hh => by rw [hg]; exact Dg, fun hh => by rw [hs] at hh; omega, ?_, ?_, ?_, ?_⟩
  · show (if fieldOf (shapeOf n).toNat 0 then fldI x 7 5 else 0) = _; rw [hs, zrd]; rfl
  · show (if fieldOf (shapeOf n).toNat 1 then fldI x 15 5 else 0) = _; rw [hs]; show x / 2 ^ 15 % 2 ^ 5 = _; simp only [Int.reducePow]; exact Drs1
  · show (if fieldOf (shapeOf n).toNat 2 then fldI x 20 5 else 0) = _; rw [hs]; show x / 2 ^ 20 % 2 ^ 5 = _; simp only [Int.reducePow]; exact Drs2
  · show numI x (shapeOf n) = imm
    rw [hs]; show sgnI (orI (orI (orI (x / 2 ^ 31 % 2 ^ 1 * 4096) (x / 2 ^ 7 % 2 ^ 1 * 2048)) (x / 2 ^ 25 % 2 ^ 6 * 32)) (x / 2 ^ 8 % 2 ^ 4 * 2)) 13 = imm
    simp only [Int.reducePow]
    rw [Dp0, Dp1, Dp2, Dp3]
    clear Dp0 Dp1 Dp2 Dp3 Dg Drs1 Drs2 hx x0 x1
    rw [orHi (a := p0 * 4096) (b := p3 * 2048) 12 p0.toNat (p3 * 2048).toNat (by simp only [Nat.reducePow]; omega) (by omega) (by simp only [Nat.reducePow]; omega) (by simp only [Nat.reducePow]; omega) (by simp only [Nat.reducePow]; omega)]
    rw [orHi (b := p1 * 32) 11 (2 * p0.toNat + p3.toNat) (p1 * 32).toNat (by simp only [Nat.reducePow]; omega) (by omega) (by simp only [Nat.reducePow]; omega) (by simp only [Nat.reducePow]; omega) (by simp only [Nat.reducePow]; omega)]
    rw [orHi (b := p2 * 2) 5 (64 * (2 * p0.toNat + p3.toNat) + p1.toNat) (p2 * 2).toNat (by simp only [Nat.reducePow]; omega) (by omega) (by simp only [Nat.reducePow]; omega) (by simp only [Nat.reducePow]; omega) (by simp only [Nat.reducePow]; omega)]
    simp only [Nat.reducePow]
    rw [show ((32 * (64 * (2 * p0.toNat + p3.toNat) + p1.toNat) + (p2 * 2).toNat : Nat) : Int) = p0 * 4096 + p3 * 2048 + p1 * 32 + p2 * 2 by omega, sgn13 _ (by omega) (by omega)]; exact hval.symm
theorem keys5 (n : Nat) (h1 : 1 ≤ n) (h2 : n ≤ 29) (hs : shapeOf n = 5) (rd rs1 rs2 imm : Int) (h : chkI n rd rs1 rs2 imm = 0) : Keys n rd rs1 rs2 imm (encI n rd rs1 rs2 imm) ∧ encI n rd rs1 rs2 imm = sumW 5 (codeOf n) (f3Of n) (f7Of n) rd rs1 rs2 imm := by
  obtain ⟨-, -, hk⟩ := chkI_inv h
  rw [Int.toNat_natCast, hs] at hk
  obtain ⟨i0, i1, i2, i3, i4, i5⟩ := chk_inv hk
  obtain ⟨a0, a1, a2⟩ := bad_inv i0
  obtain ⟨b0, b1, b2⟩ := bad_inv i1
  obtain ⟨d0, d1, d2⟩ := bad_inv i2
  obtain ⟨-, -, c0, c1, g0, g1, k0, k1⟩ := forms_ok n h1 h2
  obtain ⟨m0, m1, m2⟩ := forms_more n h1 h2
  have j3 : -1048576 ≤ imm := i3
  have j4 : imm ≤ 1048572 := i4
  clear i0 i1 i2 i3 i4
  have he : encI n rd rs1 rs2 imm = encW 5 (codeOf n) (f3Of n) (f7Of n) rd rs1 rs2 imm := by
    unfold encI; rw [if_pos h, Int.toNat_natCast, hs]
  have zrs1 : rs1 = 0 := b2.resolve_right (by decide)
  have zrs2 : rs2 = 0 := d2.resolve_right (by decide)
  have zg : f3Of n = 0 := m0 (by rw [hs]; decide)
  obtain ⟨c, hc⟩ := Int.eq_ofNat_of_zero_le c0
  obtain ⟨g, hg⟩ := Int.eq_ofNat_of_zero_le g0
  obtain ⟨q, hq⟩ := Int.eq_ofNat_of_zero_le k0
  obtain ⟨rd, rfl⟩ := Int.eq_ofNat_of_zero_le a0
  obtain ⟨rs1, rfl⟩ := Int.eq_ofNat_of_zero_le b0
  obtain ⟨rs2, rfl⟩ := Int.eq_ofNat_of_zero_le d0
  have hsum : encI n rd rs1 rs2 imm = sumW 5 c g q rd rs1 rs2 imm := by rw [he, hc, hg, hq]; exact sum5 c g q rd rs1 rs2 imm (by omega) (by omega) (by omega) (by omega) (by omega) (by omega) (by omega) (by omega) (by omega)
  refine ⟨?_, by rw [hsum, hc, hg, hq]⟩
  rw [hsum]
  clear hsum he h hk
  show Keys n rd rs1 rs2 imm ((c : Int) + rd * 128 + imm / 4096 % 256 * 4096 + imm / 2048 % 2 * 1048576 + imm / 2 % 1024 * 2097152 + imm / 1048576 % 2 * 2147483648)
  generalize hx : (c : Int) + rd * 128 + imm / 4096 % 256 * 4096 + imm / 2048 % 2 * 1048576 + imm / 2 % 1024 * 2097152 + imm / 1048576 % 2 * 2147483648 = x
  obtain ⟨p3, hp3⟩ : ∃ y, y = imm / 4096 % 256 := ⟨_, rfl⟩
  have bp3 : 0 ≤ p3 ∧ p3 < 256 := by omega
  obtain ⟨p2, hp2⟩ : ∃ y, y = imm / 2048 % 2 := ⟨_, rfl⟩
  have bp2 : 0 ≤ p2 ∧ p2 < 2 := by omega
  obtain ⟨p1, hp1⟩ : ∃ y, y = imm / 2 % 1024 := ⟨_, rfl⟩
  have bp1 : 0 ≤ p1 ∧ p1 < 1024 := by omega
  obtain ⟨p0, hp0⟩ : ∃ y, y = imm / 1048576 % 2 := ⟨_, rfl⟩
  have bp0 : 0 ≤ p0 ∧ p0 < 2 := by omega
  have w4 : imm % 4 = 0 := by
    have q5 := i5
    rw [show immSt 5 = 4 from rfl, Int.tmod_eq_emod] at q5
    split at q5 <;> omega
  have hval : imm = if 1048576 ≤ p0 * 1048576 + p3 * 4096 + p2 * 2048 + p1 * 2 then p0 * 1048576 + p3 * 4096 + p2 * 2048 + p1 * 2 - 2097152 else p0 * 1048576 + p3 * 4096 + p2 * 2048 + p1 * 2 := by split <;> omega
  rw [← hp3, ← hp2, ← hp1, ← hp0] at hx
  clear hp3 hp2 hp1 hp0
  have x0 : 0 < x := by omega
  have x1 : x < 4294967296 := by omega
  have Drd : x / 128 % 32 = (rd : Int) := dig x ((c : Int) * 1) 128 (rd : Int) 32 (p3 * 1 + p2 * 256 + p1 * 512 + p0 * 524288) (by decide) (by omega) (by omega) (by omega) (by omega) (by omega)
  have Dp3 : x / 4096 % 256 = p3 := dig x ((c : Int) * 1 + (rd : Int) * 128) 4096 p3 256 (p2 * 1 + p1 * 2 + p0 * 2048) (by decide) (by omega) (by omega) (by omega) (by omega) (by omega)
  have Dp2 : x / 1048576 % 2 = p2 := dig x ((c : Int) * 1 + (rd : Int) * 128 + p3 * 4096) 1048576 p2 2 (p1 * 1 + p0 * 1024) (by decide) (by omega) (by omega) (by omega) (by omega) (by omega)
  have Dp1 : x / 2097152 % 1024 = p1 := dig x ((c : Int) * 1 + (rd : Int) * 128 + p3 * 4096 + p2 * 1048576) 2097152 p1 1024 (p0 * 1) (by decide) (by omega) (by omega) (by omega) (by omega) (by omega)
  have Dp0 : x / 2147483648 % 2 = p0 := dig x ((c : Int) * 1 + (rd : Int) * 128 + p3 * 4096 + p2 * 1048576 + p1 * 2097152) 2147483648 p0 2 (0) (by decide) (by omega) (by omega) (by omega) (by omega) (by omega)
  refine ⟨x0, x1, by omega, fun hh => by rw [hs] at hh; omega, fun hh => by rw [hs] at hh; omega, ?_, ?_, ?_, ?_⟩
  · show (if fieldOf (shapeOf n).toNat 0 then fldI x 7 5 else 0) = _; rw [hs]; show x / 2 ^ 7 % 2 ^ 5 = _; simp only [Int.reducePow]; exact Drd
  · show (if fieldOf (shapeOf n).toNat 1 then fldI x 15 5 else 0) = _; rw [hs, zrs1]; rfl
  · show (if fieldOf (shapeOf n).toNat 2 then fldI x 20 5 else 0) = _; rw [hs, zrs2]; rfl
  · show numI x (shapeOf n) = imm
    rw [hs]; show sgnI (orI (orI (orI (x / 2 ^ 31 % 2 ^ 1 * 1048576) (x / 2 ^ 12 % 2 ^ 8 * 4096)) (x / 2 ^ 20 % 2 ^ 1 * 2048)) (x / 2 ^ 21 % 2 ^ 10 * 2)) 21 = imm
    simp only [Int.reducePow]
    rw [Dp0, Dp1, Dp2, Dp3]
    clear Dp0 Dp1 Dp2 Dp3 Drd hx x0 x1
    rw [orHi (a := p0 * 1048576) (b := p3 * 4096) 20 p0.toNat (p3 * 4096).toNat (by simp only [Nat.reducePow]; omega) (by omega) (by simp only [Nat.reducePow]; omega) (by simp only [Nat.reducePow]; omega) (by simp only [Nat.reducePow]; omega)]
    rw [orHi (b := p2 * 2048) 12 (256 * p0.toNat + p3.toNat) (p2 * 2048).toNat (by simp only [Nat.reducePow]; omega) (by omega) (by simp only [Nat.reducePow]; omega) (by simp only [Nat.reducePow]; omega) (by simp only [Nat.reducePow]; omega)]
    rw [orHi (b := p1 * 2) 11 (2 * (256 * p0.toNat + p3.toNat) + p2.toNat) (p1 * 2).toNat (by simp only [Nat.reducePow]; omega) (by omega) (by simp only [Nat.reducePow]; omega) (by simp only [Nat.reducePow]; omega) (by simp only [Nat.reducePow]; omega)]
    simp only [Nat.reducePow]
    rw [show ((2048 * (2 * (256 * p0.toNat + p3.toNat) + p2.toNat) + (p1 * 2).toNat : Nat) : Int) = p0 * 1048576 + p3 * 4096 + p2 * 2048 + p1 * 2 by omega, sgn21 _ (by omega) (by omega)]; exact hval.symm
theorem keys6 (n : Nat) (h1 : 1 ≤ n) (h2 : n ≤ 29) (hs : shapeOf n = 6) (rd rs1 rs2 imm : Int) (h : chkI n rd rs1 rs2 imm = 0) : Keys n rd rs1 rs2 imm (encI n rd rs1 rs2 imm) ∧ encI n rd rs1 rs2 imm = sumW 6 (codeOf n) (f3Of n) (f7Of n) rd rs1 rs2 imm := by
  obtain ⟨-, -, hk⟩ := chkI_inv h
  rw [Int.toNat_natCast, hs] at hk
  obtain ⟨i0, i1, i2, i3, i4, i5⟩ := chk_inv hk
  obtain ⟨a0, a1, a2⟩ := bad_inv i0
  obtain ⟨b0, b1, b2⟩ := bad_inv i1
  obtain ⟨d0, d1, d2⟩ := bad_inv i2
  obtain ⟨-, -, c0, c1, g0, g1, k0, k1⟩ := forms_ok n h1 h2
  obtain ⟨m0, m1, m2⟩ := forms_more n h1 h2
  have j3 : -524288 ≤ imm := i3
  have j4 : imm ≤ 524287 := i4
  clear i0 i1 i2 i3 i4
  have he : encI n rd rs1 rs2 imm = encW 6 (codeOf n) (f3Of n) (f7Of n) rd rs1 rs2 imm := by
    unfold encI; rw [if_pos h, Int.toNat_natCast, hs]
  have zrs1 : rs1 = 0 := b2.resolve_right (by decide)
  have zrs2 : rs2 = 0 := d2.resolve_right (by decide)
  have zg : f3Of n = 0 := m0 (by rw [hs]; decide)
  obtain ⟨c, hc⟩ := Int.eq_ofNat_of_zero_le c0
  obtain ⟨g, hg⟩ := Int.eq_ofNat_of_zero_le g0
  obtain ⟨q, hq⟩ := Int.eq_ofNat_of_zero_le k0
  obtain ⟨rd, rfl⟩ := Int.eq_ofNat_of_zero_le a0
  obtain ⟨rs1, rfl⟩ := Int.eq_ofNat_of_zero_le b0
  obtain ⟨rs2, rfl⟩ := Int.eq_ofNat_of_zero_le d0
  have hsum : encI n rd rs1 rs2 imm = sumW 6 c g q rd rs1 rs2 imm := by rw [he, hc, hg, hq]; exact sum6 c g q rd rs1 rs2 imm (by omega) (by omega) (by omega) (by omega) (by omega) (by omega) (by omega) (by omega) (by omega)
  refine ⟨?_, by rw [hsum, hc, hg, hq]⟩
  rw [hsum]
  clear hsum he h hk
  show Keys n rd rs1 rs2 imm ((c : Int) + rd * 128 + imm % 1048576 * 4096)
  generalize hx : (c : Int) + rd * 128 + imm % 1048576 * 4096 = x
  have x0 : 0 < x := by omega
  have x1 : x < 4294967296 := by omega
  refine ⟨x0, x1, by omega, fun hh => by rw [hs] at hh; omega, fun hh => by rw [hs] at hh; omega, ?_, ?_, ?_, ?_⟩
  · show (if fieldOf (shapeOf n).toNat 0 then fldI x 7 5 else 0) = _; rw [hs]; show x / 2 ^ 7 % 2 ^ 5 = _; simp only [Int.reducePow]; omega
  · show (if fieldOf (shapeOf n).toNat 1 then fldI x 15 5 else 0) = _; rw [hs, zrs1]; rfl
  · show (if fieldOf (shapeOf n).toNat 2 then fldI x 20 5 else 0) = _; rw [hs, zrs2]; rfl
  · show numI x (shapeOf n) = imm
    rw [hs]; show sgnI (x / 2 ^ 12 % 2 ^ 20) 20 = imm; simp only [Int.reducePow]; rw [sgn20 _ (by omega) (by omega)]; split <;> omega
theorem keys7 (n : Nat) (h1 : 1 ≤ n) (h2 : n ≤ 29) (hs : shapeOf n = 7) (rd rs1 rs2 imm : Int) (h : chkI n rd rs1 rs2 imm = 0) : Keys n rd rs1 rs2 imm (encI n rd rs1 rs2 imm) ∧ encI n rd rs1 rs2 imm = sumW 7 (codeOf n) (f3Of n) (f7Of n) rd rs1 rs2 imm := by
  obtain ⟨-, -, hk⟩ := chkI_inv h
  rw [Int.toNat_natCast, hs] at hk
  obtain ⟨i0, i1, i2, i3, i4, i5⟩ := chk_inv hk
  obtain ⟨a0, a1, a2⟩ := bad_inv i0
  obtain ⟨b0, b1, b2⟩ := bad_inv i1
  obtain ⟨d0, d1, d2⟩ := bad_inv i2
  obtain ⟨-, -, c0, c1, g0, g1, k0, k1⟩ := forms_ok n h1 h2
  obtain ⟨m0, m1, m2⟩ := forms_more n h1 h2
  have j3 : 0 ≤ imm := i3
  have j4 : imm ≤ 0 := i4
  clear i0 i1 i2 i3 i4
  have he : encI n rd rs1 rs2 imm = encW 7 (codeOf n) (f3Of n) (f7Of n) rd rs1 rs2 imm := by
    unfold encI; rw [if_pos h, Int.toNat_natCast, hs]
  have zrd : rd = 0 := a2.resolve_right (by decide)
  have zrs1 : rs1 = 0 := b2.resolve_right (by decide)
  have zrs2 : rs2 = 0 := d2.resolve_right (by decide)
  have zg : f3Of n = 0 := m0 (by rw [hs]; decide)
  obtain ⟨c, hc⟩ := Int.eq_ofNat_of_zero_le c0
  obtain ⟨g, hg⟩ := Int.eq_ofNat_of_zero_le g0
  obtain ⟨q, hq⟩ := Int.eq_ofNat_of_zero_le k0
  obtain ⟨rd, rfl⟩ := Int.eq_ofNat_of_zero_le a0
  obtain ⟨rs1, rfl⟩ := Int.eq_ofNat_of_zero_le b0
  obtain ⟨rs2, rfl⟩ := Int.eq_ofNat_of_zero_le d0
  have hsum : encI n rd rs1 rs2 imm = sumW 7 c g q rd rs1 rs2 imm := by rw [he, hc, hg, hq]; exact sum7 c g q rd rs1 rs2 imm (by omega) (by omega) (by omega) (by omega) (by omega)
  refine ⟨?_, by rw [hsum, hc, hg, hq]⟩
  rw [hsum]
  clear hsum he h hk
  show Keys n rd rs1 rs2 imm ((c : Int))
  generalize hx : (c : Int) = x
  have x0 : 0 < x := by omega
  have x1 : x < 4294967296 := by omega
  refine ⟨x0, x1, by omega, fun hh => by rw [hs] at hh; omega, fun hh => by rw [hs] at hh; omega, ?_, ?_, ?_, ?_⟩
  · show (if fieldOf (shapeOf n).toNat 0 then fldI x 7 5 else 0) = _; rw [hs, zrd]; rfl
  · show (if fieldOf (shapeOf n).toNat 1 then fldI x 15 5 else 0) = _; rw [hs, zrs1]; rfl
  · show (if fieldOf (shapeOf n).toNat 2 then fldI x 20 5 else 0) = _; rw [hs, zrs2]; rfl
  · show numI x (shapeOf n) = imm
    rw [hs]; show (0 : Int) = imm; omega
theorem keys {op rd rs1 rs2 imm : Int} (h : chkI op rd rs1 rs2 imm = 0) : ∃ n : Nat, op = n ∧ 1 ≤ n ∧ n ≤ 29 ∧ Keys n rd rs1 rs2 imm (encI op rd rs1 rs2 imm) ∧ encI op rd rs1 rs2 imm = sumW (shapeOf n) (codeOf n) (f3Of n) (f7Of n) rd rs1 rs2 imm := by
  obtain ⟨h1, h2, _⟩ := chkI_inv h
  obtain ⟨n, rfl⟩ := Int.eq_ofNat_of_zero_le (show 0 ≤ op by omega)
  refine ⟨n, rfl, by omega, by omega, ?_⟩
  obtain ⟨s0, s1, _⟩ := forms_ok n (by omega) (by omega)
  have hs : shapeOf n = 0 ∨ shapeOf n = 1 ∨ shapeOf n = 2 ∨ shapeOf n = 3 ∨ shapeOf n = 4 ∨ shapeOf n = 5 ∨ shapeOf n = 6 ∨ shapeOf n = 7 := by omega
  rcases hs with hs | hs | hs | hs | hs | hs | hs | hs
  · rw [hs]; exact keys0 n (by omega) (by omega) hs rd rs1 rs2 imm h
  · rw [hs]; exact keys1 n (by omega) (by omega) hs rd rs1 rs2 imm h
  · rw [hs]; exact keys2 n (by omega) (by omega) hs rd rs1 rs2 imm h
  · rw [hs]; exact keys3 n (by omega) (by omega) hs rd rs1 rs2 imm h
  · rw [hs]; exact keys4 n (by omega) (by omega) hs rd rs1 rs2 imm h
  · rw [hs]; exact keys5 n (by omega) (by omega) hs rd rs1 rs2 imm h
  · rw [hs]; exact keys6 n (by omega) (by omega) hs rd rs1 rs2 imm h
  · rw [hs]; exact keys7 n (by omega) (by omega) hs rd rs1 rs2 imm h
theorem table_apart : ∀ j k : Fin 30, 1 ≤ j.val → 1 ≤ k.val → codeOf j = codeOf k → (shapeOf j ≤ 4 → shapeOf k ≤ 4 → f3Of j = f3Of k) → (shapeOf j = 0 → shapeOf k = 0 → f7Of j = f7Of k) → j = k := by decide +kernel
theorem keys_op {j k : Nat} {a b c d a' b' c' d' x : Int} (hj : 1 ≤ j) (hj2 : j ≤ 29) (hk : 1 ≤ k) (hk2 : k ≤ 29) (h : Keys j a b c d x) (h' : Keys k a' b' c' d' x) : j = k := by
  have := table_apart ⟨j, by omega⟩ ⟨k, by omega⟩ hj hk (h.code.symm.trans h'.code) (fun s s' => (h.f3 s).symm.trans (h'.f3 s')) (fun s s' => (h.f7 s).symm.trans (h'.f7 s'))
  exact congrArg Fin.val this
/-- No two instructions have one word. -/
theorem enc_inj {op rd rs1 rs2 imm op' rd' rs1' rs2' imm' : Int} (h : chkI op rd rs1 rs2 imm = 0) (h' : chkI op' rd' rs1' rs2' imm' = 0) (e : encI op rd rs1 rs2 imm = encI op' rd' rs1' rs2' imm') :
    op = op' ∧ rd = rd' ∧ rs1 = rs1' ∧ rs2 = rs2' ∧ imm = imm' := by
  obtain ⟨j, rfl, j1, j2, k, _⟩ := keys h
  obtain ⟨j', rfl, j1', j2', k', _⟩ := keys h'
  rw [e] at k
  obtain rfl := keys_op j1 j2 j1' j2' k k'
  exact ⟨rfl, k.rd.symm.trans k'.rd, k.rs1.symm.trans k'.rs1, k.rs2.symm.trans k'.rs2, k.imm.symm.trans k'.imm⟩
/-- Decoding undoes encoding. -/
theorem dec_enc {op rd rs1 rs2 imm op' rd' rs1' rs2' imm' err : Int} (h : chkI op rd rs1 rs2 imm = 0) (d : decP (encI op rd rs1 rs2 imm) op' rd' rs1' rs2' imm' err) :
    op' = op ∧ rd' = rd ∧ rs1' = rs1 ∧ rs2' = rs2 ∧ imm' = imm ∧ err = 0 := by
  obtain ⟨j, rfl, j1, j2, k, _⟩ := keys h
  have hh : hit j (encI j rd rs1 rs2 imm) := by
    unfold hit; rw [k.rd, k.rs1, k.rs2, k.imm]; exact ⟨h, rfl⟩
  rcases d with ⟨h1, _⟩ | ⟨_, _, h1, _⟩ | ⟨_, _, m, m1, m2, _, hm, rfl, rfl, rfl, rfl, rfl, rfl⟩
  · have := k.lo; have := k.hi; omega
  · exact absurd hh (h1 j j1 (by omega))
  · obtain ⟨m', e, _, _, k', _⟩ := keys hm.1
    obtain rfl : m' = m := by omega
    rw [hm.2] at k'
    obtain rfl := keys_op j1 j2 m1 (by omega) k k'
    exact ⟨rfl, k.rd, k.rs1, k.rs2, k.imm, rfl⟩
end Tier
