/-
  Plain laws of the machine's words: the word of an instruction that may be, written as a sum; its fields; no two instructions have one word. No program is in sight.
-/
import Derived.Test.YtjjpgkjjiooieaaDoorRvF
namespace Tier
open Go Go.RowKit
theorem orC (a b : Nat) (ha : a < 2 ^ 40) (hb : b < 2 ^ 40) : orI a b = ((a ||| b : Nat) : Int) ∧ a ||| b < 2 ^ 40 :=
  ⟨or_nat a b (Nat.lt_of_lt_of_le ha (by decide)) (Nat.lt_of_lt_of_le hb (by decide)), Nat.or_lt_two_pow ha hb⟩
theorem or_lo (k lo m : Nat) (h : lo < 2 ^ k) : lo ||| 2 ^ k * m = lo + 2 ^ k * m := by
  rw [Nat.or_comm, ← Nat.two_pow_add_eq_or_of_lt h, Nat.add_comm]
theorem or5 (c g rd rs1 rs2 : Nat) (hc : c < 128) (hg : g < 8) (h0 : rd < 32) (h1 : rs1 < 32) (h2 : rs2 < 32) :
    orI (orI (orI (orI c (g * 4096 : Nat)) (rd * 128 : Nat)) (rs1 * 32768 : Nat)) (rs2 * 1048576 : Nat) = ((c ||| (rd * 128 ||| (g * 4096 ||| (rs1 * 32768 ||| rs2 * 1048576))) : Nat) : Int) ∧ (c ||| (rd * 128 ||| (g * 4096 ||| (rs1 * 32768 ||| rs2 * 1048576)))) < 2 ^ 40 := by
  obtain ⟨e1, l1⟩ := orC c (g * 4096) (by omega) (by omega)
  obtain ⟨e2, l2⟩ := orC _ (rd * 128) l1 (by omega)
  obtain ⟨e3, l3⟩ := orC _ (rs1 * 32768) l2 (by omega)
  obtain ⟨e4, l4⟩ := orC _ (rs2 * 1048576) l3 (by omega)
  rw [e1, e2, e3, e4]
  have e : c ||| (rd * 128 ||| (g * 4096 ||| (rs1 * 32768 ||| rs2 * 1048576))) = c ||| g * 4096 ||| rd * 128 ||| rs1 * 32768 ||| rs2 * 1048576 := by ac_rfl
  rw [e]; exact ⟨rfl, l4⟩
theorem fldN (n : Int) (f m : Int) : ∃ k : Nat, fldI n f m = k ∧ k < 2 ^ m.toNat := by
  obtain ⟨h0, h1⟩ := fld_bd n f m
  obtain ⟨k, hk⟩ := Int.eq_ofNat_of_zero_le h0
  refine ⟨k, hk, ?_⟩
  rw [hk] at h1; exact_mod_cast h1
/-- The word of an instruction that may be, shape by shape. -/
def sumW (s c g h rd rs1 rs2 imm : Int) : Int :=
  if s = 0 then c + rd * 128 + g * 4096 + rs1 * 32768 + rs2 * 1048576 + h * 33554432
  else if s = 1 then c + rd * 128 + g * 4096 + rs1 * 32768 + imm % 4096 * 1048576
  else if s = 2 then c + rd * 128 + g * 4096 + rs1 * 32768 + imm * 1048576 + h * 67108864
  else if s = 3 then c + imm % 32 * 128 + g * 4096 + rs1 * 32768 + rs2 * 1048576 + imm / 32 % 128 * 33554432
  else if s = 4 then c + imm / 2048 % 2 * 128 + imm / 2 % 16 * 256 + g * 4096 + rs1 * 32768 + rs2 * 1048576 + imm / 32 % 64 * 33554432 + imm / 4096 % 2 * 2147483648
  else if s = 5 then c + rd * 128 + imm / 4096 % 256 * 4096 + imm / 2048 % 2 * 1048576 + imm / 2 % 1024 * 2097152 + imm / 1048576 % 2 * 2147483648
  else if s = 6 then c + rd * 128 + imm % 1048576 * 4096 else c
section
variable (c g h rd rs1 rs2 : Nat) (imm : Int)
theorem sum0 (hc : c < 128) (hg : g < 8) (h0 : rd < 32) (h1 : rs1 < 32) (h2 : rs2 < 32) (hh : h < 128) : encW 0 c g h rd rs1 rs2 imm = sumW 0 c g h rd rs1 rs2 imm := by
  obtain ⟨e, l⟩ := or5 c g rd rs1 rs2 hc hg h0 h1 h2
  show orI _ _ = _
  rw [show orI (orI (orI (orI (c : Int) ((g : Int) * 4096)) ((rd : Int) * 128)) ((rs1 : Int) * 32768)) ((rs2 : Int) * 1048576) = _ from e, show (h : Int) * 33554432 = ((h * 33554432 : Nat) : Int) from rfl, (orC _ _ l (by omega)).1]
  have a1 := or_lo 25 (rs2 * 1048576) h (by omega)
  have a2 := or_lo 20 (rs1 * 32768) (rs2 + 32 * h) (by omega)
  have a3 := or_lo 15 (g * 4096) (rs1 + 32 * (rs2 + 32 * h)) (by omega)
  have a4 := or_lo 12 (rd * 128) (g + 8 * (rs1 + 32 * (rs2 + 32 * h))) (by omega)
  have a5 := or_lo 7 c (rd + 32 * (g + 8 * (rs1 + 32 * (rs2 + 32 * h)))) (by omega)
  have e1 : c ||| (rd * 128 ||| (g * 4096 ||| (rs1 * 32768 ||| rs2 * 1048576))) ||| h * 33554432 = c ||| (rd * 128 ||| (g * 4096 ||| (rs1 * 32768 ||| (rs2 * 1048576 ||| h * 33554432)))) := by ac_rfl
  rw [e1, show h * 33554432 = 2 ^ 25 * h by omega, a1, show rs2 * 1048576 + 2 ^ 25 * h = 2 ^ 20 * (rs2 + 32 * h) by omega, a2, show rs1 * 32768 + 2 ^ 20 * (rs2 + 32 * h) = 2 ^ 15 * (rs1 + 32 * (rs2 + 32 * h)) by omega, a3,
    show g * 4096 + 2 ^ 15 * (rs1 + 32 * (rs2 + 32 * h)) = 2 ^ 12 * (g + 8 * (rs1 + 32 * (rs2 + 32 * h))) by omega, a4, show rd * 128 + 2 ^ 12 * (g + 8 * (rs1 + 32 * (rs2 + 32 * h))) = 2 ^ 7 * (rd + 32 * (g + 8 * (rs1 + 32 * (rs2 + 32 * h)))) by omega, a5]
  show _ = (c : Int) + rd * 128 + g * 4096 + rs1 * 32768 + rs2 * 1048576 + h * 33554432
  omega
/-! THE OTHER SHAPES -/
end
theorem ch1 (c rd g rs1 v0 : Nat) (bc : c < 128) (brd : rd < 32) (bg : g < 8) (brs1 : rs1 < 32) (_bv0 : v0 < 4096) : (c ||| (rd * 128 ||| (g * 4096 ||| rs1 * 32768))) ||| (v0 * 1048576) = c + rd * 128 + g * 4096 + rs1 * 32768 + v0 * 1048576 := by
  have e1 : (c ||| (rd * 128 ||| (g * 4096 ||| rs1 * 32768))) ||| (v0 * 1048576) = (c ||| (rd * 128 ||| (g * 4096 ||| (rs1 * 32768 ||| v0 * 1048576)))) := by ac_rfl
  rw [e1]
  clear e1
  rw [show v0 * 1048576 = 2 ^ 20 * v0 by omega]
  rw [or_lo 20 (rs1 * 32768) (v0) (by omega)]
  rw [show rs1 * 32768 + 2 ^ 20 * v0 = 2 ^ 15 * (rs1 + 32 * v0) by omega]
  rw [or_lo 15 (g * 4096) ((rs1 + 32 * v0)) (by omega)]
  rw [show g * 4096 + 2 ^ 15 * (rs1 + 32 * v0) = 2 ^ 12 * (g + 8 * (rs1 + 32 * v0)) by omega]
  rw [or_lo 12 (rd * 128) ((g + 8 * (rs1 + 32 * v0))) (by omega)]
  rw [show rd * 128 + 2 ^ 12 * (g + 8 * (rs1 + 32 * v0)) = 2 ^ 7 * (rd + 32 * (g + 8 * (rs1 + 32 * v0))) by omega]
  rw [or_lo 7 (c) ((rd + 32 * (g + 8 * (rs1 + 32 * v0)))) (by omega)]
  omega
theorem ch2 (c rd g rs1 im h : Nat) (bc : c < 128) (brd : rd < 32) (bg : g < 8) (brs1 : rs1 < 32) (bim : im < 64) (_bh : h < 64) : (c ||| (rd * 128 ||| (g * 4096 ||| rs1 * 32768))) ||| (h * 67108864 ||| im * 1048576) = c + rd * 128 + g * 4096 + rs1 * 32768 + im * 1048576 + h * 67108864 := by
  have e1 : (c ||| (rd * 128 ||| (g * 4096 ||| rs1 * 32768))) ||| (h * 67108864 ||| im * 1048576) = (c ||| (rd * 128 ||| (g * 4096 ||| (rs1 * 32768 ||| (im * 1048576 ||| h * 67108864))))) := by ac_rfl
  rw [e1]
  clear e1
  rw [show h * 67108864 = 2 ^ 26 * h by omega]
  rw [or_lo 26 (im * 1048576) (h) (by omega)]
  rw [show im * 1048576 + 2 ^ 26 * h = 2 ^ 20 * (im + 64 * h) by omega]
  rw [or_lo 20 (rs1 * 32768) ((im + 64 * h)) (by omega)]
  rw [show rs1 * 32768 + 2 ^ 20 * (im + 64 * h) = 2 ^ 15 * (rs1 + 32 * (im + 64 * h)) by omega]
  rw [or_lo 15 (g * 4096) ((rs1 + 32 * (im + 64 * h))) (by omega)]
  rw [show g * 4096 + 2 ^ 15 * (rs1 + 32 * (im + 64 * h)) = 2 ^ 12 * (g + 8 * (rs1 + 32 * (im + 64 * h))) by omega]
  rw [or_lo 12 (rd * 128) ((g + 8 * (rs1 + 32 * (im + 64 * h)))) (by omega)]
  rw [show rd * 128 + 2 ^ 12 * (g + 8 * (rs1 + 32 * (im + 64 * h))) = 2 ^ 7 * (rd + 32 * (g + 8 * (rs1 + 32 * (im + 64 * h)))) by omega]
  rw [or_lo 7 (c) ((rd + 32 * (g + 8 * (rs1 + 32 * (im + 64 * h))))) (by omega)]
  omega
theorem ch3 (c v1 g rs1 rs2 v0 : Nat) (bc : c < 128) (bv1 : v1 < 32) (bg : g < 8) (brs1 : rs1 < 32) (brs2 : rs2 < 32) (_bv0 : v0 < 128) : (c ||| (g * 4096 ||| (rs1 * 32768 ||| rs2 * 1048576))) ||| (v0 * 33554432 ||| v1 * 128) = c + v1 * 128 + g * 4096 + rs1 * 32768 + rs2 * 1048576 + v0 * 33554432 := by
  have e1 : (c ||| (g * 4096 ||| (rs1 * 32768 ||| rs2 * 1048576))) ||| (v0 * 33554432 ||| v1 * 128) = (c ||| (v1 * 128 ||| (g * 4096 ||| (rs1 * 32768 ||| (rs2 * 1048576 ||| v0 * 33554432))))) := by ac_rfl
  rw [e1]
  clear e1
  rw [show v0 * 33554432 = 2 ^ 25 * v0 by omega]
  rw [or_lo 25 (rs2 * 1048576) (v0) (by omega)]
  rw [show rs2 * 1048576 + 2 ^ 25 * v0 = 2 ^ 20 * (rs2 + 32 * v0) by omega]
  rw [or_lo 20 (rs1 * 32768) ((rs2 + 32 * v0)) (by omega)]
  rw [show rs1 * 32768 + 2 ^ 20 * (rs2 + 32 * v0) = 2 ^ 15 * (rs1 + 32 * (rs2 + 32 * v0)) by omega]
  rw [or_lo 15 (g * 4096) ((rs1 + 32 * (rs2 + 32 * v0))) (by omega)]
  rw [show g * 4096 + 2 ^ 15 * (rs1 + 32 * (rs2 + 32 * v0)) = 2 ^ 12 * (g + 8 * (rs1 + 32 * (rs2 + 32 * v0))) by omega]
  rw [or_lo 12 (v1 * 128) ((g + 8 * (rs1 + 32 * (rs2 + 32 * v0)))) (by omega)]
  rw [show v1 * 128 + 2 ^ 12 * (g + 8 * (rs1 + 32 * (rs2 + 32 * v0))) = 2 ^ 7 * (v1 + 32 * (g + 8 * (rs1 + 32 * (rs2 + 32 * v0)))) by omega]
  rw [or_lo 7 (c) ((v1 + 32 * (g + 8 * (rs1 + 32 * (rs2 + 32 * v0))))) (by omega)]
  omega
theorem ch4 (c v3 v2 g rs1 rs2 v1 v0 : Nat) (bc : c < 128) (bv3 : v3 < 2) (bv2 : v2 < 16) (bg : g < 8) (brs1 : rs1 < 32) (brs2 : rs2 < 32) (bv1 : v1 < 64) (_bv0 : v0 < 2) : (c ||| (g * 4096 ||| (rs1 * 32768 ||| rs2 * 1048576))) ||| (((v0 * 2147483648 ||| v1 * 33554432) ||| v2 * 256) ||| v3 * 128) = c + v3 * 128 + v2 * 256 + g * 4096 + rs1 * 32768 + rs2 * 1048576 + v1 * 33554432 + v0 * 2147483648 := by
  have e1 : (c ||| (g * 4096 ||| (rs1 * 32768 ||| rs2 * 1048576))) ||| (((v0 * 2147483648 ||| v1 * 33554432) ||| v2 * 256) ||| v3 * 128) = (c ||| (v3 * 128 ||| (v2 * 256 ||| (g * 4096 ||| (rs1 * 32768 ||| (rs2 * 1048576 ||| (v1 * 33554432 ||| v0 * 2147483648))))))) := by ac_rfl
  rw [e1]
  clear e1
  rw [show v0 * 2147483648 = 2 ^ 31 * v0 by omega]
  rw [or_lo 31 (v1 * 33554432) (v0) (by omega)]
  rw [show v1 * 33554432 + 2 ^ 31 * v0 = 2 ^ 25 * (v1 + 64 * v0) by omega]
  rw [or_lo 25 (rs2 * 1048576) ((v1 + 64 * v0)) (by omega)]
  rw [show rs2 * 1048576 + 2 ^ 25 * (v1 + 64 * v0) = 2 ^ 20 * (rs2 + 32 * (v1 + 64 * v0)) by omega]
  rw [or_lo 20 (rs1 * 32768) ((rs2 + 32 * (v1 + 64 * v0))) (by omega)]
  rw [show rs1 * 32768 + 2 ^ 20 * (rs2 + 32 * (v1 + 64 * v0)) = 2 ^ 15 * (rs1 + 32 * (rs2 + 32 * (v1 + 64 * v0))) by omega]
  rw [or_lo 15 (g * 4096) ((rs1 + 32 * (rs2 + 32 * (v1 + 64 * v0)))) (by omega)]
  rw [show g * 4096 + 2 ^ 15 * (rs1 + 32 * (rs2 + 32 * (v1 + 64 * v0))) = 2 ^ 12 * (g + 8 * (rs1 + 32 * (rs2 + 32 * (v1 + 64 * v0)))) by omega]
  rw [or_lo 12 (v2 * 256) ((g + 8 * (rs1 + 32 * (rs2 + 32 * (v1 + 64 * v0))))) (by omega)]
  rw [show v2 * 256 + 2 ^ 12 * (g + 8 * (rs1 + 32 * (rs2 + 32 * (v1 + 64 * v0)))) = 2 ^ 8 * (v2 + 16 * (g + 8 * (rs1 + 32 * (rs2 + 32 * (v1 + 64 * v0))))) by omega]
  rw [or_lo 8 (v3 * 128) ((v2 + 16 * (g + 8 * (rs1 + 32 * (rs2 + 32 * (v1 + 64 * v0)))))) (by omega)]
  rw [show v3 * 128 + 2 ^ 8 * (v2 + 16 * (g + 8 * (rs1 + 32 * (rs2 + 32 * (v1 + 64 * v0))))) = 2 ^ 7 * (v3 + 2 * (v2 + 16 * (g + 8 * (rs1 + 32 * (rs2 + 32 * (v1 + 64 * v0)))))) by omega]
  rw [or_lo 7 (c) ((v3 + 2 * (v2 + 16 * (g + 8 * (rs1 + 32 * (rs2 + 32 * (v1 + 64 * v0))))))) (by omega)]
  omega
theorem ch5 (c rd v3 v2 v1 v0 : Nat) (bc : c < 128) (brd : rd < 32) (bv3 : v3 < 256) (bv2 : v2 < 2) (bv1 : v1 < 1024) (_bv0 : v0 < 2) : (c ||| rd * 128) ||| (((v0 * 2147483648 ||| v1 * 2097152) ||| v2 * 1048576) ||| v3 * 4096) = c + rd * 128 + v3 * 4096 + v2 * 1048576 + v1 * 2097152 + v0 * 2147483648 := by
  have e1 : (c ||| rd * 128) ||| (((v0 * 2147483648 ||| v1 * 2097152) ||| v2 * 1048576) ||| v3 * 4096) = (c ||| (rd * 128 ||| (v3 * 4096 ||| (v2 * 1048576 ||| (v1 * 2097152 ||| v0 * 2147483648))))) := by ac_rfl
  rw [e1]
  clear e1
  rw [show v0 * 2147483648 = 2 ^ 31 * v0 by omega]
  rw [or_lo 31 (v1 * 2097152) (v0) (by omega)]
  rw [show v1 * 2097152 + 2 ^ 31 * v0 = 2 ^ 21 * (v1 + 1024 * v0) by omega]
  rw [or_lo 21 (v2 * 1048576) ((v1 + 1024 * v0)) (by omega)]
  rw [show v2 * 1048576 + 2 ^ 21 * (v1 + 1024 * v0) = 2 ^ 20 * (v2 + 2 * (v1 + 1024 * v0)) by omega]
  rw [or_lo 20 (v3 * 4096) ((v2 + 2 * (v1 + 1024 * v0))) (by omega)]
  rw [show v3 * 4096 + 2 ^ 20 * (v2 + 2 * (v1 + 1024 * v0)) = 2 ^ 12 * (v3 + 256 * (v2 + 2 * (v1 + 1024 * v0))) by omega]
  rw [or_lo 12 (rd * 128) ((v3 + 256 * (v2 + 2 * (v1 + 1024 * v0)))) (by omega)]
  rw [show rd * 128 + 2 ^ 12 * (v3 + 256 * (v2 + 2 * (v1 + 1024 * v0))) = 2 ^ 7 * (rd + 32 * (v3 + 256 * (v2 + 2 * (v1 + 1024 * v0)))) by omega]
  rw [or_lo 7 (c) ((rd + 32 * (v3 + 256 * (v2 + 2 * (v1 + 1024 * v0))))) (by omega)]
  omega
theorem ch6 (c rd v0 : Nat) (bc : c < 128) (brd : rd < 32) (_bv0 : v0 < 1048576) : (c ||| rd * 128) ||| (v0 * 4096) = c + rd * 128 + v0 * 4096 := by
  have e1 : (c ||| rd * 128) ||| (v0 * 4096) = (c ||| (rd * 128 ||| v0 * 4096)) := by ac_rfl
  rw [e1]
  clear e1
  rw [show v0 * 4096 = 2 ^ 12 * v0 by omega]
  rw [or_lo 12 (rd * 128) (v0) (by omega)]
  rw [show rd * 128 + 2 ^ 12 * v0 = 2 ^ 7 * (rd + 32 * v0) by omega]
  rw [or_lo 7 (c) ((rd + 32 * v0)) (by omega)]
  omega
section
variable (c g h rd rs1 rs2 : Nat) (imm : Int)
theorem sum1 (hc : c < 128) (hg : g < 8) (h0 : rd < 32) (h1 : rs1 < 32) (h2 : rs2 < 32) (_hh : h < 64) (zrs2 : rs2 = 0) : encW 1 c g h rd rs1 rs2 imm = sumW 1 c g h rd rs1 rs2 imm := by
  obtain ⟨e, l⟩ := or5 c g rd rs1 rs2 hc hg h0 h1 h2
  unfold encW sumW
  dsimp only
  simp only [Int.reduceEq, if_true, if_false]
  rw [show orI (orI (orI (orI (c : Int) ((g : Int) * 4096)) ((rd : Int) * 128)) ((rs1 : Int) * 32768)) ((rs2 : Int) * 1048576) = _ from e]
  have L := Lib.hid l
  clear e l
  obtain ⟨v0, fv0, lv0⟩ := fldN imm 0 12
  simp only [Int.reduceToNat, Nat.reducePow] at lv0
  have wv0 : (v0 : Int) = imm % 4096 := by rw [← fv0]; unfold fldI; simp
  rw [fv0]
  have k0 : v0 * 1048576 < 2 ^ 40 := by omega
  rw [show (v0 : Int) * 1048576 = ((v0 * 1048576 : Nat) : Int) from rfl]
  rw [(orC _ _ L.out k0).1]
  clear k0
  subst zrs2
  simp only [Nat.zero_mul, Nat.or_zero]
  rw [ch1 c rd g rs1 v0 (by omega) (by omega) (by omega) (by omega) (by omega)]
  omega
theorem sum2 (hc : c < 128) (hg : g < 8) (h0 : rd < 32) (h1 : rs1 < 32) (h2 : rs2 < 32) (hh : h < 64) (zrs2 : rs2 = 0) (i0 : 0 ≤ imm) (i1 : imm ≤ 63) : encW 2 c g h rd rs1 rs2 imm = sumW 2 c g h rd rs1 rs2 imm := by
  obtain ⟨e, l⟩ := or5 c g rd rs1 rs2 hc hg h0 h1 h2
  unfold encW sumW
  dsimp only
  simp only [Int.reduceEq, if_true, if_false]
  rw [show orI (orI (orI (orI (c : Int) ((g : Int) * 4096)) ((rd : Int) * 128)) ((rs1 : Int) * 32768)) ((rs2 : Int) * 1048576) = _ from e]
  have L := Lib.hid l
  clear e l
  obtain ⟨im, rfl⟩ := Int.eq_ofNat_of_zero_le i0
  have k0 : h * 67108864 < 2 ^ 40 := by omega
  have k1' : im * 1048576 < 2 ^ 40 := by clear k0; omega
  obtain ⟨y1, k1⟩ := orC (h * 67108864) (im * 1048576) k0 k1'
  rw [show (h : Int) * 67108864 = ((h * 67108864 : Nat) : Int) from rfl]
  rw [show (im : Int) * 1048576 = ((im * 1048576 : Nat) : Int) from rfl]
  rw [y1]
  rw [(orC _ _ L.out k1).1]
  clear y1
  clear k0
  clear k1
  subst zrs2
  simp only [Nat.zero_mul, Nat.or_zero]
  rw [ch2 c rd g rs1 im h (by omega) (by omega) (by omega) (by omega) (by omega) (by omega)]
  omega
theorem sum3 (hc : c < 128) (hg : g < 8) (h0 : rd < 32) (h1 : rs1 < 32) (h2 : rs2 < 32) (_hh : h < 64) (zrd : rd = 0) : encW 3 c g h rd rs1 rs2 imm = sumW 3 c g h rd rs1 rs2 imm := by
  obtain ⟨e, l⟩ := or5 c g rd rs1 rs2 hc hg h0 h1 h2
  unfold encW sumW
  dsimp only
  simp only [Int.reduceEq, if_true, if_false]
  rw [show orI (orI (orI (orI (c : Int) ((g : Int) * 4096)) ((rd : Int) * 128)) ((rs1 : Int) * 32768)) ((rs2 : Int) * 1048576) = _ from e]
  have L := Lib.hid l
  clear e l
  obtain ⟨v0, fv0, lv0⟩ := fldN imm 5 7
  simp only [Int.reduceToNat, Nat.reducePow] at lv0
  have wv0 : (v0 : Int) = imm / 32 % 128 := by rw [← fv0]; unfold fldI; simp
  obtain ⟨v1, fv1, lv1⟩ := fldN imm 0 5
  simp only [Int.reduceToNat, Nat.reducePow] at lv1
  have wv1 : (v1 : Int) = imm % 32 := by rw [← fv1]; unfold fldI; simp
  rw [fv0, fv1]
  have k0 : v0 * 33554432 < 2 ^ 40 := by omega
  have k1' : v1 * 128 < 2 ^ 40 := by clear k0; omega
  obtain ⟨y1, k1⟩ := orC (v0 * 33554432) (v1 * 128) k0 k1'
  rw [show (v0 : Int) * 33554432 = ((v0 * 33554432 : Nat) : Int) from rfl]
  rw [show (v1 : Int) * 128 = ((v1 * 128 : Nat) : Int) from rfl]
  rw [y1]
  rw [(orC _ _ L.out k1).1]
  clear y1
  clear k0
  clear k1
  subst zrd
  simp only [Nat.zero_mul, Nat.zero_or]
  rw [ch3 c v1 g rs1 rs2 v0 (by omega) (by omega) (by omega) (by omega) (by omega) (by omega)]
  omega
theorem sum4 (hc : c < 128) (hg : g < 8) (h0 : rd < 32) (h1 : rs1 < 32) (h2 : rs2 < 32) (_hh : h < 64) (zrd : rd = 0) : encW 4 c g h rd rs1 rs2 imm = sumW 4 c g h rd rs1 rs2 imm := by
  obtain ⟨e, l⟩ := or5 c g rd rs1 rs2 hc hg h0 h1 h2
  unfold encW sumW
  dsimp only
  simp only [Int.reduceEq, if_true, if_false]
  rw [show orI (orI (orI (orI (c : Int) ((g : Int) * 4096)) ((rd : Int) * 128)) ((rs1 : Int) * 32768)) ((rs2 : Int) * 1048576) = _ from e]
  have L := Lib.hid l
  clear e l
  obtain ⟨v0, fv0, lv0⟩ := fldN imm 12 1
  simp only [Int.reduceToNat, Nat.reducePow] at lv0
  have wv0 : (v0 : Int) = imm / 4096 % 2 := by rw [← fv0]; unfold fldI; simp
  obtain ⟨v1, fv1, lv1⟩ := fldN imm 5 6
  simp only [Int.reduceToNat, Nat.reducePow] at lv1
  have wv1 : (v1 : Int) = imm / 32 % 64 := by rw [← fv1]; unfold fldI; simp
  obtain ⟨v2, fv2, lv2⟩ := fldN imm 1 4
  simp only [Int.reduceToNat, Nat.reducePow] at lv2
  have wv2 : (v2 : Int) = imm / 2 % 16 := by rw [← fv2]; unfold fldI; simp
  obtain ⟨v3, fv3, lv3⟩ := fldN imm 11 1
  simp only [Int.reduceToNat, Nat.reducePow] at lv3
  have wv3 : (v3 : Int) = imm / 2048 % 2 := by rw [← fv3]; unfold fldI; simp
  rw [fv0, fv1, fv2, fv3]
  have k0 : v0 * 2147483648 < 2 ^ 40 := by omega
  have k1' : v1 * 33554432 < 2 ^ 40 := by clear k0; omega
  have k2' : v2 * 256 < 2 ^ 40 := by clear k0 k1'; omega
  have k3' : v3 * 128 < 2 ^ 40 := by clear k0 k1' k2'; omega
  obtain ⟨y1, k1⟩ := orC (v0 * 2147483648) (v1 * 33554432) k0 k1'
  obtain ⟨y2, k2⟩ := orC (v0 * 2147483648 ||| v1 * 33554432) (v2 * 256) k1 k2'
  obtain ⟨y3, k3⟩ := orC ((v0 * 2147483648 ||| v1 * 33554432) ||| v2 * 256) (v3 * 128) k2 k3'
  rw [show (v0 : Int) * 2147483648 = ((v0 * 2147483648 : Nat) : Int) from rfl]
  rw [show (v1 : Int) * 33554432 = ((v1 * 33554432 : Nat) : Int) from rfl]
  rw [show (v2 : Int) * 256 = ((v2 * 256 : Nat) : Int) from rfl]
  rw [show (v3 : Int) * 128 = ((v3 * 128 : Nat) : Int) from rfl]
  rw [y1]
  rw [y2]
  rw [y3]
  rw [(orC _ _ L.out k3).1]
  clear y1
  clear y2
  clear y3
  clear k0
  clear k1
  clear k2
  clear k3
  subst zrd
  simp only [Nat.zero_mul, Nat.zero_or]
  rw [ch4 c v3 v2 g rs1 rs2 v1 v0 (by omega) (by omega) (by omega) (by omega) (by omega) (by omega) (by omega) (by omega)]
  omega
theorem sum5 (hc : c < 128) (hg : g < 8) (h0 : rd < 32) (h1 : rs1 < 32) (h2 : rs2 < 32) (_hh : h < 64) (zg : g = 0) (zrs1 : rs1 = 0) (zrs2 : rs2 = 0) : encW 5 c g h rd rs1 rs2 imm = sumW 5 c g h rd rs1 rs2 imm := by
  obtain ⟨e, l⟩ := or5 c g rd rs1 rs2 hc hg h0 h1 h2
  unfold encW sumW
  dsimp only
  simp only [Int.reduceEq, if_true, if_false]
  rw [show orI (orI (orI (orI (c : Int) ((g : Int) * 4096)) ((rd : Int) * 128)) ((rs1 : Int) * 32768)) ((rs2 : Int) * 1048576) = _ from e]
  have L := Lib.hid l
  clear e l
  obtain ⟨v0, fv0, lv0⟩ := fldN imm 20 1
  simp only [Int.reduceToNat, Nat.reducePow] at lv0
  have wv0 : (v0 : Int) = imm / 1048576 % 2 := by rw [← fv0]; unfold fldI; simp
  obtain ⟨v1, fv1, lv1⟩ := fldN imm 1 10
  simp only [Int.reduceToNat, Nat.reducePow] at lv1
  have wv1 : (v1 : Int) = imm / 2 % 1024 := by rw [← fv1]; unfold fldI; simp
  obtain ⟨v2, fv2, lv2⟩ := fldN imm 11 1
  simp only [Int.reduceToNat, Nat.reducePow] at lv2
  have wv2 : (v2 : Int) = imm / 2048 % 2 := by rw [← fv2]; unfold fldI; simp
  obtain ⟨v3, fv3, lv3⟩ := fldN imm 12 8
  simp only [Int.reduceToNat, Nat.reducePow] at lv3
  have wv3 : (v3 : Int) = imm / 4096 % 256 := by rw [← fv3]; unfold fldI; simp
  rw [fv0, fv1, fv2, fv3]
  have k0 : v0 * 2147483648 < 2 ^ 40 := by omega
  have k1' : v1 * 2097152 < 2 ^ 40 := by clear k0; omega
  have k2' : v2 * 1048576 < 2 ^ 40 := by clear k0 k1'; omega
  have k3' : v3 * 4096 < 2 ^ 40 := by clear k0 k1' k2'; omega
  obtain ⟨y1, k1⟩ := orC (v0 * 2147483648) (v1 * 2097152) k0 k1'
  obtain ⟨y2, k2⟩ := orC (v0 * 2147483648 ||| v1 * 2097152) (v2 * 1048576) k1 k2'
  obtain ⟨y3, k3⟩ := orC ((v0 * 2147483648 ||| v1 * 2097152) ||| v2 * 1048576) (v3 * 4096) k2 k3'
  rw [show (v0 : Int) * 2147483648 = ((v0 * 2147483648 : Nat) : Int) from rfl]
  rw [show (v1 : Int) * 2097152 = ((v1 * 2097152 : Nat) : Int) from rfl]
  rw [show (v2 : Int) * 1048576 = ((v2 * 1048576 : Nat) : Int) from rfl]
  rw [show (v3 : Int) * 4096 = ((v3 * 4096 : Nat) : Int) from rfl]
  rw [y1]
  rw [y2]
  rw [y3]
  rw [(orC _ _ L.out k3).1]
  clear y1
  clear y2
  clear y3
  clear k0
  clear k1
  clear k2
  clear k3
  subst zg
  subst zrs1
  subst zrs2
  simp only [Nat.zero_mul, Nat.or_zero]
  rw [ch5 c rd v3 v2 v1 v0 (by omega) (by omega) (by omega) (by omega) (by omega) (by omega)]
  omega
theorem sum6 (hc : c < 128) (hg : g < 8) (h0 : rd < 32) (h1 : rs1 < 32) (h2 : rs2 < 32) (_hh : h < 64) (zg : g = 0) (zrs1 : rs1 = 0) (zrs2 : rs2 = 0) : encW 6 c g h rd rs1 rs2 imm = sumW 6 c g h rd rs1 rs2 imm := by
  obtain ⟨e, l⟩ := or5 c g rd rs1 rs2 hc hg h0 h1 h2
  unfold encW sumW
  dsimp only
  simp only [Int.reduceEq, if_true, if_false]
  rw [show orI (orI (orI (orI (c : Int) ((g : Int) * 4096)) ((rd : Int) * 128)) ((rs1 : Int) * 32768)) ((rs2 : Int) * 1048576) = _ from e]
  have L := Lib.hid l
  clear e l
  obtain ⟨v0, fv0, lv0⟩ := fldN imm 0 20
  simp only [Int.reduceToNat, Nat.reducePow] at lv0
  have wv0 : (v0 : Int) = imm % 1048576 := by rw [← fv0]; unfold fldI; simp
  rw [fv0]
  have k0 : v0 * 4096 < 2 ^ 40 := by omega
  rw [show (v0 : Int) * 4096 = ((v0 * 4096 : Nat) : Int) from rfl]
  rw [(orC _ _ L.out k0).1]
  clear k0
  subst zg
  subst zrs1
  subst zrs2
  simp only [Nat.zero_mul, Nat.or_zero]
  rw [ch6 c rd v0 (by omega) (by omega) (by omega)]
  omega
theorem sum7 (hc : c < 128) (zg : g = 0) (z0 : rd = 0) (z1 : rs1 = 0) (z2 : rs2 = 0) : encW 7 c g h rd rs1 rs2 imm = sumW 7 c g h rd rs1 rs2 imm := by
  obtain ⟨e, l⟩ := or5 c g rd rs1 rs2 hc (by omega) (by omega) (by omega) (by omega)
  unfold encW sumW
  dsimp only
  simp only [Int.reduceEq, if_false]
  rw [show orI (orI (orI (orI (c : Int) ((g : Int) * 4096)) ((rd : Int) * 128)) ((rs1 : Int) * 32768)) ((rs2 : Int) * 1048576) = _ from e]
  subst zg z0 z1 z2
  simp
end
end Tier
