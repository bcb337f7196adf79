/-
  Contracts of rv.bits and rv.Encode: the word of every instruction that may be; the refusal of any other; over the tables as the program's start lays them.
-/
import Derived.Test.YtjjpgkjjiooieaaDoorRvC
import Derived.Deep.QuietTactic
import Derived.BigQuiet
namespace Tier
open Go Go.RowKit
def fldI (n f m : Int) : Int := n / 2 ^ f.toNat % 2 ^ m.toNat
theorem fld_bd (n f m : Int) : 0 ≤ fldI n f m ∧ fldI n f m < 2 ^ m.toNat := by
  have hp : (0 : Int) < 2 ^ m.toNat := Int.pow_pos (by omega)
  exact ⟨Int.emod_nonneg _ (by omega), Int.emod_lt_of_pos _ hp⟩
theorem fld_walk (n f m : Int) (h0 : 0 ≤ m) (h1 : m ≤ 40) : bits .and .i64 (n / 2 ^ f.toNat) (wrap64 (wrap64 (2 ^ m.toNat) - 1)) = fldI n f m := by
  have hp : (0 : Int) < 2 ^ m.toNat := Int.pow_pos (by omega)
  have hq : (2 : Int) ^ m.toNat ≤ 2 ^ 40 := by
    have h : (2 : Nat) ^ m.toNat ≤ 2 ^ 40 := Nat.pow_le_pow_right (by omega) (by omega)
    have hc : ((2 : Int) ^ m.toNat) = ((2 ^ m.toNat : Nat) : Int) := by push_cast; rfl
    rw [hc]; exact_mod_cast h
  simp only [Int.reducePow] at hq
  have e1 : wrap64 (2 ^ m.toNat) = 2 ^ m.toNat := by rw [wrap64_toInt]; exact In.v (by unfold In; omega)
  have e2 : wrap64 (2 ^ m.toNat - 1) = 2 ^ m.toNat - 1 := by rw [wrap64_toInt]; exact In.v (by unfold In; omega)
  rw [e1, e2, and_mask _ _ (by omega)]; rfl
def orI (a b : Int) : Int := bits .or .i64 a b
def encW (s c g h rd rs1 rs2 imm : Int) : Int :=
  let base := orI (orI (orI (orI c (g * 4096)) (rd * 128)) (rs1 * 32768)) (rs2 * 1048576)
  if s = 0 then orI base (h * 33554432) else if s = 1 then orI base (fldI imm 0 12 * 1048576) else if s = 2 then orI base (orI (h * 67108864) (imm * 1048576))
  else if s = 3 then orI base (orI (fldI imm 5 7 * 33554432) (fldI imm 0 5 * 128))
  else if s = 4 then orI base (orI (orI (orI (fldI imm 12 1 * 2147483648) (fldI imm 5 6 * 33554432)) (fldI imm 1 4 * 256)) (fldI imm 11 1 * 128))
  else if s = 5 then orI base (orI (orI (orI (fldI imm 20 1 * 2147483648) (fldI imm 1 10 * 2097152)) (fldI imm 11 1 * 1048576)) (fldI imm 12 8 * 4096))
  else if s = 6 then orI base (fldI imm 0 20 * 4096) else base
/-- Behind a call: a block that lay before it reads as it did. -/
theorem aft {W W' : World} (hb : Below W.heap.size W W') {b : Nat} (h : b < W.heap.size) : (∀ o, W'.cell? ⟨b, o, none⟩ = W.cell? ⟨b, o, none⟩) ∧ b < W'.heap.size :=
  ⟨fun o => hb.cell (p := ⟨b, o, none⟩) h, Nat.lt_of_lt_of_le h hb.size⟩
theorem ret_2 {k k' : IntKind} {a b a' b' : Int} (h : a = b) (h' : a' = b') : Ending.returned (.tuple #[.int k a, .int k' a']) = .returned (.tuple #[.int k b, .int k' b']) := by rw [h, h']
end Tier
namespace Go.Proofs.YtjjpgkjjiooieaaDoor
open Go.RowKit Tier
theorem bits_any (n f m : Int) (w : World) (hf : 0 ≤ f) (hf2 : f ≤ 63) (hm : 0 ≤ m) (hm2 : m ≤ 40) :
    Calls Tryd.prog 22 #[.int .i64 n, .int .i64 f, .int .i64 m] w fun e w' => e = .returned (.int .i64 (fldI n f m)) ∧ ∃ k, w' = w.drewN k := by
  have X := Lib.hid (fld_walk n f m hm hm2)
  go_enter Tryd.func22, Tryd.ntmps22
  go_wp2_with fail
  go_quiet (fail)
  go_wp2_with fail
  go_ret
  exact ⟨ret_int X.out, _, rfl⟩

set_option maxRecDepth 100000 in
set_option maxHeartbeats 1000000 in
theorem enc_core0 (op : Nat) (rd rs1 rs2 imm : Int) (c g h : Int) (w : World) (h1 : (1 : Int) ≤ op) (h2 : (op : Int) ≤ 29) (ht : Tab w)
    (c0 : w.cell? ⟨0, op * 4, none⟩ = some (.int .i64 0)) (c1 : w.cell? ⟨0, op * 4 + 1, none⟩ = some (.int .i64 c)) (c2 : w.cell? ⟨0, op * 4 + 2, none⟩ = some (.int .i64 g)) (c3 : w.cell? ⟨0, op * 4 + 3, none⟩ = some (.int .i64 h))
    (_hc0 : 0 ≤ c) (_hc1 : c < 128) (hg0 : 0 ≤ g) (hg1 : g < 8) (hh0 : 0 ≤ h) (hh1 : h < 64) (hr0 : 0 ≤ rd) (hr1 : rd ≤ 31) (hs0 : 0 ≤ rs1) (hs1 : rs1 ≤ 31) (ht0 : 0 ≤ rs2) (ht1 : rs2 ≤ 31) (ho : chkI op rd rs1 rs2 imm = 0) :
    Calls Tryd.prog 15 #[.agg #[.int .i64 op, .int .i64 rd, .int .i64 rs1, .int .i64 rs2, .int .i64 imm]] w fun e w' => e = .returned (.tuple #[.int .i64 (encW 0 c g h rd rs1 rs2 imm), .int .i64 0]) ∧ Below w.heap.size w w' := by
  have hz0 := Nat.lt_trans Nat.zero_lt_one ht.size
  go_enter Tryd.func15, Tryd.ntmps15
  go_wp2_with fail
  refine (check_any _ _ _ _ _ _ (ht.alloc _)).mono ?_
  rintro e w1 ⟨rfl, hb⟩
  rw [ho]
  obtain ⟨r0, z0⟩ := aft hb (b := 0) (by simp)
  obtain ⟨r1, z1⟩ := aft hb (b := w.heap.size) (by simp)
  have HB := Lib.hid (show Below w.heap.size w w1 from ((Below.refl _ _).alloc (Nat.le_refl _) _).trans (hb.mono (by simp)))
  clear hb ht ho
  go_wp2_with (go_at_call 22; refine (bits_any _ _ _ _ (by omega) (by omega) (by omega) (by omega)).mono ?_; rintro e w' ⟨rfl, kk, rfl⟩)
  go_ret2
  refine ⟨rfl, ?_⟩
  have hb := HB.out
  repeat (first | exact hb | exact Below.refl _ _ | apply Below.drew | apply below_drewN | refine Below.alloc ?_ (by first | omega | (simp; done) | (simp; omega)) _ | refine Below.setCell ?_ (by first | omega | (simp; done) | (simp; omega)) _)

set_option maxRecDepth 100000 in
set_option maxHeartbeats 1000000 in
theorem enc_core1 (op : Nat) (rd rs1 rs2 imm : Int) (c g h : Int) (w : World) (h1 : (1 : Int) ≤ op) (h2 : (op : Int) ≤ 29) (ht : Tab w)
    (c0 : w.cell? ⟨0, op * 4, none⟩ = some (.int .i64 1)) (c1 : w.cell? ⟨0, op * 4 + 1, none⟩ = some (.int .i64 c)) (c2 : w.cell? ⟨0, op * 4 + 2, none⟩ = some (.int .i64 g)) (c3 : w.cell? ⟨0, op * 4 + 3, none⟩ = some (.int .i64 h))
    (_hc0 : 0 ≤ c) (_hc1 : c < 128) (hg0 : 0 ≤ g) (hg1 : g < 8) (_hh0 : 0 ≤ h) (_hh1 : h < 64) (hr0 : 0 ≤ rd) (hr1 : rd ≤ 31) (hs0 : 0 ≤ rs1) (hs1 : rs1 ≤ 31) (ht0 : 0 ≤ rs2) (ht1 : rs2 ≤ 31) (ho : chkI op rd rs1 rs2 imm = 0) :
    Calls Tryd.prog 15 #[.agg #[.int .i64 op, .int .i64 rd, .int .i64 rs1, .int .i64 rs2, .int .i64 imm]] w fun e w' => e = .returned (.tuple #[.int .i64 (encW 1 c g h rd rs1 rs2 imm), .int .i64 0]) ∧ Below w.heap.size w w' := by
  have hz0 := Nat.lt_trans Nat.zero_lt_one ht.size
  have q0 := fld_bd imm 0 12
  simp only [Int.reduceToNat, Int.reducePow] at q0
  go_enter Tryd.func15, Tryd.ntmps15
  go_wp2_with fail
  refine (check_any _ _ _ _ _ _ (ht.alloc _)).mono ?_
  rintro e w1 ⟨rfl, hb⟩
  rw [ho]
  obtain ⟨r0, z0⟩ := aft hb (b := 0) (by simp)
  obtain ⟨r1, z1⟩ := aft hb (b := w.heap.size) (by simp)
  have HB := Lib.hid (show Below w.heap.size w w1 from ((Below.refl _ _).alloc (Nat.le_refl _) _).trans (hb.mono (by simp)))
  clear hb ht ho
  go_wp2_with (go_at_call 22; refine (bits_any _ _ _ _ (by omega) (by omega) (by omega) (by omega)).mono ?_; rintro e w' ⟨rfl, kk, rfl⟩)
  go_ret2
  refine ⟨rfl, ?_⟩
  have hb := HB.out
  repeat (first | exact hb | exact Below.refl _ _ | apply Below.drew | apply below_drewN | refine Below.alloc ?_ (by first | omega | (simp; done) | (simp; omega)) _ | refine Below.setCell ?_ (by first | omega | (simp; done) | (simp; omega)) _)

set_option maxRecDepth 100000 in
set_option maxHeartbeats 1000000 in
theorem enc_core2 (op : Nat) (rd rs1 rs2 imm : Int) (c g h : Int) (w : World) (h1 : (1 : Int) ≤ op) (h2 : (op : Int) ≤ 29) (ht : Tab w)
    (c0 : w.cell? ⟨0, op * 4, none⟩ = some (.int .i64 2)) (c1 : w.cell? ⟨0, op * 4 + 1, none⟩ = some (.int .i64 c)) (c2 : w.cell? ⟨0, op * 4 + 2, none⟩ = some (.int .i64 g)) (c3 : w.cell? ⟨0, op * 4 + 3, none⟩ = some (.int .i64 h))
    (_hc0 : 0 ≤ c) (_hc1 : c < 128) (hg0 : 0 ≤ g) (hg1 : g < 8) (hh0 : 0 ≤ h) (hh1 : h < 64) (hr0 : 0 ≤ rd) (hr1 : rd ≤ 31) (hs0 : 0 ≤ rs1) (hs1 : rs1 ≤ 31) (ht0 : 0 ≤ rs2) (ht1 : rs2 ≤ 31) (i0 : 0 ≤ imm) (i1 : imm ≤ 63) (ho : chkI op rd rs1 rs2 imm = 0) :
    Calls Tryd.prog 15 #[.agg #[.int .i64 op, .int .i64 rd, .int .i64 rs1, .int .i64 rs2, .int .i64 imm]] w fun e w' => e = .returned (.tuple #[.int .i64 (encW 2 c g h rd rs1 rs2 imm), .int .i64 0]) ∧ Below w.heap.size w w' := by
  have hz0 := Nat.lt_trans Nat.zero_lt_one ht.size
  go_enter Tryd.func15, Tryd.ntmps15
  go_wp2_with fail
  refine (check_any _ _ _ _ _ _ (ht.alloc _)).mono ?_
  rintro e w1 ⟨rfl, hb⟩
  rw [ho]
  obtain ⟨r0, z0⟩ := aft hb (b := 0) (by simp)
  obtain ⟨r1, z1⟩ := aft hb (b := w.heap.size) (by simp)
  have HB := Lib.hid (show Below w.heap.size w w1 from ((Below.refl _ _).alloc (Nat.le_refl _) _).trans (hb.mono (by simp)))
  clear hb ht ho
  go_wp2_with (go_at_call 22; refine (bits_any _ _ _ _ (by omega) (by omega) (by omega) (by omega)).mono ?_; rintro e w' ⟨rfl, kk, rfl⟩)
  go_ret2
  refine ⟨rfl, ?_⟩
  have hb := HB.out
  repeat (first | exact hb | exact Below.refl _ _ | apply Below.drew | apply below_drewN | refine Below.alloc ?_ (by first | omega | (simp; done) | (simp; omega)) _ | refine Below.setCell ?_ (by first | omega | (simp; done) | (simp; omega)) _)

set_option maxRecDepth 100000 in
set_option maxHeartbeats 1000000 in
theorem enc_core3 (op : Nat) (rd rs1 rs2 imm : Int) (c g h : Int) (w : World) (h1 : (1 : Int) ≤ op) (h2 : (op : Int) ≤ 29) (ht : Tab w)
    (c0 : w.cell? ⟨0, op * 4, none⟩ = some (.int .i64 3)) (c1 : w.cell? ⟨0, op * 4 + 1, none⟩ = some (.int .i64 c)) (c2 : w.cell? ⟨0, op * 4 + 2, none⟩ = some (.int .i64 g)) (c3 : w.cell? ⟨0, op * 4 + 3, none⟩ = some (.int .i64 h))
    (_hc0 : 0 ≤ c) (_hc1 : c < 128) (hg0 : 0 ≤ g) (hg1 : g < 8) (_hh0 : 0 ≤ h) (_hh1 : h < 64) (hr0 : 0 ≤ rd) (hr1 : rd ≤ 31) (hs0 : 0 ≤ rs1) (hs1 : rs1 ≤ 31) (ht0 : 0 ≤ rs2) (ht1 : rs2 ≤ 31) (ho : chkI op rd rs1 rs2 imm = 0) :
    Calls Tryd.prog 15 #[.agg #[.int .i64 op, .int .i64 rd, .int .i64 rs1, .int .i64 rs2, .int .i64 imm]] w fun e w' => e = .returned (.tuple #[.int .i64 (encW 3 c g h rd rs1 rs2 imm), .int .i64 0]) ∧ Below w.heap.size w w' := by
  have hz0 := Nat.lt_trans Nat.zero_lt_one ht.size
  have q0 := fld_bd imm 5 7
  simp only [Int.reduceToNat, Int.reducePow] at q0
  have q1 := fld_bd imm 0 5
  simp only [Int.reduceToNat, Int.reducePow] at q1
  go_enter Tryd.func15, Tryd.ntmps15
  go_wp2_with fail
  refine (check_any _ _ _ _ _ _ (ht.alloc _)).mono ?_
  rintro e w1 ⟨rfl, hb⟩
  rw [ho]
  obtain ⟨r0, z0⟩ := aft hb (b := 0) (by simp)
  obtain ⟨r1, z1⟩ := aft hb (b := w.heap.size) (by simp)
  have HB := Lib.hid (show Below w.heap.size w w1 from ((Below.refl _ _).alloc (Nat.le_refl _) _).trans (hb.mono (by simp)))
  clear hb ht ho
  go_wp2_with (go_at_call 22; refine (bits_any _ _ _ _ (by omega) (by omega) (by omega) (by omega)).mono ?_; rintro e w' ⟨rfl, kk, rfl⟩)
  go_ret2
  refine ⟨rfl, ?_⟩
  have hb := HB.out
  repeat (first | exact hb | exact Below.refl _ _ | apply Below.drew | apply below_drewN | refine Below.alloc ?_ (by first | omega | (simp; done) | (simp; omega)) _ | refine Below.setCell ?_ (by first | omega | (simp; done) | (simp; omega)) _)

set_option maxRecDepth 100000 in
set_option maxHeartbeats 1000000 in
theorem enc_core4 (op : Nat) (rd rs1 rs2 imm : Int) (c g h : Int) (w : World) (h1 : (1 : Int) ≤ op) (h2 : (op : Int) ≤ 29) (ht : Tab w)
    (c0 : w.cell? ⟨0, op * 4, none⟩ = some (.int .i64 4)) (c1 : w.cell? ⟨0, op * 4 + 1, none⟩ = some (.int .i64 c)) (c2 : w.cell? ⟨0, op * 4 + 2, none⟩ = some (.int .i64 g)) (c3 : w.cell? ⟨0, op * 4 + 3, none⟩ = some (.int .i64 h))
    (_hc0 : 0 ≤ c) (_hc1 : c < 128) (hg0 : 0 ≤ g) (hg1 : g < 8) (_hh0 : 0 ≤ h) (_hh1 : h < 64) (hr0 : 0 ≤ rd) (hr1 : rd ≤ 31) (hs0 : 0 ≤ rs1) (hs1 : rs1 ≤ 31) (ht0 : 0 ≤ rs2) (ht1 : rs2 ≤ 31) (ho : chkI op rd rs1 rs2 imm = 0) :
    Calls Tryd.prog 15 #[.agg #[.int .i64 op, .int .i64 rd, .int .i64 rs1, .int .i64 rs2, .int .i64 imm]] w fun e w' => e = .returned (.tuple #[.int .i64 (encW 4 c g h rd rs1 rs2 imm), .int .i64 0]) ∧ Below w.heap.size w w' := by
  have hz0 := Nat.lt_trans Nat.zero_lt_one ht.size
  have q0 := fld_bd imm 12 1
  simp only [Int.reduceToNat, Int.reducePow] at q0
  have q1 := fld_bd imm 5 6
  simp only [Int.reduceToNat, Int.reducePow] at q1
  have q2 := fld_bd imm 1 4
  simp only [Int.reduceToNat, Int.reducePow] at q2
  have q3 := fld_bd imm 11 1
  simp only [Int.reduceToNat, Int.reducePow] at q3
  go_enter Tryd.func15, Tryd.ntmps15
  go_wp2_with fail
  refine (check_any _ _ _ _ _ _ (ht.alloc _)).mono ?_
  rintro e w1 ⟨rfl, hb⟩
  rw [ho]
  obtain ⟨r0, z0⟩ := aft hb (b := 0) (by simp)
  obtain ⟨r1, z1⟩ := aft hb (b := w.heap.size) (by simp)
  have HB := Lib.hid (show Below w.heap.size w w1 from ((Below.refl _ _).alloc (Nat.le_refl _) _).trans (hb.mono (by simp)))
  clear hb ht ho
  go_wp2_with (go_at_call 22; refine (bits_any _ _ _ _ (by omega) (by omega) (by omega) (by omega)).mono ?_; rintro e w' ⟨rfl, kk, rfl⟩)
  go_ret2
  refine ⟨rfl, ?_⟩
  have hb := HB.out
  repeat (first | exact hb | exact Below.refl _ _ | apply Below.drew | apply below_drewN | refine Below.alloc ?_ (by first | omega | (simp; done) | (simp; omega)) _ | refine Below.setCell ?_ (by first | omega | (simp; done) | (simp; omega)) _)

set_option maxRecDepth 100000 in
set_option maxHeartbeats 1000000 in
theorem enc_core5 (op : Nat) (rd rs1 rs2 imm : Int) (c g h : Int) (w : World) (h1 : (1 : Int) ≤ op) (h2 : (op : Int) ≤ 29) (ht : Tab w)
    (c0 : w.cell? ⟨0, op * 4, none⟩ = some (.int .i64 5)) (c1 : w.cell? ⟨0, op * 4 + 1, none⟩ = some (.int .i64 c)) (c2 : w.cell? ⟨0, op * 4 + 2, none⟩ = some (.int .i64 g)) (c3 : w.cell? ⟨0, op * 4 + 3, none⟩ = some (.int .i64 h))
    (_hc0 : 0 ≤ c) (_hc1 : c < 128) (hg0 : 0 ≤ g) (hg1 : g < 8) (_hh0 : 0 ≤ h) (_hh1 : h < 64) (hr0 : 0 ≤ rd) (hr1 : rd ≤ 31) (hs0 : 0 ≤ rs1) (hs1 : rs1 ≤ 31) (ht0 : 0 ≤ rs2) (ht1 : rs2 ≤ 31) (ho : chkI op rd rs1 rs2 imm = 0) :
    Calls Tryd.prog 15 #[.agg #[.int .i64 op, .int .i64 rd, .int .i64 rs1, .int .i64 rs2, .int .i64 imm]] w fun e w' => e = .returned (.tuple #[.int .i64 (encW 5 c g h rd rs1 rs2 imm), .int .i64 0]) ∧ Below w.heap.size w w' := by
  have hz0 := Nat.lt_trans Nat.zero_lt_one ht.size
  have q0 := fld_bd imm 20 1
  simp only [Int.reduceToNat, Int.reducePow] at q0
  have q1 := fld_bd imm 1 10
  simp only [Int.reduceToNat, Int.reducePow] at q1
  have q2 := fld_bd imm 11 1
  simp only [Int.reduceToNat, Int.reducePow] at q2
  have q3 := fld_bd imm 12 8
  simp only [Int.reduceToNat, Int.reducePow] at q3
  go_enter Tryd.func15, Tryd.ntmps15
  go_wp2_with fail
  refine (check_any _ _ _ _ _ _ (ht.alloc _)).mono ?_
  rintro e w1 ⟨rfl, hb⟩
  rw [ho]
  obtain ⟨r0, z0⟩ := aft hb (b := 0) (by simp)
  obtain ⟨r1, z1⟩ := aft hb (b := w.heap.size) (by simp)
  have HB := Lib.hid (show Below w.heap.size w w1 from ((Below.refl _ _).alloc (Nat.le_refl _) _).trans (hb.mono (by simp)))
  clear hb ht ho
  go_wp2_with (go_at_call 22; refine (bits_any _ _ _ _ (by omega) (by omega) (by omega) (by omega)).mono ?_; rintro e w' ⟨rfl, kk, rfl⟩)
  go_ret2
  refine ⟨rfl, ?_⟩
  have hb := HB.out
  repeat (first | exact hb | exact Below.refl _ _ | apply Below.drew | apply below_drewN | refine Below.alloc ?_ (by first | omega | (simp; done) | (simp; omega)) _ | refine Below.setCell ?_ (by first | omega | (simp; done) | (simp; omega)) _)

set_option maxRecDepth 100000 in
set_option maxHeartbeats 1000000 in
theorem enc_core6 (op : Nat) (rd rs1 rs2 imm : Int) (c g h : Int) (w : World) (h1 : (1 : Int) ≤ op) (h2 : (op : Int) ≤ 29) (ht : Tab w)
    (c0 : w.cell? ⟨0, op * 4, none⟩ = some (.int .i64 6)) (c1 : w.cell? ⟨0, op * 4 + 1, none⟩ = some (.int .i64 c)) (c2 : w.cell? ⟨0, op * 4 + 2, none⟩ = some (.int .i64 g)) (c3 : w.cell? ⟨0, op * 4 + 3, none⟩ = some (.int .i64 h))
    (_hc0 : 0 ≤ c) (_hc1 : c < 128) (hg0 : 0 ≤ g) (hg1 : g < 8) (_hh0 : 0 ≤ h) (_hh1 : h < 64) (hr0 : 0 ≤ rd) (hr1 : rd ≤ 31) (hs0 : 0 ≤ rs1) (hs1 : rs1 ≤ 31) (ht0 : 0 ≤ rs2) (ht1 : rs2 ≤ 31) (ho : chkI op rd rs1 rs2 imm = 0) :
    Calls Tryd.prog 15 #[.agg #[.int .i64 op, .int .i64 rd, .int .i64 rs1, .int .i64 rs2, .int .i64 imm]] w fun e w' => e = .returned (.tuple #[.int .i64 (encW 6 c g h rd rs1 rs2 imm), .int .i64 0]) ∧ Below w.heap.size w w' := by
  have hz0 := Nat.lt_trans Nat.zero_lt_one ht.size
  have q0 := fld_bd imm 0 20
  simp only [Int.reduceToNat, Int.reducePow] at q0
  go_enter Tryd.func15, Tryd.ntmps15
  go_wp2_with fail
  refine (check_any _ _ _ _ _ _ (ht.alloc _)).mono ?_
  rintro e w1 ⟨rfl, hb⟩
  rw [ho]
  obtain ⟨r0, z0⟩ := aft hb (b := 0) (by simp)
  obtain ⟨r1, z1⟩ := aft hb (b := w.heap.size) (by simp)
  have HB := Lib.hid (show Below w.heap.size w w1 from ((Below.refl _ _).alloc (Nat.le_refl _) _).trans (hb.mono (by simp)))
  clear hb ht ho
  go_wp2_with (go_at_call 22; refine (bits_any _ _ _ _ (by omega) (by omega) (by omega) (by omega)).mono ?_; rintro e w' ⟨rfl, kk, rfl⟩)
  go_ret2
  refine ⟨rfl, ?_⟩
  have hb := HB.out
  repeat (first | exact hb | exact Below.refl _ _ | apply Below.drew | apply below_drewN | refine Below.alloc ?_ (by first | omega | (simp; done) | (simp; omega)) _ | refine Below.setCell ?_ (by first | omega | (simp; done) | (simp; omega)) _)

set_option maxRecDepth 100000 in
set_option maxHeartbeats 1000000 in
theorem enc_core7 (op : Nat) (rd rs1 rs2 imm : Int) (c g h : Int) (w : World) (h1 : (1 : Int) ≤ op) (h2 : (op : Int) ≤ 29) (ht : Tab w)
    (c0 : w.cell? ⟨0, op * 4, none⟩ = some (.int .i64 7)) (c1 : w.cell? ⟨0, op * 4 + 1, none⟩ = some (.int .i64 c)) (c2 : w.cell? ⟨0, op * 4 + 2, none⟩ = some (.int .i64 g)) (c3 : w.cell? ⟨0, op * 4 + 3, none⟩ = some (.int .i64 h))
    (_hc0 : 0 ≤ c) (_hc1 : c < 128) (hg0 : 0 ≤ g) (hg1 : g < 8) (_hh0 : 0 ≤ h) (_hh1 : h < 64) (hr0 : 0 ≤ rd) (hr1 : rd ≤ 31) (hs0 : 0 ≤ rs1) (hs1 : rs1 ≤ 31) (ht0 : 0 ≤ rs2) (ht1 : rs2 ≤ 31) (ho : chkI op rd rs1 rs2 imm = 0) :
    Calls Tryd.prog 15 #[.agg #[.int .i64 op, .int .i64 rd, .int .i64 rs1, .int .i64 rs2, .int .i64 imm]] w fun e w' => e = .returned (.tuple #[.int .i64 (encW 7 c g h rd rs1 rs2 imm), .int .i64 0]) ∧ Below w.heap.size w w' := by
  have hz0 := Nat.lt_trans Nat.zero_lt_one ht.size
  go_enter Tryd.func15, Tryd.ntmps15
  go_wp2_with fail
  refine (check_any _ _ _ _ _ _ (ht.alloc _)).mono ?_
  rintro e w1 ⟨rfl, hb⟩
  rw [ho]
  obtain ⟨r0, z0⟩ := aft hb (b := 0) (by simp)
  obtain ⟨r1, z1⟩ := aft hb (b := w.heap.size) (by simp)
  have HB := Lib.hid (show Below w.heap.size w w1 from ((Below.refl _ _).alloc (Nat.le_refl _) _).trans (hb.mono (by simp)))
  clear hb ht ho
  go_wp2_with (go_at_call 22; refine (bits_any _ _ _ _ (by omega) (by omega) (by omega) (by omega)).mono ?_; rintro e w' ⟨rfl, kk, rfl⟩)
  go_ret2
  refine ⟨rfl, ?_⟩
  have hb := HB.out
  repeat (first | exact hb | exact Below.refl _ _ | apply Below.drew | apply below_drewN | refine Below.alloc ?_ (by first | omega | (simp; done) | (simp; omega)) _ | refine Below.setCell ?_ (by first | omega | (simp; done) | (simp; omega)) _)
end Go.Proofs.YtjjpgkjjiooieaaDoor
