/-
  The contract of flow.nearest: the block next above, out of the masks; masks in memory.
-/
import Derived.Test.YtefbdecejoeamaaDoorAvM
import Derived.Test.YtefbdecejoeamaaDoorFnS
import Derived.Laws.Bits64b
import Derived.Deep.QuietTactic
import Derived.BigQuiet
namespace Tier
open Go Go.RowKit
theorem pow_small {i : Nat} (h : i ≤ 40) : 2 ^ i ≤ 1099511627776 := by
  have := Nat.pow_le_pow_right (n := 2) (by omega) h
  omega
theorem shl_u64 (i : Nat) (h : i ≤ 40) : IntKind.u64.wrap (2 ^ i) = ((2 ^ i : Nat) : Int) := by
  have hp := pow_small h
  have : ((2 : Int) ^ i) = ((2 ^ i : Nat) : Int) := by push_cast; rfl
  rw [this, IntKind.wrap_u64]
  generalize 2 ^ i = k at *
  omega
theorem andNot_u64 (a m : Nat) (ha : a < 18446744073709551616) (hm : m < 18446744073709551616) : bits .andNot .u64 (a : Int) (m : Int) = ((a - (a &&& m) : Nat) : Int) := by
  have h1 : (BitVec.ofInt 64 (a : Int)).toNat = a := by
    rw [BitVec.ofInt_natCast, BitVec.toNat_ofNat]; exact Nat.mod_eq_of_lt (by omega)
  have h2 : (BitVec.ofInt 64 (m : Int)).toNat = m := by
    rw [BitVec.ofInt_natCast, BitVec.toNat_ofNat]; exact Nat.mod_eq_of_lt (by omega)
  have hu : (BitVec.ofInt 64 (a : Int) &&& ~~~ BitVec.ofInt 64 (m : Int)).toNat = a - (a &&& m) := by
    apply Nat.eq_of_testBit_eq
    intro i
    rw [andnot_bit, BitVec.testBit_toNat, BitVec.getLsbD_and, BitVec.getLsbD_not, ← BitVec.testBit_toNat, ← BitVec.testBit_toNat, h1, h2]
    by_cases hi : i < 64
    · simp [hi]
    · have : a.testBit i = false := Nat.testBit_lt_two_pow (Nat.lt_of_lt_of_le (show a < 2 ^ 64 by omega) (Nat.pow_le_pow_right (by omega) (by omega)))
      simp [this]
  show IntKind.u64.wrap ((BitVec.ofInt 64 (a : Int) &&& ~~~ BitVec.ofInt 64 (m : Int)).toNat : Int) = _
  have := Nat.sub_le a (a &&& m)
  rw [hu, IntKind.wrap_u64]
  omega
theorem div_pow_nat (a m : Nat) : (a : Int) / 2 ^ m = ((a / 2 ^ m : Nat) : Int) := by push_cast; rfl
theorem testBit_mod (a m : Nat) : a.testBit m = decide (a / 2 ^ m % 2 = 1) := Nat.testBit_eq_decide_div_mod_eq
end Tier
namespace Go.Proofs.YtefbdecejoeamaaDoor
open Go.RowKit Tier
def U64B (w : World) (b : Nat) (l : List Nat) : Prop := w.heap[b]? = some (.cells (l.map fun (m : Nat) => Value.int .u64 (m : Int)).toArray 124 (0, 0))
theorem U64B.lt {w : World} {b : Nat} {l : List Nat} (h : U64B w b l) : b < w.heap.size := (Array.getElem?_eq_some_iff.1 h).1
theorem U64B.cell {w : World} {b : Nat} {l : List Nat} (h : U64B w b l) {i x : Nat} (hx : l[i]? = some x) : w.cell? ⟨b, i, none⟩ = some (.int .u64 (x : Int)) := by
  rw [cell_block h]; simp [hx]
theorem U64B.frozen {w : World} {b : Nat} {l : List Nat} (h : U64B w b l) (i : Nat) : w.frozen? ⟨b, i, none⟩ = false := frozen_block h i
theorem U64B.keeps {w w' : World} {b : Nat} {l : List Nat} (h : U64B w b l) (hb : Below w.heap.size w w') : U64B w' b l := (hb.block _ h.lt).trans h
theorem U64B.set {w : World} {b : Nat} {l : List Nat} (h : U64B w b l) (i x : Nat) : U64B (w.setCell ⟨b, i, none⟩ (.int .u64 (x : Int))) b (l.set i x) := by
  unfold U64B
  rw [block_set h i]
  simp [List.map_set]
set_option maxRecDepth 100000 in
set_option maxHeartbeats 8000000 in
theorem nearest_any (E : List Nat) (b n i ab k : Nat) (w : World) (h : U64B w b E) (hn : E.length = n) (hi : i < n) (hn4 : n ≤ 40) (hlt : ∀ m ∈ E, m < 2 ^ n)
    (hab : E.getD i 0 - (E.getD i 0 &&& 2 ^ i) = ab) (hk : k < n) (hkk : ab.testBit k = true ∧ E.getD k 0 = ab) (hmin : ∀ m, m < k → ¬ (ab.testBit m = true ∧ E.getD m 0 = ab)) :
    Calls Tryd.prog 71 #[.slice (some ⟨b, 0, none⟩) n n, .int .i64 (i : Int)] w fun e w' => e = .returned (.int .i64 (k : Int)) ∧ ∃ q, w' = w.drewN q := by
  have zb := h.lt
  have hg : ∀ j, j < n → E[j]? = some (E.getD j 0) := fun j hj => by rw [List.getD_eq_getElem?_getD, List.getElem?_eq_getElem (by omega)]; rfl
  have hsm : ∀ j, E.getD j 0 < 1099511627776 := fun j => by
    have hp := pow_small hn4
    rw [List.getD_eq_getElem?_getD]
    cases hh : E[j]? with
    | none => simp
    | some m => have := hlt m (List.mem_of_getElem? hh); simp; omega
  have c0 := h.cell (hg i hi)
  have hx := hsm i
  have hpi := pow_small (i := i) (by omega)
  have sh := shl_u64 i (by omega)
  have han := andNot_u64 (E.getD i 0) (2 ^ i) (by omega) (by omega)
  rw [hab] at han
  have habl : ab < 1099511627776 := by rw [← hab]; exact Nat.lt_of_le_of_lt (Nat.sub_le _ _) hx
  obtain ⟨P, hP⟩ : ∃ P, 2 ^ i = P := ⟨_, rfl⟩
  rw [hP] at sh han
  obtain ⟨x, hxe⟩ : ∃ x, E.getD i 0 = x := ⟨_, rfl⟩
  rw [hxe] at c0 han
  have i0 : (0 : Int) ≤ i := by omega
  have i1 : (i : Int) < n := by omega
  have i2 : (i : Int) < 64 := by omega
  have i3 : i < 64 := by omega
  have H := Lib.hid h
  have HG := Lib.hid hg
  have HSM := Lib.hid hsm
  have HKK := Lib.hid hkk
  have HMIN := Lib.hid hmin
  clear h hg hsm hkk hmin hab hlt hx hpi hP hxe hn hi
  go_enter Tryd.func71, Tryd.ntmps71
  go_wp2_with fail
  go_quiet (fail)
  go_wp2_with fail
  clear c0 sh han i0 i1 i2 i3
  go_loop [16] (fun v => ∃ m : Nat, m ≤ k ∧ v = .int .i64 (m : Int)) (fun v => n - (intOf v).toNat)
  case atStart => exact ⟨0, by omega, rfl⟩
  case round =>
    obtain ⟨m, hm, rfl⟩ := hrel
    have m0 : (0 : Int) ≤ m := by omega
    have m1 : (m : Int) < n := by omega
    have m2 : (m : Int) < 64 := by omega
    have m3 : m < 64 := by omega
    have m4 : m < n := by omega
    have hdv := div_pow_nat ab m
    have hql : ab / 2 ^ m ≤ ab := Nat.div_le_self _ _
    have htb := testBit_mod ab m
    obtain ⟨q, hq⟩ : ∃ q, ab / 2 ^ m = q := ⟨_, rfl⟩
    rw [hq] at hdv hql htb
    have hba := bits_and_u64_nat q 1 (by omega) (by omega)
    rw [Nat.and_one_is_mod] at hba
    have hba' : bits .and .u64 (q : Int) 1 = ((q % 2 : Nat) : Int) := hba
    clear hba hq hql
    by_cases hb : q % 2 = 1
    · rw [hb] at hba' htb
      have hb1 : bits .and .u64 (q : Int) 1 = 1 := hba'
      have cm := H.out.cell (HG.out m m4)
      by_cases he : E.getD m 0 = ab
      · have hmk : m = k := by
          by_cases e : m = k
          · exact e
          · exact absurd ⟨by rw [htb]; rfl, he⟩ (HMIN.out m (by omega))
        subst hmk
        rw [he] at cm
        clear htb hba' he hm
        go_wp2_with fail
        go_ret
        exact ⟨rfl, _, rfl⟩
      · obtain ⟨y, hy⟩ : ∃ y, E.getD m 0 = y := ⟨_, rfl⟩
        rw [hy] at cm he
        have hne : ((y : Int) == (ab : Int)) = false := beq_eq_false_iff_ne.2 (by omega)
        have hne2 : ¬ ((y : Int) = (ab : Int)) := by omega
        have hmk : m ≠ k := fun e => by subst e; exact he (hy ▸ HKK.out.2)
        clear htb hba' he hy
        go_wp2_with fail
        go_round
        case rel => exact ⟨m + 1, by omega, by go_num⟩
        case measure => simp [intOf]; omega
    · have hb0 : q % 2 = 0 := by omega
      rw [hb0] at hba' htb
      have hb1 : bits .and .u64 (q : Int) 1 = 0 := hba'
      have hmk : m ≠ k := fun e => by
        subst e
        have := HKK.out.1
        rw [htb] at this; cases this
      clear htb hba' hb hb0
      go_wp2_with fail
      go_round
      case rel => exact ⟨m + 1, by omega, by go_num⟩
      case measure => simp [intOf]; omega
end Go.Proofs.YtefbdecejoeamaaDoor
