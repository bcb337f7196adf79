/-
  The contract of sameProgram: two programs in memory that are the same.
-/
import Derived.Test.YtfngkpbbimibaaaDoorPgS
import Derived.Test.YtfngkpbbimibaaaDoorStB
import Derived.Deep.QuietTactic
import Derived.BigQuiet
namespace Go.Proofs.YtfngkpbbimibaaaDoor
open Go.RowKit Tier
set_option maxRecDepth 100000 in
set_option maxHeartbeats 8000000 in
theorem sameProg_any (p : List Fnc) (A1 : Option Addr) (cap1 : Nat) (A2 : Option Addr) (cap2 : Nat) (w : World) (h1 : ProgAt w (.slice A1 p.length cap1) p) (h2 : ProgAt w (.slice A2 p.length cap2) p) (hl : p.length ≤ 1000) (hc : ∀ f ∈ p, f.code.length ≤ 1000) :
    Calls Tryd.prog 11 #[.agg #[.slice A1 p.length cap1], .agg #[.slice A2 p.length cap2]] w fun e w' => e = .returned (.bool true) ∧ Below w.heap.size w w' := by
  obtain ⟨B1, c1, hB1, hA1⟩ := h1.slice
  simp only [Value.slice.injEq, true_and] at hB1
  obtain ⟨rfl, rfl⟩ := hB1
  obtain ⟨B2, c2, hB2, hA2⟩ := h2.slice
  simp only [Value.slice.injEq, true_and] at hB2
  obtain ⟨rfl, rfl⟩ := hB2
  have HA1 := Lib.hid hA1
  have HA2 := Lib.hid hA2
  have HC := Lib.hid hc
  clear h1 h2 hA1 hA2 hc
  obtain ⟨N, hN⟩ : ∃ N, p.length = N := ⟨_, rfl⟩
  have HN := Lib.hid hN
  rw [hN] at hl ⊢
  clear hN
  go_enter Tryd.func11, Tryd.ntmps11
  go_wp2_with fail
  obtain ⟨w1, hw1⟩ : ∃ W, (w.alloc (.cells #[.slice A1 N cap1] 25)).alloc (.cells #[.slice A2 N cap2] 25) = W := ⟨_, rfl⟩
  have HB1 : Hid (Below w.heap.size w w1) := Lib.hid (hw1 ▸ ((Below.refl w.heap.size w).alloc (Nat.le_refl _) _).alloc (by simp) _)
  have HX1 : Hid (w1.heap[w.heap.size]? = some (.cells #[.slice A1 N cap1] 25 (0, 0))) := Lib.hid (by rw [← hw1, Below.heap_alloc _ _ _ (by simp)]; exact heap_alloc_new _ _)
  have HX2 : Hid (w1.heap[w.heap.size + 1]? = some (.cells #[.slice A2 N cap2] 25 (0, 0))) := Lib.hid (by have := heap_alloc_new (w.alloc (.cells #[.slice A1 N cap1] 25)) (.cells #[.slice A2 N cap2] 25); rw [← hw1]; simpa using this)
  rw [hw1]
  clear hw1
  go_loopw [5] (fun vi wr => ∃ i : Nat, i ≤ N ∧ vi = .int .i64 (i : Int) ∧ Below w1.heap.size w1 wr) (fun vi _ => N - (intOf vi).toNat)
  case atStart => exact ⟨0, by omega, rfl, Below.refl _ _⟩
  case round =>
    obtain ⟨i, hi, rfl, hbr⟩ := hrel
    obtain ⟨wo, hwo⟩ : ∃ wo : World, wo = wr := ⟨_, rfl⟩
    subst hwo
    have HBR := Lib.hid hbr
    have HBW := Lib.hid (HB1.out.trans (hbr.mono HB1.out.size))
    have q1 := cell_block ((hbr.block _ (block_lt HX1.out)).trans HX1.out)
    have q2 := cell_block ((hbr.block _ (block_lt HX2.out)).trans HX2.out)
    have z1 := Nat.lt_of_lt_of_le (block_lt HX1.out) hbr.size
    have z2 := Nat.lt_of_lt_of_le (block_lt HX2.out) hbr.size
    clear hbr
    by_cases hiN : i = N
    · obtain rfl : N = i := hiN.symm
      go_wp2_with fail
      go_ret
      exact ⟨rfl, HBW.out⟩
    · have hi1 : (i : Int) < N := by omega
      have hi2 : (0 : Int) ≤ i := by omega
      have hp0 : 0 < p.length := by rw [HN.out]; omega
      obtain ⟨g1, e1, hg1, hf1⟩ := HA1.out hp0
      obtain ⟨g2, e2, hg2, hf2⟩ := HA2.out hp0
      subst e1 e2
      obtain ⟨F, hF⟩ : ∃ F, p[i]? = some F := ⟨_, List.getElem?_eq_getElem (by rw [HN.out]; omega)⟩
      obtain ⟨u1, hu1, d0, d1, d2⟩ := hf1 i F hF
      obtain ⟨u2, hu2, b0, b1, b2⟩ := hf2 i F hF
      obtain ⟨FA, fcap, rfl, hFA⟩ := hu1.slice
      obtain ⟨GA, gcap, rfl, hGA⟩ := hu2.slice
      have hM4 := HC.out F (List.mem_of_getElem? hF)
      obtain ⟨M, hM⟩ : ∃ M, F.code.length = M := ⟨_, rfl⟩
      have HM := Lib.hid hM
      rw [hM] at d2 b2 hM4 hFA hGA
      rw [← HBW.out.cell (p := ⟨g1, _, none⟩) hg1] at d0 d1 d2
      rw [← HBW.out.cell (p := ⟨g2, _, none⟩) hg2] at b0 b1 b2
      have zg1 : g1 < wo.heap.size := Nat.lt_of_lt_of_le hg1 HBW.out.size
      have zg2 : g2 < wo.heap.size := Nat.lt_of_lt_of_le hg2 HBW.out.size
      have HFA := Lib.hid hFA
      have HGA := Lib.hid hGA
      clear hp0 hf1 hf2 hF hu1 hu2 hFA hGA hM hiN
      go_wp2_with fail
      obtain ⟨w6, hw6⟩ : ∃ W, (wo.alloc (.cells #[.int .i64 F.params, .int .i64 F.regs, .slice FA M fcap] 45)).alloc (.cells #[.int .i64 F.params, .int .i64 F.regs, .slice GA M gcap] 45) = W := ⟨_, rfl⟩
      have HB6 : Hid (Below wo.heap.size wo w6) := Lib.hid (hw6 ▸ ((Below.refl wo.heap.size wo).alloc (Nat.le_refl _) _).alloc (by simp) _)
      have HY1 : Hid (w6.heap[wo.heap.size]? = some (.cells #[.int .i64 F.params, .int .i64 F.regs, .slice FA M fcap] 45 (0, 0))) := Lib.hid (by rw [← hw6, Below.heap_alloc _ _ _ (by simp)]; exact heap_alloc_new _ _)
      have HY2 : Hid (w6.heap[wo.heap.size + 1]? = some (.cells #[.int .i64 F.params, .int .i64 F.regs, .slice GA M gcap] 45 (0, 0))) := Lib.hid (by have := heap_alloc_new (wo.alloc (.cells #[.int .i64 F.params, .int .i64 F.regs, .slice FA M fcap] 45)) (.cells #[.int .i64 F.params, .int .i64 F.regs, .slice GA M gcap] 45); rw [← hw6]; simpa using this)
      rw [hw6]
      clear hw6 d0 d1 d2 b0 b1 b2 zg1 zg2 q1 q2 z1 z2
      go_loopw [8] (fun vj wr => ∃ j : Nat, j ≤ M ∧ vj = .int .i64 (j : Int) ∧ Below w6.heap.size w6 wr) (fun vj _ => M - (intOf vj).toNat)
      case atStart => exact ⟨0, by omega, rfl, Below.refl _ _⟩
      case round =>
        obtain ⟨j, hj, rfl, hbj⟩ := hrel
        have HBJ := Lib.hid hbj
        have q1 := cell_block ((hbj.block _ (block_lt HY1.out)).trans HY1.out)
        have q2 := cell_block ((hbj.block _ (block_lt HY2.out)).trans HY2.out)
        have z1 := Nat.lt_of_lt_of_le (block_lt HY1.out) hbj.size
        have z2 := Nat.lt_of_lt_of_le (block_lt HY2.out) hbj.size
        by_cases hjM : j = M
        · obtain rfl : M = j := hjM.symm
          clear hbj
          go_wp2_with fail
          go_roundw
          case rel => exact ⟨i + 1, by omega, by go_num, HBR.out.trans ((HB6.out.trans (HBJ.out.mono HB6.out.size)).mono HBR.out.size)⟩
          case measure => simp [intOf]; omega
        · have hj1 : (j : Int) < M := by omega
          have hj2 : (0 : Int) ≤ j := by omega
          obtain ⟨k1, e1, hk1, hf1⟩ := HFA.out (by omega)
          obtain ⟨k2, e2, hk2, hf2⟩ := HGA.out (by omega)
          subst e1 e2
          obtain ⟨x, hx⟩ : ∃ x, F.code[j]? = some x := ⟨_, List.getElem?_eq_getElem (by rw [HM.out]; omega)⟩
          obtain ⟨d0, d1, d2, d3, d4⟩ := hf1 j x hx
          obtain ⟨b0, b1, b2, b3, b4⟩ := hf2 j x hx
          have hBB := HBW.out.trans ((HB6.out.trans (hbj.mono HB6.out.size)).mono HBW.out.size)
          rw [← hBB.cell (p := ⟨k1, _, none⟩) hk1] at d0 d1 d2 d3 d4
          rw [← hBB.cell (p := ⟨k2, _, none⟩) hk2] at b0 b1 b2 b3 b4
          have zg1 : k1 < wr.heap.size := Nat.lt_of_lt_of_le hk1 hBB.size
          have zg2 : k2 < wr.heap.size := Nat.lt_of_lt_of_le hk2 hBB.size
          clear hf1 hf2 hx hBB hbj hjM
          go_wp2_with fail
          go_quiet (fail)
          go_wp2_with fail
          go_roundw
          case rel => exact ⟨j + 1, by omega, by go_num, by have hb := HBJ.out; repeat (first | exact hb | exact Below.refl _ _ | apply Below.drew | apply below_drewN | refine Below.alloc ?_ (by first | omega | (simp; done) | (simp; omega)) _ | refine Below.setCell ?_ (by first | omega | (simp; done) | (simp; omega)) _)⟩
          case measure => simp [intOf]; omega
end Go.Proofs.YtfngkpbbimibaaaDoor
