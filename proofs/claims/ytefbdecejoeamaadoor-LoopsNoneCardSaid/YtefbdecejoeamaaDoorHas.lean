/-
  The contract of keep.has: whether a row of numbers holds a number.
-/
import Derived.Test.YtefbdecejoeamaaDoorFl1
namespace Go.Proofs.YtefbdecejoeamaaDoor
open Go.RowKit Tier
def RowI (w : World) (A : Option Addr) (l : List Int) : Prop := 0 < l.length → ∃ g, A = some ⟨g, 0, none⟩ ∧ g < w.heap.size ∧ ∀ (i : Nat) (z : Int), l[i]? = some z → w.cell? ⟨g, i, none⟩ = some (.int .i64 z)
theorem RowI.keeps {w w' : World} {A : Option Addr} {l : List Int} (h : RowI w A l) (hb : Below w.heap.size w w') : RowI w' A l := fun hl => by
  obtain ⟨g, h1, h2, h3⟩ := h hl
  exact ⟨g, h1, Nat.lt_of_lt_of_le h2 hb.size, fun i n hn => (hb.cell (p := ⟨g, i, none⟩) h2).trans (h3 i n hn)⟩
theorem rowI_own {w : World} {B : Nat} {v : Value} {l : List Int} (h : OwnI w B v l) : ∃ A cap, v = .slice A l.length cap ∧ RowI w A l := by
  obtain ⟨A, cap, hv, hc⟩ := own_slice h
  refine ⟨A, cap, hv, fun hl => ?_⟩
  obtain ⟨g, h1, h2, h3⟩ := hc hl
  exact ⟨g, h1, h2, fun i n hn => (h3 i (by have := (List.getElem?_eq_some_iff.1 hn).1; omega)).trans (by simp [hn])⟩
set_option maxRecDepth 100000 in
set_option maxHeartbeats 4000000 in
theorem has_any (l : List Int) (A : Option Addr) (cap : Nat) (n : Int) (w : World) (h : RowI w A l) (hl : l.length ≤ 1000) :
    Calls Tryd.prog 40 #[.slice A l.length cap, .int .i64 n] w fun e w' => e = .returned (.bool (decide (n ∈ l))) ∧ w = w' := by
  have HR := Lib.hid h
  clear h
  obtain ⟨N, hN⟩ : ∃ N, l.length = N := ⟨_, rfl⟩
  have HN := Lib.hid hN
  rw [hN] at hl ⊢
  clear hN
  go_enter Tryd.func40, Tryd.ntmps40
  go_wp2_with fail
  go_loop [5] (fun v => ∃ i : Nat, i ≤ N ∧ v = .int .i64 (i : Int) ∧ ∀ j, j < i → l[j]? ≠ some n) (fun v => N - (intOf v).toNat)
  case atStart => exact ⟨0, by omega, rfl, fun j hj => by omega⟩
  case round =>
    obtain ⟨i, hi, rfl, hno⟩ := hrel
    have HNO := Lib.hid hno
    clear hno
    by_cases hiN : i = N
    · obtain rfl : N = i := hiN.symm
      go_wp2_with fail
      go_ret
      refine ⟨?_, rfl⟩
      have : decide (n ∈ l) = false := by
        rw [decide_eq_false_iff_not]
        intro hc
        obtain ⟨j, hj⟩ := List.getElem?_of_mem hc
        exact HNO.out j (by have := (List.getElem?_eq_some_iff.1 hj).1; rw [HN.out] at this; exact this) hj
      rw [this]; rfl
    · have hi1 : (i : Int) < N := by omega
      have hi2 : (0 : Int) ≤ i := by omega
      obtain ⟨g, hg, hgl, hc⟩ := HR.out (by rw [HN.out]; omega)
      obtain ⟨m, hm⟩ : ∃ m, l[i]? = some m := ⟨l[i]'(by rw [HN.out]; omega), List.getElem?_eq_getElem _⟩
      have cm := hc i m hm
      have HM := Lib.hid hm
      subst hg
      clear hc hm hiN
      by_cases hnm : n = m
      · subst hnm
        go_wp2_with fail
        go_ret
        refine ⟨?_, rfl⟩
        have : decide (n ∈ l) = true := by simpa using List.mem_of_getElem? HM.out
        rw [this]; rfl
      · have hmn : ¬ (m = n) := fun e => hnm e.symm
        have hmd : decide (m = n) = false := by simpa using hmn
        go_wp2_with fail
        go_round
        case rel => exact ⟨i + 1, by omega, by go_num, fun j hj e => by
          by_cases hji : j = i
          · subst hji; rw [HM.out] at e; exact hnm (Option.some.inj e).symm
          · exact HNO.out j (by omega) e⟩
        case measure => simp [intOf]; omega
end Go.Proofs.YtefbdecejoeamaaDoor
