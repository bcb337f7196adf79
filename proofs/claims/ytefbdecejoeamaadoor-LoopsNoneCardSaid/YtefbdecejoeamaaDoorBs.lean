/-
  The contracts of slices.Index, Contains and BinarySearch at a short row of numbers.
-/
import Derived.Test.YtefbdecejoeamaaDoorFl1
namespace Go.Proofs.YtefbdecejoeamaaDoor
open Go.RowKit Tier
def RowN (w : World) (A : Option Addr) (l : List Nat) : Prop := 0 < l.length → ∃ g, A = some ⟨g, 0, none⟩ ∧ g < w.heap.size ∧ ∀ (i n : Nat), l[i]? = some n → w.cell? ⟨g, i, none⟩ = some (.int .i64 (n : Int))
theorem RowN.keeps {w w' : World} {A : Option Addr} {l : List Nat} (h : RowN w A l) (hb : Below w.heap.size w w') : RowN w' A l := fun hl => by
  obtain ⟨g, h1, h2, h3⟩ := h hl
  exact ⟨g, h1, Nat.lt_of_lt_of_le h2 hb.size, fun i n hn => (hb.cell (p := ⟨g, i, none⟩) h2).trans (h3 i n hn)⟩
theorem row_own {w : World} {B : Nat} {v : Value} {l : List Nat} (h : OwnI w B v (natI l)) : ∃ A cap, v = .slice A l.length cap ∧ RowN w A l := by
  obtain ⟨A, cap, hv, hc⟩ := own_slice h
  rw [natI_length] at hv hc
  refine ⟨A, cap, hv, fun hl => ?_⟩
  obtain ⟨g, h1, h2, h3⟩ := hc hl
  exact ⟨g, h1, h2, fun i n hn => (h3 i (by have := (List.getElem?_eq_some_iff.1 hn).1; omega)).trans (by simp [natI, hn])⟩
def Idx (l : List Nat) (n : Nat) (w : World) (e : Ending) (w' : World) : Prop := ∃ r : Int, e = .returned (.int .i64 r) ∧ (decide (0 ≤ r) = l.contains n) ∧ w = w'
set_option maxRecDepth 100000 in
set_option maxHeartbeats 4000000 in
theorem index_any (l : List Nat) (A : Option Addr) (cap n : Nat) (w : World) (h : RowN w A l) (hl : l.length ≤ 1000) :
    Calls Tryd.prog 89 #[.slice A l.length cap, .int .i64 (n : Int)] w (Idx l n w) := by
  have HR := Lib.hid h
  clear h
  obtain ⟨N, hN⟩ : ∃ N, l.length = N := ⟨_, rfl⟩
  have HN := Lib.hid hN
  rw [hN] at hl ⊢
  clear hN
  go_enter Tryd.func89, Tryd.ntmps89
  go_wp2_with fail
  go_loop [8] (fun v => ∃ i : Nat, i ≤ N ∧ v = .int .i64 (i : Int) ∧ ∀ j, j < i → l[j]? ≠ some n) (fun v => N - (intOf v).toNat)
  case atStart => exact ⟨0, by omega, rfl, fun j hj => by omega⟩
  case round =>
    obtain ⟨i, hi, rfl, hno⟩ := hrel
    have HNO := Lib.hid hno
    clear hno
    by_cases hiN : i = N
    · obtain rfl : N = i := hiN.symm
      go_wp2_with fail
      go_ret
      refine ⟨-1, rfl, ?_, rfl⟩
      have : l.contains n = false := by
        rw [Bool.eq_false_iff]
        intro hc
        obtain ⟨j, hj⟩ := List.getElem?_of_mem (by simpa using hc)
        exact HNO.out j (by have := (List.getElem?_eq_some_iff.1 hj).1; rw [HN.out] at this; exact this) hj
      rw [this]; rfl
    · have hi1 : (i : Int) < N := by omega
      have hi2 : (0 : Int) ≤ i := by omega
      obtain ⟨g, hg, hgl, hc⟩ := HR.out (by rw [HN.out]; omega)
      obtain ⟨m, hm⟩ : ∃ m, l[i]? = some m := ⟨l[i]'(by rw [HN.out]; omega), List.getElem?_eq_getElem _⟩
      have cm := hc i m hm
      have HM := Lib.hid hm
      subst hg
      clear hc hm hiN
      by_cases hnm : n = m
      · subst hnm
        go_wp2_with fail
        go_ret
        refine ⟨(i : Int), rfl, ?_, rfl⟩
        have : l.contains n = true := by simpa using List.mem_of_getElem? HM.out
        rw [this]; simp
      · have hq : ((n : Int) == (m : Int)) = false := beq_eq_false_iff_ne.2 (by omega)
        have HNM := Lib.hid hnm
        clear hnm
        go_wp2_with fail
        go_round
        case rel => exact ⟨i + 1, by omega, by go_num, fun j hj => by
          by_cases he : j = i
          · rw [he, HM.out]; intro h; exact HNM.out (Option.some.inj h).symm
          · exact HNO.out j (by omega)⟩
        case measure => simp [intOf]; omega
theorem contains_any (l : List Nat) (A : Option Addr) (cap n : Nat) (w : World) (h : RowN w A l) (hl : l.length ≤ 1000) :
    Calls Tryd.prog 69 #[.slice A l.length cap, .int .i64 (n : Int)] w fun e w' => e = .returned (.bool (l.contains n)) ∧ w = w' := by
  have HI := Lib.hid (index_any l A cap n w h hl)
  clear h
  go_enter Tryd.func69, Tryd.ntmps69
  go_wp2_with (go_at_call 89; refine HI.out.mono ?_; rintro e w' ⟨r, rfl, hr, rfl⟩; have HRR := Lib.hid hr; clear hr)
  go_ret
  exact ⟨by rw [← HRR.out]; rfl, rfl⟩
theorem isnan_any (a : Int) (w : World) : Calls Tryd.prog 91 #[.int .i64 a] w fun e w' => e = .returned (.bool false) ∧ w = w' := by
  go_enter Tryd.func91, Tryd.ntmps91
  go_wp2
  go_ret
  exact ⟨by simp, rfl⟩
theorem sorted_lt {l : List Nat} (h : l.Pairwise (· < ·)) {i j a b : Nat} (ha : l[i]? = some a) (hb : l[j]? = some b) (hij : i < j) : a < b := by
  obtain ⟨h1, h2⟩ := List.getElem?_eq_some_iff.1 ha
  obtain ⟨h3, h4⟩ := List.getElem?_eq_some_iff.1 hb
  have := List.pairwise_iff_getElem.1 h i j h1 h3 hij
  rw [h2, h4] at this; exact this
set_option maxRecDepth 100000 in
set_option maxHeartbeats 4000000 in
theorem bsearch_any (l : List Nat) (A : Option Addr) (cap n k : Nat) (w : World) (h : RowN w A l) (hl : l.length ≤ 1000) (hs : l.Pairwise (· < ·)) (hk : l[k]? = some n) :
    Calls Tryd.prog 70 #[.slice A l.length cap, .int .i64 (n : Int)] w fun e w' => e = .returned (.tuple #[.int .i64 (k : Int), .bool true]) ∧ w = w' := by
  have HR := Lib.hid h
  have HS := Lib.hid hs
  have HK := Lib.hid hk
  have hkl := (List.getElem?_eq_some_iff.1 hk).1
  clear h hs hk
  obtain ⟨N, hN⟩ : ∃ N, l.length = N := ⟨_, rfl⟩
  have HN := Lib.hid hN
  rw [hN] at hl hkl ⊢
  clear hN
  obtain ⟨g, hg, hgl, hc⟩ := HR.out (by rw [HN.out]; omega)
  have HC := Lib.hid hc
  subst hg
  clear hc
  go_enter Tryd.func70, Tryd.ntmps70
  go_wp2_with fail
  go_loopw [7, 8] (fun vi vj wr => ∃ i j : Nat, vi = .int .i64 (i : Int) ∧ vj = .int .i64 (j : Int) ∧ i ≤ k ∧ k ≤ j ∧ j ≤ N ∧ wr = w) (fun vi vj _ => (intOf vj - intOf vi).toNat)
  case atStart => exact ⟨0, N, rfl, rfl, by omega, by omega, Nat.le_refl _, rfl⟩
  case round =>
    obtain ⟨i, j, rfl, rfl, hik, hkj, hjN, rfl⟩ := hrel
    by_cases hij : i = j
    · have hkk : i = k := by omega
      subst hkk
      obtain rfl : i = j := hij
      have ck := HC.out i n HK.out
      have hi1 : (i : Int) < N := by omega
      have hi2 : (0 : Int) ≤ i := by omega
      go_wp2_with fail
      go_ret2
      exact ⟨rfl, rfl⟩
    · have hlt : (i : Int) < j := by omega
      obtain ⟨hh, hhe⟩ : ∃ h, (i + j) / 2 = h := ⟨_, rfl⟩
      have hh1 : i ≤ hh := by omega
      have hh2 : hh < j := by omega
      have hhN : (hh : Int) < N := by omega
      have hh0 : (0 : Int) ≤ hh := by omega
      obtain ⟨m, hm⟩ : ∃ m, l[hh]? = some m := ⟨l[hh]'(by rw [HN.out]; omega), List.getElem?_eq_getElem _⟩
      have cm := HC.out hh m hm
      have hd1 : ((i : Int) + j) / 2 = hh := by omega
      have HLE := Lib.hid (fun (W : World) => less_any (m : Int) (n : Int) W)
      have hcase : (m < n ∧ hh < k) ∨ (¬ m < n ∧ k ≤ hh) := by
        rcases Nat.lt_trichotomy hh k with h | h | h
        · exact .inl ⟨sorted_lt HS.out hm HK.out h, h⟩
        · subst h; rw [hm] at *; have := HK.out; rw [hm] at this; obtain rfl := Option.some.inj this; exact .inr ⟨by omega, by omega⟩
        · have := sorted_lt HS.out HK.out hm h; exact .inr ⟨by omega, by omega⟩
      clear hm hhe
      rcases hcase with ⟨c1, c2⟩ | ⟨c1, c2⟩
      · have hdc : decide ((m : Int) < n) = true := by simp; omega
        rw [hdc] at HLE
        clear hdc
        go_wp2_with (go_at_call 90; go_must (refine (HLE.out _).mono ?_; rintro e w' ⟨rfl, rfl⟩))
        go_roundw
        case rel => exact ⟨hh + 1, j, by go_num, rfl, by omega, by omega, by omega, trivial⟩
        case measure => simp [intOf]; omega
      · have hdc : decide ((m : Int) < n) = false := by simp; omega
        rw [hdc] at HLE
        clear hdc
        go_wp2_with (go_at_call 90; go_must (refine (HLE.out _).mono ?_; rintro e w' ⟨rfl, rfl⟩))
        go_roundw
        case rel => exact ⟨i, hh, rfl, rfl, by omega, by omega, by omega, trivial⟩
        case measure => simp [intOf]; omega
end Go.Proofs.YtefbdecejoeamaaDoor
