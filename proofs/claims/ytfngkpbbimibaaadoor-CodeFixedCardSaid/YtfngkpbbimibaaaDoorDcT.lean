/-
  The contracts of the reader's take (a byte, or a panic) and of Decode's deferred closure.
-/
import Derived.Test.YtfngkpbbimibaaaDoorDcP
import Derived.Test.YtfngkpbbimibaaaDoorStB
import Derived.OneCell
import Derived.WalkSmall
import Derived.Defers
import Derived.Recover
import Derived.Deep.QuietTactic
import Derived.BigQuiet
namespace Go.Proofs.YtfngkpbbimibaaaDoor
open Go.RowKit Tier
/-- Bytes lie in memory as the slice v, in old blocks. -/
def RestAt (w : World) (v : Value) (l : List Int) : Prop :=
  ∃ A cap, v = .slice A l.length cap ∧ l.length ≤ cap ∧ (0 < l.length → ∃ b o, A = some ⟨b, o, none⟩ ∧ b < w.heap.size ∧ ∀ (i : Nat) (x : Int), l[i]? = some x → w.cell? ⟨b, o + i, none⟩ = some (.int .u8 x))
theorem RestAt.keeps {w w' : World} {v : Value} {l : List Int} (h : RestAt w v l) (hb : Below w.heap.size w w') : RestAt w' v l := by
  obtain ⟨A, cap, h1, h2, h3⟩ := h
  refine ⟨A, cap, h1, h2, fun hl => ?_⟩
  obtain ⟨b, o, e, hz, hc⟩ := h3 hl
  exact ⟨b, o, e, Nat.lt_of_lt_of_le hz hb.size, fun i x hx => (hb.cell (p := ⟨b, o + i, none⟩) hz).trans (hc i x hx)⟩
theorem RestAt.tail {w : World} {b o cap : Nat} {x : Int} {r : List Int} (h : RestAt w (.slice (some ⟨b, o, none⟩) (r.length + 1) cap) (x :: r)) :
    (∀ d c, (0 < r.length → d = (⟨b, o + 1, none⟩ : Addr)) → r.length ≤ c → RestAt w (.slice (some d) r.length c) r) := by
  obtain ⟨A, cap', h1, h2, h3⟩ := h
  obtain ⟨b', o', e, hz, hc⟩ := h3 (by simp)
  simp only [Value.slice.injEq] at h1
  rw [e] at h1
  simp only [Option.some.injEq, Addr.mk.injEq, and_true] at h1
  obtain ⟨⟨rfl, rfl⟩, -, rfl⟩ := h1
  intro d c hd hc'
  refine ⟨some d, c, rfl, hc', fun hl => ⟨b, o + 1, by rw [hd hl], hz, fun i y hy => ?_⟩⟩
  have := hc (i + 1) y (by simpa using hy)
  rw [show o + 1 + i = o + (i + 1) by omega]; exact this
set_option maxRecDepth 100000 in
set_option maxHeartbeats 4000000 in
theorem take_none (R : Nat) (A : Option Addr) (cap : Nat) (w : World) (hR : w.heap[R]? = some (.cells #[.slice A 0 cap] 79 (0, 0))) :
    Calls Tryd.prog 26 #[.pointer (some ⟨R, 0, none⟩)] w fun e w' => e = .panicked [{ v := .iface 28 (.int .i64 4), recovered := false }] ∧ w' = w := by
  have c0 := (cell_block hR 0).trans rfl
  have z0 := block_lt hR
  clear hR
  go_enter Tryd.func26, Tryd.ntmps26
  go_wp2_with fail
  exact ⟨rfl, rfl, rfl⟩
set_option maxRecDepth 100000 in
set_option maxHeartbeats 4000000 in
theorem take_some (R : Nat) (A : Option Addr) (cap : Nat) (x : Int) (r : List Int) (w0 w : World) (hbw : Below w0.heap.size w0 w) (hb : Byte x) (hl : r.length ≤ 4000) (hR : w.heap[R]? = some (.cells #[.slice A (r.length + 1) cap] 79 (0, 0))) (hrest : RestAt w0 (.slice A (r.length + 1) cap) (x :: r)) :
    Calls Tryd.prog 26 #[.pointer (some ⟨R, 0, none⟩)] w fun e w' => e = .returned (.int .i64 x) ∧ ∃ A' cap', RestAt w0 (.slice A' r.length cap') r ∧ w' = w.setCell ⟨R, 0, none⟩ (.slice A' r.length cap') := by
  have c0 := (cell_block hR 0).trans rfl
  have z0 := block_lt hR
  have n0 := frozen_block hR 0
  obtain ⟨A', cap', h1, h2, h3⟩ := id hrest
  obtain ⟨b, o, e, hz, hc⟩ := h3 (by simp)
  simp only [Value.slice.injEq] at h1
  obtain ⟨rfl, -, rfl⟩ := h1
  subst e
  have HT := Lib.hid hrest.tail
  have c1 := (hbw.cell (p := ⟨b, o + 0, none⟩) hz).trans (hc 0 x rfl)
  rw [Nat.add_zero] at c1
  have hz := Nat.lt_of_lt_of_le hz hbw.size
  simp only [List.length_cons] at h2
  have HB := Lib.hid hb
  obtain ⟨hb1, hb2⟩ := hb
  clear hR hrest h3 hc hbw
  generalize hn : r.length = n at *
  have HN := Lib.hid hn
  clear hn
  have hn1 : ((n : Int) + 1 == 0) = false := by simp; omega
  have hn2 : (((n + 1 : Nat) : Int) == 0) = false := by simp; omega
  by_cases hcap : cap = 1
  · subst hcap
    obtain rfl : n = 0 := by omega
    go_enter Tryd.func26, Tryd.ntmps26
    go_wp2_with fail
    go_ret
    exact ⟨rfl, _, _, HT.out ⟨b, o, none⟩ 0 (fun h => by omega) (Nat.le_refl _), rfl⟩
  · go_enter Tryd.func26, Tryd.ntmps26
    go_wp2_with fail
    go_ret
    exact ⟨rfl, _, _, HT.out ⟨b, o + 1, none⟩ (cap - 1) (fun h => rfl) (by omega), rfl⟩
theorem catch_idle (pa : Addr) (ea : Addr) (w : World) :
    CallsD Tryd.prog 25 #[.pointer (some pa), .pointer (some ea)] .returning w fun e u' w' => e = .returned (.tuple #[]) ∧ u' = .returning ∧ w' = w := by
  refine callsD_of_wpS Tryd.func25 rfl fun c₀ cs hu => ?_
  apply wpS_seq
  apply wpS_region
  simp [wpOpsS, go_sem, recoverD, hu, Tryd.ntmps25, Exit.thenS]
  apply wpS_seq
  apply wpS_region
  simp [wpOpsS, go_sem, Exit.thenS]
  refine wpS_cond (t := false) (by simp [Act.eval, Array.replicate]) ?_
  simp only [Bool.false_eq_true, if_false]
  refine wpS_of_wp (wp_skip ?_)
  cases c₀
  simp_all [bodyPostS, results, Tryd.results25]
set_option maxRecDepth 100000 in
set_option maxHeartbeats 4000000 in
theorem catch_dec (B : Nat) (x y : Value) (n : Int) (w : World) (hp : w.heap[B]? = some (.cells #[x] 25 (0, 0))) (he : w.heap[B + 1]? = some (.cells #[y] 28 (0, 0))) :
    CallsD Tryd.prog 25 #[.pointer (some ⟨B, 0, none⟩), .pointer (some ⟨B + 1, 0, none⟩)] (.panicking [{ v := .iface 28 (.int .i64 n), recovered := false }]) w fun e u' w' =>
      e = .returned (.tuple #[]) ∧ u' = .panicking [{ v := .iface 28 (.int .i64 n), recovered := true }] ∧ Below B w w' ∧ w'.heap[B]? = some (.cells #[.slice none 0 0] 25 (0, 0)) ∧ w'.heap[B + 1]? = some (.cells #[.int .i64 n] 28 (0, 0)) := by
  refine callsD_of_wpS Tryd.func25 rfl fun c₀ cs hu => ?_
  apply wpS_seq
  apply wpS_region
  simp [wpOpsS, go_sem, recoverD, hu, Tryd.ntmps25, Exit.thenS]
  apply wpS_seq
  apply wpS_region
  simp [wpOpsS, go_sem, Exit.thenS]
  refine wpS_cond (t := true) (by simp [Act.eval, Array.replicate]) ?_
  simp only [if_true]
  refine wpS_of_wp ?_
  have c0 := (cell_block hp 0).trans rfl
  have c1 := (cell_block he 0).trans rfl
  have n0 := frozen_block hp 0
  have n1 := frozen_block he 0
  have z0 := block_lt hp
  have z1 := block_lt he
  have hta : ∀ (w : World), (Instr.typeAssert (.iface 28 (.int .i64 n)) 20 28 false).run Tryd.prog w = .ok (.int .i64 n) w := fun _ => by kernel_rfl
  have HP := Lib.hid hp
  have HE := Lib.hid he
  clear hp he
  go_region
  all_goals (
    have h1 : Below B w ((w.setCell ⟨B, 0, none⟩ (.slice none 0 0)).setCell ⟨B + 1, 0, none⟩ (.int .i64 n)).drew := (((Below.refl B w).setCell (Nat.le_refl _) _).setCell (Nat.le_succ _) _).drew
    have h2 : ((w.setCell ⟨B, 0, none⟩ (.slice none 0 0)).setCell ⟨B + 1, 0, none⟩ (.int .i64 n)).drew.heap[B]? = some (.cells #[.slice none 0 0] 25 (0, 0)) := block_set_ne (block_put HP.out rfl) (by omega) _ _
    have h3 : ((w.setCell ⟨B, 0, none⟩ (.slice none 0 0)).setCell ⟨B + 1, 0, none⟩ (.int .i64 n)).drew.heap[B + 1]? = some (.cells #[.int .i64 n] 28 (0, 0)) := block_put (block_set_ne HE.out (by omega) _ _) rfl
    simp [bodyPostS, results, Tryd.results25]
    exact ⟨h1, h2, h3⟩)
end Go.Proofs.YtfngkpbbimibaaaDoor
