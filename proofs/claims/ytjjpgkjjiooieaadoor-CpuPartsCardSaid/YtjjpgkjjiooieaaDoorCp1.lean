/-
  Contracts of the machine's small functions: put, flag, divide, word, arith, branches.
-/
import Derived.Test.YtjjpgkjjiooieaaDoorCpP
namespace Go.Proofs.YtjjpgkjjiooieaaDoor
open Go.RowKit Tier
/-- The world behind put. -/
def putW (w : World) (b : Nat) (r n : Int) : World := if r = 0 then w else w.setCell ⟨b, r.toNat, none⟩ (.int .i64 n)
theorem putW_mach {w : World} {b : Nat} {t : TypeId} {c : Cpu} (h : MachAt w b t c) {r : Int} (n : Int) (h0 : 0 ≤ r) (h1 : r < 32) : MachAt (putW w b r n) b t (c.put r n) := by
  unfold putW Cpu.put
  split
  · exact h
  · exact h.store _ _ ⟨by simp [h.ok.regs], h.ok.data⟩ (set_reg h.ok (by omega) n)
theorem putW_below {w : World} {b : Nat} (r n : Int) : Below b w (putW w b r n) := by
  unfold putW
  split
  · exact Below.refl _ _
  · exact Below.setCell (Below.refl b w) (by simp) _
theorem putW_block {w : World} {b k : Nat} (r n : Int) (hk : k ≠ b) : (putW w b r n).heap[k]? = w.heap[k]? := by
  unfold putW
  split
  · rfl
  · exact Below.heap_setCell _ _ _ _ (by simpa using hk)
set_option maxRecDepth 100000 in
theorem put_any (b : Nat) (t : TypeId) (c : Cpu) (r n : Int) (w : World) (hm : MachAt w b t c) (h0 : 0 ≤ r) (h1 : r < 32) :
    Calls Tryd.prog 29 #[.pointer (some ⟨b, 0, none⟩), .int .i64 r, .int .i64 n] w fun e w' => e = .returned (.tuple #[]) ∧ w' = putW w b r n := by
  have hl := hm.lt
  have q := hm.reg h0 h1
  have f := hm.frozen r.toNat
  clear hm
  by_cases hr : r = 0
  · subst hr
    go_enter Tryd.func29, Tryd.ntmps29
    go_wp2_with fail
    exact bodyPost_end (v := .tuple #[]) (by simp [results, Tryd.results29, go_sem]) rfl ⟨rfl, rfl⟩
  · have hne : (r != 0) = true := by simpa using hr
    have HP := Lib.hid (show putW w b r n = w.setCell ⟨b, r.toNat, none⟩ (.int .i64 n) from if_neg hr)
    clear hr
    go_enter Tryd.func29, Tryd.ntmps29
    go_wp2_with fail
    exact bodyPost_end (v := .tuple #[]) (by simp [results, Tryd.results29, go_sem]) rfl ⟨rfl, HP.out.symm⟩
def flM (p : Bool) : Int := if p = true then 1 else 0
theorem flag_any (p : Bool) (w : World) : Calls Tryd.prog 35 #[.bool p] w fun e w' => e = .returned (.int .i64 (flM p)) ∧ w = w' := by
  cases p <;>
  · go_enter Tryd.func35, Tryd.ntmps35
    go_wp2_with fail
    go_ret
    exact ⟨rfl, rfl⟩
def divM (a b : Int) : Int := if b = 0 then -1 else wrap64 (a.tdiv b)
theorem divide_any (a b : Int) (w : World) : Calls Tryd.prog 34 #[.int .i64 a, .int .i64 b] w fun e w' => e = .returned (.int .i64 (divM a b)) ∧ w = w' := by
  by_cases h : b = 0
  · subst h
    go_enter Tryd.func34, Tryd.ntmps34
    go_wp2_with fail
    go_ret
    exact ⟨rfl, rfl⟩
  · have hne : (b == 0) = false := by simpa using h
    have HD := Lib.hid (show divM a b = wrap64 (a.tdiv b) from if_neg h)
    go_enter Tryd.func34, Tryd.ntmps34
    go_wp2_with fail
    go_ret
    refine ⟨?_, rfl⟩
    rw [HD.out]; rfl
def wordOk (a : Int) : Bool := decide (0 ≤ a) && decide (a < 512) && (a % 8 == 0)
def wordAt (a : Int) : Int := wrap64 (a.tdiv 8)
theorem wordAt_ok {a : Int} (h : wordOk a = true) : wordAt a = a / 8 ∧ 0 ≤ a / 8 ∧ a / 8 < 64 := by
  simp [wordOk] at h
  unfold wordAt
  rw [Int.tdiv_eq_ediv_of_nonneg (by omega), wrap64]; omega
theorem word_any (a : Int) (w : World) : Calls Tryd.prog 31 #[.int .i64 a] w fun e w' => e = .returned (.tuple #[.int .i64 (wordAt a), .bool (wordOk a)]) ∧ w = w' := by
  have HW := Lib.hid (show wrap64 (a.tdiv 8) = wordAt a from rfl)
  go_enter Tryd.func31, Tryd.ntmps31
  go_wp2_with fail
  all_goals rw [HW.out]
  all_goals refine bodyPost_ret (v := .tuple #[.int .i64 (wordAt a), .bool (wordOk a)]) ?_ rfl ⟨rfl, rfl⟩
  all_goals (clear HW; simp [results, Tryd.results31, go_sem, wordOk]; try simp_all; try (intros; omega))
  all_goals (try (intros; omega))
def arM (op a b : Int) : Int :=
  if op = 1 ∨ op = 12 then wrap64 (a + b) else if op = 2 then wrap64 (a - b) else if op = 3 then wrap64 (a * b) else if op = 4 then divM a b
  else if op = 5 ∨ op = 13 then bits .and .i64 a b else if op = 6 ∨ op = 14 then bits .or .i64 a b else if op = 7 ∨ op = 15 then bits .xor .i64 a b
  else if op = 8 ∨ op = 18 then wrap64 (a * 2 ^ (b % 64).toNat) else if op = 9 ∨ op = 19 then a / 2 ^ (b % 64).toNat
  else if op = 10 ∨ op = 16 then flM (decide (a < b)) else flM (decide (IntKind.u64.wrap a < IntKind.u64.wrap b))
set_option maxHeartbeats 2000000 in
theorem arith_any (op a b : Int) (w : World) : Calls Tryd.prog 30 #[.int .i64 op, .int .i64 a, .int .i64 b] w fun e w' => e = .returned (.int .i64 (arM op a b)) ∧ w = w' := by
  have h63 := and63 b
  have h0 : 0 ≤ b % 64 := by omega
  have h1 : b % 64 < 64 := by omega
  go_enter Tryd.func30, Tryd.ntmps30
  go_wp2_with (first | (go_at_call 35; refine (flag_any _ _).mono ?_; rintro e w' ⟨rfl, rfl⟩) | (go_at_call 34; refine (divide_any _ _ _).mono ?_; rintro e w' ⟨rfl, rfl⟩))
  all_goals go_ret
  all_goals (refine ⟨?_, rfl⟩; go_light; simp_all [arM])
def brM (op a b : Int) : Bool := if op = 22 then a == b else if op = 23 then a != b else if op = 24 then decide (a < b) else decide (b ≤ a)
theorem branches_any (op a b : Int) (w : World) : Calls Tryd.prog 32 #[.int .i64 op, .int .i64 a, .int .i64 b] w fun e w' => e = .returned (.bool (brM op a b)) ∧ w = w' := by
  go_enter Tryd.func32, Tryd.ntmps32
  go_wp2_with fail
  all_goals go_ret
  all_goals (refine ⟨?_, rfl⟩; go_light; simp_all [brM])
end Go.Proofs.YtjjpgkjjiooieaaDoor
