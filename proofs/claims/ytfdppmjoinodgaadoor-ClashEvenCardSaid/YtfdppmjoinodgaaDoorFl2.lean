/-
  The contract of flow.next.
-/
import Derived.Test.YtfdppmjoinodgaaDoorFl1
namespace Go.Proofs.YtfdppmjoinodgaaDoor
open Go.RowKit Tier
set_option maxRecDepth 100000 in
set_option maxHeartbeats 4000000 in
theorem fnext_any (f : Fnc) (A : Option Addr) (cap pc : Nat) (x : Ins) (w : World) (hx : f.code[pc]? = some x) (hc : CodeAt w (.slice A f.code.length cap) f.code) (hl : f.code.length ≤ 40) (hi : x.op = 15 ∨ x.op = 16 → 0 ≤ x.imm ∧ x.imm < 40) :
    Calls Tryd.prog 48 #[.agg #[.int .i64 f.params, .int .i64 f.regs, .slice A f.code.length cap], .int .i64 pc] w fun e w' =>
      (∃ v, e = .returned v ∧ OwnI w' w.heap.size v (natI (nextS x pc))) ∧ Below w.heap.size w w' := by
  obtain ⟨A0, cap0, hA0, hA⟩ := hc.slice
  simp only [Value.slice.injEq, true_and] at hA0
  have hpc : pc < f.code.length := (List.getElem?_eq_some_iff.1 hx).1
  obtain ⟨g, hAg, hg, hfn⟩ := hA (by omega)
  obtain ⟨rfl, rfl⟩ := hA0
  obtain ⟨c0, c1, c2, c3, c4⟩ := hfn pc x hx
  subst hAg
  have hp0 : (0 : Int) ≤ pc := by omega
  have hp1 : (pc : Int) < f.code.length := by omega
  have hp2 : (pc : Int) ≤ 40 := by omega
  obtain ⟨fp, fr, fc⟩ := f
  dsimp only at *
  generalize fc.length = M at *
  have HX := Lib.hid hx
  clear hfn hA hc hx
  obtain ⟨op, dst, a, b, imm⟩ := x
  dsimp only at *
  have hcase : op = 19 ∨ op = 15 ∨ op = 16 ∨ (op ≠ 19 ∧ op ≠ 15 ∧ op ≠ 16) := by omega
  rcases hcase with rfl | rfl | rfl | ⟨h1, h2, h3⟩
  · go_enter Tryd.func48, Tryd.ntmps48
    go_wp2_with fail
    go_ret
    refine ⟨⟨_, rfl, ?_⟩, ?_⟩
    · simp only [nextS, if_true, natI, List.map_nil]; exact OwnI.nil _ _
    · repeat (first | exact hb | exact Below.refl _ _ | apply Below.drew | apply below_drewN | refine Below.alloc ?_ (by first | omega | (simp; done) | (simp; omega)) _ | refine Below.setCell ?_ (by first | omega | (simp; done) | (simp; omega)) _)
  · have hi' := (hi (.inl rfl)).1
    obtain ⟨m, rfl⟩ := Int.eq_ofNat_of_zero_le hi'
    clear hi hi'
    go_enter Tryd.func48, Tryd.ntmps48
    go_wp2_with fail
    go_ret
    refine ⟨⟨_, rfl, ?_⟩, ?_⟩
    · have := OwnI.made (((w.alloc (.cells #[.int .i64 fp, .int .i64 fr, .slice (some ⟨g, 0, none⟩) M cap] 57)).alloc (.cells #[.int .i64 15, .int .i64 dst, .int .i64 a, .int .i64 b, .int .i64 m] 54))) w.heap.size [(m : Int)] (by simp; omega) (by simp)
      simpa [nextS, natI] using this
    · repeat (first | exact hb | exact Below.refl _ _ | apply Below.drew | apply below_drewN | refine Below.alloc ?_ (by first | omega | (simp; done) | (simp; omega)) _ | refine Below.setCell ?_ (by first | omega | (simp; done) | (simp; omega)) _)
  · obtain ⟨hi', hi2⟩ := hi (.inr rfl)
    obtain ⟨m, rfl⟩ := Int.eq_ofNat_of_zero_le hi'
    clear hi hi'
    by_cases hm : m = pc + 1
    · have hq : ((m : Int) == (pc : Int) + 1) = true := beq_iff_eq.2 (by omega)
      have HNS := Lib.hid (show nextS ⟨16, dst, a, b, (m : Int)⟩ pc = [pc + 1] by simp [nextS, hm])
      clear hm
      go_enter Tryd.func48, Tryd.ntmps48
      go_wp2_with fail
      go_ret
      refine ⟨⟨_, rfl, ?_⟩, ?_⟩
      · have := OwnI.made (((w.alloc (.cells #[.int .i64 fp, .int .i64 fr, .slice (some ⟨g, 0, none⟩) M cap] 57)).alloc (.cells #[.int .i64 16, .int .i64 dst, .int .i64 a, .int .i64 b, .int .i64 m] 54))) w.heap.size [(pc : Int) + 1] (by simp; omega) (by simp)
        rw [HNS.out]
        simpa [natI] using this
      · repeat (first | exact hb | exact Below.refl _ _ | apply Below.drew | apply below_drewN | refine Below.alloc ?_ (by first | omega | (simp; done) | (simp; omega)) _ | refine Below.setCell ?_ (by first | omega | (simp; done) | (simp; omega)) _)
    · have hq : ((m : Int) == (pc : Int) + 1) = false := beq_eq_false_iff_ne.2 (by omega)
      have HNS := Lib.hid (show natI (nextS ⟨16, dst, a, b, (m : Int)⟩ pc) = [if (pc : Int) + 1 ≤ m then (pc : Int) + 1 else m, if (pc : Int) + 1 ≤ m then (m : Int) else (pc : Int) + 1] by
        by_cases h : pc + 1 < m
        · have h2 : (pc : Int) + 1 ≤ m := by omega
          rw [if_pos h2, if_pos h2]
          simp [nextS, hm, h, natI]
        · have h2 : ¬ (pc : Int) + 1 ≤ m := by omega
          rw [if_neg h2, if_neg h2]
          simp [nextS, hm, h, natI])
      have hlo : (if (pc : Int) + 1 ≤ m then (pc : Int) + 1 else m) ≤ 41 := by split <;> omega
      clear hm
      have HB1 := Lib.hid (((Below.refl w.heap.size w).alloc (Nat.le_refl _) (.cells #[.int .i64 fp, .int .i64 fr, .slice (some ⟨g, 0, none⟩) M cap] 57)).alloc (by simp) (.cells #[.int .i64 16, .int .i64 dst, .int .i64 a, .int .i64 b, .int .i64 m] 54))
      obtain ⟨lo, hloe⟩ : ∃ z, (if (pc : Int) + 1 ≤ m then (pc : Int) + 1 else m) = z := ⟨_, rfl⟩
      obtain ⟨hi3, hhie⟩ : ∃ z, (if (pc : Int) + 1 ≤ m then (m : Int) else (pc : Int) + 1) = z := ⟨_, rfl⟩
      have HSO := Lib.hid (fun (bb : Nat) (W : World) (h : W.heap[bb]? = some (.cells #[.int .i64 ((pc : Int) + 1), .int .i64 (m : Int)] 3 (0, 0))) => sort_two bb ((pc : Int) + 1) m W h)
      rw [hloe, hhie] at HNS HSO
      clear hloe hhie hlo
      go_enter Tryd.func48, Tryd.ntmps48
      go_wp2_with (go_at_call 78; go_must (refine (HSO.out (w.heap.size + 1 + 1) _ (by simpa using heap_alloc_new ((w.alloc (.cells #[.int .i64 fp, .int .i64 fr, .slice (some ⟨g, 0, none⟩) M cap] 57)).alloc (.cells #[.int .i64 16, .int .i64 dst, .int .i64 a, .int .i64 b, .int .i64 m] 54)) (.cells #[.int .i64 ((pc : Int) + 1), .int .i64 (m : Int)] 3))).mono ?_; rintro e w' ⟨rfl, hk, hb⟩; have HK := Lib.hid hk; have HB := Lib.hid hb; clear hk hb))
      go_ret
      refine ⟨⟨_, rfl, ?_⟩, ?_⟩
      · rw [HNS.out]
        exact ⟨by simp, .inr ⟨w.heap.size + 1 + 1, 2, _, rfl, by omega, HK.out, Nat.le_refl _, by unfold maxLen; omega, by simp, by simp⟩⟩
      · have h2 := (HB1.out.alloc (by simp; omega) (.cells #[.int .i64 ((pc : Int) + 1), .int .i64 (m : Int)] 3))
        exact h2.trans (HB.out.mono (by omega))
  · have h4 : (op == 19) = false := by simpa using h1
    have h5 : (op == 15) = false := by simpa using h2
    have h6 : (op == 16) = false := by simpa using h3
    have HNL := Lib.hid (show nextS ⟨op, dst, a, b, imm⟩ pc = [pc + 1] by simp [nextS, h1, h2, h3])
    clear hi h1 h2 h3
    go_enter Tryd.func48, Tryd.ntmps48
    go_wp2_with fail
    go_ret
    refine ⟨⟨_, rfl, ?_⟩, ?_⟩
    · have := OwnI.made (((w.alloc (.cells #[.int .i64 fp, .int .i64 fr, .slice (some ⟨g, 0, none⟩) M cap] 57)).alloc (.cells #[.int .i64 op, .int .i64 dst, .int .i64 a, .int .i64 b, .int .i64 imm] 54))) w.heap.size [(pc : Int) + 1] (by simp; omega) (by simp)
      rw [HNL.out]
      simpa [natI] using this
    · repeat (first | exact hb | exact Below.refl _ _ | apply Below.drew | apply below_drewN | refine Below.alloc ?_ (by first | omega | (simp; done) | (simp; omega)) _ | refine Below.setCell ?_ (by first | omega | (simp; done) | (simp; omega)) _)
end Go.Proofs.YtfdppmjoinodgaaDoor
