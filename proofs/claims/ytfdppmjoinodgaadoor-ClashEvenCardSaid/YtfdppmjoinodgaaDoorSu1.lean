/-
  Contracts of proof.sets, proof.next, proof.reads.
-/
import Derived.Test.YtfdppmjoinodgaaDoorSuP
import Derived.Deep.QuietTactic
import Derived.BigQuiet
namespace Tier
open Go Go.RowKit
theorem shl_one (d : Int) (h0 : 0 ≤ d) (h1 : d < 12) : IntKind.i64.wrap (2 ^ d.toNat) = ((2 ^ d.toNat : Nat) : Int) := by
  have hp : 2 ^ d.toNat < 4096 := pow_lt (by omega)
  have : ((2 : Int) ^ d.toNat) = ((2 ^ d.toNat : Nat) : Int) := by push_cast; rfl
  rw [this, IntKind.wrap_i64]
  generalize 2 ^ d.toNat = k at *
  omega
theorem or_pow (a b : Int) (h0 : 0 ≤ a) (h1 : a < 12) (g0 : 0 ≤ b) (g1 : b < 12) : bits .or .i64 ((2 : Int) ^ a.toNat) ((2 : Int) ^ b.toNat) = ((2 ^ a.toNat ||| 2 ^ b.toNat : Nat) : Int) := by
  have ha : 2 ^ a.toNat < 4096 := pow_lt (by omega)
  have hb : 2 ^ b.toNat < 4096 := pow_lt (by omega)
  have h := or_nat (2 ^ a.toNat) (2 ^ b.toNat) (by omega) (by omega)
  push_cast at h
  rw [h]
end Tier
namespace Go.Proofs.YtfdppmjoinodgaaDoor
open Go.RowKit Tier
theorem sets_any (x : Ins) (w : World) :
    Calls Tryd.prog 85 #[.agg #[.int .i64 x.op, .int .i64 x.dst, .int .i64 x.a, .int .i64 x.b, .int .i64 x.imm]] w fun e w' => e = .returned (.bool (setsB x)) ∧ Below w.heap.size w w' := by
  obtain ⟨op, dst, a, b, imm⟩ := x
  dsimp only
  have hc : op ≤ 13 ∨ op = 17 ∨ op = 18 ∨ (¬ op ≤ 13 ∧ op ≠ 17 ∧ op ≠ 18) := by omega
  rcases hc with h | rfl | rfl | ⟨h1, h2, h3⟩
  · have X := Lib.hid (show setsB ⟨op, dst, a, b, imm⟩ = true by simp [setsB, h])
    go_enter Tryd.func85, Tryd.ntmps85
    go_wp2_with fail
    go_ret
    refine ⟨by rw [X.out]; simp [], ?_⟩
    repeat (first | exact hb | exact Below.refl _ _ | apply Below.drew | apply below_drewN | refine Below.alloc ?_ (by first | omega | (simp; done) | (simp; omega)) _ | refine Below.setCell ?_ (by first | omega | (simp; done) | (simp; omega)) _)
  · go_enter Tryd.func85, Tryd.ntmps85
    go_wp2_with fail
    go_ret
    refine ⟨by simp [setsB], ?_⟩
    repeat (first | exact hb | exact Below.refl _ _ | apply Below.drew | apply below_drewN | refine Below.alloc ?_ (by first | omega | (simp; done) | (simp; omega)) _ | refine Below.setCell ?_ (by first | omega | (simp; done) | (simp; omega)) _)
  · go_enter Tryd.func85, Tryd.ntmps85
    go_wp2_with fail
    go_ret
    refine ⟨by simp [setsB], ?_⟩
    repeat (first | exact hb | exact Below.refl _ _ | apply Below.drew | apply below_drewN | refine Below.alloc ?_ (by first | omega | (simp; done) | (simp; omega)) _ | refine Below.setCell ?_ (by first | omega | (simp; done) | (simp; omega)) _)
  · have X := Lib.hid (show setsB ⟨op, dst, a, b, imm⟩ = false by simp [setsB, h1, h2, h3])
    have h4 : (op == 17) = false := by simpa using h2
    have h5 : (op == 18) = false := by simpa using h3
    clear h2 h3
    go_enter Tryd.func85, Tryd.ntmps85
    go_wp2_with fail
    go_ret
    refine ⟨by rw [X.out]; simp [], ?_⟩
    repeat (first | exact hb | exact Below.refl _ _ | apply Below.drew | apply below_drewN | refine Below.alloc ?_ (by first | omega | (simp; done) | (simp; omega)) _ | refine Below.setCell ?_ (by first | omega | (simp; done) | (simp; omega)) _)
/-- Whole numbers in a row of the call's own. -/
def OwnI (w : World) (B : Nat) (v : Value) (l : List Int) : Prop := w.ownsRow B 3 1 v l.length (l.map (Value.int .i64))
theorem OwnI.keeps {w w' : World} {B : Nat} {v : Value} {l : List Int} (h : OwnI w B v l) (hb : Below w.heap.size w w') : OwnI w' B v l := own_below h hb
theorem OwnI.nil (w : World) (B : Nat) : OwnI w B (.slice none 0 0) [] := World.ownsRow_nil _ _ _ _
theorem OwnI.made (w : World) (B : Nat) (l : List Int) (hB : B ≤ w.heap.size) (hl : l.length ≤ 100000000) : OwnI (w.alloc (.cells (l.map (Value.int .i64)).toArray 3)) B (.slice (some ⟨w.heap.size, 0, none⟩) l.length l.length) l :=
  ⟨by simp, .inr ⟨w.heap.size, l.length, _, rfl, hB, heap_alloc_new _ _, Nat.le_refl _, by unfold maxLen; omega, by simp, List.take_of_length_le (by simp)⟩⟩
theorem next_any (f : Fnc) (A : Option Addr) (cap pc : Nat) (x : Ins) (w : World) (hx : f.code[pc]? = some x) (hc : CodeAt w (.slice A f.code.length cap) f.code) (hl : f.code.length ≤ 40) (hi : x.op = 15 ∨ x.op = 16 → 0 ≤ x.imm) :
    Calls Tryd.prog 96 #[.agg #[.int .i64 f.params, .int .i64 f.regs, .slice A f.code.length cap], .int .i64 pc] w fun e w' =>
      (∃ v, e = .returned v ∧ OwnI w' w.heap.size v ((nextL x pc).map fun (n : Nat) => (n : Int))) ∧ Below w.heap.size w w' := by
  obtain ⟨A0, cap0, hA0, hA⟩ := hc.slice
  simp only [Value.slice.injEq, true_and] at hA0
  have hpc : pc < f.code.length := (List.getElem?_eq_some_iff.1 hx).1
  obtain ⟨g, hAg, hg, hfn⟩ := hA (by omega)
  obtain ⟨rfl, rfl⟩ := hA0
  obtain ⟨c0, c1, c2, c3, c4⟩ := hfn pc x hx
  subst hAg
  have hp0 : (0 : Int) ≤ pc := by omega
  have hp1 : (pc : Int) < f.code.length := by omega
  have hp2 : (pc : Int) ≤ 40 := by omega
  obtain ⟨fp, fr, fc⟩ := f
  dsimp only at *
  generalize fc.length = M at *
  have HX := Lib.hid hx
  clear hfn hA hc hx
  obtain ⟨op, dst, a, b, imm⟩ := x
  dsimp only at *
  have hcase : op = 19 ∨ op = 15 ∨ op = 16 ∨ (op ≠ 19 ∧ op ≠ 15 ∧ op ≠ 16) := by omega
  rcases hcase with rfl | rfl | rfl | ⟨h1, h2, h3⟩
  · go_enter Tryd.func96, Tryd.ntmps96
    go_wp2_with fail
    go_ret
    refine ⟨⟨_, rfl, ?_⟩, ?_⟩
    · simp only [nextL, if_true, List.map_nil]; exact OwnI.nil _ _
    · repeat (first | exact hb | exact Below.refl _ _ | apply Below.drew | apply below_drewN | refine Below.alloc ?_ (by first | omega | (simp; done) | (simp; omega)) _ | refine Below.setCell ?_ (by first | omega | (simp; done) | (simp; omega)) _)
  · have hi' := hi (.inl rfl)
    obtain ⟨m, rfl⟩ := Int.eq_ofNat_of_zero_le hi'
    clear hi hi'
    go_enter Tryd.func96, Tryd.ntmps96
    go_wp2_with fail
    go_ret
    refine ⟨⟨_, rfl, ?_⟩, ?_⟩
    · have := OwnI.made (((w.alloc (.cells #[.int .i64 fp, .int .i64 fr, .slice (some ⟨g, 0, none⟩) M cap] 57)).alloc (.cells #[.int .i64 15, .int .i64 dst, .int .i64 a, .int .i64 b, .int .i64 m] 54))) w.heap.size [(m : Int)] (by simp; omega) (by simp)
      simpa [nextL] using this
    · repeat (first | exact hb | exact Below.refl _ _ | apply Below.drew | apply below_drewN | refine Below.alloc ?_ (by first | omega | (simp; done) | (simp; omega)) _ | refine Below.setCell ?_ (by first | omega | (simp; done) | (simp; omega)) _)
  · have hi' := hi (.inr rfl)
    obtain ⟨m, rfl⟩ := Int.eq_ofNat_of_zero_le hi'
    clear hi hi'
    go_enter Tryd.func96, Tryd.ntmps96
    go_wp2_with fail
    go_ret
    refine ⟨⟨_, rfl, ?_⟩, ?_⟩
    · have := OwnI.made (((w.alloc (.cells #[.int .i64 fp, .int .i64 fr, .slice (some ⟨g, 0, none⟩) M cap] 57)).alloc (.cells #[.int .i64 16, .int .i64 dst, .int .i64 a, .int .i64 b, .int .i64 m] 54))) w.heap.size [(pc : Int) + 1, (m : Int)] (by simp; omega) (by simp)
      simpa [nextL] using this
    · repeat (first | exact hb | exact Below.refl _ _ | apply Below.drew | apply below_drewN | refine Below.alloc ?_ (by first | omega | (simp; done) | (simp; omega)) _ | refine Below.setCell ?_ (by first | omega | (simp; done) | (simp; omega)) _)
  · have h4 : (op == 19) = false := by simpa using h1
    have h5 : (op == 15) = false := by simpa using h2
    have h6 : (op == 16) = false := by simpa using h3
    have HNL := Lib.hid (show nextL ⟨op, dst, a, b, imm⟩ pc = [pc + 1] by simp [nextL, h1, h2, h3])
    clear hi h1 h2 h3
    go_enter Tryd.func96, Tryd.ntmps96
    go_wp2_with fail
    go_ret
    refine ⟨⟨_, rfl, ?_⟩, ?_⟩
    · have := OwnI.made (((w.alloc (.cells #[.int .i64 fp, .int .i64 fr, .slice (some ⟨g, 0, none⟩) M cap] 57)).alloc (.cells #[.int .i64 op, .int .i64 dst, .int .i64 a, .int .i64 b, .int .i64 imm] 54))) w.heap.size [(pc : Int) + 1] (by simp; omega) (by simp)
      rw [HNL.out]
      simpa using this
    · repeat (first | exact hb | exact Below.refl _ _ | apply Below.drew | apply below_drewN | refine Below.alloc ?_ (by first | omega | (simp; done) | (simp; omega)) _ | refine Below.setCell ?_ (by first | omega | (simp; done) | (simp; omega)) _)
set_option maxRecDepth 100000 in
set_option maxHeartbeats 4000000 in
theorem preads_any (p : List Fnc) (A : Option Addr) (cap : Nat) (x : Ins) (regs n : Int) (w : World) (hp : ProgAt w (.slice A p.length cap) p) (hx : InsOk x regs n p.length) (hr : regs ≤ 12) (hpar : ∀ f ∈ p, 0 ≤ f.params ∧ f.params ≤ 2) :
    Calls Tryd.prog 83 #[.agg #[.slice A p.length cap], .agg #[.int .i64 x.op, .int .i64 x.dst, .int .i64 x.a, .int .i64 x.b, .int .i64 x.imm]] w fun e w' =>
      e = .returned (.int .i64 (readsM x (parOf p x) : Nat)) ∧ Below w.heap.size w w' := by
  have a0 := hx.a1
  have b0 := hx.b1
  have a1 : x.a ≤ 11 := by have := hx.a2; omega
  have b1 : x.b ≤ 11 := by have := hx.b2; omega
  have sa := shl_one x.a a0 (by omega)
  have sb := shl_one x.b b0 (by omega)
  have sab := or_pow x.a x.b a0 (by omega) b0 (by omega)
  have HX := Lib.hid hx
  obtain ⟨op, dst, a, b, imm⟩ := x
  dsimp only at *
  have hcase : op = 1 ∨ op = 15 ∨ op = 13 ∨ op = 16 ∨ op = 18 ∨ op = 19 ∨ op = 17 ∨ (op ≠ 1 ∧ op ≠ 15 ∧ op ≠ 13 ∧ op ≠ 16 ∧ op ≠ 18 ∧ op ≠ 19 ∧ op ≠ 17) := by omega
  have HP := Lib.hid hp
  have HPAR := Lib.hid hpar
  clear hx hp hpar
  rcases hcase with rfl | rfl | rfl | rfl | rfl | rfl | rfl | ⟨n1, n2, n3, n4, n5, n6, n7⟩
  · go_enter Tryd.func83, Tryd.ntmps83
    go_wp2_with fail
    go_quiet (fail)
    go_wp2_with fail
    go_ret
    refine ⟨by simp [readsM], ?_⟩
    repeat (first | exact hb | exact Below.refl _ _ | apply Below.drew | apply below_drewN | refine Below.alloc ?_ (by first | omega | (simp; done) | (simp; omega)) _ | refine Below.setCell ?_ (by first | omega | (simp; done) | (simp; omega)) _)
  · go_enter Tryd.func83, Tryd.ntmps83
    go_wp2_with fail
    go_quiet (fail)
    go_wp2_with fail
    go_ret
    refine ⟨by simp [readsM], ?_⟩
    repeat (first | exact hb | exact Below.refl _ _ | apply Below.drew | apply below_drewN | refine Below.alloc ?_ (by first | omega | (simp; done) | (simp; omega)) _ | refine Below.setCell ?_ (by first | omega | (simp; done) | (simp; omega)) _)
  · go_enter Tryd.func83, Tryd.ntmps83
    go_wp2_with fail
    go_quiet (fail)
    go_wp2_with fail
    go_ret
    refine ⟨by simp [readsM], ?_⟩
    repeat (first | exact hb | exact Below.refl _ _ | apply Below.drew | apply below_drewN | refine Below.alloc ?_ (by first | omega | (simp; done) | (simp; omega)) _ | refine Below.setCell ?_ (by first | omega | (simp; done) | (simp; omega)) _)
  · go_enter Tryd.func83, Tryd.ntmps83
    go_wp2_with fail
    go_quiet (fail)
    go_wp2_with fail
    go_ret
    refine ⟨by simp [readsM], ?_⟩
    repeat (first | exact hb | exact Below.refl _ _ | apply Below.drew | apply below_drewN | refine Below.alloc ?_ (by first | omega | (simp; done) | (simp; omega)) _ | refine Below.setCell ?_ (by first | omega | (simp; done) | (simp; omega)) _)
  · go_enter Tryd.func83, Tryd.ntmps83
    go_wp2_with fail
    go_quiet (fail)
    go_wp2_with fail
    go_ret
    refine ⟨by simp [readsM], ?_⟩
    repeat (first | exact hb | exact Below.refl _ _ | apply Below.drew | apply below_drewN | refine Below.alloc ?_ (by first | omega | (simp; done) | (simp; omega)) _ | refine Below.setCell ?_ (by first | omega | (simp; done) | (simp; omega)) _)
  · go_enter Tryd.func83, Tryd.ntmps83
    go_wp2_with fail
    go_quiet (fail)
    go_wp2_with fail
    go_ret
    refine ⟨by simp [readsM], ?_⟩
    repeat (first | exact hb | exact Below.refl _ _ | apply Below.drew | apply below_drewN | refine Below.alloc ?_ (by first | omega | (simp; done) | (simp; omega)) _ | refine Below.setCell ?_ (by first | omega | (simp; done) | (simp; omega)) _)
  · have hi := HX.out.call rfl
    dsimp only at hi
    obtain ⟨m, rfl⟩ := Int.eq_ofNat_of_zero_le hi.1
    have hm : m < p.length := by omega
    obtain ⟨f, hf⟩ : ∃ f, p[m]? = some f := ⟨p[m], List.getElem?_eq_getElem hm⟩
    obtain ⟨A0, cap0, hA0, hA⟩ := HP.out.slice
    simp only [Value.slice.injEq, true_and] at hA0
    obtain ⟨g, hAg, hg, hfn⟩ := hA (by omega)
    obtain ⟨rfl, rfl⟩ := hA0
    obtain ⟨u, -, c0, -, -⟩ := hfn m f hf
    have hpp := HPAR.out f (List.mem_of_getElem? hf)
    have HPO := Lib.hid (show parOf p ⟨17, dst, a, b, (m : Int)⟩ = f.params by simp [parOf, hf])
    subst hAg
    have hm0 : (0 : Int) ≤ m := by omega
    have hm1 : (m : Int) < p.length := by omega
    clear hfn hA hf hm hi
    obtain ⟨fp, fr, fc⟩ := f
    dsimp only at *
    have hfp : fp = 0 ∨ fp = 1 ∨ fp = 2 := by omega
    generalize p.length = N at *
    have j0 : ∀ (x0 x1 x2 : Value) (w : World), (Instr.index 174 (.agg #[x0, x1, x2]) (.int .i64 0)).run Tryd.prog w = .ok x0 w := fun _ _ _ _ => by kernel_rfl
    have j1 : ∀ (x0 x1 x2 : Value) (w : World), (Instr.index 174 (.agg #[x0, x1, x2]) (.int .i64 1)).run Tryd.prog w = .ok x1 w := fun _ _ _ _ => by kernel_rfl
    have j2 : ∀ (x0 x1 x2 : Value) (w : World), (Instr.index 174 (.agg #[x0, x1, x2]) (.int .i64 2)).run Tryd.prog w = .ok x2 w := fun _ _ _ _ => by kernel_rfl
    rcases hfp with rfl | rfl | rfl <;>
    · go_enter Tryd.func83, Tryd.ntmps83
      go_wp2_with fail
      go_quiet (fail)
      go_wp2_with fail
      go_ret
      refine ⟨by rw [HPO.out]; simp [readsM], ?_⟩
      repeat (first | exact hb | exact Below.refl _ _ | apply Below.drew | apply below_drewN | refine Below.alloc ?_ (by first | omega | (simp; done) | (simp; omega)) _ | refine Below.setCell ?_ (by first | omega | (simp; done) | (simp; omega)) _)
  · have m1 : (op == 1) = false := by simpa using n1
    have m2 : (op == 15) = false := by simpa using n2
    have m3 : (op == 13) = false := by simpa using n3
    have m4 : (op == 16) = false := by simpa using n4
    have m5 : (op == 18) = false := by simpa using n5
    have m6 : (op == 19) = false := by simpa using n6
    have m7 : (op == 17) = false := by simpa using n7
    have X := Lib.hid (show readsM ⟨op, dst, a, b, imm⟩ (parOf p ⟨op, dst, a, b, imm⟩) = 2 ^ a.toNat ||| 2 ^ b.toNat by simp [readsM, n1, n2, n3, n4, n5, n6, n7])
    clear n1 n2 n3 n4 n5 n6 n7
    go_enter Tryd.func83, Tryd.ntmps83
    go_wp2_with fail
    go_quiet (fail)
    go_wp2_with fail
    go_ret
    refine ⟨by rw [X.out]; rfl, ?_⟩
    repeat (first | exact hb | exact Below.refl _ _ | apply Below.drew | apply below_drewN | refine Below.alloc ?_ (by first | omega | (simp; done) | (simp; omega)) _ | refine Below.setCell ?_ (by first | omega | (simp; done) | (simp; omega)) _)
end Go.Proofs.YtfdppmjoinodgaaDoor
