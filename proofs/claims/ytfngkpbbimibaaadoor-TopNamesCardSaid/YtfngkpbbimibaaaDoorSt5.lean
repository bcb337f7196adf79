/-
  The engine's next: what only reckons, the memory, jumps.
-/
import Derived.Test.YtfngkpbbimibaaaDoorSt4
namespace Go.Proofs.YtfngkpbbimibaaaDoor
open Go.RowKit Tier
set_option maxRecDepth 100000 in
set_option maxHeartbeats 8000000 in
theorem next_pure {p : List Fnc} (hp : Right p) {w0 w : World} {E : Nat} {pv FS ES AS : Value} {s : St} (h : EngAt w0 w E pv s FS ES AS) (hP : ProgAt w0 pv p) (hi : StInv p s) (hfu : s.fuel ≠ 0) {fs : List Fr} {f : Fr} (hf : s.frames = fs ++ [f]) (h1 : mkOk (insOf p f).op (f.reg (insOf p f).b) = true) :
    Calls Tryd.prog 50 #[.pointer (some ⟨E, 0, none⟩)] w fun e w' => e = .returned (.tuple #[]) ∧ ∃ FS' ES' AS', EngAt w0 w' E pv (execSt p s fs f) FS' ES' AS' := by
  obtain ⟨k, g, cap, pg, N, PC, cg, M, ccap, X⟩ := nx_of hp h hP hi hf
  have HX := Lib.hid X
  have HM := Lib.hid hi.mem
  have HR : Hid (∀ x ∈ s.frames, x.regs.length = 12) := Lib.hid (fun x hx => (hi.fr x hx).regs)
  have hfs := X.fs0
  subst hfs
  have hfu' : (s.fuel == 0) = false := by simpa using hfu
  have hk1 : IntKind.i64.wrap (k : Int) = k := by have := X.k8; rw [IntKind.wrap_i64]; omega
  have hk2 : (k : Int) < k + 1 := by omega
  have hk3 : (0 : Int) ≤ k := by omega
  have e19 := X.e19
  have e2 := X.e2
  have e22 := X.e22
  have g0 := X.g0
  have g1 := X.g1
  have ga := X.ga
  have gb := X.gb
  have d2 := X.d2
  have c0 := X.c0
  have c1 := X.c1
  have c2 := X.c2
  have c3 := X.c3
  have c4 := X.c4
  have fn0 := X.fn0
  have fn1 := X.fn1
  have pc0 := X.pc0
  have pc1 := X.pc1
  have M40 := X.M40
  have dst0 := X.dst0
  have dst1 := X.dst1
  have a0 := X.a0
  have a1 := X.a1
  have b0 := X.b0
  have b1 := X.b1
  have lE := X.lE
  have lg := X.lg
  have lp := X.lp
  have lc := X.lc
  have hpw : IntKind.i64.wrap (f.pc + 1) = f.pc + 1 := by rw [IntKind.wrap_i64]; omega
  have hfw : IntKind.i64.wrap (s.fuel - 1) = s.fuel - 1 := by have := hi.fuel0; have := hi.fuel1; rw [IntKind.wrap_i64]; omega
  have fn2 : f.fn.toNat < N := by omega
  have pc2 : f.pc.toNat < M := by omega
  have HEX := Lib.hid (show execSt p s fs f = topSt s fs ((f.put (insOf p f).dst (mk (insOf p f).op (f.reg (insOf p f).a) (f.reg (insOf p f).b) (insOf p f).imm)).at (f.pc + 1)) from by unfold execSt; rw [if_pos h1])
  clear X h
  obtain ⟨x, hx⟩ : ∃ x, insOf p f = x := ⟨_, rfl⟩
  rw [hx] at ga gb c0 c1 c2 c3 c4 dst0 dst1 a0 a1 b0 b1 h1
  rw [hx] at HEX
  have HXX := Lib.hid hx
  clear hx
  obtain ⟨op, dst, xa, xb, imm⟩ := x
  dsimp only at *
  go_enter Tryd.func50, Tryd.ntmps50
  go_wp2_with fail
  go_quiet (fail)
  obtain ⟨w1, hw1⟩ : ∃ w1, w.drewN nq = w1 := ⟨_, rfl⟩
  rw [hw1]
  have X1 := HX.out.drewN nq
  rw [hw1] at X1
  clear hw1 HX e19 e2 e22 g0 g1 ga gb d2 c0 c1 c2 c3 c4 lE lg lp lc
  have e19 := X1.e19
  have e2 := X1.e2
  have e22 := X1.e22
  have g0 := X1.g0
  have g1 := X1.g1
  have ga := X1.ga
  have gb := X1.gb
  have d2 := X1.d2
  have c0 := X1.c0
  have c1 := X1.c1
  have c2 := X1.c2
  have c3 := X1.c3
  have c4 := X1.c4
  rw [HXX.out] at ga gb c0 c1 c2 c3 c4
  have lE := X1.lE
  have lg := X1.lg
  have lp := X1.lp
  have lc := X1.lc
  have HT2 : Hid (∀ w2, (w1.alloc (.cells #[.int .i64 (insOf p f).op, .int .i64 (insOf p f).dst, .int .i64 (insOf p f).a, .int .i64 (insOf p f).b, .int .i64 (insOf p f).imm] 76)).drew = w2 → Top w0 w2 E pv s ES AS fs f k g cap w1.heap.size (insOf p f)) := Lib.hid (fun w2 h => by
    rw [← h]
    exact ⟨(X1.eng.alloc _).drew, hf, X1.hk, HR.out, HM.out, heap_alloc_new w1 _⟩)
  rw [HXX.out] at HT2
  clear X1
  dsimp only at ga gb c0 c1 c2 c3 c4
  go_wp2_with fail
  have KS := Lib.hid (fun (w' : World) (hb : Below w1.heap.size w1 w') => (⟨(hb.cell (p := ⟨E, 22, none⟩) lE).trans e22, (hb.cell (p := ⟨g, _, none⟩) lg).trans g0, (hb.cell (p := ⟨pg, _, none⟩) lp).trans d2, (hb.cell (p := ⟨g, _, none⟩) lg).trans g1, (hb.cell (p := ⟨cg, _, none⟩) lc).trans c0, (hb.cell (p := ⟨cg, _, none⟩) lc).trans c1, (hb.cell (p := ⟨cg, _, none⟩) lc).trans c2, (hb.cell (p := ⟨cg, _, none⟩) lc).trans c3, (hb.cell (p := ⟨cg, _, none⟩) lc).trans c4⟩ : w'.cell? ⟨E, 22, none⟩ = some (.slice (some ⟨pg, 0, none⟩) N PC) ∧ w'.cell? ⟨g, k * 14, none⟩ = some (.int .i64 f.fn) ∧ w'.cell? ⟨pg, f.fn.toNat * 3 + 2, none⟩ = some (.slice (some ⟨cg, 0, none⟩) M ccap) ∧ w'.cell? ⟨g, k * 14 + 1, none⟩ = some (.int .i64 f.pc) ∧ w'.cell? ⟨cg, f.pc.toNat * 5, none⟩ = some (.int .i64 op) ∧ w'.cell? ⟨cg, f.pc.toNat * 5 + 1, none⟩ = some (.int .i64 dst) ∧ w'.cell? ⟨cg, f.pc.toNat * 5 + 2, none⟩ = some (.int .i64 xa) ∧ w'.cell? ⟨cg, f.pc.toNat * 5 + 3, none⟩ = some (.int .i64 xb) ∧ w'.cell? ⟨cg, f.pc.toNat * 5 + 4, none⟩ = some (.int .i64 imm)))
  go_region_held3 (fun w' => w'.cell? ⟨E, 22, none⟩ = some (.slice (some ⟨pg, 0, none⟩) N PC) ∧ w'.cell? ⟨g, k * 14, none⟩ = some (.int .i64 f.fn) ∧ w'.cell? ⟨pg, f.fn.toNat * 3 + 2, none⟩ = some (.slice (some ⟨cg, 0, none⟩) M ccap) ∧ w'.cell? ⟨g, k * 14 + 1, none⟩ = some (.int .i64 f.pc) ∧ w'.cell? ⟨cg, f.pc.toNat * 5, none⟩ = some (.int .i64 op) ∧ w'.cell? ⟨cg, f.pc.toNat * 5 + 1, none⟩ = some (.int .i64 dst) ∧ w'.cell? ⟨cg, f.pc.toNat * 5 + 2, none⟩ = some (.int .i64 xa) ∧ w'.cell? ⟨cg, f.pc.toNat * 5 + 3, none⟩ = some (.int .i64 xb) ∧ w'.cell? ⟨cg, f.pc.toNat * 5 + 4, none⟩ = some (.int .i64 imm)) (exact KS.out _ (by have hb := Below.refl w1.heap.size w1; repeat (first | exact hb | exact Below.refl _ _ | apply Below.drew | apply below_drewN | refine Below.alloc ?_ (by first | omega | (simp; done) | (simp; omega)) _ | refine Below.setCell ?_ (by first | omega | (simp; done) | (simp; omega)) _))) (first | fail)
  all_goals (
    rename_i hHeld
    clear hHeld KS)
  obtain ⟨w2, hw2⟩ : ∃ w2, (w1.alloc (.cells #[.int .i64 op, .int .i64 dst, .int .i64 xa, .int .i64 xb, .int .i64 imm] 76)).drew = w2 := ⟨_, rfl⟩
  rw [hw2]
  have Tw2 := Lib.hid (HT2.out w2 hw2)
  clear hw2 HT2 e19 e2 e22 g0 g1 ga gb d2 c0 c1 c2 c3 c4 lE lg lp lc fn0 fn1 pc1 fn2 pc2 hk1 hk2 hk3 hfu'
  obtain ⟨I, hI⟩ : ∃ I, w1.heap.size = I := ⟨_, rfl⟩
  rw [hI] at Tw2 ⊢
  clear hI
  have i2 := (Tw2.out.iC 2).trans rfl
  have i3 := (Tw2.out.iC 3).trans rfl
  have ga := Tw2.out.cR a0 a1
  have gb := Tw2.out.cR b0 b1
  go_wp2_with fail
  go_quiet (fail)
  obtain ⟨w3, hw3⟩ : ∃ w3, w2.drewN nq = w3 := ⟨_, rfl⟩
  rw [hw3]
  have Tw3 : Hid (Top w0 w3 E pv s ES AS fs f k g cap I ⟨op, dst, xa, xb, imm⟩) := Lib.hid (by rw [← hw3]; exact Tw2.out.drewN nq)
  clear hw3 Tw2 i2 i3 ga gb
  have i0 := (Tw3.out.iC 0).trans rfl
  have i4 := (Tw3.out.iC 4).trans rfl
  have i1 := (Tw3.out.iC 1).trans rfl
  go_wp2_with (first | (go_at_call 55; refine (spure_any _ _ _ _ _).mono ?_; rintro e w' ⟨rfl, rfl⟩))
  obtain ⟨n, hn⟩ : ∃ n, mk op (f.reg xa) (f.reg xb) imm = n := ⟨_, rfl⟩
  rw [hn] at HEX ⊢
  clear hn
  go_still_tail 7, (by kernel_rfl)
  change wpList _ _ _ _ _ w3.drew
  have Tw4 := Lib.hid Tw3.out.drew
  obtain ⟨w4, hw4⟩ : ∃ w4, w3.drew = w4 := ⟨_, rfl⟩
  rw [hw4] at Tw4 ⊢
  clear hw4 Tw3
  have qd := Tw4.out.cR dst0 dst1
  have fd := Tw4.out.frz (k * 14 + 2 + dst.toNat)
  go_wp2_with (first
    | (obtain ⟨w5, hw5⟩ : ∃ w5, w4.setCell ⟨g, k * 14 + 2 + dst.toNat, none⟩ (.int .i64 n) = w5 := ⟨_, rfl⟩; rw [hw5]; have Tw5 := Lib.hid (Tw4.out.put dst0 dst1 n); rw [hw5] at Tw5; clear hw5 qd fd Tw4 i0 i1 i4; have qp : w5.cell? ⟨g, k * 14 + 1, none⟩ = some (.int .i64 f.pc) := Tw5.out.c1; have fp := Tw5.out.frz (k * 14 + 1))
    | (obtain ⟨w6, hw6⟩ : ∃ w6, w5.setCell ⟨g, k * 14 + 1, none⟩ (.int .i64 (f.pc + 1)) = w6 := ⟨_, rfl⟩; rw [hw6]; have Tw6 := Lib.hid (Tw5.out.pc (f.pc + 1)); rw [hw6] at Tw6; clear hw6 qp fp Tw5; have qf : w6.cell? ⟨E, 19, none⟩ = some (.int .i64 s.fuel) := Tw6.out.e19; have ff := Tw6.out.eng.frozen 19)
    | (obtain ⟨w7, hw7⟩ : ∃ w7, w6.setCell ⟨E, 19, none⟩ (.int .i64 (s.fuel - 1)) = w7 := ⟨_, rfl⟩; rw [hw7]; have Tw7 := Lib.hid (Tw6.out.fuel (s.fuel - 1)); rw [hw7] at Tw7; clear hw7 qf ff Tw6; skip))
  exact bodyPost_ret (v := .tuple #[]) (by simp [results, Tryd.results50, go_sem]) rfl ⟨rfl, _, _, _, by rw [HEX.out]; exact Tw7.out.eng⟩
set_option maxRecDepth 100000 in
set_option maxHeartbeats 8000000 in
theorem next_zero {p : List Fnc} (hp : Right p) {w0 w : World} {E : Nat} {pv FS ES AS : Value} {s : St} (h : EngAt w0 w E pv s FS ES AS) (hP : ProgAt w0 pv p) (hi : StInv p s) (hfu : s.fuel ≠ 0) {fs : List Fr} {f : Fr} (hf : s.frames = fs ++ [f]) (h1 : mkOk (insOf p f).op (f.reg (insOf p f).b) = false) (h2 : (insOf p f).op = 5) :
    Calls Tryd.prog 50 #[.pointer (some ⟨E, 0, none⟩)] w fun e w' => e = .returned (.tuple #[]) ∧ ∃ FS' ES' AS', EngAt w0 w' E pv (execSt p s fs f) FS' ES' AS' := by
  obtain ⟨k, g, cap, pg, N, PC, cg, M, ccap, X⟩ := nx_of hp h hP hi hf
  have HX := Lib.hid X
  have HM := Lib.hid hi.mem
  have HR : Hid (∀ x ∈ s.frames, x.regs.length = 12) := Lib.hid (fun x hx => (hi.fr x hx).regs)
  have hfs := X.fs0
  subst hfs
  have hfu' : (s.fuel == 0) = false := by simpa using hfu
  have hk1 : IntKind.i64.wrap (k : Int) = k := by have := X.k8; rw [IntKind.wrap_i64]; omega
  have hk2 : (k : Int) < k + 1 := by omega
  have hk3 : (0 : Int) ≤ k := by omega
  have e19 := X.e19
  have e2 := X.e2
  have e22 := X.e22
  have g0 := X.g0
  have g1 := X.g1
  have ga := X.ga
  have gb := X.gb
  have d2 := X.d2
  have c0 := X.c0
  have c1 := X.c1
  have c2 := X.c2
  have c3 := X.c3
  have c4 := X.c4
  have fn0 := X.fn0
  have fn1 := X.fn1
  have pc0 := X.pc0
  have pc1 := X.pc1
  have M40 := X.M40
  have dst0 := X.dst0
  have dst1 := X.dst1
  have a0 := X.a0
  have a1 := X.a1
  have b0 := X.b0
  have b1 := X.b1
  have lE := X.lE
  have lg := X.lg
  have lp := X.lp
  have lc := X.lc
  have hpw : IntKind.i64.wrap (f.pc + 1) = f.pc + 1 := by rw [IntKind.wrap_i64]; omega
  have hfw : IntKind.i64.wrap (s.fuel - 1) = s.fuel - 1 := by have := hi.fuel0; have := hi.fuel1; rw [IntKind.wrap_i64]; omega
  have fn2 : f.fn.toNat < N := by omega
  have pc2 : f.pc.toNat < M := by omega
  have HEX := Lib.hid (show execSt p s fs f = { s with status := 3 } from by unfold execSt; rw [if_neg (by simp [h1]), if_pos h2])
  clear X h
  obtain ⟨x, hx⟩ : ∃ x, insOf p f = x := ⟨_, rfl⟩
  rw [hx] at ga gb c0 c1 c2 c3 c4 dst0 dst1 a0 a1 b0 b1 h1 h2
  have HXX := Lib.hid hx
  clear hx
  obtain ⟨op, dst, xa, xb, imm⟩ := x
  dsimp only at *
  subst h2
  go_enter Tryd.func50, Tryd.ntmps50
  go_wp2_with fail
  go_quiet (fail)
  obtain ⟨w1, hw1⟩ : ∃ w1, w.drewN nq = w1 := ⟨_, rfl⟩
  rw [hw1]
  have X1 := HX.out.drewN nq
  rw [hw1] at X1
  clear hw1 HX e19 e2 e22 g0 g1 ga gb d2 c0 c1 c2 c3 c4 lE lg lp lc
  have e19 := X1.e19
  have e2 := X1.e2
  have e22 := X1.e22
  have g0 := X1.g0
  have g1 := X1.g1
  have ga := X1.ga
  have gb := X1.gb
  have d2 := X1.d2
  have c0 := X1.c0
  have c1 := X1.c1
  have c2 := X1.c2
  have c3 := X1.c3
  have c4 := X1.c4
  rw [HXX.out] at ga gb c0 c1 c2 c3 c4
  have lE := X1.lE
  have lg := X1.lg
  have lp := X1.lp
  have lc := X1.lc
  have HT2 : Hid (∀ w2, (w1.alloc (.cells #[.int .i64 (insOf p f).op, .int .i64 (insOf p f).dst, .int .i64 (insOf p f).a, .int .i64 (insOf p f).b, .int .i64 (insOf p f).imm] 76)).drew = w2 → Top w0 w2 E pv s ES AS fs f k g cap w1.heap.size (insOf p f)) := Lib.hid (fun w2 h => by
    rw [← h]
    exact ⟨(X1.eng.alloc _).drew, hf, X1.hk, HR.out, HM.out, heap_alloc_new w1 _⟩)
  rw [HXX.out] at HT2
  clear X1
  dsimp only at ga gb c0 c1 c2 c3 c4
  go_wp2_with fail
  have KS := Lib.hid (fun (w' : World) (hb : Below w1.heap.size w1 w') => (⟨(hb.cell (p := ⟨E, 22, none⟩) lE).trans e22, (hb.cell (p := ⟨g, _, none⟩) lg).trans g0, (hb.cell (p := ⟨pg, _, none⟩) lp).trans d2, (hb.cell (p := ⟨g, _, none⟩) lg).trans g1, (hb.cell (p := ⟨cg, _, none⟩) lc).trans c0, (hb.cell (p := ⟨cg, _, none⟩) lc).trans c1, (hb.cell (p := ⟨cg, _, none⟩) lc).trans c2, (hb.cell (p := ⟨cg, _, none⟩) lc).trans c3, (hb.cell (p := ⟨cg, _, none⟩) lc).trans c4⟩ : w'.cell? ⟨E, 22, none⟩ = some (.slice (some ⟨pg, 0, none⟩) N PC) ∧ w'.cell? ⟨g, k * 14, none⟩ = some (.int .i64 f.fn) ∧ w'.cell? ⟨pg, f.fn.toNat * 3 + 2, none⟩ = some (.slice (some ⟨cg, 0, none⟩) M ccap) ∧ w'.cell? ⟨g, k * 14 + 1, none⟩ = some (.int .i64 f.pc) ∧ w'.cell? ⟨cg, f.pc.toNat * 5, none⟩ = some (.int .i64 5) ∧ w'.cell? ⟨cg, f.pc.toNat * 5 + 1, none⟩ = some (.int .i64 dst) ∧ w'.cell? ⟨cg, f.pc.toNat * 5 + 2, none⟩ = some (.int .i64 xa) ∧ w'.cell? ⟨cg, f.pc.toNat * 5 + 3, none⟩ = some (.int .i64 xb) ∧ w'.cell? ⟨cg, f.pc.toNat * 5 + 4, none⟩ = some (.int .i64 imm)))
  go_region_held3 (fun w' => w'.cell? ⟨E, 22, none⟩ = some (.slice (some ⟨pg, 0, none⟩) N PC) ∧ w'.cell? ⟨g, k * 14, none⟩ = some (.int .i64 f.fn) ∧ w'.cell? ⟨pg, f.fn.toNat * 3 + 2, none⟩ = some (.slice (some ⟨cg, 0, none⟩) M ccap) ∧ w'.cell? ⟨g, k * 14 + 1, none⟩ = some (.int .i64 f.pc) ∧ w'.cell? ⟨cg, f.pc.toNat * 5, none⟩ = some (.int .i64 5) ∧ w'.cell? ⟨cg, f.pc.toNat * 5 + 1, none⟩ = some (.int .i64 dst) ∧ w'.cell? ⟨cg, f.pc.toNat * 5 + 2, none⟩ = some (.int .i64 xa) ∧ w'.cell? ⟨cg, f.pc.toNat * 5 + 3, none⟩ = some (.int .i64 xb) ∧ w'.cell? ⟨cg, f.pc.toNat * 5 + 4, none⟩ = some (.int .i64 imm)) (exact KS.out _ (by have hb := Below.refl w1.heap.size w1; repeat (first | exact hb | exact Below.refl _ _ | apply Below.drew | apply below_drewN | refine Below.alloc ?_ (by first | omega | (simp; done) | (simp; omega)) _ | refine Below.setCell ?_ (by first | omega | (simp; done) | (simp; omega)) _))) (first | fail)
  all_goals (
    rename_i hHeld
    clear hHeld KS)
  obtain ⟨w2, hw2⟩ : ∃ w2, (w1.alloc (.cells #[.int .i64 5, .int .i64 dst, .int .i64 xa, .int .i64 xb, .int .i64 imm] 76)).drew = w2 := ⟨_, rfl⟩
  rw [hw2]
  have Tw2 := Lib.hid (HT2.out w2 hw2)
  clear hw2 HT2 e19 e2 e22 g0 g1 ga gb d2 c0 c1 c2 c3 c4 lE lg lp lc fn0 fn1 pc1 fn2 pc2 hk1 hk2 hk3 hfu'
  obtain ⟨I, hI⟩ : ∃ I, w1.heap.size = I := ⟨_, rfl⟩
  rw [hI] at Tw2 ⊢
  clear hI
  have i2 := (Tw2.out.iC 2).trans rfl
  have i3 := (Tw2.out.iC 3).trans rfl
  have ga := Tw2.out.cR a0 a1
  have gb := Tw2.out.cR b0 b1
  go_wp2_with fail
  go_quiet (fail)
  obtain ⟨w3, hw3⟩ : ∃ w3, w2.drewN nq = w3 := ⟨_, rfl⟩
  rw [hw3]
  have Tw3 : Hid (Top w0 w3 E pv s ES AS fs f k g cap I ⟨5, dst, xa, xb, imm⟩) := Lib.hid (by rw [← hw3]; exact Tw2.out.drewN nq)
  clear hw3 Tw2 i2 i3 ga gb
  have i0 := (Tw3.out.iC 0).trans rfl
  have i4 := (Tw3.out.iC 4).trans rfl
  have i1 := (Tw3.out.iC 1).trans rfl
  go_wp2_with (first | (go_at_call 55; refine (spure_any _ _ _ _ _).mono ?_; rintro e w' ⟨rfl, rfl⟩) | (go_at_call 54; go_must (refine (halt_any Tw3.out.eng HM.out 3).mono ?_; rintro e w4 ⟨rfl, h4⟩)))
  exact bodyPost_ret (v := .tuple #[]) (by simp [results, Tryd.results50, go_sem]) rfl ⟨rfl, _, _, _, by rw [HEX.out]; exact h4⟩
set_option maxRecDepth 100000 in
set_option maxHeartbeats 8000000 in
theorem next_out13a {p : List Fnc} (hp : Right p) {w0 w : World} {E : Nat} {pv FS ES AS : Value} {s : St} (h : EngAt w0 w E pv s FS ES AS) (hP : ProgAt w0 pv p) (hi : StInv p s) (hfu : s.fuel ≠ 0) {fs : List Fr} {f : Fr} (hf : s.frames = fs ++ [f]) (h1 : mkOk (insOf p f).op (f.reg (insOf p f).b) = false) (h2 : (insOf p f).op = 13) (h3 : f.reg (insOf p f).a < 0) :
    Calls Tryd.prog 50 #[.pointer (some ⟨E, 0, none⟩)] w fun e w' => e = .returned (.tuple #[]) ∧ ∃ FS' ES' AS', EngAt w0 w' E pv (execSt p s fs f) FS' ES' AS' := by
  obtain ⟨k, g, cap, pg, N, PC, cg, M, ccap, X⟩ := nx_of hp h hP hi hf
  have HX := Lib.hid X
  have HM := Lib.hid hi.mem
  have HR : Hid (∀ x ∈ s.frames, x.regs.length = 12) := Lib.hid (fun x hx => (hi.fr x hx).regs)
  have hfs := X.fs0
  subst hfs
  have hfu' : (s.fuel == 0) = false := by simpa using hfu
  have hk1 : IntKind.i64.wrap (k : Int) = k := by have := X.k8; rw [IntKind.wrap_i64]; omega
  have hk2 : (k : Int) < k + 1 := by omega
  have hk3 : (0 : Int) ≤ k := by omega
  have e19 := X.e19
  have e2 := X.e2
  have e22 := X.e22
  have g0 := X.g0
  have g1 := X.g1
  have ga := X.ga
  have gb := X.gb
  have d2 := X.d2
  have c0 := X.c0
  have c1 := X.c1
  have c2 := X.c2
  have c3 := X.c3
  have c4 := X.c4
  have fn0 := X.fn0
  have fn1 := X.fn1
  have pc0 := X.pc0
  have pc1 := X.pc1
  have M40 := X.M40
  have dst0 := X.dst0
  have dst1 := X.dst1
  have a0 := X.a0
  have a1 := X.a1
  have b0 := X.b0
  have b1 := X.b1
  have lE := X.lE
  have lg := X.lg
  have lp := X.lp
  have lc := X.lc
  have hpw : IntKind.i64.wrap (f.pc + 1) = f.pc + 1 := by rw [IntKind.wrap_i64]; omega
  have hfw : IntKind.i64.wrap (s.fuel - 1) = s.fuel - 1 := by have := hi.fuel0; have := hi.fuel1; rw [IntKind.wrap_i64]; omega
  have fn2 : f.fn.toNat < N := by omega
  have pc2 : f.pc.toNat < M := by omega
  have HEX := Lib.hid (show execSt p s fs f = { s with status := 4 } from by unfold execSt; rw [if_neg (by simp [h1]), if_neg (by omega), if_pos ⟨.inl h2, Or.inl h3⟩])
  clear X h
  obtain ⟨x, hx⟩ : ∃ x, insOf p f = x := ⟨_, rfl⟩
  rw [hx] at ga gb c0 c1 c2 c3 c4 dst0 dst1 a0 a1 b0 b1 h1 h2 h3
  have HXX := Lib.hid hx
  clear hx
  obtain ⟨op, dst, xa, xb, imm⟩ := x
  dsimp only at *
  subst h2
  go_enter Tryd.func50, Tryd.ntmps50
  go_wp2_with fail
  go_quiet (fail)
  obtain ⟨w1, hw1⟩ : ∃ w1, w.drewN nq = w1 := ⟨_, rfl⟩
  rw [hw1]
  have X1 := HX.out.drewN nq
  rw [hw1] at X1
  clear hw1 HX e19 e2 e22 g0 g1 ga gb d2 c0 c1 c2 c3 c4 lE lg lp lc
  have e19 := X1.e19
  have e2 := X1.e2
  have e22 := X1.e22
  have g0 := X1.g0
  have g1 := X1.g1
  have ga := X1.ga
  have gb := X1.gb
  have d2 := X1.d2
  have c0 := X1.c0
  have c1 := X1.c1
  have c2 := X1.c2
  have c3 := X1.c3
  have c4 := X1.c4
  rw [HXX.out] at ga gb c0 c1 c2 c3 c4
  have lE := X1.lE
  have lg := X1.lg
  have lp := X1.lp
  have lc := X1.lc
  have HT2 : Hid (∀ w2, (w1.alloc (.cells #[.int .i64 (insOf p f).op, .int .i64 (insOf p f).dst, .int .i64 (insOf p f).a, .int .i64 (insOf p f).b, .int .i64 (insOf p f).imm] 76)).drew = w2 → Top w0 w2 E pv s ES AS fs f k g cap w1.heap.size (insOf p f)) := Lib.hid (fun w2 h => by
    rw [← h]
    exact ⟨(X1.eng.alloc _).drew, hf, X1.hk, HR.out, HM.out, heap_alloc_new w1 _⟩)
  rw [HXX.out] at HT2
  clear X1
  dsimp only at ga gb c0 c1 c2 c3 c4
  go_wp2_with fail
  have KS := Lib.hid (fun (w' : World) (hb : Below w1.heap.size w1 w') => (⟨(hb.cell (p := ⟨E, 22, none⟩) lE).trans e22, (hb.cell (p := ⟨g, _, none⟩) lg).trans g0, (hb.cell (p := ⟨pg, _, none⟩) lp).trans d2, (hb.cell (p := ⟨g, _, none⟩) lg).trans g1, (hb.cell (p := ⟨cg, _, none⟩) lc).trans c0, (hb.cell (p := ⟨cg, _, none⟩) lc).trans c1, (hb.cell (p := ⟨cg, _, none⟩) lc).trans c2, (hb.cell (p := ⟨cg, _, none⟩) lc).trans c3, (hb.cell (p := ⟨cg, _, none⟩) lc).trans c4⟩ : w'.cell? ⟨E, 22, none⟩ = some (.slice (some ⟨pg, 0, none⟩) N PC) ∧ w'.cell? ⟨g, k * 14, none⟩ = some (.int .i64 f.fn) ∧ w'.cell? ⟨pg, f.fn.toNat * 3 + 2, none⟩ = some (.slice (some ⟨cg, 0, none⟩) M ccap) ∧ w'.cell? ⟨g, k * 14 + 1, none⟩ = some (.int .i64 f.pc) ∧ w'.cell? ⟨cg, f.pc.toNat * 5, none⟩ = some (.int .i64 13) ∧ w'.cell? ⟨cg, f.pc.toNat * 5 + 1, none⟩ = some (.int .i64 dst) ∧ w'.cell? ⟨cg, f.pc.toNat * 5 + 2, none⟩ = some (.int .i64 xa) ∧ w'.cell? ⟨cg, f.pc.toNat * 5 + 3, none⟩ = some (.int .i64 xb) ∧ w'.cell? ⟨cg, f.pc.toNat * 5 + 4, none⟩ = some (.int .i64 imm)))
  go_region_held3 (fun w' => w'.cell? ⟨E, 22, none⟩ = some (.slice (some ⟨pg, 0, none⟩) N PC) ∧ w'.cell? ⟨g, k * 14, none⟩ = some (.int .i64 f.fn) ∧ w'.cell? ⟨pg, f.fn.toNat * 3 + 2, none⟩ = some (.slice (some ⟨cg, 0, none⟩) M ccap) ∧ w'.cell? ⟨g, k * 14 + 1, none⟩ = some (.int .i64 f.pc) ∧ w'.cell? ⟨cg, f.pc.toNat * 5, none⟩ = some (.int .i64 13) ∧ w'.cell? ⟨cg, f.pc.toNat * 5 + 1, none⟩ = some (.int .i64 dst) ∧ w'.cell? ⟨cg, f.pc.toNat * 5 + 2, none⟩ = some (.int .i64 xa) ∧ w'.cell? ⟨cg, f.pc.toNat * 5 + 3, none⟩ = some (.int .i64 xb) ∧ w'.cell? ⟨cg, f.pc.toNat * 5 + 4, none⟩ = some (.int .i64 imm)) (exact KS.out _ (by have hb := Below.refl w1.heap.size w1; repeat (first | exact hb | exact Below.refl _ _ | apply Below.drew | apply below_drewN | refine Below.alloc ?_ (by first | omega | (simp; done) | (simp; omega)) _ | refine Below.setCell ?_ (by first | omega | (simp; done) | (simp; omega)) _))) (first | fail)
  all_goals (
    rename_i hHeld
    clear hHeld KS)
  obtain ⟨w2, hw2⟩ : ∃ w2, (w1.alloc (.cells #[.int .i64 13, .int .i64 dst, .int .i64 xa, .int .i64 xb, .int .i64 imm] 76)).drew = w2 := ⟨_, rfl⟩
  rw [hw2]
  have Tw2 := Lib.hid (HT2.out w2 hw2)
  clear hw2 HT2 e19 e2 e22 g0 g1 ga gb d2 c0 c1 c2 c3 c4 lE lg lp lc fn0 fn1 pc1 fn2 pc2 hk1 hk2 hk3 hfu'
  obtain ⟨I, hI⟩ : ∃ I, w1.heap.size = I := ⟨_, rfl⟩
  rw [hI] at Tw2 ⊢
  clear hI
  have i2 := (Tw2.out.iC 2).trans rfl
  have i3 := (Tw2.out.iC 3).trans rfl
  have ga := Tw2.out.cR a0 a1
  have gb := Tw2.out.cR b0 b1
  go_wp2_with fail
  go_quiet (fail)
  obtain ⟨w3, hw3⟩ : ∃ w3, w2.drewN nq = w3 := ⟨_, rfl⟩
  rw [hw3]
  have Tw3 : Hid (Top w0 w3 E pv s ES AS fs f k g cap I ⟨13, dst, xa, xb, imm⟩) := Lib.hid (by rw [← hw3]; exact Tw2.out.drewN nq)
  clear hw3 Tw2 i2 i3 ga gb
  have i0 := (Tw3.out.iC 0).trans rfl
  have i4 := (Tw3.out.iC 4).trans rfl
  have i1 := (Tw3.out.iC 1).trans rfl
  go_wp2_with (first | (go_at_call 55; refine (spure_any _ _ _ _ _).mono ?_; rintro e w' ⟨rfl, rfl⟩) | (go_at_call 54; go_must (refine (halt_any Tw3.out.eng HM.out 4).mono ?_; rintro e w4 ⟨rfl, h4⟩)))
  exact bodyPost_ret (v := .tuple #[]) (by simp [results, Tryd.results50, go_sem]) rfl ⟨rfl, _, _, _, by rw [HEX.out]; exact h4⟩
set_option maxRecDepth 100000 in
set_option maxHeartbeats 8000000 in
theorem next_out13b {p : List Fnc} (hp : Right p) {w0 w : World} {E : Nat} {pv FS ES AS : Value} {s : St} (h : EngAt w0 w E pv s FS ES AS) (hP : ProgAt w0 pv p) (hi : StInv p s) (hfu : s.fuel ≠ 0) {fs : List Fr} {f : Fr} (hf : s.frames = fs ++ [f]) (h1 : mkOk (insOf p f).op (f.reg (insOf p f).b) = false) (h2 : (insOf p f).op = 13) (h3 : 16 ≤ f.reg (insOf p f).a) :
    Calls Tryd.prog 50 #[.pointer (some ⟨E, 0, none⟩)] w fun e w' => e = .returned (.tuple #[]) ∧ ∃ FS' ES' AS', EngAt w0 w' E pv (execSt p s fs f) FS' ES' AS' := by
  obtain ⟨k, g, cap, pg, N, PC, cg, M, ccap, X⟩ := nx_of hp h hP hi hf
  have HX := Lib.hid X
  have HM := Lib.hid hi.mem
  have HR : Hid (∀ x ∈ s.frames, x.regs.length = 12) := Lib.hid (fun x hx => (hi.fr x hx).regs)
  have hfs := X.fs0
  subst hfs
  have hfu' : (s.fuel == 0) = false := by simpa using hfu
  have hk1 : IntKind.i64.wrap (k : Int) = k := by have := X.k8; rw [IntKind.wrap_i64]; omega
  have hk2 : (k : Int) < k + 1 := by omega
  have hk3 : (0 : Int) ≤ k := by omega
  have e19 := X.e19
  have e2 := X.e2
  have e22 := X.e22
  have g0 := X.g0
  have g1 := X.g1
  have ga := X.ga
  have gb := X.gb
  have d2 := X.d2
  have c0 := X.c0
  have c1 := X.c1
  have c2 := X.c2
  have c3 := X.c3
  have c4 := X.c4
  have fn0 := X.fn0
  have fn1 := X.fn1
  have pc0 := X.pc0
  have pc1 := X.pc1
  have M40 := X.M40
  have dst0 := X.dst0
  have dst1 := X.dst1
  have a0 := X.a0
  have a1 := X.a1
  have b0 := X.b0
  have b1 := X.b1
  have lE := X.lE
  have lg := X.lg
  have lp := X.lp
  have lc := X.lc
  have hpw : IntKind.i64.wrap (f.pc + 1) = f.pc + 1 := by rw [IntKind.wrap_i64]; omega
  have hfw : IntKind.i64.wrap (s.fuel - 1) = s.fuel - 1 := by have := hi.fuel0; have := hi.fuel1; rw [IntKind.wrap_i64]; omega
  have fn2 : f.fn.toNat < N := by omega
  have pc2 : f.pc.toNat < M := by omega
  have HEX := Lib.hid (show execSt p s fs f = { s with status := 4 } from by unfold execSt; rw [if_neg (by simp [h1]), if_neg (by omega), if_pos ⟨.inl h2, Or.inr h3⟩])
  clear X h
  obtain ⟨x, hx⟩ : ∃ x, insOf p f = x := ⟨_, rfl⟩
  rw [hx] at ga gb c0 c1 c2 c3 c4 dst0 dst1 a0 a1 b0 b1 h1 h2 h3
  have HXX := Lib.hid hx
  clear hx
  obtain ⟨op, dst, xa, xb, imm⟩ := x
  dsimp only at *
  subst h2
  go_enter Tryd.func50, Tryd.ntmps50
  go_wp2_with fail
  go_quiet (fail)
  obtain ⟨w1, hw1⟩ : ∃ w1, w.drewN nq = w1 := ⟨_, rfl⟩
  rw [hw1]
  have X1 := HX.out.drewN nq
  rw [hw1] at X1
  clear hw1 HX e19 e2 e22 g0 g1 ga gb d2 c0 c1 c2 c3 c4 lE lg lp lc
  have e19 := X1.e19
  have e2 := X1.e2
  have e22 := X1.e22
  have g0 := X1.g0
  have g1 := X1.g1
  have ga := X1.ga
  have gb := X1.gb
  have d2 := X1.d2
  have c0 := X1.c0
  have c1 := X1.c1
  have c2 := X1.c2
  have c3 := X1.c3
  have c4 := X1.c4
  rw [HXX.out] at ga gb c0 c1 c2 c3 c4
  have lE := X1.lE
  have lg := X1.lg
  have lp := X1.lp
  have lc := X1.lc
  have HT2 : Hid (∀ w2, (w1.alloc (.cells #[.int .i64 (insOf p f).op, .int .i64 (insOf p f).dst, .int .i64 (insOf p f).a, .int .i64 (insOf p f).b, .int .i64 (insOf p f).imm] 76)).drew = w2 → Top w0 w2 E pv s ES AS fs f k g cap w1.heap.size (insOf p f)) := Lib.hid (fun w2 h => by
    rw [← h]
    exact ⟨(X1.eng.alloc _).drew, hf, X1.hk, HR.out, HM.out, heap_alloc_new w1 _⟩)
  rw [HXX.out] at HT2
  clear X1
  dsimp only at ga gb c0 c1 c2 c3 c4
  go_wp2_with fail
  have KS := Lib.hid (fun (w' : World) (hb : Below w1.heap.size w1 w') => (⟨(hb.cell (p := ⟨E, 22, none⟩) lE).trans e22, (hb.cell (p := ⟨g, _, none⟩) lg).trans g0, (hb.cell (p := ⟨pg, _, none⟩) lp).trans d2, (hb.cell (p := ⟨g, _, none⟩) lg).trans g1, (hb.cell (p := ⟨cg, _, none⟩) lc).trans c0, (hb.cell (p := ⟨cg, _, none⟩) lc).trans c1, (hb.cell (p := ⟨cg, _, none⟩) lc).trans c2, (hb.cell (p := ⟨cg, _, none⟩) lc).trans c3, (hb.cell (p := ⟨cg, _, none⟩) lc).trans c4⟩ : w'.cell? ⟨E, 22, none⟩ = some (.slice (some ⟨pg, 0, none⟩) N PC) ∧ w'.cell? ⟨g, k * 14, none⟩ = some (.int .i64 f.fn) ∧ w'.cell? ⟨pg, f.fn.toNat * 3 + 2, none⟩ = some (.slice (some ⟨cg, 0, none⟩) M ccap) ∧ w'.cell? ⟨g, k * 14 + 1, none⟩ = some (.int .i64 f.pc) ∧ w'.cell? ⟨cg, f.pc.toNat * 5, none⟩ = some (.int .i64 13) ∧ w'.cell? ⟨cg, f.pc.toNat * 5 + 1, none⟩ = some (.int .i64 dst) ∧ w'.cell? ⟨cg, f.pc.toNat * 5 + 2, none⟩ = some (.int .i64 xa) ∧ w'.cell? ⟨cg, f.pc.toNat * 5 + 3, none⟩ = some (.int .i64 xb) ∧ w'.cell? ⟨cg, f.pc.toNat * 5 + 4, none⟩ = some (.int .i64 imm)))
  go_region_held3 (fun w' => w'.cell? ⟨E, 22, none⟩ = some (.slice (some ⟨pg, 0, none⟩) N PC) ∧ w'.cell? ⟨g, k * 14, none⟩ = some (.int .i64 f.fn) ∧ w'.cell? ⟨pg, f.fn.toNat * 3 + 2, none⟩ = some (.slice (some ⟨cg, 0, none⟩) M ccap) ∧ w'.cell? ⟨g, k * 14 + 1, none⟩ = some (.int .i64 f.pc) ∧ w'.cell? ⟨cg, f.pc.toNat * 5, none⟩ = some (.int .i64 13) ∧ w'.cell? ⟨cg, f.pc.toNat * 5 + 1, none⟩ = some (.int .i64 dst) ∧ w'.cell? ⟨cg, f.pc.toNat * 5 + 2, none⟩ = some (.int .i64 xa) ∧ w'.cell? ⟨cg, f.pc.toNat * 5 + 3, none⟩ = some (.int .i64 xb) ∧ w'.cell? ⟨cg, f.pc.toNat * 5 + 4, none⟩ = some (.int .i64 imm)) (exact KS.out _ (by have hb := Below.refl w1.heap.size w1; repeat (first | exact hb | exact Below.refl _ _ | apply Below.drew | apply below_drewN | refine Below.alloc ?_ (by first | omega | (simp; done) | (simp; omega)) _ | refine Below.setCell ?_ (by first | omega | (simp; done) | (simp; omega)) _))) (first | fail)
  all_goals (
    rename_i hHeld
    clear hHeld KS)
  obtain ⟨w2, hw2⟩ : ∃ w2, (w1.alloc (.cells #[.int .i64 13, .int .i64 dst, .int .i64 xa, .int .i64 xb, .int .i64 imm] 76)).drew = w2 := ⟨_, rfl⟩
  rw [hw2]
  have Tw2 := Lib.hid (HT2.out w2 hw2)
  clear hw2 HT2 e19 e2 e22 g0 g1 ga gb d2 c0 c1 c2 c3 c4 lE lg lp lc fn0 fn1 pc1 fn2 pc2 hk1 hk2 hk3 hfu'
  obtain ⟨I, hI⟩ : ∃ I, w1.heap.size = I := ⟨_, rfl⟩
  rw [hI] at Tw2 ⊢
  clear hI
  have i2 := (Tw2.out.iC 2).trans rfl
  have i3 := (Tw2.out.iC 3).trans rfl
  have ga := Tw2.out.cR a0 a1
  have gb := Tw2.out.cR b0 b1
  go_wp2_with fail
  go_quiet (fail)
  obtain ⟨w3, hw3⟩ : ∃ w3, w2.drewN nq = w3 := ⟨_, rfl⟩
  rw [hw3]
  have Tw3 : Hid (Top w0 w3 E pv s ES AS fs f k g cap I ⟨13, dst, xa, xb, imm⟩) := Lib.hid (by rw [← hw3]; exact Tw2.out.drewN nq)
  clear hw3 Tw2 i2 i3 ga gb
  have i0 := (Tw3.out.iC 0).trans rfl
  have i4 := (Tw3.out.iC 4).trans rfl
  have i1 := (Tw3.out.iC 1).trans rfl
  go_wp2_with (first | (go_at_call 55; refine (spure_any _ _ _ _ _).mono ?_; rintro e w' ⟨rfl, rfl⟩) | (go_at_call 54; go_must (refine (halt_any Tw3.out.eng HM.out 4).mono ?_; rintro e w4 ⟨rfl, h4⟩)))
  exact bodyPost_ret (v := .tuple #[]) (by simp [results, Tryd.results50, go_sem]) rfl ⟨rfl, _, _, _, by rw [HEX.out]; exact h4⟩
set_option maxRecDepth 100000 in
set_option maxHeartbeats 8000000 in
theorem next_out14a {p : List Fnc} (hp : Right p) {w0 w : World} {E : Nat} {pv FS ES AS : Value} {s : St} (h : EngAt w0 w E pv s FS ES AS) (hP : ProgAt w0 pv p) (hi : StInv p s) (hfu : s.fuel ≠ 0) {fs : List Fr} {f : Fr} (hf : s.frames = fs ++ [f]) (h1 : mkOk (insOf p f).op (f.reg (insOf p f).b) = false) (h2 : (insOf p f).op = 14) (h3 : f.reg (insOf p f).a < 0) :
    Calls Tryd.prog 50 #[.pointer (some ⟨E, 0, none⟩)] w fun e w' => e = .returned (.tuple #[]) ∧ ∃ FS' ES' AS', EngAt w0 w' E pv (execSt p s fs f) FS' ES' AS' := by
  obtain ⟨k, g, cap, pg, N, PC, cg, M, ccap, X⟩ := nx_of hp h hP hi hf
  have HX := Lib.hid X
  have HM := Lib.hid hi.mem
  have HR : Hid (∀ x ∈ s.frames, x.regs.length = 12) := Lib.hid (fun x hx => (hi.fr x hx).regs)
  have hfs := X.fs0
  subst hfs
  have hfu' : (s.fuel == 0) = false := by simpa using hfu
  have hk1 : IntKind.i64.wrap (k : Int) = k := by have := X.k8; rw [IntKind.wrap_i64]; omega
  have hk2 : (k : Int) < k + 1 := by omega
  have hk3 : (0 : Int) ≤ k := by omega
  have e19 := X.e19
  have e2 := X.e2
  have e22 := X.e22
  have g0 := X.g0
  have g1 := X.g1
  have ga := X.ga
  have gb := X.gb
  have d2 := X.d2
  have c0 := X.c0
  have c1 := X.c1
  have c2 := X.c2
  have c3 := X.c3
  have c4 := X.c4
  have fn0 := X.fn0
  have fn1 := X.fn1
  have pc0 := X.pc0
  have pc1 := X.pc1
  have M40 := X.M40
  have dst0 := X.dst0
  have dst1 := X.dst1
  have a0 := X.a0
  have a1 := X.a1
  have b0 := X.b0
  have b1 := X.b1
  have lE := X.lE
  have lg := X.lg
  have lp := X.lp
  have lc := X.lc
  have hpw : IntKind.i64.wrap (f.pc + 1) = f.pc + 1 := by rw [IntKind.wrap_i64]; omega
  have hfw : IntKind.i64.wrap (s.fuel - 1) = s.fuel - 1 := by have := hi.fuel0; have := hi.fuel1; rw [IntKind.wrap_i64]; omega
  have fn2 : f.fn.toNat < N := by omega
  have pc2 : f.pc.toNat < M := by omega
  have HEX := Lib.hid (show execSt p s fs f = { s with status := 4 } from by unfold execSt; rw [if_neg (by simp [h1]), if_neg (by omega), if_pos ⟨.inr h2, Or.inl h3⟩])
  clear X h
  obtain ⟨x, hx⟩ : ∃ x, insOf p f = x := ⟨_, rfl⟩
  rw [hx] at ga gb c0 c1 c2 c3 c4 dst0 dst1 a0 a1 b0 b1 h1 h2 h3
  have HXX := Lib.hid hx
  clear hx
  obtain ⟨op, dst, xa, xb, imm⟩ := x
  dsimp only at *
  subst h2
  go_enter Tryd.func50, Tryd.ntmps50
  go_wp2_with fail
  go_quiet (fail)
  obtain ⟨w1, hw1⟩ : ∃ w1, w.drewN nq = w1 := ⟨_, rfl⟩
  rw [hw1]
  have X1 := HX.out.drewN nq
  rw [hw1] at X1
  clear hw1 HX e19 e2 e22 g0 g1 ga gb d2 c0 c1 c2 c3 c4 lE lg lp lc
  have e19 := X1.e19
  have e2 := X1.e2
  have e22 := X1.e22
  have g0 := X1.g0
  have g1 := X1.g1
  have ga := X1.ga
  have gb := X1.gb
  have d2 := X1.d2
  have c0 := X1.c0
  have c1 := X1.c1
  have c2 := X1.c2
  have c3 := X1.c3
  have c4 := X1.c4
  rw [HXX.out] at ga gb c0 c1 c2 c3 c4
  have lE := X1.lE
  have lg := X1.lg
  have lp := X1.lp
  have lc := X1.lc
  have HT2 : Hid (∀ w2, (w1.alloc (.cells #[.int .i64 (insOf p f).op, .int .i64 (insOf p f).dst, .int .i64 (insOf p f).a, .int .i64 (insOf p f).b, .int .i64 (insOf p f).imm] 76)).drew = w2 → Top w0 w2 E pv s ES AS fs f k g cap w1.heap.size (insOf p f)) := Lib.hid (fun w2 h => by
    rw [← h]
    exact ⟨(X1.eng.alloc _).drew, hf, X1.hk, HR.out, HM.out, heap_alloc_new w1 _⟩)
  rw [HXX.out] at HT2
  clear X1
  dsimp only at ga gb c0 c1 c2 c3 c4
  go_wp2_with fail
  have KS := Lib.hid (fun (w' : World) (hb : Below w1.heap.size w1 w') => (⟨(hb.cell (p := ⟨E, 22, none⟩) lE).trans e22, (hb.cell (p := ⟨g, _, none⟩) lg).trans g0, (hb.cell (p := ⟨pg, _, none⟩) lp).trans d2, (hb.cell (p := ⟨g, _, none⟩) lg).trans g1, (hb.cell (p := ⟨cg, _, none⟩) lc).trans c0, (hb.cell (p := ⟨cg, _, none⟩) lc).trans c1, (hb.cell (p := ⟨cg, _, none⟩) lc).trans c2, (hb.cell (p := ⟨cg, _, none⟩) lc).trans c3, (hb.cell (p := ⟨cg, _, none⟩) lc).trans c4⟩ : w'.cell? ⟨E, 22, none⟩ = some (.slice (some ⟨pg, 0, none⟩) N PC) ∧ w'.cell? ⟨g, k * 14, none⟩ = some (.int .i64 f.fn) ∧ w'.cell? ⟨pg, f.fn.toNat * 3 + 2, none⟩ = some (.slice (some ⟨cg, 0, none⟩) M ccap) ∧ w'.cell? ⟨g, k * 14 + 1, none⟩ = some (.int .i64 f.pc) ∧ w'.cell? ⟨cg, f.pc.toNat * 5, none⟩ = some (.int .i64 14) ∧ w'.cell? ⟨cg, f.pc.toNat * 5 + 1, none⟩ = some (.int .i64 dst) ∧ w'.cell? ⟨cg, f.pc.toNat * 5 + 2, none⟩ = some (.int .i64 xa) ∧ w'.cell? ⟨cg, f.pc.toNat * 5 + 3, none⟩ = some (.int .i64 xb) ∧ w'.cell? ⟨cg, f.pc.toNat * 5 + 4, none⟩ = some (.int .i64 imm)))
  go_region_held3 (fun w' => w'.cell? ⟨E, 22, none⟩ = some (.slice (some ⟨pg, 0, none⟩) N PC) ∧ w'.cell? ⟨g, k * 14, none⟩ = some (.int .i64 f.fn) ∧ w'.cell? ⟨pg, f.fn.toNat * 3 + 2, none⟩ = some (.slice (some ⟨cg, 0, none⟩) M ccap) ∧ w'.cell? ⟨g, k * 14 + 1, none⟩ = some (.int .i64 f.pc) ∧ w'.cell? ⟨cg, f.pc.toNat * 5, none⟩ = some (.int .i64 14) ∧ w'.cell? ⟨cg, f.pc.toNat * 5 + 1, none⟩ = some (.int .i64 dst) ∧ w'.cell? ⟨cg, f.pc.toNat * 5 + 2, none⟩ = some (.int .i64 xa) ∧ w'.cell? ⟨cg, f.pc.toNat * 5 + 3, none⟩ = some (.int .i64 xb) ∧ w'.cell? ⟨cg, f.pc.toNat * 5 + 4, none⟩ = some (.int .i64 imm)) (exact KS.out _ (by have hb := Below.refl w1.heap.size w1; repeat (first | exact hb | exact Below.refl _ _ | apply Below.drew | apply below_drewN | refine Below.alloc ?_ (by first | omega | (simp; done) | (simp; omega)) _ | refine Below.setCell ?_ (by first | omega | (simp; done) | (simp; omega)) _))) (first | fail)
  all_goals (
    rename_i hHeld
    clear hHeld KS)
  obtain ⟨w2, hw2⟩ : ∃ w2, (w1.alloc (.cells #[.int .i64 14, .int .i64 dst, .int .i64 xa, .int .i64 xb, .int .i64 imm] 76)).drew = w2 := ⟨_, rfl⟩
  rw [hw2]
  have Tw2 := Lib.hid (HT2.out w2 hw2)
  clear hw2 HT2 e19 e2 e22 g0 g1 ga gb d2 c0 c1 c2 c3 c4 lE lg lp lc fn0 fn1 pc1 fn2 pc2 hk1 hk2 hk3 hfu'
  obtain ⟨I, hI⟩ : ∃ I, w1.heap.size = I := ⟨_, rfl⟩
  rw [hI] at Tw2 ⊢
  clear hI
  have i2 := (Tw2.out.iC 2).trans rfl
  have i3 := (Tw2.out.iC 3).trans rfl
  have ga := Tw2.out.cR a0 a1
  have gb := Tw2.out.cR b0 b1
  go_wp2_with fail
  go_quiet (fail)
  obtain ⟨w3, hw3⟩ : ∃ w3, w2.drewN nq = w3 := ⟨_, rfl⟩
  rw [hw3]
  have Tw3 : Hid (Top w0 w3 E pv s ES AS fs f k g cap I ⟨14, dst, xa, xb, imm⟩) := Lib.hid (by rw [← hw3]; exact Tw2.out.drewN nq)
  clear hw3 Tw2 i2 i3 ga gb
  have i0 := (Tw3.out.iC 0).trans rfl
  have i4 := (Tw3.out.iC 4).trans rfl
  have i1 := (Tw3.out.iC 1).trans rfl
  go_wp2_with (first | (go_at_call 55; refine (spure_any _ _ _ _ _).mono ?_; rintro e w' ⟨rfl, rfl⟩) | (go_at_call 54; go_must (refine (halt_any Tw3.out.eng HM.out 4).mono ?_; rintro e w4 ⟨rfl, h4⟩)))
  exact bodyPost_ret (v := .tuple #[]) (by simp [results, Tryd.results50, go_sem]) rfl ⟨rfl, _, _, _, by rw [HEX.out]; exact h4⟩
set_option maxRecDepth 100000 in
set_option maxHeartbeats 8000000 in
theorem next_out14b {p : List Fnc} (hp : Right p) {w0 w : World} {E : Nat} {pv FS ES AS : Value} {s : St} (h : EngAt w0 w E pv s FS ES AS) (hP : ProgAt w0 pv p) (hi : StInv p s) (hfu : s.fuel ≠ 0) {fs : List Fr} {f : Fr} (hf : s.frames = fs ++ [f]) (h1 : mkOk (insOf p f).op (f.reg (insOf p f).b) = false) (h2 : (insOf p f).op = 14) (h3 : 16 ≤ f.reg (insOf p f).a) :
    Calls Tryd.prog 50 #[.pointer (some ⟨E, 0, none⟩)] w fun e w' => e = .returned (.tuple #[]) ∧ ∃ FS' ES' AS', EngAt w0 w' E pv (execSt p s fs f) FS' ES' AS' := by
  obtain ⟨k, g, cap, pg, N, PC, cg, M, ccap, X⟩ := nx_of hp h hP hi hf
  have HX := Lib.hid X
  have HM := Lib.hid hi.mem
  have HR : Hid (∀ x ∈ s.frames, x.regs.length = 12) := Lib.hid (fun x hx => (hi.fr x hx).regs)
  have hfs := X.fs0
  subst hfs
  have hfu' : (s.fuel == 0) = false := by simpa using hfu
  have hk1 : IntKind.i64.wrap (k : Int) = k := by have := X.k8; rw [IntKind.wrap_i64]; omega
  have hk2 : (k : Int) < k + 1 := by omega
  have hk3 : (0 : Int) ≤ k := by omega
  have e19 := X.e19
  have e2 := X.e2
  have e22 := X.e22
  have g0 := X.g0
  have g1 := X.g1
  have ga := X.ga
  have gb := X.gb
  have d2 := X.d2
  have c0 := X.c0
  have c1 := X.c1
  have c2 := X.c2
  have c3 := X.c3
  have c4 := X.c4
  have fn0 := X.fn0
  have fn1 := X.fn1
  have pc0 := X.pc0
  have pc1 := X.pc1
  have M40 := X.M40
  have dst0 := X.dst0
  have dst1 := X.dst1
  have a0 := X.a0
  have a1 := X.a1
  have b0 := X.b0
  have b1 := X.b1
  have lE := X.lE
  have lg := X.lg
  have lp := X.lp
  have lc := X.lc
  have hpw : IntKind.i64.wrap (f.pc + 1) = f.pc + 1 := by rw [IntKind.wrap_i64]; omega
  have hfw : IntKind.i64.wrap (s.fuel - 1) = s.fuel - 1 := by have := hi.fuel0; have := hi.fuel1; rw [IntKind.wrap_i64]; omega
  have fn2 : f.fn.toNat < N := by omega
  have pc2 : f.pc.toNat < M := by omega
  have HEX := Lib.hid (show execSt p s fs f = { s with status := 4 } from by unfold execSt; rw [if_neg (by simp [h1]), if_neg (by omega), if_pos ⟨.inr h2, Or.inr h3⟩])
  clear X h
  obtain ⟨x, hx⟩ : ∃ x, insOf p f = x := ⟨_, rfl⟩
  rw [hx] at ga gb c0 c1 c2 c3 c4 dst0 dst1 a0 a1 b0 b1 h1 h2 h3
  have HXX := Lib.hid hx
  clear hx
  obtain ⟨op, dst, xa, xb, imm⟩ := x
  dsimp only at *
  subst h2
  go_enter Tryd.func50, Tryd.ntmps50
  go_wp2_with fail
  go_quiet (fail)
  obtain ⟨w1, hw1⟩ : ∃ w1, w.drewN nq = w1 := ⟨_, rfl⟩
  rw [hw1]
  have X1 := HX.out.drewN nq
  rw [hw1] at X1
  clear hw1 HX e19 e2 e22 g0 g1 ga gb d2 c0 c1 c2 c3 c4 lE lg lp lc
  have e19 := X1.e19
  have e2 := X1.e2
  have e22 := X1.e22
  have g0 := X1.g0
  have g1 := X1.g1
  have ga := X1.ga
  have gb := X1.gb
  have d2 := X1.d2
  have c0 := X1.c0
  have c1 := X1.c1
  have c2 := X1.c2
  have c3 := X1.c3
  have c4 := X1.c4
  rw [HXX.out] at ga gb c0 c1 c2 c3 c4
  have lE := X1.lE
  have lg := X1.lg
  have lp := X1.lp
  have lc := X1.lc
  have HT2 : Hid (∀ w2, (w1.alloc (.cells #[.int .i64 (insOf p f).op, .int .i64 (insOf p f).dst, .int .i64 (insOf p f).a, .int .i64 (insOf p f).b, .int .i64 (insOf p f).imm] 76)).drew = w2 → Top w0 w2 E pv s ES AS fs f k g cap w1.heap.size (insOf p f)) := Lib.hid (fun w2 h => by
    rw [← h]
    exact ⟨(X1.eng.alloc _).drew, hf, X1.hk, HR.out, HM.out, heap_alloc_new w1 _⟩)
  rw [HXX.out] at HT2
  clear X1
  dsimp only at ga gb c0 c1 c2 c3 c4
  go_wp2_with fail
  have KS := Lib.hid (fun (w' : World) (hb : Below w1.heap.size w1 w') => (⟨(hb.cell (p := ⟨E, 22, none⟩) lE).trans e22, (hb.cell (p := ⟨g, _, none⟩) lg).trans g0, (hb.cell (p := ⟨pg, _, none⟩) lp).trans d2, (hb.cell (p := ⟨g, _, none⟩) lg).trans g1, (hb.cell (p := ⟨cg, _, none⟩) lc).trans c0, (hb.cell (p := ⟨cg, _, none⟩) lc).trans c1, (hb.cell (p := ⟨cg, _, none⟩) lc).trans c2, (hb.cell (p := ⟨cg, _, none⟩) lc).trans c3, (hb.cell (p := ⟨cg, _, none⟩) lc).trans c4⟩ : w'.cell? ⟨E, 22, none⟩ = some (.slice (some ⟨pg, 0, none⟩) N PC) ∧ w'.cell? ⟨g, k * 14, none⟩ = some (.int .i64 f.fn) ∧ w'.cell? ⟨pg, f.fn.toNat * 3 + 2, none⟩ = some (.slice (some ⟨cg, 0, none⟩) M ccap) ∧ w'.cell? ⟨g, k * 14 + 1, none⟩ = some (.int .i64 f.pc) ∧ w'.cell? ⟨cg, f.pc.toNat * 5, none⟩ = some (.int .i64 14) ∧ w'.cell? ⟨cg, f.pc.toNat * 5 + 1, none⟩ = some (.int .i64 dst) ∧ w'.cell? ⟨cg, f.pc.toNat * 5 + 2, none⟩ = some (.int .i64 xa) ∧ w'.cell? ⟨cg, f.pc.toNat * 5 + 3, none⟩ = some (.int .i64 xb) ∧ w'.cell? ⟨cg, f.pc.toNat * 5 + 4, none⟩ = some (.int .i64 imm)))
  go_region_held3 (fun w' => w'.cell? ⟨E, 22, none⟩ = some (.slice (some ⟨pg, 0, none⟩) N PC) ∧ w'.cell? ⟨g, k * 14, none⟩ = some (.int .i64 f.fn) ∧ w'.cell? ⟨pg, f.fn.toNat * 3 + 2, none⟩ = some (.slice (some ⟨cg, 0, none⟩) M ccap) ∧ w'.cell? ⟨g, k * 14 + 1, none⟩ = some (.int .i64 f.pc) ∧ w'.cell? ⟨cg, f.pc.toNat * 5, none⟩ = some (.int .i64 14) ∧ w'.cell? ⟨cg, f.pc.toNat * 5 + 1, none⟩ = some (.int .i64 dst) ∧ w'.cell? ⟨cg, f.pc.toNat * 5 + 2, none⟩ = some (.int .i64 xa) ∧ w'.cell? ⟨cg, f.pc.toNat * 5 + 3, none⟩ = some (.int .i64 xb) ∧ w'.cell? ⟨cg, f.pc.toNat * 5 + 4, none⟩ = some (.int .i64 imm)) (exact KS.out _ (by have hb := Below.refl w1.heap.size w1; repeat (first | exact hb | exact Below.refl _ _ | apply Below.drew | apply below_drewN | refine Below.alloc ?_ (by first | omega | (simp; done) | (simp; omega)) _ | refine Below.setCell ?_ (by first | omega | (simp; done) | (simp; omega)) _))) (first | fail)
  all_goals (
    rename_i hHeld
    clear hHeld KS)
  obtain ⟨w2, hw2⟩ : ∃ w2, (w1.alloc (.cells #[.int .i64 14, .int .i64 dst, .int .i64 xa, .int .i64 xb, .int .i64 imm] 76)).drew = w2 := ⟨_, rfl⟩
  rw [hw2]
  have Tw2 := Lib.hid (HT2.out w2 hw2)
  clear hw2 HT2 e19 e2 e22 g0 g1 ga gb d2 c0 c1 c2 c3 c4 lE lg lp lc fn0 fn1 pc1 fn2 pc2 hk1 hk2 hk3 hfu'
  obtain ⟨I, hI⟩ : ∃ I, w1.heap.size = I := ⟨_, rfl⟩
  rw [hI] at Tw2 ⊢
  clear hI
  have i2 := (Tw2.out.iC 2).trans rfl
  have i3 := (Tw2.out.iC 3).trans rfl
  have ga := Tw2.out.cR a0 a1
  have gb := Tw2.out.cR b0 b1
  go_wp2_with fail
  go_quiet (fail)
  obtain ⟨w3, hw3⟩ : ∃ w3, w2.drewN nq = w3 := ⟨_, rfl⟩
  rw [hw3]
  have Tw3 : Hid (Top w0 w3 E pv s ES AS fs f k g cap I ⟨14, dst, xa, xb, imm⟩) := Lib.hid (by rw [← hw3]; exact Tw2.out.drewN nq)
  clear hw3 Tw2 i2 i3 ga gb
  have i0 := (Tw3.out.iC 0).trans rfl
  have i4 := (Tw3.out.iC 4).trans rfl
  have i1 := (Tw3.out.iC 1).trans rfl
  go_wp2_with (first | (go_at_call 55; refine (spure_any _ _ _ _ _).mono ?_; rintro e w' ⟨rfl, rfl⟩) | (go_at_call 54; go_must (refine (halt_any Tw3.out.eng HM.out 4).mono ?_; rintro e w4 ⟨rfl, h4⟩)))
  exact bodyPost_ret (v := .tuple #[]) (by simp [results, Tryd.results50, go_sem]) rfl ⟨rfl, _, _, _, by rw [HEX.out]; exact h4⟩
set_option maxRecDepth 100000 in
set_option maxHeartbeats 8000000 in
theorem next_load {p : List Fnc} (hp : Right p) {w0 w : World} {E : Nat} {pv FS ES AS : Value} {s : St} (h : EngAt w0 w E pv s FS ES AS) (hP : ProgAt w0 pv p) (hi : StInv p s) (hfu : s.fuel ≠ 0) {fs : List Fr} {f : Fr} (hf : s.frames = fs ++ [f]) (h1 : mkOk (insOf p f).op (f.reg (insOf p f).b) = false) (h2 : (insOf p f).op = 13) (h3 : 0 ≤ f.reg (insOf p f).a) (h4 : f.reg (insOf p f).a < 16) :
    Calls Tryd.prog 50 #[.pointer (some ⟨E, 0, none⟩)] w fun e w' => e = .returned (.tuple #[]) ∧ ∃ FS' ES' AS', EngAt w0 w' E pv (execSt p s fs f) FS' ES' AS' := by
  obtain ⟨k, g, cap, pg, N, PC, cg, M, ccap, X⟩ := nx_of hp h hP hi hf
  have HX := Lib.hid X
  have HM := Lib.hid hi.mem
  have HR : Hid (∀ x ∈ s.frames, x.regs.length = 12) := Lib.hid (fun x hx => (hi.fr x hx).regs)
  have hfs := X.fs0
  subst hfs
  have hfu' : (s.fuel == 0) = false := by simpa using hfu
  have hk1 : IntKind.i64.wrap (k : Int) = k := by have := X.k8; rw [IntKind.wrap_i64]; omega
  have hk2 : (k : Int) < k + 1 := by omega
  have hk3 : (0 : Int) ≤ k := by omega
  have e19 := X.e19
  have e2 := X.e2
  have e22 := X.e22
  have g0 := X.g0
  have g1 := X.g1
  have ga := X.ga
  have gb := X.gb
  have d2 := X.d2
  have c0 := X.c0
  have c1 := X.c1
  have c2 := X.c2
  have c3 := X.c3
  have c4 := X.c4
  have fn0 := X.fn0
  have fn1 := X.fn1
  have pc0 := X.pc0
  have pc1 := X.pc1
  have M40 := X.M40
  have dst0 := X.dst0
  have dst1 := X.dst1
  have a0 := X.a0
  have a1 := X.a1
  have b0 := X.b0
  have b1 := X.b1
  have lE := X.lE
  have lg := X.lg
  have lp := X.lp
  have lc := X.lc
  have hpw : IntKind.i64.wrap (f.pc + 1) = f.pc + 1 := by rw [IntKind.wrap_i64]; omega
  have hfw : IntKind.i64.wrap (s.fuel - 1) = s.fuel - 1 := by have := hi.fuel0; have := hi.fuel1; rw [IntKind.wrap_i64]; omega
  have fn2 : f.fn.toNat < N := by omega
  have pc2 : f.pc.toNat < M := by omega
  have HEX := Lib.hid (show execSt p s fs f = topSt s fs ((f.put (insOf p f).dst (s.mem.getD (f.reg (insOf p f).a).toNat 0)).at (f.pc + 1)) from by unfold execSt; rw [if_neg (by simp [h1]), if_neg (by omega), if_neg (by omega), if_pos h2])
  clear X h
  obtain ⟨x, hx⟩ : ∃ x, insOf p f = x := ⟨_, rfl⟩
  rw [hx] at ga gb c0 c1 c2 c3 c4 dst0 dst1 a0 a1 b0 b1 h1 h2 h3 h4
  rw [hx] at HEX
  have HXX := Lib.hid hx
  clear hx
  obtain ⟨op, dst, xa, xb, imm⟩ := x
  dsimp only at *
  subst h2
  go_enter Tryd.func50, Tryd.ntmps50
  go_wp2_with fail
  go_quiet (fail)
  obtain ⟨w1, hw1⟩ : ∃ w1, w.drewN nq = w1 := ⟨_, rfl⟩
  rw [hw1]
  have X1 := HX.out.drewN nq
  rw [hw1] at X1
  clear hw1 HX e19 e2 e22 g0 g1 ga gb d2 c0 c1 c2 c3 c4 lE lg lp lc
  have e19 := X1.e19
  have e2 := X1.e2
  have e22 := X1.e22
  have g0 := X1.g0
  have g1 := X1.g1
  have ga := X1.ga
  have gb := X1.gb
  have d2 := X1.d2
  have c0 := X1.c0
  have c1 := X1.c1
  have c2 := X1.c2
  have c3 := X1.c3
  have c4 := X1.c4
  rw [HXX.out] at ga gb c0 c1 c2 c3 c4
  have lE := X1.lE
  have lg := X1.lg
  have lp := X1.lp
  have lc := X1.lc
  have HT2 : Hid (∀ w2, (w1.alloc (.cells #[.int .i64 (insOf p f).op, .int .i64 (insOf p f).dst, .int .i64 (insOf p f).a, .int .i64 (insOf p f).b, .int .i64 (insOf p f).imm] 76)).drew = w2 → Top w0 w2 E pv s ES AS fs f k g cap w1.heap.size (insOf p f)) := Lib.hid (fun w2 h => by
    rw [← h]
    exact ⟨(X1.eng.alloc _).drew, hf, X1.hk, HR.out, HM.out, heap_alloc_new w1 _⟩)
  rw [HXX.out] at HT2
  clear X1
  dsimp only at ga gb c0 c1 c2 c3 c4
  go_wp2_with fail
  have KS := Lib.hid (fun (w' : World) (hb : Below w1.heap.size w1 w') => (⟨(hb.cell (p := ⟨E, 22, none⟩) lE).trans e22, (hb.cell (p := ⟨g, _, none⟩) lg).trans g0, (hb.cell (p := ⟨pg, _, none⟩) lp).trans d2, (hb.cell (p := ⟨g, _, none⟩) lg).trans g1, (hb.cell (p := ⟨cg, _, none⟩) lc).trans c0, (hb.cell (p := ⟨cg, _, none⟩) lc).trans c1, (hb.cell (p := ⟨cg, _, none⟩) lc).trans c2, (hb.cell (p := ⟨cg, _, none⟩) lc).trans c3, (hb.cell (p := ⟨cg, _, none⟩) lc).trans c4⟩ : w'.cell? ⟨E, 22, none⟩ = some (.slice (some ⟨pg, 0, none⟩) N PC) ∧ w'.cell? ⟨g, k * 14, none⟩ = some (.int .i64 f.fn) ∧ w'.cell? ⟨pg, f.fn.toNat * 3 + 2, none⟩ = some (.slice (some ⟨cg, 0, none⟩) M ccap) ∧ w'.cell? ⟨g, k * 14 + 1, none⟩ = some (.int .i64 f.pc) ∧ w'.cell? ⟨cg, f.pc.toNat * 5, none⟩ = some (.int .i64 13) ∧ w'.cell? ⟨cg, f.pc.toNat * 5 + 1, none⟩ = some (.int .i64 dst) ∧ w'.cell? ⟨cg, f.pc.toNat * 5 + 2, none⟩ = some (.int .i64 xa) ∧ w'.cell? ⟨cg, f.pc.toNat * 5 + 3, none⟩ = some (.int .i64 xb) ∧ w'.cell? ⟨cg, f.pc.toNat * 5 + 4, none⟩ = some (.int .i64 imm)))
  go_region_held3 (fun w' => w'.cell? ⟨E, 22, none⟩ = some (.slice (some ⟨pg, 0, none⟩) N PC) ∧ w'.cell? ⟨g, k * 14, none⟩ = some (.int .i64 f.fn) ∧ w'.cell? ⟨pg, f.fn.toNat * 3 + 2, none⟩ = some (.slice (some ⟨cg, 0, none⟩) M ccap) ∧ w'.cell? ⟨g, k * 14 + 1, none⟩ = some (.int .i64 f.pc) ∧ w'.cell? ⟨cg, f.pc.toNat * 5, none⟩ = some (.int .i64 13) ∧ w'.cell? ⟨cg, f.pc.toNat * 5 + 1, none⟩ = some (.int .i64 dst) ∧ w'.cell? ⟨cg, f.pc.toNat * 5 + 2, none⟩ = some (.int .i64 xa) ∧ w'.cell? ⟨cg, f.pc.toNat * 5 + 3, none⟩ = some (.int .i64 xb) ∧ w'.cell? ⟨cg, f.pc.toNat * 5 + 4, none⟩ = some (.int .i64 imm)) (exact KS.out _ (by have hb := Below.refl w1.heap.size w1; repeat (first | exact hb | exact Below.refl _ _ | apply Below.drew | apply below_drewN | refine Below.alloc ?_ (by first | omega | (simp; done) | (simp; omega)) _ | refine Below.setCell ?_ (by first | omega | (simp; done) | (simp; omega)) _))) (first | fail)
  all_goals (
    rename_i hHeld
    clear hHeld KS)
  obtain ⟨w2, hw2⟩ : ∃ w2, (w1.alloc (.cells #[.int .i64 13, .int .i64 dst, .int .i64 xa, .int .i64 xb, .int .i64 imm] 76)).drew = w2 := ⟨_, rfl⟩
  rw [hw2]
  have Tw2 := Lib.hid (HT2.out w2 hw2)
  clear hw2 HT2 e19 e2 e22 g0 g1 ga gb d2 c0 c1 c2 c3 c4 lE lg lp lc fn0 fn1 pc1 fn2 pc2 hk1 hk2 hk3 hfu'
  obtain ⟨I, hI⟩ : ∃ I, w1.heap.size = I := ⟨_, rfl⟩
  rw [hI] at Tw2 ⊢
  clear hI
  have i2 := (Tw2.out.iC 2).trans rfl
  have i3 := (Tw2.out.iC 3).trans rfl
  have ga := Tw2.out.cR a0 a1
  have gb := Tw2.out.cR b0 b1
  go_wp2_with fail
  go_quiet (fail)
  obtain ⟨w3, hw3⟩ : ∃ w3, w2.drewN nq = w3 := ⟨_, rfl⟩
  rw [hw3]
  have Tw3 : Hid (Top w0 w3 E pv s ES AS fs f k g cap I ⟨13, dst, xa, xb, imm⟩) := Lib.hid (by rw [← hw3]; exact Tw2.out.drewN nq)
  clear hw3 Tw2 i2 i3 ga gb
  have i0 := (Tw3.out.iC 0).trans rfl
  have i4 := (Tw3.out.iC 4).trans rfl
  have i1 := (Tw3.out.iC 1).trans rfl
  have qf : w3.cell? ⟨E, 19, none⟩ = some (.int .i64 s.fuel) := Tw3.out.e19
  have ff := Tw3.out.eng.frozen 19
  go_wp2_with (first | (go_at_call 55; refine (spure_any _ _ _ _ _).mono ?_; rintro e w' ⟨rfl, rfl⟩) | (obtain ⟨w4, hw4⟩ : ∃ w4, w3.setCell ⟨E, 19, none⟩ (.int .i64 (s.fuel - 1)) = w4 := ⟨_, rfl⟩; rw [hw4]; have Tw4 := Lib.hid (Tw3.out.fuel (s.fuel - 1)); rw [hw4] at Tw4; clear hw4 qf ff Tw3 i0 i1 i4; have i0 := (Tw4.out.iC 0).trans rfl))
  have i1 := (Tw4.out.iC 1).trans rfl
  have qm := Tw4.out.eng.cellM HM.out (i := (f.reg xa).toNat) (by omega)
  go_still_tail 13, (by kernel_rfl)
  change wpList _ _ _ _ _ w4.drew
  have Tw5 := Lib.hid Tw4.out.drew
  obtain ⟨w5, hw5⟩ : ∃ w5, w4.drew = w5 := ⟨_, rfl⟩
  rw [hw5] at Tw5 ⊢
  clear hw5 Tw4
  clear qm i0 i1
  rw [List.getD_eq_getElem?_getD] at HEX
  obtain ⟨n, hn⟩ : ∃ n, s.mem[(f.reg xa).toNat]?.getD 0 = n := ⟨_, rfl⟩
  rw [hn] at HEX ⊢
  clear hn
  have qd : w5.cell? ⟨g, k * 14 + 2 + dst.toNat, none⟩ = some (.int .i64 (f.reg dst)) := Tw5.out.cR dst0 dst1
  have fd := Tw5.out.frz (k * 14 + 2 + dst.toNat)
  go_wp2_with (first
    | (obtain ⟨w6, hw6⟩ : ∃ w6, w5.setCell ⟨g, k * 14 + 2 + dst.toNat, none⟩ (.int .i64 n) = w6 := ⟨_, rfl⟩; rw [hw6]; have Tw6 := Lib.hid (Tw5.out.put dst0 dst1 n); rw [hw6] at Tw6; clear hw6 qd fd Tw5; have qp : w6.cell? ⟨g, k * 14 + 1, none⟩ = some (.int .i64 f.pc) := Tw6.out.c1; have fp := Tw6.out.frz (k * 14 + 1))
    | (obtain ⟨w7, hw7⟩ : ∃ w7, w6.setCell ⟨g, k * 14 + 1, none⟩ (.int .i64 (f.pc + 1)) = w7 := ⟨_, rfl⟩; rw [hw7]; have Tw7 := Lib.hid (Tw6.out.pc (f.pc + 1)); rw [hw7] at Tw7; clear hw7 qp fp Tw6; skip))
  exact bodyPost_end (v := .tuple #[]) (by simp [results, Tryd.results50, go_sem]) rfl ⟨rfl, _, _, _, by rw [HEX.out]; exact Tw7.out.eng⟩
set_option maxRecDepth 100000 in
set_option maxHeartbeats 8000000 in
theorem next_store {p : List Fnc} (hp : Right p) {w0 w : World} {E : Nat} {pv FS ES AS : Value} {s : St} (h : EngAt w0 w E pv s FS ES AS) (hP : ProgAt w0 pv p) (hi : StInv p s) (hfu : s.fuel ≠ 0) {fs : List Fr} {f : Fr} (hf : s.frames = fs ++ [f]) (h1 : mkOk (insOf p f).op (f.reg (insOf p f).b) = false) (h2 : (insOf p f).op = 14) (h3 : 0 ≤ f.reg (insOf p f).a) (h4 : f.reg (insOf p f).a < 16) :
    Calls Tryd.prog 50 #[.pointer (some ⟨E, 0, none⟩)] w fun e w' => e = .returned (.tuple #[]) ∧ ∃ FS' ES' AS', EngAt w0 w' E pv (execSt p s fs f) FS' ES' AS' := by
  obtain ⟨k, g, cap, pg, N, PC, cg, M, ccap, X⟩ := nx_of hp h hP hi hf
  have HX := Lib.hid X
  have HM := Lib.hid hi.mem
  have HR : Hid (∀ x ∈ s.frames, x.regs.length = 12) := Lib.hid (fun x hx => (hi.fr x hx).regs)
  have hfs := X.fs0
  subst hfs
  have hfu' : (s.fuel == 0) = false := by simpa using hfu
  have hk1 : IntKind.i64.wrap (k : Int) = k := by have := X.k8; rw [IntKind.wrap_i64]; omega
  have hk2 : (k : Int) < k + 1 := by omega
  have hk3 : (0 : Int) ≤ k := by omega
  have e19 := X.e19
  have e2 := X.e2
  have e22 := X.e22
  have g0 := X.g0
  have g1 := X.g1
  have ga := X.ga
  have gb := X.gb
  have d2 := X.d2
  have c0 := X.c0
  have c1 := X.c1
  have c2 := X.c2
  have c3 := X.c3
  have c4 := X.c4
  have fn0 := X.fn0
  have fn1 := X.fn1
  have pc0 := X.pc0
  have pc1 := X.pc1
  have M40 := X.M40
  have dst0 := X.dst0
  have dst1 := X.dst1
  have a0 := X.a0
  have a1 := X.a1
  have b0 := X.b0
  have b1 := X.b1
  have lE := X.lE
  have lg := X.lg
  have lp := X.lp
  have lc := X.lc
  have hpw : IntKind.i64.wrap (f.pc + 1) = f.pc + 1 := by rw [IntKind.wrap_i64]; omega
  have hfw : IntKind.i64.wrap (s.fuel - 1) = s.fuel - 1 := by have := hi.fuel0; have := hi.fuel1; rw [IntKind.wrap_i64]; omega
  have fn2 : f.fn.toNat < N := by omega
  have pc2 : f.pc.toNat < M := by omega
  have HEX := Lib.hid (show execSt p s fs f = { topSt s fs (f.at (f.pc + 1)) with mem := s.mem.set (f.reg (insOf p f).a).toNat (f.reg (insOf p f).b) } from by unfold execSt; rw [if_neg (by simp [h1]), if_neg (by omega), if_neg (by omega), if_neg (by omega), if_pos h2])
  clear X h
  obtain ⟨x, hx⟩ : ∃ x, insOf p f = x := ⟨_, rfl⟩
  rw [hx] at ga gb c0 c1 c2 c3 c4 dst0 dst1 a0 a1 b0 b1 h1 h2 h3 h4
  rw [hx] at HEX
  have HXX := Lib.hid hx
  clear hx
  obtain ⟨op, dst, xa, xb, imm⟩ := x
  dsimp only at *
  subst h2
  go_enter Tryd.func50, Tryd.ntmps50
  go_wp2_with fail
  go_quiet (fail)
  obtain ⟨w1, hw1⟩ : ∃ w1, w.drewN nq = w1 := ⟨_, rfl⟩
  rw [hw1]
  have X1 := HX.out.drewN nq
  rw [hw1] at X1
  clear hw1 HX e19 e2 e22 g0 g1 ga gb d2 c0 c1 c2 c3 c4 lE lg lp lc
  have e19 := X1.e19
  have e2 := X1.e2
  have e22 := X1.e22
  have g0 := X1.g0
  have g1 := X1.g1
  have ga := X1.ga
  have gb := X1.gb
  have d2 := X1.d2
  have c0 := X1.c0
  have c1 := X1.c1
  have c2 := X1.c2
  have c3 := X1.c3
  have c4 := X1.c4
  rw [HXX.out] at ga gb c0 c1 c2 c3 c4
  have lE := X1.lE
  have lg := X1.lg
  have lp := X1.lp
  have lc := X1.lc
  have HT2 : Hid (∀ w2, (w1.alloc (.cells #[.int .i64 (insOf p f).op, .int .i64 (insOf p f).dst, .int .i64 (insOf p f).a, .int .i64 (insOf p f).b, .int .i64 (insOf p f).imm] 76)).drew = w2 → Top w0 w2 E pv s ES AS fs f k g cap w1.heap.size (insOf p f)) := Lib.hid (fun w2 h => by
    rw [← h]
    exact ⟨(X1.eng.alloc _).drew, hf, X1.hk, HR.out, HM.out, heap_alloc_new w1 _⟩)
  rw [HXX.out] at HT2
  clear X1
  dsimp only at ga gb c0 c1 c2 c3 c4
  go_wp2_with fail
  have KS := Lib.hid (fun (w' : World) (hb : Below w1.heap.size w1 w') => (⟨(hb.cell (p := ⟨E, 22, none⟩) lE).trans e22, (hb.cell (p := ⟨g, _, none⟩) lg).trans g0, (hb.cell (p := ⟨pg, _, none⟩) lp).trans d2, (hb.cell (p := ⟨g, _, none⟩) lg).trans g1, (hb.cell (p := ⟨cg, _, none⟩) lc).trans c0, (hb.cell (p := ⟨cg, _, none⟩) lc).trans c1, (hb.cell (p := ⟨cg, _, none⟩) lc).trans c2, (hb.cell (p := ⟨cg, _, none⟩) lc).trans c3, (hb.cell (p := ⟨cg, _, none⟩) lc).trans c4⟩ : w'.cell? ⟨E, 22, none⟩ = some (.slice (some ⟨pg, 0, none⟩) N PC) ∧ w'.cell? ⟨g, k * 14, none⟩ = some (.int .i64 f.fn) ∧ w'.cell? ⟨pg, f.fn.toNat * 3 + 2, none⟩ = some (.slice (some ⟨cg, 0, none⟩) M ccap) ∧ w'.cell? ⟨g, k * 14 + 1, none⟩ = some (.int .i64 f.pc) ∧ w'.cell? ⟨cg, f.pc.toNat * 5, none⟩ = some (.int .i64 14) ∧ w'.cell? ⟨cg, f.pc.toNat * 5 + 1, none⟩ = some (.int .i64 dst) ∧ w'.cell? ⟨cg, f.pc.toNat * 5 + 2, none⟩ = some (.int .i64 xa) ∧ w'.cell? ⟨cg, f.pc.toNat * 5 + 3, none⟩ = some (.int .i64 xb) ∧ w'.cell? ⟨cg, f.pc.toNat * 5 + 4, none⟩ = some (.int .i64 imm)))
  go_region_held3 (fun w' => w'.cell? ⟨E, 22, none⟩ = some (.slice (some ⟨pg, 0, none⟩) N PC) ∧ w'.cell? ⟨g, k * 14, none⟩ = some (.int .i64 f.fn) ∧ w'.cell? ⟨pg, f.fn.toNat * 3 + 2, none⟩ = some (.slice (some ⟨cg, 0, none⟩) M ccap) ∧ w'.cell? ⟨g, k * 14 + 1, none⟩ = some (.int .i64 f.pc) ∧ w'.cell? ⟨cg, f.pc.toNat * 5, none⟩ = some (.int .i64 14) ∧ w'.cell? ⟨cg, f.pc.toNat * 5 + 1, none⟩ = some (.int .i64 dst) ∧ w'.cell? ⟨cg, f.pc.toNat * 5 + 2, none⟩ = some (.int .i64 xa) ∧ w'.cell? ⟨cg, f.pc.toNat * 5 + 3, none⟩ = some (.int .i64 xb) ∧ w'.cell? ⟨cg, f.pc.toNat * 5 + 4, none⟩ = some (.int .i64 imm)) (exact KS.out _ (by have hb := Below.refl w1.heap.size w1; repeat (first | exact hb | exact Below.refl _ _ | apply Below.drew | apply below_drewN | refine Below.alloc ?_ (by first | omega | (simp; done) | (simp; omega)) _ | refine Below.setCell ?_ (by first | omega | (simp; done) | (simp; omega)) _))) (first | fail)
  all_goals (
    rename_i hHeld
    clear hHeld KS)
  obtain ⟨w2, hw2⟩ : ∃ w2, (w1.alloc (.cells #[.int .i64 14, .int .i64 dst, .int .i64 xa, .int .i64 xb, .int .i64 imm] 76)).drew = w2 := ⟨_, rfl⟩
  rw [hw2]
  have Tw2 := Lib.hid (HT2.out w2 hw2)
  clear hw2 HT2 e19 e2 e22 g0 g1 ga gb d2 c0 c1 c2 c3 c4 lE lg lp lc fn0 fn1 pc1 fn2 pc2 hk1 hk2 hk3 hfu'
  obtain ⟨I, hI⟩ : ∃ I, w1.heap.size = I := ⟨_, rfl⟩
  rw [hI] at Tw2 ⊢
  clear hI
  have i2 := (Tw2.out.iC 2).trans rfl
  have i3 := (Tw2.out.iC 3).trans rfl
  have ga := Tw2.out.cR a0 a1
  have gb := Tw2.out.cR b0 b1
  go_wp2_with fail
  go_quiet (fail)
  obtain ⟨w3, hw3⟩ : ∃ w3, w2.drewN nq = w3 := ⟨_, rfl⟩
  rw [hw3]
  have Tw3 : Hid (Top w0 w3 E pv s ES AS fs f k g cap I ⟨14, dst, xa, xb, imm⟩) := Lib.hid (by rw [← hw3]; exact Tw2.out.drewN nq)
  clear hw3 Tw2 i2 i3 ga gb
  have i0 := (Tw3.out.iC 0).trans rfl
  have i4 := (Tw3.out.iC 4).trans rfl
  have i1 := (Tw3.out.iC 1).trans rfl
  have qf : w3.cell? ⟨E, 19, none⟩ = some (.int .i64 s.fuel) := Tw3.out.e19
  have ff := Tw3.out.eng.frozen 19
  go_wp2_with (first
    | (go_at_call 55; refine (spure_any _ _ _ _ _).mono ?_; rintro e w' ⟨rfl, rfl⟩)
    | (obtain ⟨w4, hw4⟩ : ∃ w4, w3.setCell ⟨E, 19, none⟩ (.int .i64 (s.fuel - 1)) = w4 := ⟨_, rfl⟩; rw [hw4]; have Tw4 := Lib.hid (Tw3.out.fuel (s.fuel - 1)); rw [hw4] at Tw4; clear hw4 qf ff Tw3 i0 i1 i4; have i0 := (Tw4.out.iC 0).trans rfl; have qm := Tw4.out.eng.cellM HM.out (i := (f.reg xa).toNat) (by omega); have fm := Tw4.out.eng.frozen (3 + (f.reg xa).toNat))
    | (obtain ⟨w5, hw5⟩ : ∃ w5, w4.setCell ⟨E, 3 + (f.reg xa).toNat, none⟩ (.int .i64 (f.reg xb)) = w5 := ⟨_, rfl⟩; rw [hw5]; have Tw5 := Lib.hid (Tw4.out.memo (i := (f.reg xa).toNat) (by omega) (f.reg xb)); rw [hw5] at Tw5; clear hw5 qm fm Tw4; have qp : w5.cell? ⟨g, k * 14 + 1, none⟩ = some (.int .i64 f.pc) := Tw5.out.c1; have fp := Tw5.out.frz (k * 14 + 1))
    | (obtain ⟨w6, hw6⟩ : ∃ w6, w5.setCell ⟨g, k * 14 + 1, none⟩ (.int .i64 (f.pc + 1)) = w6 := ⟨_, rfl⟩; rw [hw6]; have Tw6 := Lib.hid (Tw5.out.pc (f.pc + 1)); rw [hw6] at Tw6; clear hw6 qp fp Tw5; skip))
  exact bodyPost_end (v := .tuple #[]) (by simp [results, Tryd.results50, go_sem]) rfl ⟨rfl, _, _, _, by rw [HEX.out]; exact Tw6.out.eng⟩
set_option maxRecDepth 100000 in
set_option maxHeartbeats 8000000 in
theorem next_jump {p : List Fnc} (hp : Right p) {w0 w : World} {E : Nat} {pv FS ES AS : Value} {s : St} (h : EngAt w0 w E pv s FS ES AS) (hP : ProgAt w0 pv p) (hi : StInv p s) (hfu : s.fuel ≠ 0) {fs : List Fr} {f : Fr} (hf : s.frames = fs ++ [f]) (h1 : mkOk (insOf p f).op (f.reg (insOf p f).b) = false) (h2 : (insOf p f).op = 15) :
    Calls Tryd.prog 50 #[.pointer (some ⟨E, 0, none⟩)] w fun e w' => e = .returned (.tuple #[]) ∧ ∃ FS' ES' AS', EngAt w0 w' E pv (execSt p s fs f) FS' ES' AS' := by
  obtain ⟨k, g, cap, pg, N, PC, cg, M, ccap, X⟩ := nx_of hp h hP hi hf
  have HX := Lib.hid X
  have HM := Lib.hid hi.mem
  have HR : Hid (∀ x ∈ s.frames, x.regs.length = 12) := Lib.hid (fun x hx => (hi.fr x hx).regs)
  have hfs := X.fs0
  subst hfs
  have hfu' : (s.fuel == 0) = false := by simpa using hfu
  have hk1 : IntKind.i64.wrap (k : Int) = k := by have := X.k8; rw [IntKind.wrap_i64]; omega
  have hk2 : (k : Int) < k + 1 := by omega
  have hk3 : (0 : Int) ≤ k := by omega
  have e19 := X.e19
  have e2 := X.e2
  have e22 := X.e22
  have g0 := X.g0
  have g1 := X.g1
  have ga := X.ga
  have gb := X.gb
  have d2 := X.d2
  have c0 := X.c0
  have c1 := X.c1
  have c2 := X.c2
  have c3 := X.c3
  have c4 := X.c4
  have fn0 := X.fn0
  have fn1 := X.fn1
  have pc0 := X.pc0
  have pc1 := X.pc1
  have M40 := X.M40
  have dst0 := X.dst0
  have dst1 := X.dst1
  have a0 := X.a0
  have a1 := X.a1
  have b0 := X.b0
  have b1 := X.b1
  have lE := X.lE
  have lg := X.lg
  have lp := X.lp
  have lc := X.lc
  have hpw : IntKind.i64.wrap (f.pc + 1) = f.pc + 1 := by rw [IntKind.wrap_i64]; omega
  have hfw : IntKind.i64.wrap (s.fuel - 1) = s.fuel - 1 := by have := hi.fuel0; have := hi.fuel1; rw [IntKind.wrap_i64]; omega
  have fn2 : f.fn.toNat < N := by omega
  have pc2 : f.pc.toNat < M := by omega
  have HEX := Lib.hid (show execSt p s fs f = topSt s fs (f.at (insOf p f).imm) from by unfold execSt; rw [if_neg (by simp [h1]), if_neg (by omega), if_neg (by omega), if_neg (by omega), if_neg (by omega), if_pos h2])
  clear X h
  obtain ⟨x, hx⟩ : ∃ x, insOf p f = x := ⟨_, rfl⟩
  rw [hx] at ga gb c0 c1 c2 c3 c4 dst0 dst1 a0 a1 b0 b1 h1 h2
  rw [hx] at HEX
  have HXX := Lib.hid hx
  clear hx
  obtain ⟨op, dst, xa, xb, imm⟩ := x
  dsimp only at *
  subst h2
  go_enter Tryd.func50, Tryd.ntmps50
  go_wp2_with fail
  go_quiet (fail)
  obtain ⟨w1, hw1⟩ : ∃ w1, w.drewN nq = w1 := ⟨_, rfl⟩
  rw [hw1]
  have X1 := HX.out.drewN nq
  rw [hw1] at X1
  clear hw1 HX e19 e2 e22 g0 g1 ga gb d2 c0 c1 c2 c3 c4 lE lg lp lc
  have e19 := X1.e19
  have e2 := X1.e2
  have e22 := X1.e22
  have g0 := X1.g0
  have g1 := X1.g1
  have ga := X1.ga
  have gb := X1.gb
  have d2 := X1.d2
  have c0 := X1.c0
  have c1 := X1.c1
  have c2 := X1.c2
  have c3 := X1.c3
  have c4 := X1.c4
  rw [HXX.out] at ga gb c0 c1 c2 c3 c4
  have lE := X1.lE
  have lg := X1.lg
  have lp := X1.lp
  have lc := X1.lc
  have HT2 : Hid (∀ w2, (w1.alloc (.cells #[.int .i64 (insOf p f).op, .int .i64 (insOf p f).dst, .int .i64 (insOf p f).a, .int .i64 (insOf p f).b, .int .i64 (insOf p f).imm] 76)).drew = w2 → Top w0 w2 E pv s ES AS fs f k g cap w1.heap.size (insOf p f)) := Lib.hid (fun w2 h => by
    rw [← h]
    exact ⟨(X1.eng.alloc _).drew, hf, X1.hk, HR.out, HM.out, heap_alloc_new w1 _⟩)
  rw [HXX.out] at HT2
  clear X1
  dsimp only at ga gb c0 c1 c2 c3 c4
  go_wp2_with fail
  have KS := Lib.hid (fun (w' : World) (hb : Below w1.heap.size w1 w') => (⟨(hb.cell (p := ⟨E, 22, none⟩) lE).trans e22, (hb.cell (p := ⟨g, _, none⟩) lg).trans g0, (hb.cell (p := ⟨pg, _, none⟩) lp).trans d2, (hb.cell (p := ⟨g, _, none⟩) lg).trans g1, (hb.cell (p := ⟨cg, _, none⟩) lc).trans c0, (hb.cell (p := ⟨cg, _, none⟩) lc).trans c1, (hb.cell (p := ⟨cg, _, none⟩) lc).trans c2, (hb.cell (p := ⟨cg, _, none⟩) lc).trans c3, (hb.cell (p := ⟨cg, _, none⟩) lc).trans c4⟩ : w'.cell? ⟨E, 22, none⟩ = some (.slice (some ⟨pg, 0, none⟩) N PC) ∧ w'.cell? ⟨g, k * 14, none⟩ = some (.int .i64 f.fn) ∧ w'.cell? ⟨pg, f.fn.toNat * 3 + 2, none⟩ = some (.slice (some ⟨cg, 0, none⟩) M ccap) ∧ w'.cell? ⟨g, k * 14 + 1, none⟩ = some (.int .i64 f.pc) ∧ w'.cell? ⟨cg, f.pc.toNat * 5, none⟩ = some (.int .i64 15) ∧ w'.cell? ⟨cg, f.pc.toNat * 5 + 1, none⟩ = some (.int .i64 dst) ∧ w'.cell? ⟨cg, f.pc.toNat * 5 + 2, none⟩ = some (.int .i64 xa) ∧ w'.cell? ⟨cg, f.pc.toNat * 5 + 3, none⟩ = some (.int .i64 xb) ∧ w'.cell? ⟨cg, f.pc.toNat * 5 + 4, none⟩ = some (.int .i64 imm)))
  go_region_held3 (fun w' => w'.cell? ⟨E, 22, none⟩ = some (.slice (some ⟨pg, 0, none⟩) N PC) ∧ w'.cell? ⟨g, k * 14, none⟩ = some (.int .i64 f.fn) ∧ w'.cell? ⟨pg, f.fn.toNat * 3 + 2, none⟩ = some (.slice (some ⟨cg, 0, none⟩) M ccap) ∧ w'.cell? ⟨g, k * 14 + 1, none⟩ = some (.int .i64 f.pc) ∧ w'.cell? ⟨cg, f.pc.toNat * 5, none⟩ = some (.int .i64 15) ∧ w'.cell? ⟨cg, f.pc.toNat * 5 + 1, none⟩ = some (.int .i64 dst) ∧ w'.cell? ⟨cg, f.pc.toNat * 5 + 2, none⟩ = some (.int .i64 xa) ∧ w'.cell? ⟨cg, f.pc.toNat * 5 + 3, none⟩ = some (.int .i64 xb) ∧ w'.cell? ⟨cg, f.pc.toNat * 5 + 4, none⟩ = some (.int .i64 imm)) (exact KS.out _ (by have hb := Below.refl w1.heap.size w1; repeat (first | exact hb | exact Below.refl _ _ | apply Below.drew | apply below_drewN | refine Below.alloc ?_ (by first | omega | (simp; done) | (simp; omega)) _ | refine Below.setCell ?_ (by first | omega | (simp; done) | (simp; omega)) _))) (first | fail)
  all_goals (
    rename_i hHeld
    clear hHeld KS)
  obtain ⟨w2, hw2⟩ : ∃ w2, (w1.alloc (.cells #[.int .i64 15, .int .i64 dst, .int .i64 xa, .int .i64 xb, .int .i64 imm] 76)).drew = w2 := ⟨_, rfl⟩
  rw [hw2]
  have Tw2 := Lib.hid (HT2.out w2 hw2)
  clear hw2 HT2 e19 e2 e22 g0 g1 ga gb d2 c0 c1 c2 c3 c4 lE lg lp lc fn0 fn1 pc1 fn2 pc2 hk1 hk2 hk3 hfu'
  obtain ⟨I, hI⟩ : ∃ I, w1.heap.size = I := ⟨_, rfl⟩
  rw [hI] at Tw2 ⊢
  clear hI
  have i2 := (Tw2.out.iC 2).trans rfl
  have i3 := (Tw2.out.iC 3).trans rfl
  have ga := Tw2.out.cR a0 a1
  have gb := Tw2.out.cR b0 b1
  go_wp2_with fail
  go_quiet (fail)
  obtain ⟨w3, hw3⟩ : ∃ w3, w2.drewN nq = w3 := ⟨_, rfl⟩
  rw [hw3]
  have Tw3 : Hid (Top w0 w3 E pv s ES AS fs f k g cap I ⟨15, dst, xa, xb, imm⟩) := Lib.hid (by rw [← hw3]; exact Tw2.out.drewN nq)
  clear hw3 Tw2 i2 i3 ga gb
  have i0 := (Tw3.out.iC 0).trans rfl
  have i4 := (Tw3.out.iC 4).trans rfl
  have i1 := (Tw3.out.iC 1).trans rfl
  have qf : w3.cell? ⟨E, 19, none⟩ = some (.int .i64 s.fuel) := Tw3.out.e19
  have ff := Tw3.out.eng.frozen 19
  go_wp2_with (first
    | (go_at_call 55; refine (spure_any _ _ _ _ _).mono ?_; rintro e w' ⟨rfl, rfl⟩)
    | (obtain ⟨w4, hw4⟩ : ∃ w4, w3.setCell ⟨E, 19, none⟩ (.int .i64 (s.fuel - 1)) = w4 := ⟨_, rfl⟩; rw [hw4]; have Tw4 := Lib.hid (Tw3.out.fuel (s.fuel - 1)); rw [hw4] at Tw4; clear hw4 qf ff Tw3 i0 i1 i4; have i0 := (Tw4.out.iC 0).trans rfl; have i4 := (Tw4.out.iC 4).trans rfl; have qp : w4.cell? ⟨g, k * 14 + 1, none⟩ = some (.int .i64 f.pc) := Tw4.out.c1; have fp := Tw4.out.frz (k * 14 + 1))
    | (obtain ⟨w5, hw5⟩ : ∃ w5, w4.setCell ⟨g, k * 14 + 1, none⟩ (.int .i64 imm) = w5 := ⟨_, rfl⟩; rw [hw5]; have Tw5 := Lib.hid (Tw4.out.pc imm); rw [hw5] at Tw5; clear hw5 qp fp Tw4; skip))
  exact bodyPost_end (v := .tuple #[]) (by simp [results, Tryd.results50, go_sem]) rfl ⟨rfl, _, _, _, by rw [HEX.out]; exact Tw5.out.eng⟩
set_option maxRecDepth 100000 in
set_option maxHeartbeats 8000000 in
theorem next_if0 {p : List Fnc} (hp : Right p) {w0 w : World} {E : Nat} {pv FS ES AS : Value} {s : St} (h : EngAt w0 w E pv s FS ES AS) (hP : ProgAt w0 pv p) (hi : StInv p s) (hfu : s.fuel ≠ 0) {fs : List Fr} {f : Fr} (hf : s.frames = fs ++ [f]) (h1 : mkOk (insOf p f).op (f.reg (insOf p f).b) = false) (h2 : (insOf p f).op = 16) (h3 : f.reg (insOf p f).a = 0) :
    Calls Tryd.prog 50 #[.pointer (some ⟨E, 0, none⟩)] w fun e w' => e = .returned (.tuple #[]) ∧ ∃ FS' ES' AS', EngAt w0 w' E pv (execSt p s fs f) FS' ES' AS' := by
  obtain ⟨k, g, cap, pg, N, PC, cg, M, ccap, X⟩ := nx_of hp h hP hi hf
  have HX := Lib.hid X
  have HM := Lib.hid hi.mem
  have HR : Hid (∀ x ∈ s.frames, x.regs.length = 12) := Lib.hid (fun x hx => (hi.fr x hx).regs)
  have hfs := X.fs0
  subst hfs
  have hfu' : (s.fuel == 0) = false := by simpa using hfu
  have hk1 : IntKind.i64.wrap (k : Int) = k := by have := X.k8; rw [IntKind.wrap_i64]; omega
  have hk2 : (k : Int) < k + 1 := by omega
  have hk3 : (0 : Int) ≤ k := by omega
  have e19 := X.e19
  have e2 := X.e2
  have e22 := X.e22
  have g0 := X.g0
  have g1 := X.g1
  have ga := X.ga
  have gb := X.gb
  have d2 := X.d2
  have c0 := X.c0
  have c1 := X.c1
  have c2 := X.c2
  have c3 := X.c3
  have c4 := X.c4
  have fn0 := X.fn0
  have fn1 := X.fn1
  have pc0 := X.pc0
  have pc1 := X.pc1
  have M40 := X.M40
  have dst0 := X.dst0
  have dst1 := X.dst1
  have a0 := X.a0
  have a1 := X.a1
  have b0 := X.b0
  have b1 := X.b1
  have lE := X.lE
  have lg := X.lg
  have lp := X.lp
  have lc := X.lc
  have hpw : IntKind.i64.wrap (f.pc + 1) = f.pc + 1 := by rw [IntKind.wrap_i64]; omega
  have hfw : IntKind.i64.wrap (s.fuel - 1) = s.fuel - 1 := by have := hi.fuel0; have := hi.fuel1; rw [IntKind.wrap_i64]; omega
  have fn2 : f.fn.toNat < N := by omega
  have pc2 : f.pc.toNat < M := by omega
  have HEX := Lib.hid (show execSt p s fs f = topSt s fs (f.at (f.pc + 1)) from by unfold execSt; rw [if_neg (by simp [h1]), if_neg (by omega), if_neg (by omega), if_neg (by omega), if_neg (by omega), if_neg (by omega), if_pos h2, if_pos h3])
  clear X h
  obtain ⟨x, hx⟩ : ∃ x, insOf p f = x := ⟨_, rfl⟩
  rw [hx] at ga gb c0 c1 c2 c3 c4 dst0 dst1 a0 a1 b0 b1 h1 h2 h3
  have HXX := Lib.hid hx
  clear hx
  obtain ⟨op, dst, xa, xb, imm⟩ := x
  dsimp only at *
  subst h2
  go_enter Tryd.func50, Tryd.ntmps50
  go_wp2_with fail
  go_quiet (fail)
  obtain ⟨w1, hw1⟩ : ∃ w1, w.drewN nq = w1 := ⟨_, rfl⟩
  rw [hw1]
  have X1 := HX.out.drewN nq
  rw [hw1] at X1
  clear hw1 HX e19 e2 e22 g0 g1 ga gb d2 c0 c1 c2 c3 c4 lE lg lp lc
  have e19 := X1.e19
  have e2 := X1.e2
  have e22 := X1.e22
  have g0 := X1.g0
  have g1 := X1.g1
  have ga := X1.ga
  have gb := X1.gb
  have d2 := X1.d2
  have c0 := X1.c0
  have c1 := X1.c1
  have c2 := X1.c2
  have c3 := X1.c3
  have c4 := X1.c4
  rw [HXX.out] at ga gb c0 c1 c2 c3 c4
  have lE := X1.lE
  have lg := X1.lg
  have lp := X1.lp
  have lc := X1.lc
  have HT2 : Hid (∀ w2, (w1.alloc (.cells #[.int .i64 (insOf p f).op, .int .i64 (insOf p f).dst, .int .i64 (insOf p f).a, .int .i64 (insOf p f).b, .int .i64 (insOf p f).imm] 76)).drew = w2 → Top w0 w2 E pv s ES AS fs f k g cap w1.heap.size (insOf p f)) := Lib.hid (fun w2 h => by
    rw [← h]
    exact ⟨(X1.eng.alloc _).drew, hf, X1.hk, HR.out, HM.out, heap_alloc_new w1 _⟩)
  rw [HXX.out] at HT2
  clear X1
  dsimp only at ga gb c0 c1 c2 c3 c4
  go_wp2_with fail
  have KS := Lib.hid (fun (w' : World) (hb : Below w1.heap.size w1 w') => (⟨(hb.cell (p := ⟨E, 22, none⟩) lE).trans e22, (hb.cell (p := ⟨g, _, none⟩) lg).trans g0, (hb.cell (p := ⟨pg, _, none⟩) lp).trans d2, (hb.cell (p := ⟨g, _, none⟩) lg).trans g1, (hb.cell (p := ⟨cg, _, none⟩) lc).trans c0, (hb.cell (p := ⟨cg, _, none⟩) lc).trans c1, (hb.cell (p := ⟨cg, _, none⟩) lc).trans c2, (hb.cell (p := ⟨cg, _, none⟩) lc).trans c3, (hb.cell (p := ⟨cg, _, none⟩) lc).trans c4⟩ : w'.cell? ⟨E, 22, none⟩ = some (.slice (some ⟨pg, 0, none⟩) N PC) ∧ w'.cell? ⟨g, k * 14, none⟩ = some (.int .i64 f.fn) ∧ w'.cell? ⟨pg, f.fn.toNat * 3 + 2, none⟩ = some (.slice (some ⟨cg, 0, none⟩) M ccap) ∧ w'.cell? ⟨g, k * 14 + 1, none⟩ = some (.int .i64 f.pc) ∧ w'.cell? ⟨cg, f.pc.toNat * 5, none⟩ = some (.int .i64 16) ∧ w'.cell? ⟨cg, f.pc.toNat * 5 + 1, none⟩ = some (.int .i64 dst) ∧ w'.cell? ⟨cg, f.pc.toNat * 5 + 2, none⟩ = some (.int .i64 xa) ∧ w'.cell? ⟨cg, f.pc.toNat * 5 + 3, none⟩ = some (.int .i64 xb) ∧ w'.cell? ⟨cg, f.pc.toNat * 5 + 4, none⟩ = some (.int .i64 imm)))
  go_region_held3 (fun w' => w'.cell? ⟨E, 22, none⟩ = some (.slice (some ⟨pg, 0, none⟩) N PC) ∧ w'.cell? ⟨g, k * 14, none⟩ = some (.int .i64 f.fn) ∧ w'.cell? ⟨pg, f.fn.toNat * 3 + 2, none⟩ = some (.slice (some ⟨cg, 0, none⟩) M ccap) ∧ w'.cell? ⟨g, k * 14 + 1, none⟩ = some (.int .i64 f.pc) ∧ w'.cell? ⟨cg, f.pc.toNat * 5, none⟩ = some (.int .i64 16) ∧ w'.cell? ⟨cg, f.pc.toNat * 5 + 1, none⟩ = some (.int .i64 dst) ∧ w'.cell? ⟨cg, f.pc.toNat * 5 + 2, none⟩ = some (.int .i64 xa) ∧ w'.cell? ⟨cg, f.pc.toNat * 5 + 3, none⟩ = some (.int .i64 xb) ∧ w'.cell? ⟨cg, f.pc.toNat * 5 + 4, none⟩ = some (.int .i64 imm)) (exact KS.out _ (by have hb := Below.refl w1.heap.size w1; repeat (first | exact hb | exact Below.refl _ _ | apply Below.drew | apply below_drewN | refine Below.alloc ?_ (by first | omega | (simp; done) | (simp; omega)) _ | refine Below.setCell ?_ (by first | omega | (simp; done) | (simp; omega)) _))) (first | fail)
  all_goals (
    rename_i hHeld
    clear hHeld KS)
  obtain ⟨w2, hw2⟩ : ∃ w2, (w1.alloc (.cells #[.int .i64 16, .int .i64 dst, .int .i64 xa, .int .i64 xb, .int .i64 imm] 76)).drew = w2 := ⟨_, rfl⟩
  rw [hw2]
  have Tw2 := Lib.hid (HT2.out w2 hw2)
  clear hw2 HT2 e19 e2 e22 g0 g1 ga gb d2 c0 c1 c2 c3 c4 lE lg lp lc fn0 fn1 pc1 fn2 pc2 hk1 hk2 hk3 hfu'
  obtain ⟨I, hI⟩ : ∃ I, w1.heap.size = I := ⟨_, rfl⟩
  rw [hI] at Tw2 ⊢
  clear hI
  have i2 := (Tw2.out.iC 2).trans rfl
  have i3 := (Tw2.out.iC 3).trans rfl
  have ga := Tw2.out.cR a0 a1
  have gb := Tw2.out.cR b0 b1
  go_wp2_with fail
  go_quiet (fail)
  obtain ⟨w3, hw3⟩ : ∃ w3, w2.drewN nq = w3 := ⟨_, rfl⟩
  rw [hw3]
  have Tw3 : Hid (Top w0 w3 E pv s ES AS fs f k g cap I ⟨16, dst, xa, xb, imm⟩) := Lib.hid (by rw [← hw3]; exact Tw2.out.drewN nq)
  clear hw3 Tw2 i2 i3 ga gb
  have i0 := (Tw3.out.iC 0).trans rfl
  have i4 := (Tw3.out.iC 4).trans rfl
  have i1 := (Tw3.out.iC 1).trans rfl
  have qf : w3.cell? ⟨E, 19, none⟩ = some (.int .i64 s.fuel) := Tw3.out.e19
  have ff := Tw3.out.eng.frozen 19
  have hz : (f.reg xa != 0) = false := by simp [h3]
  go_wp2_with (first
    | (go_at_call 55; refine (spure_any _ _ _ _ _).mono ?_; rintro e w' ⟨rfl, rfl⟩)
    | (obtain ⟨w4, hw4⟩ : ∃ w4, w3.setCell ⟨E, 19, none⟩ (.int .i64 (s.fuel - 1)) = w4 := ⟨_, rfl⟩; rw [hw4]; have Tw4 := Lib.hid (Tw3.out.fuel (s.fuel - 1)); rw [hw4] at Tw4; clear hw4 qf ff Tw3 i0 i1 i4; have i0 := (Tw4.out.iC 0).trans rfl; have qp : w4.cell? ⟨g, k * 14 + 1, none⟩ = some (.int .i64 f.pc) := Tw4.out.c1; have fp := Tw4.out.frz (k * 14 + 1))
    | (obtain ⟨w5, hw5⟩ : ∃ w5, w4.setCell ⟨g, k * 14 + 1, none⟩ (.int .i64 (f.pc + 1)) = w5 := ⟨_, rfl⟩; rw [hw5]; have Tw5 := Lib.hid (Tw4.out.pc (f.pc + 1)); rw [hw5] at Tw5; clear hw5 qp fp Tw4; skip))
  exact bodyPost_end (v := .tuple #[]) (by simp [results, Tryd.results50, go_sem]) rfl ⟨rfl, _, _, _, by rw [HEX.out]; exact Tw5.out.eng⟩
end Go.Proofs.YtfngkpbbimibaaaDoor
