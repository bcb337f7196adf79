/-
  The engine's next: calls, the host, returns.
-/
import Derived.Test.YtfngkpbbimibaaaDoorSt4
namespace Go.Proofs.YtfngkpbbimibaaaDoor
open Go.RowKit Tier
set_option maxRecDepth 100000 in
set_option maxHeartbeats 8000000 in
theorem next_if1 {p : List Fnc} (hp : Right p) {w0 w : World} {E : Nat} {pv FS ES AS : Value} {s : St} (h : EngAt w0 w E pv s FS ES AS) (hP : ProgAt w0 pv p) (hi : StInv p s) (hfu : s.fuel ≠ 0) {fs : List Fr} {f : Fr} (hf : s.frames = fs ++ [f]) (h1 : mkOk (insOf p f).op (f.reg (insOf p f).b) = false) (h2 : (insOf p f).op = 16) (h3 : f.reg (insOf p f).a ≠ 0) :
    Calls Tryd.prog 50 #[.pointer (some ⟨E, 0, none⟩)] w fun e w' => e = .returned (.tuple #[]) ∧ ∃ FS' ES' AS', EngAt w0 w' E pv (execSt p s fs f) FS' ES' AS' := by
  obtain ⟨k, g, cap, pg, N, PC, cg, M, ccap, X⟩ := nx_of hp h hP hi hf
  have HX := Lib.hid X
  have HM := Lib.hid hi.mem
  have HR : Hid (∀ x ∈ s.frames, x.regs.length = 12) := Lib.hid (fun x hx => (hi.fr x hx).regs)
  have hfs := X.fs0
  subst hfs
  have hfu' : (s.fuel == 0) = false := by simpa using hfu
  have hk1 : IntKind.i64.wrap (k : Int) = k := by have := X.k8; rw [IntKind.wrap_i64]; omega
  have hk2 : (k : Int) < k + 1 := by omega
  have hk3 : (0 : Int) ≤ k := by omega
  have e19 := X.e19
  have e2 := X.e2
  have e22 := X.e22
  have g0 := X.g0
  have g1 := X.g1
  have ga := X.ga
  have gb := X.gb
  have d2 := X.d2
  have c0 := X.c0
  have c1 := X.c1
  have c2 := X.c2
  have c3 := X.c3
  have c4 := X.c4
  have fn0 := X.fn0
  have fn1 := X.fn1
  have pc0 := X.pc0
  have pc1 := X.pc1
  have M40 := X.M40
  have dst0 := X.dst0
  have dst1 := X.dst1
  have a0 := X.a0
  have a1 := X.a1
  have b0 := X.b0
  have b1 := X.b1
  have lE := X.lE
  have lg := X.lg
  have lp := X.lp
  have lc := X.lc
  have hpw : IntKind.i64.wrap (f.pc + 1) = f.pc + 1 := by rw [IntKind.wrap_i64]; omega
  have hfw : IntKind.i64.wrap (s.fuel - 1) = s.fuel - 1 := by have := hi.fuel0; have := hi.fuel1; rw [IntKind.wrap_i64]; omega
  have fn2 : f.fn.toNat < N := by omega
  have pc2 : f.pc.toNat < M := by omega
  have HEX := Lib.hid (show execSt p s fs f = topSt s fs (f.at (insOf p f).imm) from by unfold execSt; rw [if_neg (by simp [h1]), if_neg (by omega), if_neg (by omega), if_neg (by omega), if_neg (by omega), if_neg (by omega), if_pos h2, if_neg h3])
  clear X h
  obtain ⟨x, hx⟩ : ∃ x, insOf p f = x := ⟨_, rfl⟩
  rw [hx] at ga gb c0 c1 c2 c3 c4 dst0 dst1 a0 a1 b0 b1 h1 h2 h3
  rw [hx] at HEX
  have HXX := Lib.hid hx
  clear hx
  obtain ⟨op, dst, xa, xb, imm⟩ := x
  dsimp only at *
  subst h2
  go_enter Tryd.func50, Tryd.ntmps50
  go_wp2_with fail
  go_quiet (fail)
  obtain ⟨w1, hw1⟩ : ∃ w1, w.drewN nq = w1 := ⟨_, rfl⟩
  rw [hw1]
  have X1 := HX.out.drewN nq
  rw [hw1] at X1
  clear hw1 HX e19 e2 e22 g0 g1 ga gb d2 c0 c1 c2 c3 c4 lE lg lp lc
  have e19 := X1.e19
  have e2 := X1.e2
  have e22 := X1.e22
  have g0 := X1.g0
  have g1 := X1.g1
  have ga := X1.ga
  have gb := X1.gb
  have d2 := X1.d2
  have c0 := X1.c0
  have c1 := X1.c1
  have c2 := X1.c2
  have c3 := X1.c3
  have c4 := X1.c4
  rw [HXX.out] at ga gb c0 c1 c2 c3 c4
  have lE := X1.lE
  have lg := X1.lg
  have lp := X1.lp
  have lc := X1.lc
  have HT2 : Hid (∀ w2, (w1.alloc (.cells #[.int .i64 (insOf p f).op, .int .i64 (insOf p f).dst, .int .i64 (insOf p f).a, .int .i64 (insOf p f).b, .int .i64 (insOf p f).imm] 76)).drew = w2 → Top w0 w2 E pv s ES AS fs f k g cap w1.heap.size (insOf p f)) := Lib.hid (fun w2 h => by
    rw [← h]
    exact ⟨(X1.eng.alloc _).drew, hf, X1.hk, HR.out, HM.out, heap_alloc_new w1 _⟩)
  rw [HXX.out] at HT2
  clear X1
  dsimp only at ga gb c0 c1 c2 c3 c4
  go_wp2_with fail
  have KS := Lib.hid (fun (w' : World) (hb : Below w1.heap.size w1 w') => (⟨(hb.cell (p := ⟨E, 22, none⟩) lE).trans e22, (hb.cell (p := ⟨g, _, none⟩) lg).trans g0, (hb.cell (p := ⟨pg, _, none⟩) lp).trans d2, (hb.cell (p := ⟨g, _, none⟩) lg).trans g1, (hb.cell (p := ⟨cg, _, none⟩) lc).trans c0, (hb.cell (p := ⟨cg, _, none⟩) lc).trans c1, (hb.cell (p := ⟨cg, _, none⟩) lc).trans c2, (hb.cell (p := ⟨cg, _, none⟩) lc).trans c3, (hb.cell (p := ⟨cg, _, none⟩) lc).trans c4⟩ : w'.cell? ⟨E, 22, none⟩ = some (.slice (some ⟨pg, 0, none⟩) N PC) ∧ w'.cell? ⟨g, k * 14, none⟩ = some (.int .i64 f.fn) ∧ w'.cell? ⟨pg, f.fn.toNat * 3 + 2, none⟩ = some (.slice (some ⟨cg, 0, none⟩) M ccap) ∧ w'.cell? ⟨g, k * 14 + 1, none⟩ = some (.int .i64 f.pc) ∧ w'.cell? ⟨cg, f.pc.toNat * 5, none⟩ = some (.int .i64 16) ∧ w'.cell? ⟨cg, f.pc.toNat * 5 + 1, none⟩ = some (.int .i64 dst) ∧ w'.cell? ⟨cg, f.pc.toNat * 5 + 2, none⟩ = some (.int .i64 xa) ∧ w'.cell? ⟨cg, f.pc.toNat * 5 + 3, none⟩ = some (.int .i64 xb) ∧ w'.cell? ⟨cg, f.pc.toNat * 5 + 4, none⟩ = some (.int .i64 imm)))
  go_region_held3 (fun w' => w'.cell? ⟨E, 22, none⟩ = some (.slice (some ⟨pg, 0, none⟩) N PC) ∧ w'.cell? ⟨g, k * 14, none⟩ = some (.int .i64 f.fn) ∧ w'.cell? ⟨pg, f.fn.toNat * 3 + 2, none⟩ = some (.slice (some ⟨cg, 0, none⟩) M ccap) ∧ w'.cell? ⟨g, k * 14 + 1, none⟩ = some (.int .i64 f.pc) ∧ w'.cell? ⟨cg, f.pc.toNat * 5, none⟩ = some (.int .i64 16) ∧ w'.cell? ⟨cg, f.pc.toNat * 5 + 1, none⟩ = some (.int .i64 dst) ∧ w'.cell? ⟨cg, f.pc.toNat * 5 + 2, none⟩ = some (.int .i64 xa) ∧ w'.cell? ⟨cg, f.pc.toNat * 5 + 3, none⟩ = some (.int .i64 xb) ∧ w'.cell? ⟨cg, f.pc.toNat * 5 + 4, none⟩ = some (.int .i64 imm)) (exact KS.out _ (by have hb := Below.refl w1.heap.size w1; repeat (first | exact hb | exact Below.refl _ _ | apply Below.drew | apply below_drewN | refine Below.alloc ?_ (by first | omega | (simp; done) | (simp; omega)) _ | refine Below.setCell ?_ (by first | omega | (simp; done) | (simp; omega)) _))) (first | fail)
  all_goals (
    rename_i hHeld
    clear hHeld KS)
  obtain ⟨w2, hw2⟩ : ∃ w2, (w1.alloc (.cells #[.int .i64 16, .int .i64 dst, .int .i64 xa, .int .i64 xb, .int .i64 imm] 76)).drew = w2 := ⟨_, rfl⟩
  rw [hw2]
  have Tw2 := Lib.hid (HT2.out w2 hw2)
  clear hw2 HT2 e19 e2 e22 g0 g1 ga gb d2 c0 c1 c2 c3 c4 lE lg lp lc fn0 fn1 pc1 fn2 pc2 hk1 hk2 hk3 hfu'
  obtain ⟨I, hI⟩ : ∃ I, w1.heap.size = I := ⟨_, rfl⟩
  rw [hI] at Tw2 ⊢
  clear hI
  have i2 := (Tw2.out.iC 2).trans rfl
  have i3 := (Tw2.out.iC 3).trans rfl
  have ga := Tw2.out.cR a0 a1
  have gb := Tw2.out.cR b0 b1
  go_wp2_with fail
  go_quiet (fail)
  obtain ⟨w3, hw3⟩ : ∃ w3, w2.drewN nq = w3 := ⟨_, rfl⟩
  rw [hw3]
  have Tw3 : Hid (Top w0 w3 E pv s ES AS fs f k g cap I ⟨16, dst, xa, xb, imm⟩) := Lib.hid (by rw [← hw3]; exact Tw2.out.drewN nq)
  clear hw3 Tw2 i2 i3 ga gb
  have i0 := (Tw3.out.iC 0).trans rfl
  have i4 := (Tw3.out.iC 4).trans rfl
  have i1 := (Tw3.out.iC 1).trans rfl
  have qf : w3.cell? ⟨E, 19, none⟩ = some (.int .i64 s.fuel) := Tw3.out.e19
  have ff := Tw3.out.eng.frozen 19
  have hz : (f.reg xa != 0) = true := by simpa using h3
  go_wp2_with (first
    | (go_at_call 55; refine (spure_any _ _ _ _ _).mono ?_; rintro e w' ⟨rfl, rfl⟩)
    | (obtain ⟨w4, hw4⟩ : ∃ w4, w3.setCell ⟨E, 19, none⟩ (.int .i64 (s.fuel - 1)) = w4 := ⟨_, rfl⟩; rw [hw4]; have Tw4 := Lib.hid (Tw3.out.fuel (s.fuel - 1)); rw [hw4] at Tw4; clear hw4 qf ff Tw3 i0 i1 i4; have i0 := (Tw4.out.iC 0).trans rfl; have qp : w4.cell? ⟨g, k * 14 + 1, none⟩ = some (.int .i64 f.pc) := Tw4.out.c1; have fp := Tw4.out.frz (k * 14 + 1))
    | (obtain ⟨w5, hw5⟩ : ∃ w5, w4.setCell ⟨g, k * 14 + 1, none⟩ (.int .i64 (f.pc + 1)) = w5 := ⟨_, rfl⟩; rw [hw5]; have Tw5 := Lib.hid (Tw4.out.pc (f.pc + 1)); rw [hw5] at Tw5; clear hw5 qp fp Tw4; have i4 := (Tw5.out.iC 4).trans rfl; have qp : w5.cell? ⟨g, k * 14 + 1, none⟩ = some (.int .i64 (f.pc + 1)) := Tw5.out.c1; have fp := Tw5.out.frz (k * 14 + 1))
    | (obtain ⟨w6, hw6⟩ : ∃ w6, w5.setCell ⟨g, k * 14 + 1, none⟩ (.int .i64 imm) = w6 := ⟨_, rfl⟩; rw [hw6]; have Tw6 := Lib.hid (Tw5.out.pc imm); rw [hw6] at Tw6; clear hw6 qp fp Tw5; skip))
  exact bodyPost_end (v := .tuple #[]) (by simp [results, Tryd.results50, go_sem]) rfl ⟨rfl, _, _, _, by rw [HEX.out]; exact Tw6.out.eng⟩
set_option maxRecDepth 100000 in
set_option maxHeartbeats 8000000 in
theorem next_deep {p : List Fnc} (hp : Right p) {w0 w : World} {E : Nat} {pv FS ES AS : Value} {s : St} (h : EngAt w0 w E pv s FS ES AS) (hP : ProgAt w0 pv p) (hi : StInv p s) (hfu : s.fuel ≠ 0) {fs : List Fr} {f : Fr} (hf : s.frames = fs ++ [f]) (h1 : mkOk (insOf p f).op (f.reg (insOf p f).b) = false) (h2 : (insOf p f).op = 17) (h3 : fs.length + 1 = 8) :
    Calls Tryd.prog 50 #[.pointer (some ⟨E, 0, none⟩)] w fun e w' => e = .returned (.tuple #[]) ∧ ∃ FS' ES' AS', EngAt w0 w' E pv (execSt p s fs f) FS' ES' AS' := by
  obtain ⟨k, g, cap, pg, N, PC, cg, M, ccap, X⟩ := nx_of hp h hP hi hf
  have HX := Lib.hid X
  have HM := Lib.hid hi.mem
  have HR : Hid (∀ x ∈ s.frames, x.regs.length = 12) := Lib.hid (fun x hx => (hi.fr x hx).regs)
  have hfs := X.fs0
  subst hfs
  have hfu' : (s.fuel == 0) = false := by simpa using hfu
  have hk1 : IntKind.i64.wrap (k : Int) = k := by have := X.k8; rw [IntKind.wrap_i64]; omega
  have hk2 : (k : Int) < k + 1 := by omega
  have hk3 : (0 : Int) ≤ k := by omega
  have e19 := X.e19
  have e2 := X.e2
  have e22 := X.e22
  have g0 := X.g0
  have g1 := X.g1
  have ga := X.ga
  have gb := X.gb
  have d2 := X.d2
  have c0 := X.c0
  have c1 := X.c1
  have c2 := X.c2
  have c3 := X.c3
  have c4 := X.c4
  have fn0 := X.fn0
  have fn1 := X.fn1
  have pc0 := X.pc0
  have pc1 := X.pc1
  have M40 := X.M40
  have dst0 := X.dst0
  have dst1 := X.dst1
  have a0 := X.a0
  have a1 := X.a1
  have b0 := X.b0
  have b1 := X.b1
  have lE := X.lE
  have lg := X.lg
  have lp := X.lp
  have lc := X.lc
  have hpw : IntKind.i64.wrap (f.pc + 1) = f.pc + 1 := by rw [IntKind.wrap_i64]; omega
  have hfw : IntKind.i64.wrap (s.fuel - 1) = s.fuel - 1 := by have := hi.fuel0; have := hi.fuel1; rw [IntKind.wrap_i64]; omega
  have fn2 : f.fn.toNat < N := by omega
  have pc2 : f.pc.toNat < M := by omega
  have HEX := Lib.hid (show execSt p s fs f = { s with fuel := s.fuel - 1, status := 5 } from by unfold execSt; rw [if_neg (by simp [h1]), if_neg (by omega), if_neg (by omega), if_neg (by omega), if_neg (by omega), if_neg (by omega), if_neg (by omega), if_pos h2, if_pos h3])
  clear X h
  obtain ⟨x, hx⟩ : ∃ x, insOf p f = x := ⟨_, rfl⟩
  rw [hx] at ga gb c0 c1 c2 c3 c4 dst0 dst1 a0 a1 b0 b1 h1 h2
  have HXX := Lib.hid hx
  clear hx
  obtain ⟨op, dst, xa, xb, imm⟩ := x
  dsimp only at *
  subst h2
  go_enter Tryd.func50, Tryd.ntmps50
  go_wp2_with fail
  go_quiet (fail)
  obtain ⟨w1, hw1⟩ : ∃ w1, w.drewN nq = w1 := ⟨_, rfl⟩
  rw [hw1]
  have X1 := HX.out.drewN nq
  rw [hw1] at X1
  clear hw1 HX e19 e2 e22 g0 g1 ga gb d2 c0 c1 c2 c3 c4 lE lg lp lc
  have e19 := X1.e19
  have e2 := X1.e2
  have e22 := X1.e22
  have g0 := X1.g0
  have g1 := X1.g1
  have ga := X1.ga
  have gb := X1.gb
  have d2 := X1.d2
  have c0 := X1.c0
  have c1 := X1.c1
  have c2 := X1.c2
  have c3 := X1.c3
  have c4 := X1.c4
  rw [HXX.out] at ga gb c0 c1 c2 c3 c4
  have lE := X1.lE
  have lg := X1.lg
  have lp := X1.lp
  have lc := X1.lc
  have HT2 : Hid (∀ w2, (w1.alloc (.cells #[.int .i64 (insOf p f).op, .int .i64 (insOf p f).dst, .int .i64 (insOf p f).a, .int .i64 (insOf p f).b, .int .i64 (insOf p f).imm] 76)).drew = w2 → Top w0 w2 E pv s ES AS fs f k g cap w1.heap.size (insOf p f)) := Lib.hid (fun w2 h => by
    rw [← h]
    exact ⟨(X1.eng.alloc _).drew, hf, X1.hk, HR.out, HM.out, heap_alloc_new w1 _⟩)
  rw [HXX.out] at HT2
  clear X1
  dsimp only at ga gb c0 c1 c2 c3 c4
  go_wp2_with fail
  have KS := Lib.hid (fun (w' : World) (hb : Below w1.heap.size w1 w') => (⟨(hb.cell (p := ⟨E, 22, none⟩) lE).trans e22, (hb.cell (p := ⟨g, _, none⟩) lg).trans g0, (hb.cell (p := ⟨pg, _, none⟩) lp).trans d2, (hb.cell (p := ⟨g, _, none⟩) lg).trans g1, (hb.cell (p := ⟨cg, _, none⟩) lc).trans c0, (hb.cell (p := ⟨cg, _, none⟩) lc).trans c1, (hb.cell (p := ⟨cg, _, none⟩) lc).trans c2, (hb.cell (p := ⟨cg, _, none⟩) lc).trans c3, (hb.cell (p := ⟨cg, _, none⟩) lc).trans c4⟩ : w'.cell? ⟨E, 22, none⟩ = some (.slice (some ⟨pg, 0, none⟩) N PC) ∧ w'.cell? ⟨g, k * 14, none⟩ = some (.int .i64 f.fn) ∧ w'.cell? ⟨pg, f.fn.toNat * 3 + 2, none⟩ = some (.slice (some ⟨cg, 0, none⟩) M ccap) ∧ w'.cell? ⟨g, k * 14 + 1, none⟩ = some (.int .i64 f.pc) ∧ w'.cell? ⟨cg, f.pc.toNat * 5, none⟩ = some (.int .i64 17) ∧ w'.cell? ⟨cg, f.pc.toNat * 5 + 1, none⟩ = some (.int .i64 dst) ∧ w'.cell? ⟨cg, f.pc.toNat * 5 + 2, none⟩ = some (.int .i64 xa) ∧ w'.cell? ⟨cg, f.pc.toNat * 5 + 3, none⟩ = some (.int .i64 xb) ∧ w'.cell? ⟨cg, f.pc.toNat * 5 + 4, none⟩ = some (.int .i64 imm)))
  go_region_held3 (fun w' => w'.cell? ⟨E, 22, none⟩ = some (.slice (some ⟨pg, 0, none⟩) N PC) ∧ w'.cell? ⟨g, k * 14, none⟩ = some (.int .i64 f.fn) ∧ w'.cell? ⟨pg, f.fn.toNat * 3 + 2, none⟩ = some (.slice (some ⟨cg, 0, none⟩) M ccap) ∧ w'.cell? ⟨g, k * 14 + 1, none⟩ = some (.int .i64 f.pc) ∧ w'.cell? ⟨cg, f.pc.toNat * 5, none⟩ = some (.int .i64 17) ∧ w'.cell? ⟨cg, f.pc.toNat * 5 + 1, none⟩ = some (.int .i64 dst) ∧ w'.cell? ⟨cg, f.pc.toNat * 5 + 2, none⟩ = some (.int .i64 xa) ∧ w'.cell? ⟨cg, f.pc.toNat * 5 + 3, none⟩ = some (.int .i64 xb) ∧ w'.cell? ⟨cg, f.pc.toNat * 5 + 4, none⟩ = some (.int .i64 imm)) (exact KS.out _ (by have hb := Below.refl w1.heap.size w1; repeat (first | exact hb | exact Below.refl _ _ | apply Below.drew | apply below_drewN | refine Below.alloc ?_ (by first | omega | (simp; done) | (simp; omega)) _ | refine Below.setCell ?_ (by first | omega | (simp; done) | (simp; omega)) _))) (first | fail)
  all_goals (
    rename_i hHeld
    clear hHeld KS)
  obtain ⟨w2, hw2⟩ : ∃ w2, (w1.alloc (.cells #[.int .i64 17, .int .i64 dst, .int .i64 xa, .int .i64 xb, .int .i64 imm] 76)).drew = w2 := ⟨_, rfl⟩
  rw [hw2]
  have Tw2 := Lib.hid (HT2.out w2 hw2)
  clear hw2 HT2 e19 e2 e22 g0 g1 ga gb d2 c0 c1 c2 c3 c4 lE lg lp lc fn0 fn1 pc1 fn2 pc2 hk1 hk2 hk3 hfu'
  obtain ⟨I, hI⟩ : ∃ I, w1.heap.size = I := ⟨_, rfl⟩
  rw [hI] at Tw2 ⊢
  clear hI
  have i2 := (Tw2.out.iC 2).trans rfl
  have i3 := (Tw2.out.iC 3).trans rfl
  have ga := Tw2.out.cR a0 a1
  have gb := Tw2.out.cR b0 b1
  go_wp2_with fail
  go_quiet (fail)
  obtain ⟨w3, hw3⟩ : ∃ w3, w2.drewN nq = w3 := ⟨_, rfl⟩
  rw [hw3]
  have Tw3 : Hid (Top w0 w3 E pv s ES AS fs f k g cap I ⟨17, dst, xa, xb, imm⟩) := Lib.hid (by rw [← hw3]; exact Tw2.out.drewN nq)
  clear hw3 Tw2 i2 i3 ga gb
  have i0 := (Tw3.out.iC 0).trans rfl
  have i4 := (Tw3.out.iC 4).trans rfl
  have i1 := (Tw3.out.iC 1).trans rfl
  have qf : w3.cell? ⟨E, 19, none⟩ = some (.int .i64 s.fuel) := Tw3.out.e19
  have ff := Tw3.out.eng.frozen 19
  have hlen : s.frames.length = 8 := by rw [hf]; simpa using h3
  go_wp2_with (first
    | (go_at_call 55; refine (spure_any _ _ _ _ _).mono ?_; rintro e w' ⟨rfl, rfl⟩)
    | (obtain ⟨w4, hw4⟩ : ∃ w4, w3.setCell ⟨E, 19, none⟩ (.int .i64 (s.fuel - 1)) = w4 := ⟨_, rfl⟩; rw [hw4]; have Tw4 := Lib.hid (Tw3.out.fuel (s.fuel - 1)); rw [hw4] at Tw4; clear hw4 qf ff Tw3 i0 i1 i4; have i0 := (Tw4.out.iC 0).trans rfl; have i1 := (Tw4.out.iC 1).trans rfl; have i2 := (Tw4.out.iC 2).trans rfl; have i3 := (Tw4.out.iC 3).trans rfl; have i4 := (Tw4.out.iC 4).trans rfl)
    | (go_at_call 56; go_must (refine (call_deep Tw4.out.eng HM.out hlen 17 dst xa xb imm (f.reg xa) (f.reg xb)).mono ?_; rintro e w5 ⟨rfl, h5⟩)))
  rw [HEX.out]
  exact bodyPost_end (v := .tuple #[]) (by simp [results, Tryd.results50, go_sem]) rfl ⟨rfl, _, _, _, h5⟩
set_option maxRecDepth 100000 in
set_option maxHeartbeats 8000000 in
theorem next_call {p : List Fnc} (hp : Right p) {w0 w : World} {E : Nat} {pv FS ES AS : Value} {s : St} (h : EngAt w0 w E pv s FS ES AS) (hP : ProgAt w0 pv p) (hi : StInv p s) (hfu : s.fuel ≠ 0) {fs : List Fr} {f : Fr} (hf : s.frames = fs ++ [f]) (h1 : mkOk (insOf p f).op (f.reg (insOf p f).b) = false) (h2 : (insOf p f).op = 17) (h3 : fs.length + 1 ≠ 8) :
    Calls Tryd.prog 50 #[.pointer (some ⟨E, 0, none⟩)] w fun e w' => e = .returned (.tuple #[]) ∧ ∃ FS' ES' AS', EngAt w0 w' E pv (execSt p s fs f) FS' ES' AS' := by
  obtain ⟨k, g, cap, pg, N, PC, cg, M, ccap, X⟩ := nx_of hp h hP hi hf
  have HX := Lib.hid X
  have HM := Lib.hid hi.mem
  have HR : Hid (∀ x ∈ s.frames, x.regs.length = 12) := Lib.hid (fun x hx => (hi.fr x hx).regs)
  have hfs := X.fs0
  subst hfs
  have hfu' : (s.fuel == 0) = false := by simpa using hfu
  have hk1 : IntKind.i64.wrap (k : Int) = k := by have := X.k8; rw [IntKind.wrap_i64]; omega
  have hk2 : (k : Int) < k + 1 := by omega
  have hk3 : (0 : Int) ≤ k := by omega
  have e19 := X.e19
  have e2 := X.e2
  have e22 := X.e22
  have g0 := X.g0
  have g1 := X.g1
  have ga := X.ga
  have gb := X.gb
  have d2 := X.d2
  have c0 := X.c0
  have c1 := X.c1
  have c2 := X.c2
  have c3 := X.c3
  have c4 := X.c4
  have fn0 := X.fn0
  have fn1 := X.fn1
  have pc0 := X.pc0
  have pc1 := X.pc1
  have M40 := X.M40
  have dst0 := X.dst0
  have dst1 := X.dst1
  have a0 := X.a0
  have a1 := X.a1
  have b0 := X.b0
  have b1 := X.b1
  have lE := X.lE
  have lg := X.lg
  have lp := X.lp
  have lc := X.lc
  have hpw : IntKind.i64.wrap (f.pc + 1) = f.pc + 1 := by rw [IntKind.wrap_i64]; omega
  have hfw : IntKind.i64.wrap (s.fuel - 1) = s.fuel - 1 := by have := hi.fuel0; have := hi.fuel1; rw [IntKind.wrap_i64]; omega
  have fn2 : f.fn.toNat < N := by omega
  have pc2 : f.pc.toNat < M := by omega
  have HEX := Lib.hid (show execSt p s fs f = { s with fuel := s.fuel - 1, frames := fs ++ [f, newFr (insOf p f).imm (fnOf p (insOf p f).imm).params (f.reg (insOf p f).a) (f.reg (insOf p f).b)] } from by unfold execSt; rw [if_neg (by simp [h1]), if_neg (by omega), if_neg (by omega), if_neg (by omega), if_neg (by omega), if_neg (by omega), if_neg (by omega), if_pos h2, if_neg h3])
  clear X h
  obtain ⟨x, hx⟩ : ∃ x, insOf p f = x := ⟨_, rfl⟩
  rw [hx] at ga gb c0 c1 c2 c3 c4 dst0 dst1 a0 a1 b0 b1 h1 h2
  rw [hx] at HEX
  have HXX := Lib.hid hx
  clear hx
  obtain ⟨op, dst, xa, xb, imm⟩ := x
  dsimp only at *
  subst h2
  go_enter Tryd.func50, Tryd.ntmps50
  go_wp2_with fail
  go_quiet (fail)
  obtain ⟨w1, hw1⟩ : ∃ w1, w.drewN nq = w1 := ⟨_, rfl⟩
  rw [hw1]
  have X1 := HX.out.drewN nq
  rw [hw1] at X1
  clear hw1 HX e19 e2 e22 g0 g1 ga gb d2 c0 c1 c2 c3 c4 lE lg lp lc
  have e19 := X1.e19
  have e2 := X1.e2
  have e22 := X1.e22
  have g0 := X1.g0
  have g1 := X1.g1
  have ga := X1.ga
  have gb := X1.gb
  have d2 := X1.d2
  have c0 := X1.c0
  have c1 := X1.c1
  have c2 := X1.c2
  have c3 := X1.c3
  have c4 := X1.c4
  rw [HXX.out] at ga gb c0 c1 c2 c3 c4
  have lE := X1.lE
  have lg := X1.lg
  have lp := X1.lp
  have lc := X1.lc
  have HT2 : Hid (∀ w2, (w1.alloc (.cells #[.int .i64 (insOf p f).op, .int .i64 (insOf p f).dst, .int .i64 (insOf p f).a, .int .i64 (insOf p f).b, .int .i64 (insOf p f).imm] 76)).drew = w2 → Top w0 w2 E pv s ES AS fs f k g cap w1.heap.size (insOf p f)) := Lib.hid (fun w2 h => by
    rw [← h]
    exact ⟨(X1.eng.alloc _).drew, hf, X1.hk, HR.out, HM.out, heap_alloc_new w1 _⟩)
  rw [HXX.out] at HT2
  clear X1
  dsimp only at ga gb c0 c1 c2 c3 c4
  go_wp2_with fail
  have KS := Lib.hid (fun (w' : World) (hb : Below w1.heap.size w1 w') => (⟨(hb.cell (p := ⟨E, 22, none⟩) lE).trans e22, (hb.cell (p := ⟨g, _, none⟩) lg).trans g0, (hb.cell (p := ⟨pg, _, none⟩) lp).trans d2, (hb.cell (p := ⟨g, _, none⟩) lg).trans g1, (hb.cell (p := ⟨cg, _, none⟩) lc).trans c0, (hb.cell (p := ⟨cg, _, none⟩) lc).trans c1, (hb.cell (p := ⟨cg, _, none⟩) lc).trans c2, (hb.cell (p := ⟨cg, _, none⟩) lc).trans c3, (hb.cell (p := ⟨cg, _, none⟩) lc).trans c4⟩ : w'.cell? ⟨E, 22, none⟩ = some (.slice (some ⟨pg, 0, none⟩) N PC) ∧ w'.cell? ⟨g, k * 14, none⟩ = some (.int .i64 f.fn) ∧ w'.cell? ⟨pg, f.fn.toNat * 3 + 2, none⟩ = some (.slice (some ⟨cg, 0, none⟩) M ccap) ∧ w'.cell? ⟨g, k * 14 + 1, none⟩ = some (.int .i64 f.pc) ∧ w'.cell? ⟨cg, f.pc.toNat * 5, none⟩ = some (.int .i64 17) ∧ w'.cell? ⟨cg, f.pc.toNat * 5 + 1, none⟩ = some (.int .i64 dst) ∧ w'.cell? ⟨cg, f.pc.toNat * 5 + 2, none⟩ = some (.int .i64 xa) ∧ w'.cell? ⟨cg, f.pc.toNat * 5 + 3, none⟩ = some (.int .i64 xb) ∧ w'.cell? ⟨cg, f.pc.toNat * 5 + 4, none⟩ = some (.int .i64 imm)))
  go_region_held3 (fun w' => w'.cell? ⟨E, 22, none⟩ = some (.slice (some ⟨pg, 0, none⟩) N PC) ∧ w'.cell? ⟨g, k * 14, none⟩ = some (.int .i64 f.fn) ∧ w'.cell? ⟨pg, f.fn.toNat * 3 + 2, none⟩ = some (.slice (some ⟨cg, 0, none⟩) M ccap) ∧ w'.cell? ⟨g, k * 14 + 1, none⟩ = some (.int .i64 f.pc) ∧ w'.cell? ⟨cg, f.pc.toNat * 5, none⟩ = some (.int .i64 17) ∧ w'.cell? ⟨cg, f.pc.toNat * 5 + 1, none⟩ = some (.int .i64 dst) ∧ w'.cell? ⟨cg, f.pc.toNat * 5 + 2, none⟩ = some (.int .i64 xa) ∧ w'.cell? ⟨cg, f.pc.toNat * 5 + 3, none⟩ = some (.int .i64 xb) ∧ w'.cell? ⟨cg, f.pc.toNat * 5 + 4, none⟩ = some (.int .i64 imm)) (exact KS.out _ (by have hb := Below.refl w1.heap.size w1; repeat (first | exact hb | exact Below.refl _ _ | apply Below.drew | apply below_drewN | refine Below.alloc ?_ (by first | omega | (simp; done) | (simp; omega)) _ | refine Below.setCell ?_ (by first | omega | (simp; done) | (simp; omega)) _))) (first | fail)
  all_goals (
    rename_i hHeld
    clear hHeld KS)
  obtain ⟨w2, hw2⟩ : ∃ w2, (w1.alloc (.cells #[.int .i64 17, .int .i64 dst, .int .i64 xa, .int .i64 xb, .int .i64 imm] 76)).drew = w2 := ⟨_, rfl⟩
  rw [hw2]
  have Tw2 := Lib.hid (HT2.out w2 hw2)
  clear hw2 HT2 e19 e2 e22 g0 g1 ga gb d2 c0 c1 c2 c3 c4 lE lg lp lc fn0 fn1 pc1 fn2 pc2 hk1 hk2 hk3 hfu'
  obtain ⟨I, hI⟩ : ∃ I, w1.heap.size = I := ⟨_, rfl⟩
  rw [hI] at Tw2 ⊢
  clear hI
  have i2 := (Tw2.out.iC 2).trans rfl
  have i3 := (Tw2.out.iC 3).trans rfl
  have ga := Tw2.out.cR a0 a1
  have gb := Tw2.out.cR b0 b1
  go_wp2_with fail
  go_quiet (fail)
  obtain ⟨w3, hw3⟩ : ∃ w3, w2.drewN nq = w3 := ⟨_, rfl⟩
  rw [hw3]
  have Tw3 : Hid (Top w0 w3 E pv s ES AS fs f k g cap I ⟨17, dst, xa, xb, imm⟩) := Lib.hid (by rw [← hw3]; exact Tw2.out.drewN nq)
  clear hw3 Tw2 i2 i3 ga gb
  have i0 := (Tw3.out.iC 0).trans rfl
  have i4 := (Tw3.out.iC 4).trans rfl
  have i1 := (Tw3.out.iC 1).trans rfl
  have qf : w3.cell? ⟨E, 19, none⟩ = some (.int .i64 s.fuel) := Tw3.out.e19
  have ff := Tw3.out.eng.frozen 19
  have hlen : s.frames.length < 8 := by have := hi.deep; rw [hf] at this ⊢; simp at this ⊢; omega
  have hO := hp.ins (hi.fr f (by rw [hf]; simp))
  rw [HXX.out] at hO
  obtain ⟨m0, m1⟩ := hO.call rfl
  dsimp only at m0 m1
  have hFe : p[imm.toNat]? = some (fnOf p imm) := by
    have hl : imm.toNat < p.length := by omega
    rw [List.getElem?_eq_getElem hl, fnOf_get (List.getElem?_eq_getElem hl)]
  have hFo := hp.ok.fn _ (List.mem_of_getElem? hFe)
  have HCA := Lib.hid (fun (w : World) (h : EngAt w0 w E pv { s with fuel := s.fuel - 1 } (.slice (some ⟨g, 0, none⟩) (k + 1) cap) ES AS) => call_push h hP HM.out hlen 17 dst xa xb imm (f.reg xa) (f.reg xb) m0 hFe hFo.p1 hFo.p2)
  have e : s.frames ++ [newFr imm (fnOf p imm).params (f.reg xa) (f.reg xb)] = fs ++ [f, newFr imm (fnOf p imm).params (f.reg xa) (f.reg xb)] := by rw [hf]; simp
  rw [← e] at HEX
  clear hO hFe hFo m0 m1
  go_wp2_with (first
    | (go_at_call 55; refine (spure_any _ _ _ _ _).mono ?_; rintro e w' ⟨rfl, rfl⟩)
    | (obtain ⟨w4, hw4⟩ : ∃ w4, w3.setCell ⟨E, 19, none⟩ (.int .i64 (s.fuel - 1)) = w4 := ⟨_, rfl⟩; rw [hw4]; have Tw4 := Lib.hid (Tw3.out.fuel (s.fuel - 1)); rw [hw4] at Tw4; clear hw4 qf ff Tw3 i0 i1 i4; have i0 := (Tw4.out.iC 0).trans rfl; have i1 := (Tw4.out.iC 1).trans rfl; have i2 := (Tw4.out.iC 2).trans rfl; have i3 := (Tw4.out.iC 3).trans rfl; have i4 := (Tw4.out.iC 4).trans rfl)
    | (go_at_call 56; go_must (refine (HCA.out _ Tw4.out.eng).mono ?_; rintro e w5 ⟨rfl, FS', h5⟩)))
  rw [HEX.out]
  exact bodyPost_end (v := .tuple #[]) (by simp [results, Tryd.results50, go_sem]) rfl ⟨rfl, _, _, _, h5⟩
set_option maxRecDepth 100000 in
set_option maxHeartbeats 8000000 in
theorem next_host {p : List Fnc} (hp : Right p) {w0 w : World} {E : Nat} {pv FS ES AS : Value} {s : St} (h : EngAt w0 w E pv s FS ES AS) (hP : ProgAt w0 pv p) (hi : StInv p s) (hfu : s.fuel ≠ 0) {fs : List Fr} {f : Fr} (hf : s.frames = fs ++ [f]) (h1 : mkOk (insOf p f).op (f.reg (insOf p f).b) = false) (h2 : (insOf p f).op = 18) :
    Calls Tryd.prog 50 #[.pointer (some ⟨E, 0, none⟩)] w fun e w' => e = .returned (.tuple #[]) ∧ ∃ FS' ES' AS', EngAt w0 w' E pv (execSt p s fs f) FS' ES' AS' := by
  obtain ⟨k, g, cap, pg, N, PC, cg, M, ccap, X⟩ := nx_of hp h hP hi hf
  have HX := Lib.hid X
  have HM := Lib.hid hi.mem
  have HR : Hid (∀ x ∈ s.frames, x.regs.length = 12) := Lib.hid (fun x hx => (hi.fr x hx).regs)
  have hfs := X.fs0
  subst hfs
  have hfu' : (s.fuel == 0) = false := by simpa using hfu
  have hk1 : IntKind.i64.wrap (k : Int) = k := by have := X.k8; rw [IntKind.wrap_i64]; omega
  have hk2 : (k : Int) < k + 1 := by omega
  have hk3 : (0 : Int) ≤ k := by omega
  have e19 := X.e19
  have e2 := X.e2
  have e22 := X.e22
  have g0 := X.g0
  have g1 := X.g1
  have ga := X.ga
  have gb := X.gb
  have d2 := X.d2
  have c0 := X.c0
  have c1 := X.c1
  have c2 := X.c2
  have c3 := X.c3
  have c4 := X.c4
  have fn0 := X.fn0
  have fn1 := X.fn1
  have pc0 := X.pc0
  have pc1 := X.pc1
  have M40 := X.M40
  have dst0 := X.dst0
  have dst1 := X.dst1
  have a0 := X.a0
  have a1 := X.a1
  have b0 := X.b0
  have b1 := X.b1
  have lE := X.lE
  have lg := X.lg
  have lp := X.lp
  have lc := X.lc
  have hpw : IntKind.i64.wrap (f.pc + 1) = f.pc + 1 := by rw [IntKind.wrap_i64]; omega
  have hfw : IntKind.i64.wrap (s.fuel - 1) = s.fuel - 1 := by have := hi.fuel0; have := hi.fuel1; rw [IntKind.wrap_i64]; omega
  have fn2 : f.fn.toNat < N := by omega
  have pc2 : f.pc.toNat < M := by omega
  have HEX := Lib.hid (show execSt p s fs f = { topSt s fs ((f.put (insOf p f).dst (s.answers.headD 0)).at (f.pc + 1)) with events := s.events ++ [f.reg (insOf p f).a], answers := s.answers.tail } from by unfold execSt; rw [if_neg (by simp [h1]), if_neg (by omega), if_neg (by omega), if_neg (by omega), if_neg (by omega), if_neg (by omega), if_neg (by omega), if_neg (by omega), if_pos h2])
  clear X h
  obtain ⟨x, hx⟩ : ∃ x, insOf p f = x := ⟨_, rfl⟩
  rw [hx] at ga gb c0 c1 c2 c3 c4 dst0 dst1 a0 a1 b0 b1 h1 h2
  rw [hx] at HEX
  have HXX := Lib.hid hx
  clear hx
  obtain ⟨op, dst, xa, xb, imm⟩ := x
  dsimp only at *
  subst h2
  go_enter Tryd.func50, Tryd.ntmps50
  go_wp2_with fail
  go_quiet (fail)
  obtain ⟨w1, hw1⟩ : ∃ w1, w.drewN nq = w1 := ⟨_, rfl⟩
  rw [hw1]
  have X1 := HX.out.drewN nq
  rw [hw1] at X1
  clear hw1 HX e19 e2 e22 g0 g1 ga gb d2 c0 c1 c2 c3 c4 lE lg lp lc
  have e19 := X1.e19
  have e2 := X1.e2
  have e22 := X1.e22
  have g0 := X1.g0
  have g1 := X1.g1
  have ga := X1.ga
  have gb := X1.gb
  have d2 := X1.d2
  have c0 := X1.c0
  have c1 := X1.c1
  have c2 := X1.c2
  have c3 := X1.c3
  have c4 := X1.c4
  rw [HXX.out] at ga gb c0 c1 c2 c3 c4
  have lE := X1.lE
  have lg := X1.lg
  have lp := X1.lp
  have lc := X1.lc
  have HT2 : Hid (∀ w2, (w1.alloc (.cells #[.int .i64 (insOf p f).op, .int .i64 (insOf p f).dst, .int .i64 (insOf p f).a, .int .i64 (insOf p f).b, .int .i64 (insOf p f).imm] 76)).drew = w2 → Top w0 w2 E pv s ES AS fs f k g cap w1.heap.size (insOf p f)) := Lib.hid (fun w2 h => by
    rw [← h]
    exact ⟨(X1.eng.alloc _).drew, hf, X1.hk, HR.out, HM.out, heap_alloc_new w1 _⟩)
  rw [HXX.out] at HT2
  clear X1
  dsimp only at ga gb c0 c1 c2 c3 c4
  go_wp2_with fail
  have KS := Lib.hid (fun (w' : World) (hb : Below w1.heap.size w1 w') => (⟨(hb.cell (p := ⟨E, 22, none⟩) lE).trans e22, (hb.cell (p := ⟨g, _, none⟩) lg).trans g0, (hb.cell (p := ⟨pg, _, none⟩) lp).trans d2, (hb.cell (p := ⟨g, _, none⟩) lg).trans g1, (hb.cell (p := ⟨cg, _, none⟩) lc).trans c0, (hb.cell (p := ⟨cg, _, none⟩) lc).trans c1, (hb.cell (p := ⟨cg, _, none⟩) lc).trans c2, (hb.cell (p := ⟨cg, _, none⟩) lc).trans c3, (hb.cell (p := ⟨cg, _, none⟩) lc).trans c4⟩ : w'.cell? ⟨E, 22, none⟩ = some (.slice (some ⟨pg, 0, none⟩) N PC) ∧ w'.cell? ⟨g, k * 14, none⟩ = some (.int .i64 f.fn) ∧ w'.cell? ⟨pg, f.fn.toNat * 3 + 2, none⟩ = some (.slice (some ⟨cg, 0, none⟩) M ccap) ∧ w'.cell? ⟨g, k * 14 + 1, none⟩ = some (.int .i64 f.pc) ∧ w'.cell? ⟨cg, f.pc.toNat * 5, none⟩ = some (.int .i64 18) ∧ w'.cell? ⟨cg, f.pc.toNat * 5 + 1, none⟩ = some (.int .i64 dst) ∧ w'.cell? ⟨cg, f.pc.toNat * 5 + 2, none⟩ = some (.int .i64 xa) ∧ w'.cell? ⟨cg, f.pc.toNat * 5 + 3, none⟩ = some (.int .i64 xb) ∧ w'.cell? ⟨cg, f.pc.toNat * 5 + 4, none⟩ = some (.int .i64 imm)))
  go_region_held3 (fun w' => w'.cell? ⟨E, 22, none⟩ = some (.slice (some ⟨pg, 0, none⟩) N PC) ∧ w'.cell? ⟨g, k * 14, none⟩ = some (.int .i64 f.fn) ∧ w'.cell? ⟨pg, f.fn.toNat * 3 + 2, none⟩ = some (.slice (some ⟨cg, 0, none⟩) M ccap) ∧ w'.cell? ⟨g, k * 14 + 1, none⟩ = some (.int .i64 f.pc) ∧ w'.cell? ⟨cg, f.pc.toNat * 5, none⟩ = some (.int .i64 18) ∧ w'.cell? ⟨cg, f.pc.toNat * 5 + 1, none⟩ = some (.int .i64 dst) ∧ w'.cell? ⟨cg, f.pc.toNat * 5 + 2, none⟩ = some (.int .i64 xa) ∧ w'.cell? ⟨cg, f.pc.toNat * 5 + 3, none⟩ = some (.int .i64 xb) ∧ w'.cell? ⟨cg, f.pc.toNat * 5 + 4, none⟩ = some (.int .i64 imm)) (exact KS.out _ (by have hb := Below.refl w1.heap.size w1; repeat (first | exact hb | exact Below.refl _ _ | apply Below.drew | apply below_drewN | refine Below.alloc ?_ (by first | omega | (simp; done) | (simp; omega)) _ | refine Below.setCell ?_ (by first | omega | (simp; done) | (simp; omega)) _))) (first | fail)
  all_goals (
    rename_i hHeld
    clear hHeld KS)
  obtain ⟨w2, hw2⟩ : ∃ w2, (w1.alloc (.cells #[.int .i64 18, .int .i64 dst, .int .i64 xa, .int .i64 xb, .int .i64 imm] 76)).drew = w2 := ⟨_, rfl⟩
  rw [hw2]
  have Tw2 := Lib.hid (HT2.out w2 hw2)
  clear hw2 HT2 e19 e2 e22 g0 g1 ga gb d2 c0 c1 c2 c3 c4 lE lg lp lc fn0 fn1 pc1 fn2 pc2 hk1 hk2 hk3 hfu'
  obtain ⟨I, hI⟩ : ∃ I, w1.heap.size = I := ⟨_, rfl⟩
  rw [hI] at Tw2 ⊢
  clear hI
  have i2 := (Tw2.out.iC 2).trans rfl
  have i3 := (Tw2.out.iC 3).trans rfl
  have ga := Tw2.out.cR a0 a1
  have gb := Tw2.out.cR b0 b1
  go_wp2_with fail
  go_quiet (fail)
  obtain ⟨w3, hw3⟩ : ∃ w3, w2.drewN nq = w3 := ⟨_, rfl⟩
  rw [hw3]
  have Tw3 : Hid (Top w0 w3 E pv s ES AS fs f k g cap I ⟨18, dst, xa, xb, imm⟩) := Lib.hid (by rw [← hw3]; exact Tw2.out.drewN nq)
  clear hw3 Tw2 i2 i3 ga gb
  have i0 := (Tw3.out.iC 0).trans rfl
  have i4 := (Tw3.out.iC 4).trans rfl
  have i1 := (Tw3.out.iC 1).trans rfl
  have qf : w3.cell? ⟨E, 19, none⟩ = some (.int .i64 s.fuel) := Tw3.out.e19
  have ff := Tw3.out.eng.frozen 19
  have hev : s.events.length ≤ 1000000 := by have := hi.ev; have := hi.fuel0; omega
  go_wp2_with (first
    | (go_at_call 55; refine (spure_any _ _ _ _ _).mono ?_; rintro e w' ⟨rfl, rfl⟩)
    | (obtain ⟨w4, hw4⟩ : ∃ w4, w3.setCell ⟨E, 19, none⟩ (.int .i64 (s.fuel - 1)) = w4 := ⟨_, rfl⟩; rw [hw4]; have Tw4 := Lib.hid (Tw3.out.fuel (s.fuel - 1)); rw [hw4] at Tw4; clear hw4 qf ff Tw3 i0 i1 i4; have i0 := (Tw4.out.iC 0).trans rfl))
  have i1 := (Tw4.out.iC 1).trans (show _ = some (Value.int .i64 dst) from rfl)
  have HCA := Lib.hid (fun (w : World) (h : EngAt w0 w E pv { s with fuel := s.fuel - 1 } (.slice (some ⟨g, 0, none⟩) (k + 1) cap) ES AS) => answer_any h HM.out hev (f.reg xa))
  obtain ⟨n, hn⟩ : ∃ n, s.answers.headD 0 = n := ⟨_, rfl⟩
  dsimp only at HCA
  rw [hn] at HEX HCA
  clear hn i0
  go_region_held3 (fun w' => w'.cell? ⟨I, 1, none⟩ = some (.int .i64 dst)) (first | exact i1 | exact y1 | exact ((Tw5.out.put dst0 dst1 n).iC 1).trans rfl) (first | (go_at_call 57; go_must (refine (HCA.out _ Tw4.out.drew.eng).mono ?_; rintro e w5 ⟨rfl, ⟨ES', AS', h5⟩, hki⟩; have Tw5 : Hid (Top w0 w5 E pv { s with fuel := s.fuel - 1, events := s.events ++ [f.reg xa], answers := s.answers.tail } ES' AS' fs f k g cap I ⟨18, dst, xa, xb, imm⟩) := Lib.hid ⟨h5, Tw4.out.hf, Tw4.out.hk, Tw4.out.hr, Tw4.out.hm, hki _ _ _ Tw4.out.ins⟩; clear h5 hki; have y1 := (Tw5.out.iC 1).trans (show _ = some (Value.int .i64 dst) from rfl); have qd : w5.cell? ⟨g, k * 14 + 2 + dst.toNat, none⟩ = some (.int .i64 (f.reg dst)) := Tw5.out.cR dst0 dst1; have fd := Tw5.out.frz (k * 14 + 2 + dst.toNat))))
  all_goals (
    rename_i hHeld
    clear hHeld y1 i1 HCA)
  obtain ⟨w6, hw6⟩ : ∃ w6, w5.setCell ⟨g, k * 14 + 2 + dst.toNat, none⟩ (.int .i64 n) = w6 := ⟨_, rfl⟩
  have Tw6 := Lib.hid (Tw5.out.put dst0 dst1 n)
  rw [hw6] at Tw6 ⊢
  clear hw6 qd fd Tw5
  have qp : w6.cell? ⟨g, k * 14 + 1, none⟩ = some (.int .i64 f.pc) := Tw6.out.c1
  have fp := Tw6.out.frz (k * 14 + 1)
  go_wp2_with (first
    | (obtain ⟨w7, hw7⟩ : ∃ w7, w6.setCell ⟨g, k * 14 + 1, none⟩ (.int .i64 (f.pc + 1)) = w7 := ⟨_, rfl⟩; rw [hw7]; have Tw7 := Lib.hid (Tw6.out.pc (f.pc + 1)); rw [hw7] at Tw7; clear hw7 qp fp Tw6; skip))
  rw [HEX.out]
  exact bodyPost_end (v := .tuple #[]) (by simp [results, Tryd.results50, go_sem]) rfl ⟨rfl, _, _, _, Tw7.out.eng⟩
set_option maxRecDepth 100000 in
set_option maxHeartbeats 8000000 in
theorem next_ret1 {p : List Fnc} (hp : Right p) {w0 w : World} {E : Nat} {pv FS ES AS : Value} {s : St} (h : EngAt w0 w E pv s FS ES AS) (hP : ProgAt w0 pv p) (hi : StInv p s) (hfu : s.fuel ≠ 0) {fs : List Fr} {f : Fr} (hf : s.frames = fs ++ [f]) (h1 : mkOk (insOf p f).op (f.reg (insOf p f).b) = false) (h2 : (insOf p f).op = 19) (h3 : fs = []) :
    Calls Tryd.prog 50 #[.pointer (some ⟨E, 0, none⟩)] w fun e w' => e = .returned (.tuple #[]) ∧ ∃ FS' ES' AS', EngAt w0 w' E pv (execSt p s fs f) FS' ES' AS' := by
  obtain ⟨k, g, cap, pg, N, PC, cg, M, ccap, X⟩ := nx_of hp h hP hi hf
  have HX := Lib.hid X
  have HM := Lib.hid hi.mem
  have HR : Hid (∀ x ∈ s.frames, x.regs.length = 12) := Lib.hid (fun x hx => (hi.fr x hx).regs)
  have hfs := X.fs0
  subst hfs
  have hfu' : (s.fuel == 0) = false := by simpa using hfu
  have hk1 : IntKind.i64.wrap (k : Int) = k := by have := X.k8; rw [IntKind.wrap_i64]; omega
  have hk2 : (k : Int) < k + 1 := by omega
  have hk3 : (0 : Int) ≤ k := by omega
  have e19 := X.e19
  have e2 := X.e2
  have e22 := X.e22
  have g0 := X.g0
  have g1 := X.g1
  have ga := X.ga
  have gb := X.gb
  have d2 := X.d2
  have c0 := X.c0
  have c1 := X.c1
  have c2 := X.c2
  have c3 := X.c3
  have c4 := X.c4
  have fn0 := X.fn0
  have fn1 := X.fn1
  have pc0 := X.pc0
  have pc1 := X.pc1
  have M40 := X.M40
  have dst0 := X.dst0
  have dst1 := X.dst1
  have a0 := X.a0
  have a1 := X.a1
  have b0 := X.b0
  have b1 := X.b1
  have lE := X.lE
  have lg := X.lg
  have lp := X.lp
  have lc := X.lc
  have hpw : IntKind.i64.wrap (f.pc + 1) = f.pc + 1 := by rw [IntKind.wrap_i64]; omega
  have hfw : IntKind.i64.wrap (s.fuel - 1) = s.fuel - 1 := by have := hi.fuel0; have := hi.fuel1; rw [IntKind.wrap_i64]; omega
  have fn2 : f.fn.toNat < N := by omega
  have pc2 : f.pc.toNat < M := by omega
  have HEX := Lib.hid (show execSt p s fs f = { s with fuel := s.fuel - 1, frames := [], value := f.reg (insOf p f).a, status := 1 } from by unfold execSt; rw [if_neg (by simp [h1]), if_neg (by omega), if_neg (by omega), if_neg (by omega), if_neg (by omega), if_neg (by omega), if_neg (by omega), if_neg (by omega), if_neg (by omega)]; rw [h3]; rfl)
  clear X h
  obtain ⟨x, hx⟩ : ∃ x, insOf p f = x := ⟨_, rfl⟩
  rw [hx] at ga gb c0 c1 c2 c3 c4 dst0 dst1 a0 a1 b0 b1 h1 h2
  rw [hx] at HEX
  have HXX := Lib.hid hx
  clear hx
  obtain ⟨op, dst, xa, xb, imm⟩ := x
  dsimp only at *
  subst h2
  go_enter Tryd.func50, Tryd.ntmps50
  go_wp2_with fail
  go_quiet (fail)
  obtain ⟨w1, hw1⟩ : ∃ w1, w.drewN nq = w1 := ⟨_, rfl⟩
  rw [hw1]
  have X1 := HX.out.drewN nq
  rw [hw1] at X1
  clear hw1 HX e19 e2 e22 g0 g1 ga gb d2 c0 c1 c2 c3 c4 lE lg lp lc
  have e19 := X1.e19
  have e2 := X1.e2
  have e22 := X1.e22
  have g0 := X1.g0
  have g1 := X1.g1
  have ga := X1.ga
  have gb := X1.gb
  have d2 := X1.d2
  have c0 := X1.c0
  have c1 := X1.c1
  have c2 := X1.c2
  have c3 := X1.c3
  have c4 := X1.c4
  rw [HXX.out] at ga gb c0 c1 c2 c3 c4
  have lE := X1.lE
  have lg := X1.lg
  have lp := X1.lp
  have lc := X1.lc
  have HT2 : Hid (∀ w2, (w1.alloc (.cells #[.int .i64 (insOf p f).op, .int .i64 (insOf p f).dst, .int .i64 (insOf p f).a, .int .i64 (insOf p f).b, .int .i64 (insOf p f).imm] 76)).drew = w2 → Top w0 w2 E pv s ES AS fs f k g cap w1.heap.size (insOf p f)) := Lib.hid (fun w2 h => by
    rw [← h]
    exact ⟨(X1.eng.alloc _).drew, hf, X1.hk, HR.out, HM.out, heap_alloc_new w1 _⟩)
  rw [HXX.out] at HT2
  clear X1
  dsimp only at ga gb c0 c1 c2 c3 c4
  go_wp2_with fail
  have KS := Lib.hid (fun (w' : World) (hb : Below w1.heap.size w1 w') => (⟨(hb.cell (p := ⟨E, 22, none⟩) lE).trans e22, (hb.cell (p := ⟨g, _, none⟩) lg).trans g0, (hb.cell (p := ⟨pg, _, none⟩) lp).trans d2, (hb.cell (p := ⟨g, _, none⟩) lg).trans g1, (hb.cell (p := ⟨cg, _, none⟩) lc).trans c0, (hb.cell (p := ⟨cg, _, none⟩) lc).trans c1, (hb.cell (p := ⟨cg, _, none⟩) lc).trans c2, (hb.cell (p := ⟨cg, _, none⟩) lc).trans c3, (hb.cell (p := ⟨cg, _, none⟩) lc).trans c4⟩ : w'.cell? ⟨E, 22, none⟩ = some (.slice (some ⟨pg, 0, none⟩) N PC) ∧ w'.cell? ⟨g, k * 14, none⟩ = some (.int .i64 f.fn) ∧ w'.cell? ⟨pg, f.fn.toNat * 3 + 2, none⟩ = some (.slice (some ⟨cg, 0, none⟩) M ccap) ∧ w'.cell? ⟨g, k * 14 + 1, none⟩ = some (.int .i64 f.pc) ∧ w'.cell? ⟨cg, f.pc.toNat * 5, none⟩ = some (.int .i64 19) ∧ w'.cell? ⟨cg, f.pc.toNat * 5 + 1, none⟩ = some (.int .i64 dst) ∧ w'.cell? ⟨cg, f.pc.toNat * 5 + 2, none⟩ = some (.int .i64 xa) ∧ w'.cell? ⟨cg, f.pc.toNat * 5 + 3, none⟩ = some (.int .i64 xb) ∧ w'.cell? ⟨cg, f.pc.toNat * 5 + 4, none⟩ = some (.int .i64 imm)))
  go_region_held3 (fun w' => w'.cell? ⟨E, 22, none⟩ = some (.slice (some ⟨pg, 0, none⟩) N PC) ∧ w'.cell? ⟨g, k * 14, none⟩ = some (.int .i64 f.fn) ∧ w'.cell? ⟨pg, f.fn.toNat * 3 + 2, none⟩ = some (.slice (some ⟨cg, 0, none⟩) M ccap) ∧ w'.cell? ⟨g, k * 14 + 1, none⟩ = some (.int .i64 f.pc) ∧ w'.cell? ⟨cg, f.pc.toNat * 5, none⟩ = some (.int .i64 19) ∧ w'.cell? ⟨cg, f.pc.toNat * 5 + 1, none⟩ = some (.int .i64 dst) ∧ w'.cell? ⟨cg, f.pc.toNat * 5 + 2, none⟩ = some (.int .i64 xa) ∧ w'.cell? ⟨cg, f.pc.toNat * 5 + 3, none⟩ = some (.int .i64 xb) ∧ w'.cell? ⟨cg, f.pc.toNat * 5 + 4, none⟩ = some (.int .i64 imm)) (exact KS.out _ (by have hb := Below.refl w1.heap.size w1; repeat (first | exact hb | exact Below.refl _ _ | apply Below.drew | apply below_drewN | refine Below.alloc ?_ (by first | omega | (simp; done) | (simp; omega)) _ | refine Below.setCell ?_ (by first | omega | (simp; done) | (simp; omega)) _))) (first | fail)
  all_goals (
    rename_i hHeld
    clear hHeld KS)
  obtain ⟨w2, hw2⟩ : ∃ w2, (w1.alloc (.cells #[.int .i64 19, .int .i64 dst, .int .i64 xa, .int .i64 xb, .int .i64 imm] 76)).drew = w2 := ⟨_, rfl⟩
  rw [hw2]
  have Tw2 := Lib.hid (HT2.out w2 hw2)
  clear hw2 HT2 e19 e2 e22 g0 g1 ga gb d2 c0 c1 c2 c3 c4 lE lg lp lc fn0 fn1 pc1 fn2 pc2 hk1 hk2 hk3 hfu'
  obtain ⟨I, hI⟩ : ∃ I, w1.heap.size = I := ⟨_, rfl⟩
  rw [hI] at Tw2 ⊢
  clear hI
  have i2 := (Tw2.out.iC 2).trans rfl
  have i3 := (Tw2.out.iC 3).trans rfl
  have ga := Tw2.out.cR a0 a1
  have gb := Tw2.out.cR b0 b1
  go_wp2_with fail
  go_quiet (fail)
  obtain ⟨w3, hw3⟩ : ∃ w3, w2.drewN nq = w3 := ⟨_, rfl⟩
  rw [hw3]
  have Tw3 : Hid (Top w0 w3 E pv s ES AS fs f k g cap I ⟨19, dst, xa, xb, imm⟩) := Lib.hid (by rw [← hw3]; exact Tw2.out.drewN nq)
  clear hw3 Tw2 i2 i3 ga gb
  have i0 := (Tw3.out.iC 0).trans rfl
  have i4 := (Tw3.out.iC 4).trans rfl
  have i1 := (Tw3.out.iC 1).trans rfl
  have qf : w3.cell? ⟨E, 19, none⟩ = some (.int .i64 s.fuel) := Tw3.out.e19
  have ff := Tw3.out.eng.frozen 19
  have hf1 : s.frames = [f] := by rw [hf, h3]; rfl
  go_wp2_with (first
    | (go_at_call 55; refine (spure_any _ _ _ _ _).mono ?_; rintro e w' ⟨rfl, rfl⟩)
    | (obtain ⟨w4, hw4⟩ : ∃ w4, w3.setCell ⟨E, 19, none⟩ (.int .i64 (s.fuel - 1)) = w4 := ⟨_, rfl⟩; rw [hw4]; have Tw4 := Lib.hid (Tw3.out.fuel (s.fuel - 1)); rw [hw4] at Tw4; clear hw4 qf ff Tw3 i0 i1 i4; have i0 := (Tw4.out.iC 0).trans rfl)
    | (go_at_call 58; go_must (refine (ret_last Tw4.out.eng HM.out hf1 HR.out (f.reg xa)).mono ?_; rintro e w5 ⟨rfl, FS', h5⟩)))
  rw [HEX.out]
  exact bodyPost_end (v := .tuple #[]) (by simp [results, Tryd.results50, go_sem]) rfl ⟨rfl, _, _, _, h5⟩
set_option maxRecDepth 100000 in
set_option maxHeartbeats 8000000 in
theorem next_ret2 {p : List Fnc} (hp : Right p) {w0 w : World} {E : Nat} {pv FS ES AS : Value} {s : St} (h : EngAt w0 w E pv s FS ES AS) (hP : ProgAt w0 pv p) (hi : StInv p s) (hfu : s.fuel ≠ 0) {fs : List Fr} {f : Fr} (hf : s.frames = fs ++ [f]) (h1 : mkOk (insOf p f).op (f.reg (insOf p f).b) = false) (h2 : (insOf p f).op = 19) {gs : List Fr} {u : Fr} (h3 : fs = gs ++ [u]) :
    Calls Tryd.prog 50 #[.pointer (some ⟨E, 0, none⟩)] w fun e w' => e = .returned (.tuple #[]) ∧ ∃ FS' ES' AS', EngAt w0 w' E pv (execSt p s fs f) FS' ES' AS' := by
  obtain ⟨k, g, cap, pg, N, PC, cg, M, ccap, X⟩ := nx_of hp h hP hi hf
  have HX := Lib.hid X
  have HM := Lib.hid hi.mem
  have HR : Hid (∀ x ∈ s.frames, x.regs.length = 12) := Lib.hid (fun x hx => (hi.fr x hx).regs)
  have hfs := X.fs0
  subst hfs
  have hfu' : (s.fuel == 0) = false := by simpa using hfu
  have hk1 : IntKind.i64.wrap (k : Int) = k := by have := X.k8; rw [IntKind.wrap_i64]; omega
  have hk2 : (k : Int) < k + 1 := by omega
  have hk3 : (0 : Int) ≤ k := by omega
  have e19 := X.e19
  have e2 := X.e2
  have e22 := X.e22
  have g0 := X.g0
  have g1 := X.g1
  have ga := X.ga
  have gb := X.gb
  have d2 := X.d2
  have c0 := X.c0
  have c1 := X.c1
  have c2 := X.c2
  have c3 := X.c3
  have c4 := X.c4
  have fn0 := X.fn0
  have fn1 := X.fn1
  have pc0 := X.pc0
  have pc1 := X.pc1
  have M40 := X.M40
  have dst0 := X.dst0
  have dst1 := X.dst1
  have a0 := X.a0
  have a1 := X.a1
  have b0 := X.b0
  have b1 := X.b1
  have lE := X.lE
  have lg := X.lg
  have lp := X.lp
  have lc := X.lc
  have hpw : IntKind.i64.wrap (f.pc + 1) = f.pc + 1 := by rw [IntKind.wrap_i64]; omega
  have hfw : IntKind.i64.wrap (s.fuel - 1) = s.fuel - 1 := by have := hi.fuel0; have := hi.fuel1; rw [IntKind.wrap_i64]; omega
  have fn2 : f.fn.toNat < N := by omega
  have pc2 : f.pc.toNat < M := by omega
  have HEX := Lib.hid (show execSt p s fs f = { s with fuel := s.fuel - 1, frames := gs ++ [retFr p u (f.reg (insOf p f).a)] } from by unfold execSt; rw [if_neg (by simp [h1]), if_neg (by omega), if_neg (by omega), if_neg (by omega), if_neg (by omega), if_neg (by omega), if_neg (by omega), if_neg (by omega), if_neg (by omega)]; rw [h3]; simp)
  clear X h
  obtain ⟨x, hx⟩ : ∃ x, insOf p f = x := ⟨_, rfl⟩
  rw [hx] at ga gb c0 c1 c2 c3 c4 dst0 dst1 a0 a1 b0 b1 h1 h2
  rw [hx] at HEX
  have HXX := Lib.hid hx
  clear hx
  obtain ⟨op, dst, xa, xb, imm⟩ := x
  dsimp only at *
  subst h2
  go_enter Tryd.func50, Tryd.ntmps50
  go_wp2_with fail
  go_quiet (fail)
  obtain ⟨w1, hw1⟩ : ∃ w1, w.drewN nq = w1 := ⟨_, rfl⟩
  rw [hw1]
  have X1 := HX.out.drewN nq
  rw [hw1] at X1
  clear hw1 HX e19 e2 e22 g0 g1 ga gb d2 c0 c1 c2 c3 c4 lE lg lp lc
  have e19 := X1.e19
  have e2 := X1.e2
  have e22 := X1.e22
  have g0 := X1.g0
  have g1 := X1.g1
  have ga := X1.ga
  have gb := X1.gb
  have d2 := X1.d2
  have c0 := X1.c0
  have c1 := X1.c1
  have c2 := X1.c2
  have c3 := X1.c3
  have c4 := X1.c4
  rw [HXX.out] at ga gb c0 c1 c2 c3 c4
  have lE := X1.lE
  have lg := X1.lg
  have lp := X1.lp
  have lc := X1.lc
  have HT2 : Hid (∀ w2, (w1.alloc (.cells #[.int .i64 (insOf p f).op, .int .i64 (insOf p f).dst, .int .i64 (insOf p f).a, .int .i64 (insOf p f).b, .int .i64 (insOf p f).imm] 76)).drew = w2 → Top w0 w2 E pv s ES AS fs f k g cap w1.heap.size (insOf p f)) := Lib.hid (fun w2 h => by
    rw [← h]
    exact ⟨(X1.eng.alloc _).drew, hf, X1.hk, HR.out, HM.out, heap_alloc_new w1 _⟩)
  rw [HXX.out] at HT2
  clear X1
  dsimp only at ga gb c0 c1 c2 c3 c4
  go_wp2_with fail
  have KS := Lib.hid (fun (w' : World) (hb : Below w1.heap.size w1 w') => (⟨(hb.cell (p := ⟨E, 22, none⟩) lE).trans e22, (hb.cell (p := ⟨g, _, none⟩) lg).trans g0, (hb.cell (p := ⟨pg, _, none⟩) lp).trans d2, (hb.cell (p := ⟨g, _, none⟩) lg).trans g1, (hb.cell (p := ⟨cg, _, none⟩) lc).trans c0, (hb.cell (p := ⟨cg, _, none⟩) lc).trans c1, (hb.cell (p := ⟨cg, _, none⟩) lc).trans c2, (hb.cell (p := ⟨cg, _, none⟩) lc).trans c3, (hb.cell (p := ⟨cg, _, none⟩) lc).trans c4⟩ : w'.cell? ⟨E, 22, none⟩ = some (.slice (some ⟨pg, 0, none⟩) N PC) ∧ w'.cell? ⟨g, k * 14, none⟩ = some (.int .i64 f.fn) ∧ w'.cell? ⟨pg, f.fn.toNat * 3 + 2, none⟩ = some (.slice (some ⟨cg, 0, none⟩) M ccap) ∧ w'.cell? ⟨g, k * 14 + 1, none⟩ = some (.int .i64 f.pc) ∧ w'.cell? ⟨cg, f.pc.toNat * 5, none⟩ = some (.int .i64 19) ∧ w'.cell? ⟨cg, f.pc.toNat * 5 + 1, none⟩ = some (.int .i64 dst) ∧ w'.cell? ⟨cg, f.pc.toNat * 5 + 2, none⟩ = some (.int .i64 xa) ∧ w'.cell? ⟨cg, f.pc.toNat * 5 + 3, none⟩ = some (.int .i64 xb) ∧ w'.cell? ⟨cg, f.pc.toNat * 5 + 4, none⟩ = some (.int .i64 imm)))
  go_region_held3 (fun w' => w'.cell? ⟨E, 22, none⟩ = some (.slice (some ⟨pg, 0, none⟩) N PC) ∧ w'.cell? ⟨g, k * 14, none⟩ = some (.int .i64 f.fn) ∧ w'.cell? ⟨pg, f.fn.toNat * 3 + 2, none⟩ = some (.slice (some ⟨cg, 0, none⟩) M ccap) ∧ w'.cell? ⟨g, k * 14 + 1, none⟩ = some (.int .i64 f.pc) ∧ w'.cell? ⟨cg, f.pc.toNat * 5, none⟩ = some (.int .i64 19) ∧ w'.cell? ⟨cg, f.pc.toNat * 5 + 1, none⟩ = some (.int .i64 dst) ∧ w'.cell? ⟨cg, f.pc.toNat * 5 + 2, none⟩ = some (.int .i64 xa) ∧ w'.cell? ⟨cg, f.pc.toNat * 5 + 3, none⟩ = some (.int .i64 xb) ∧ w'.cell? ⟨cg, f.pc.toNat * 5 + 4, none⟩ = some (.int .i64 imm)) (exact KS.out _ (by have hb := Below.refl w1.heap.size w1; repeat (first | exact hb | exact Below.refl _ _ | apply Below.drew | apply below_drewN | refine Below.alloc ?_ (by first | omega | (simp; done) | (simp; omega)) _ | refine Below.setCell ?_ (by first | omega | (simp; done) | (simp; omega)) _))) (first | fail)
  all_goals (
    rename_i hHeld
    clear hHeld KS)
  obtain ⟨w2, hw2⟩ : ∃ w2, (w1.alloc (.cells #[.int .i64 19, .int .i64 dst, .int .i64 xa, .int .i64 xb, .int .i64 imm] 76)).drew = w2 := ⟨_, rfl⟩
  rw [hw2]
  have Tw2 := Lib.hid (HT2.out w2 hw2)
  clear hw2 HT2 e19 e2 e22 g0 g1 ga gb d2 c0 c1 c2 c3 c4 lE lg lp lc fn0 fn1 pc1 fn2 pc2 hk1 hk2 hk3 hfu'
  obtain ⟨I, hI⟩ : ∃ I, w1.heap.size = I := ⟨_, rfl⟩
  rw [hI] at Tw2 ⊢
  clear hI
  have i2 := (Tw2.out.iC 2).trans rfl
  have i3 := (Tw2.out.iC 3).trans rfl
  have ga := Tw2.out.cR a0 a1
  have gb := Tw2.out.cR b0 b1
  go_wp2_with fail
  go_quiet (fail)
  obtain ⟨w3, hw3⟩ : ∃ w3, w2.drewN nq = w3 := ⟨_, rfl⟩
  rw [hw3]
  have Tw3 : Hid (Top w0 w3 E pv s ES AS fs f k g cap I ⟨19, dst, xa, xb, imm⟩) := Lib.hid (by rw [← hw3]; exact Tw2.out.drewN nq)
  clear hw3 Tw2 i2 i3 ga gb
  have i0 := (Tw3.out.iC 0).trans rfl
  have i4 := (Tw3.out.iC 4).trans rfl
  have i1 := (Tw3.out.iC 1).trans rfl
  have qf : w3.cell? ⟨E, 19, none⟩ = some (.int .i64 s.fuel) := Tw3.out.e19
  have ff := Tw3.out.eng.frozen 19
  have hf1 : s.frames = gs ++ [u] ++ [f] := by rw [hf, h3]
  have hu : FrOk p u := hi.fr u (by rw [hf1]; simp)
  have hgl : gs.length ≤ 8 := by have := hi.deep; rw [hf1] at this; simp at this; omega
  have HCA := Lib.hid (fun (w : World) (h : EngAt w0 w E pv { s with fuel := s.fuel - 1 } (.slice (some ⟨g, 0, none⟩) (k + 1) cap) ES AS) => ret_up hp h hP HM.out hf1 HR.out hu hgl (f.reg xa))
  go_wp2_with (first
    | (go_at_call 55; refine (spure_any _ _ _ _ _).mono ?_; rintro e w' ⟨rfl, rfl⟩)
    | (obtain ⟨w4, hw4⟩ : ∃ w4, w3.setCell ⟨E, 19, none⟩ (.int .i64 (s.fuel - 1)) = w4 := ⟨_, rfl⟩; rw [hw4]; have Tw4 := Lib.hid (Tw3.out.fuel (s.fuel - 1)); rw [hw4] at Tw4; clear hw4 qf ff Tw3 i0 i1 i4; have i0 := (Tw4.out.iC 0).trans rfl)
    | (go_at_call 58; go_must (refine (HCA.out _ Tw4.out.eng).mono ?_; rintro e w5 ⟨rfl, FS', h5⟩)))
  rw [HEX.out]
  exact bodyPost_end (v := .tuple #[]) (by simp [results, Tryd.results50, go_sem]) rfl ⟨rfl, _, _, _, h5⟩
end Go.Proofs.YtfngkpbbimibaaaDoor
