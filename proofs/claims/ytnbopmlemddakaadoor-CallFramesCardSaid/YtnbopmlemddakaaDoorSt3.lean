/-
  The contracts of the engine's ret and call.
-/
import Derived.Test.YtnbopmlemddakaaDoorSt2
import Derived.StillTailTactics
import Derived.BigQuiet
namespace Go.Proofs.YtnbopmlemddakaaDoor
open Go.RowKit Tier
section
variable {w0 w : World} {E : Nat} {pv FS ES AS : Value} {s : St}
/-- Frames as a slice that is not empty. -/
theorem EngAt.frames (h : EngAt w0 w E pv s FS ES AS) {k : Nat} (hk : s.frames.length = k + 1) (hr : ∀ f ∈ s.frames, f.regs.length = 12) :
    ∃ g cap, FS = .slice (some ⟨g, 0, none⟩) (k + 1) cap ∧ k + 1 ≤ cap ∧ g ≠ E ∧ g < w.heap.size ∧ w0.heap.size ≤ g ∧ w.ownsRow w0.heap.size 60 14 (.slice (some ⟨g, 0, none⟩) (k + 1) cap) (k + 1) (frCells s.frames) ∧
      (∀ i f j, s.frames[i]? = some f → j < 14 → w.cell? ⟨g, i * 14 + j, none⟩ = (frCell f)[j]?) ∧ ∀ j, w.frozen? ⟨g, j, none⟩ = false := by
  have hf := h.rows.fr
  rw [hk] at hf
  rcases hf.2 with ⟨-, h0⟩ | ⟨g, cap, cur, rfl, hg, hh, hn, hc, hs, ht⟩
  · omega
  · refine ⟨g, cap, rfl, hn, fun e => ?_, block_lt hh, hg, hf, fun i f j hi hj => ?_, fun j => frozen_block hh j⟩
    · subst e
      rw [h.blk] at hh
      simp only [Option.some.injEq, Obj.cells.injEq] at hh
      exact absurd hh.2.1 (by decide)
    · have hil : i < s.frames.length := (List.getElem?_eq_some_iff.1 hi).1
      rw [hf.cellAt _ (by omega), frCells_get hr hi hj]
theorem EngAt.fcell {g n cap : Nat} (h : EngAt w0 w E pv s (.slice (some ⟨g, 0, none⟩) n cap) ES AS) (hr : ∀ f ∈ s.frames, f.regs.length = 12) {i j : Nat} {f : Fr} (hi : s.frames[i]? = some f) (hj : j < 14) : w.cell? ⟨g, i * 14 + j, none⟩ = (frCell f)[j]? := by
  have hil : i < s.frames.length := (List.getElem?_eq_some_iff.1 hi).1
  obtain ⟨g', cap', e1, -, -, -, -, -, hc, -⟩ := h.frames (k := s.frames.length - 1) (by omega) hr
  simp only [Value.slice.injEq, Option.some.injEq, Addr.mk.injEq, and_true] at e1
  obtain ⟨rfl, -, -⟩ := e1
  exact hc i f j hi hj
theorem EngAt.ffrozen {g n cap : Nat} (h : EngAt w0 w E pv s (.slice (some ⟨g, 0, none⟩) n cap) ES AS) (hr : ∀ f ∈ s.frames, f.regs.length = 12) (hl : 0 < s.frames.length) (j : Nat) : w.frozen? ⟨g, j, none⟩ = false := by
  obtain ⟨g', cap', e1, -, -, -, -, -, -, hc⟩ := h.frames (k := s.frames.length - 1) (by omega) hr
  simp only [Value.slice.injEq, Option.some.injEq, Addr.mk.injEq, and_true] at e1
  obtain ⟨rfl, -, -⟩ := e1
  exact hc j
/-- The last frame goes. -/
theorem EngAt.pop {g cap : Nat} {fs : List Fr} {f : Fr} (h : EngAt w0 w E pv s (.slice (some ⟨g, 0, none⟩) (fs.length + 1) cap) ES AS) (hm : s.mem.length = 16) (hf : s.frames = fs ++ [f]) (hr : ∀ f ∈ s.frames, f.regs.length = 12) :
    EngAt w0 (w.setCell ⟨E, 2, none⟩ (.slice (some ⟨g, 0, none⟩) fs.length cap)) E pv { s with frames := fs } (.slice (some ⟨g, 0, none⟩) fs.length cap) ES AS := by
  have h0 := h.rows.set h.blk eng_ne60 eng_ne3 2 (.slice (some ⟨g, 0, none⟩) fs.length cap)
  refine h.set hm (by omega) (stS_2 (s := s) _ _ _ _) ⟨?_, h0.ev, h0.an, h0.ne⟩
  have h1 := h0.fr
  rw [hf, frCells_append] at h1
  simp only [List.length_append, List.length_cons, List.length_nil, Nat.zero_add] at h1
  exact ownsRow_pop (frCells_length fun f hf' => hr f (by rw [hf]; simp [hf'])) h1
/-- A number of the frame i is changed. -/
theorem EngAt.frame {g cap : Nat} {fs gs : List Fr} {f f' : Fr} {j : Nat} {v : Value} (h : EngAt w0 w E pv s (.slice (some ⟨g, 0, none⟩) s.frames.length cap) ES AS) (hf : s.frames = fs ++ f :: gs) (hr : ∀ f ∈ s.frames, f.regs.length = 12) (hj : j < 14) (he : (frCell f).set j v = frCell f') :
    EngAt w0 (w.setCell ⟨g, fs.length * 14 + j, none⟩ v) E pv { s with frames := fs ++ f' :: gs } (.slice (some ⟨g, 0, none⟩) s.frames.length cap) ES AS := by
  obtain ⟨g', cap', e1, -, hgE, hgl, hgb, hown, -, -⟩ := h.frames (k := fs.length + gs.length) (by rw [hf]; simp; omega) hr
  simp only [Value.slice.injEq, Option.some.injEq, Addr.mk.injEq, and_true] at e1
  obtain ⟨rfl, e2, rfl⟩ := e1
  have hblk := h.rows.fr
  rcases hblk.2 with ⟨h', -⟩ | ⟨g'', c'', cur, h', -, hh, -⟩
  · cases h'
  · simp only [Value.slice.injEq, Option.some.injEq, Addr.mk.injEq, and_true, true_and] at h'
    obtain ⟨rfl, rfl⟩ := h'
    have hl1 : (frCells fs).length = fs.length * 14 := frCells_length fun x hx => hr x (by rw [hf]; simp [hx])
    have hl2 : (frCell f).length = 14 := frCell_length (hr f (by rw [hf]; simp))
    refine ⟨block_set_ne h.blk hgE _ _, ⟨?_, ownsRow_setCell_other h.rows.ev (own_type h.rows.ev hh (by decide)) _, h.rows.an.set (fun hl => num_type h.rows.an hl hh (by decide)) _ _, h.rows.ne⟩, h.base, h.below.setCell hgb _⟩
    have h1 := (hblk.stored (fs.length * 14 + j) v).1
    have hlen : (fs ++ f' :: gs).length = s.frames.length := by rw [hf]; simp
    have hce : (frCells s.frames).set (fs.length * 14 + j) v = frCells (fs ++ f' :: gs) := by
      rw [hf, frCells_append, frCells_append, List.set_append_right _ _ (by omega), hl1, Nat.add_sub_cancel_left]
      congr 1
      show (frCell f ++ frCells gs).set j v = frCell f' ++ frCells gs
      rw [List.set_append_left _ _ (by omega), he]
    rw [hce] at h1
    show (w.setCell _ v).ownsRow _ _ _ _ (fs ++ f' :: gs).length _
    rw [hlen]
    exact h1
theorem frCell_put (f : Fr) (r : Int) (n : Int) : (frCell f).set (2 + r.toNat) (.int .i64 n) = frCell (f.put r n) := by
  unfold frCell Fr.put
  rw [List.set_append_right _ _ (by simp)]
  simp [List.map_set]
theorem EngAt.drew (h : EngAt w0 w E pv s FS ES AS) : EngAt w0 w.drew E pv s FS ES AS := ⟨h.blk, ⟨h.rows.fr, h.rows.ev, h.rows.an, h.rows.ne⟩, h.base, h.below.drew⟩
theorem EngAt.drewN (h : EngAt w0 w E pv s FS ES AS) (n : Nat) : EngAt w0 (w.drewN n) E pv s FS ES AS := ⟨h.blk, ⟨h.rows.fr, h.rows.ev, h.rows.an, h.rows.ne⟩, h.base, ⟨h.below.os, h.below.tape, h.below.output, h.below.size, h.below.block⟩⟩
theorem frCell_pc (f : Fr) (n : Int) : (frCell f).set 1 (.int .i64 n) = frCell (f.at n) := rfl
end
set_option maxRecDepth 100000 in
set_option maxHeartbeats 4000000 in
theorem ret_last {w0 w : World} {E : Nat} {pv FS ES AS : Value} {s : St} (h : EngAt w0 w E pv s FS ES AS) (hm : s.mem.length = 16) {f : Fr} (hf : s.frames = [f]) (hr : ∀ f ∈ s.frames, f.regs.length = 12) (v : Int) :
    Calls Tryd.prog 60 #[.pointer (some ⟨E, 0, none⟩), .int .i64 v] w fun e w' => e = .returned (.tuple #[]) ∧ ∃ FS', EngAt w0 w' E pv { s with frames := [], value := v, status := 1 } FS' ES AS := by
  obtain ⟨g, cap, rfl, hcap, hgE, hgl, hgb, hown, hcell, hfz⟩ := h.frames (k := 0) (by rw [hf]; rfl) hr
  have q2 := h.cellC hm (i := 2) (by omega)
  rw [stC_2, Nat.zero_add] at q2
  rw [Nat.zero_add] at hcap
  have hk : IntKind.i64.wrap 0 = 0 := by decide
  have hk2 : (0 : Int) ≤ cap := by omega
  have f2 := h.frozen 2
  have HP := Lib.hid (EngAt.pop (fs := []) (f := f) h.drew hm (by rw [hf]; rfl) hr)
  have HM := Lib.hid hm
  clear h hown hcell hfz hr
  go_enter Tryd.func60, Tryd.ntmps60
  go_wp2_with fail
  go_still_tail 17, (by kernel_rfl)
  change wpList _ _ _ _ _ w.drew
  have c0 : w.drew.cell? ⟨E, 2, none⟩ = some (.slice (some ⟨g, 0, none⟩) 1 cap) := q2
  have e0 : w.drew.frozen? ⟨E, 2, none⟩ = false := f2
  clear q2 f2
  obtain ⟨wd, hwd⟩ : ∃ wd, w.drew = wd := ⟨_, rfl⟩
  rw [hwd] at HP c0 e0 ⊢
  have H1 := Lib.hid (fun (w1 : World) (h : wd.setCell ⟨E, 2, none⟩ (.slice (some ⟨g, 0, none⟩) 0 cap) = w1) => (by rw [← h]; exact HP.out : EngAt w0 w1 E pv { s with frames := [] } (.slice (some ⟨g, 0, none⟩) 0 cap) ES AS))
  clear hwd HP
  go_wp2_with (first
    | (obtain ⟨w1, hw1⟩ : ∃ w1, wd.setCell ⟨E, 2, none⟩ (.slice (some ⟨g, 0, none⟩) 0 cap) = w1 := ⟨_, rfl⟩; rw [hw1]; have HX1 := Lib.hid (H1.out w1 hw1); clear hw1 H1 c0 e0; have r2 := (HX1.out.cellC HM.out (i := 2) (by omega)).trans (stC_2 _ _ _ _); have r1 := (HX1.out.cellC HM.out (i := 1) (by omega)).trans (stC_1 _ _ _ _); have f1 := HX1.out.frozen 1)
    | (go_at_call 57; go_must (refine (halt_any (HX1.out.set' HM.out (i := 1) (by omega) (v := .int .i64 v) (s' := { s with frames := [], value := v }) (stS_1 (s := { s with frames := [] }) _ _ _ v) rfl rfl rfl) HM.out 1).mono ?_; rintro e w2 ⟨rfl, h2⟩)))
  exact bodyPost_ret (v := .tuple #[]) (by simp [results, Tryd.results60, go_sem]) rfl ⟨rfl, _, h2⟩
/-- Where a frame's instruction lies. -/
theorem ins_at {p : List Fnc} {w : World} {pv : Value} (hP : ProgAt w pv p) {u : Fr} (hu : FrOk p u) :
    ∃ pg PC CA cap cg M, pv = .slice (some ⟨pg, 0, none⟩) p.length PC ∧ pg < w.heap.size ∧ u.fn < p.length ∧ w.cell? ⟨pg, u.fn.toNat * 3, none⟩ = some (.int .i64 (fnOf p u.fn).params) ∧ w.cell? ⟨pg, u.fn.toNat * 3 + 2, none⟩ = some (.slice CA M cap) ∧ CA = some ⟨cg, 0, none⟩ ∧ cg < w.heap.size ∧ M = (fnOf p u.fn).code.length ∧ u.pc < M ∧
      w.cell? ⟨cg, u.pc.toNat * 5, none⟩ = some (.int .i64 (insOf p u).op) ∧ w.cell? ⟨cg, u.pc.toNat * 5 + 1, none⟩ = some (.int .i64 (insOf p u).dst) ∧ w.cell? ⟨cg, u.pc.toNat * 5 + 2, none⟩ = some (.int .i64 (insOf p u).a) ∧ w.cell? ⟨cg, u.pc.toNat * 5 + 3, none⟩ = some (.int .i64 (insOf p u).b) ∧ w.cell? ⟨cg, u.pc.toNat * 5 + 4, none⟩ = some (.int .i64 (insOf p u).imm) := by
  obtain ⟨F, m, h1, h2, -, h4⟩ := hu.parts
  have hl : u.fn.toNat < p.length := (List.getElem?_eq_some_iff.1 h1).1
  have h0 := hu.fn0
  have h0' := hu.pc0
  have hfl : u.fn < (p.length : Int) := by omega
  obtain ⟨A, PC, hv, hA⟩ := hP.slice
  obtain ⟨pg, rfl, hpg, hfn⟩ := hA (by omega)
  obtain ⟨x, hx, d0, -, d2⟩ := hfn _ _ h1
  obtain ⟨CA, cap, hxv, hC⟩ := hx.slice
  have hl2 : u.pc.toNat < F.code.length := (List.getElem?_eq_some_iff.1 h4).1
  have hpl : u.pc < (F.code.length : Int) := by omega
  obtain ⟨cg, rfl, hcg, hin⟩ := hC (by omega)
  obtain ⟨e0, e1, e2, e3, e4⟩ := hin _ _ h4
  exact ⟨pg, PC, _, cap, cg, F.code.length, hv, hpg, hfl, by rw [d0, h2], by rw [d2, hxv], rfl, hcg, by rw [h2], hpl, e0, e1, e2, e3, e4⟩
set_option maxRecDepth 100000 in
set_option maxHeartbeats 4000000 in
theorem ret_up {p : List Fnc} (hp : Right p) {w0 w : World} {E : Nat} {pv FS ES AS : Value} {s : St} (h : EngAt w0 w E pv s FS ES AS) (hP : ProgAt w0 pv p) (hm : s.mem.length = 16) {gs : List Fr} {u f : Fr} (hf : s.frames = gs ++ [u] ++ [f]) (hr : ∀ f ∈ s.frames, f.regs.length = 12) (hu : FrOk p u) (hl : gs.length ≤ 8) (v : Int) :
    Calls Tryd.prog 60 #[.pointer (some ⟨E, 0, none⟩), .int .i64 v] w fun e w' => e = .returned (.tuple #[]) ∧ ∃ FS', EngAt w0 w' E pv { s with frames := gs ++ [retFr p u v] } FS' ES AS := by
  obtain ⟨k, hk⟩ : ∃ k, gs.length = k := ⟨_, rfl⟩
  obtain ⟨g, cap, rfl, hcap, hgE, hgl, hgb, hown, hcell, hfz⟩ := h.frames (k := k + 1) (by rw [hf]; simp [hk]) hr
  have q2 := h.cellC hm (i := 2) (by omega)
  rw [stC_2] at q2
  have f2 := h.frozen 2
  have hk1 : IntKind.i64.wrap ((k : Int) + 1) = k + 1 := by rw [IntKind.wrap_i64]; omega
  have hk2 : IntKind.i64.wrap (k : Int) = k := by rw [IntKind.wrap_i64]; omega
  have hk3 : (k : Int) + 1 ≤ cap := by omega
  have hk4 : (0 : Int) ≤ (k : Int) + 1 := by omega
  have HR : Hid (∀ f ∈ gs ++ [u], f.regs.length = 12) := Lib.hid (fun x hx => hr x (by rw [hf]; simp at hx ⊢; rcases hx with h | h <;> simp [h]))
  have HP := Lib.hid (EngAt.pop (fs := gs ++ [u]) (f := f) (g := g) (cap := cap) (by have := h.drew; simpa [hk] using this) hm (by rw [hf]) hr)
  have HM := Lib.hid hm
  have HO := Lib.hid (hp.ins hu)
  have HD : Hid ((insOf p u).dst < 12) := Lib.hid (by have := (hp.ins hu).dst2; have := (hp.fnok hu).r2; omega)
  obtain ⟨pg, PC, CA, ccap, cg, M, rfl, hpg, hfn1, -, d2, rfl, hcg, hM, hpc1, -, d5, -⟩ := ins_at hP hu
  have hM2 : M ≤ 40 := by have := (hp.fnok hu).c2; omega
  clear hM
  have hk5 : ((k : Int) + 1 == 0) = false := by simp; omega
  have hfn0 := hu.fn0
  have hpc0 := hu.pc0
  have hk6 : (k : Int) < k + 1 := by omega
  have hk7 : (0 : Int) ≤ k := by omega
  generalize p.length = N at *
  have hf1 : u.fn.toNat < N := by omega
  have D2 := Lib.hid d2
  have D5 := Lib.hid d5
  clear h hown hcell hfz hr d2 d5
  have H1 := Lib.hid (fun (wd w1 : World) (h0 : w.drew = wd) (h : wd.setCell ⟨E, 2, none⟩ (.slice (some ⟨g, 0, none⟩) (k + 1) cap) = w1) => (by rw [← h, ← h0]; simpa [hk] using HP.out : EngAt w0 w1 E (.slice (some ⟨pg, 0, none⟩) N PC) { s with frames := gs ++ [u] } (.slice (some ⟨g, 0, none⟩) (k + 1) cap) ES AS))
  clear HP
  go_enter Tryd.func60, Tryd.ntmps60
  go_wp2_with fail
  go_still_tail 17, (by kernel_rfl)
  change wpList _ _ _ _ _ w.drew
  have c0 : w.drew.cell? ⟨E, 2, none⟩ = some (.slice (some ⟨g, 0, none⟩) (k + 1 + 1) cap) := q2
  have e0 : w.drew.frozen? ⟨E, 2, none⟩ = false := f2
  clear q2 f2
  obtain ⟨wd, hwd⟩ : ∃ wd, w.drew = wd := ⟨_, rfl⟩
  have H2 := Lib.hid (fun w1 => H1.out wd w1 hwd)
  rw [hwd] at c0 e0 ⊢
  clear hwd H1
  go_wp2_with (obtain ⟨w1, hw1⟩ : ∃ w1, wd.setCell ⟨E, 2, none⟩ (.slice (some ⟨g, 0, none⟩) (k + 1) cap) = w1 := ⟨_, rfl⟩; rw [hw1]; have HX1 := Lib.hid (H2.out w1 hw1); clear hw1 H2 c0 e0; have r2 := (HX1.out.cellC HM.out (i := 2) (by omega)).trans (stC_2 _ _ _ _))
  go_quiet (fail)
  rename_i nq
  have HX2' := Lib.hid (HX1.out.drewN nq)
  obtain ⟨w2, hw2⟩ : ∃ w2, w1.drewN nq = w2 := ⟨_, rfl⟩
  rw [hw2] at HX2' ⊢
  clear hw2 HX1 r2
  have HX2 := Lib.hid (HX2'.out.drew)
  have rP := HX2'.out.cellP HM.out
  have hiu : (gs ++ [u])[k]? = some u := by simp [← hk]
  have g0 := (HX2'.out.fcell HR.out hiu (j := 0) (by omega)).trans (show _ = some (Value.int .i64 u.fn) from rfl)
  have g1 := (HX2'.out.fcell HR.out hiu (j := 1) (by omega)).trans (show _ = some (Value.int .i64 u.pc) from rfl)
  rw [Nat.add_zero] at g0
  have D2' := (HX2'.out.below.cell (p := ⟨pg, u.fn.toNat * 3 + 2, none⟩) hpg).trans D2.out
  have D5' := (HX2'.out.below.cell (p := ⟨cg, u.pc.toNat * 5 + 1, none⟩) hcg).trans D5.out
  have o1 := HO.out.dst1
  have o2 : (insOf p u).dst < 12 := HD.out
  go_wp2_with fail
  go_still_tail 24, (by kernel_rfl)
  change wpList _ _ _ _ _ w2.drew
  obtain ⟨w3, hw3⟩ : ∃ w3, w2.drew = w3 := ⟨_, rfl⟩
  rw [hw3] at HX2 ⊢
  clear hw3 rP g0 g1 D2' D5' HX2' D2 D5
  have gd := (HX2.out.fcell HR.out hiu (j := 2 + (insOf p u).dst.toNat) (by omega)).trans (frCell_reg (HR.out u (by simp)) o1 o2)
  have gf := HX2.out.ffrozen HR.out (by simp) (k * 14 + (2 + (insOf p u).dst.toNat))
  rw [← Nat.add_assoc] at gd gf
  have hur := HR.out u (by simp)
  have H4 := Lib.hid (fun (w4 : World) (h : w3.setCell ⟨g, k * 14 + 2 + (insOf p u).dst.toNat, none⟩ (.int .i64 v) = w4) => (by
    have := (show EngAt w0 w3 E (.slice (some ⟨pg, 0, none⟩) N PC) { s with frames := gs ++ [u] } (.slice (some ⟨g, 0, none⟩) ({ s with frames := gs ++ [u] } : St).frames.length cap) ES AS by simpa [hk] using HX2.out).frame (fs := gs) (gs := []) (f := u) rfl HR.out (j := 2 + (insOf p u).dst.toNat) (by omega) (frCell_put u (insOf p u).dst v)
    rw [← Nat.add_assoc, hk] at this
    rw [← h]
    simpa [hk] using this : EngAt w0 w4 E (.slice (some ⟨pg, 0, none⟩) N PC) { s with frames := gs ++ [u.put (insOf p u).dst v] } (.slice (some ⟨g, 0, none⟩) (k + 1) cap) ES AS))
  have HRP : Hid (∀ f ∈ gs ++ [u.put (insOf p u).dst v], f.regs.length = 12) := Lib.hid (fun x hx => by
    rcases List.mem_append.1 hx with h | h
    · exact HR.out x (by simp [h])
    · rw [List.mem_singleton.1 h, put_len]; exact hur)
  have hip : (gs ++ [u.put (insOf p u).dst v])[k]? = some (u.put (insOf p u).dst v) := by simp [← hk]
  have hpw : IntKind.i64.wrap (u.pc + 1) = u.pc + 1 := by rw [IntKind.wrap_i64]; omega
  have HF := Lib.hid (fun (w4 : World) (h : EngAt w0 w4 E (.slice (some ⟨pg, 0, none⟩) N PC) { s with frames := gs ++ [u.put (insOf p u).dst v] } (.slice (some ⟨g, 0, none⟩) (k + 1) cap) ES AS) => (⟨(h.fcell HRP.out hip (j := 1) (by omega)).trans (show _ = some (Value.int .i64 u.pc) from rfl), h.ffrozen HRP.out (by simp) _⟩ : w4.cell? ⟨g, k * 14 + 1, none⟩ = some (.int .i64 u.pc) ∧ w4.frozen? ⟨g, k * 14 + 1, none⟩ = false))
  clear HX2
  go_wp2_with (obtain ⟨w4, hw4⟩ : ∃ w4, w3.setCell ⟨g, k * 14 + 2 + (insOf p u).dst.toNat, none⟩ (.int .i64 v) = w4 := ⟨_, rfl⟩; rw [hw4]; have HX4 := Lib.hid (H4.out w4 hw4); clear hw4 H4 gd gf; obtain ⟨gp, gq⟩ := HF.out w4 HX4.out)
  have h5 := (show EngAt w0 w4 E (.slice (some ⟨pg, 0, none⟩) N PC) { s with frames := gs ++ [u.put (insOf p u).dst v] } (.slice (some ⟨g, 0, none⟩) ({ s with frames := gs ++ [u.put (insOf p u).dst v] } : St).frames.length cap) ES AS by simpa [hk] using HX4.out).frame (fs := gs) (gs := []) (f := u.put (insOf p u).dst v) rfl HRP.out (j := 1) (by omega) (frCell_pc _ (u.pc + 1))
  rw [hk] at h5
  exact bodyPost_end (v := .tuple #[]) (by simp [results, Tryd.results60, go_sem]) rfl ⟨rfl, _, h5⟩
end Go.Proofs.YtnbopmlemddakaaDoor
