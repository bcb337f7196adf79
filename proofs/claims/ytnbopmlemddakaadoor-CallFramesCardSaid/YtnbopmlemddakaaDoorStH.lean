/-
  What the engine's next reads; the engine with its last frame.
-/
import Derived.Test.YtnbopmlemddakaaDoorSt4
import Derived.Test.YtnbopmlemddakaaDoorMkS
namespace Go.Proofs.YtnbopmlemddakaaDoor
open Go.RowKit Tier
section
variable {p : List Fnc} {w0 w : World} {E : Nat} {pv FS ES AS : Value} {s : St}
/-- What next reads. -/
structure Nx (p : List Fnc) (w0 w : World) (E : Nat) (pv : Value) (s : St) (FS ES AS : Value) (fs : List Fr) (f : Fr) (k g cap pg N PC cg M ccap : Nat) : Prop where
  eng : EngAt w0 w E pv s FS ES AS
  hk : fs.length = k
  fs0 : FS = .slice (some ⟨g, 0, none⟩) (k + 1) cap
  cap1 : k + 1 ≤ cap
  gE : g ≠ E
  e19 : w.cell? ⟨E, 19, none⟩ = some (.int .i64 s.fuel)
  e2 : w.cell? ⟨E, 2, none⟩ = some (.slice (some ⟨g, 0, none⟩) (k + 1) cap)
  e22 : w.cell? ⟨E, 22, none⟩ = some (.slice (some ⟨pg, 0, none⟩) N PC)
  g0 : w.cell? ⟨g, k * 14, none⟩ = some (.int .i64 f.fn)
  g1 : w.cell? ⟨g, k * 14 + 1, none⟩ = some (.int .i64 f.pc)
  ga : w.cell? ⟨g, k * 14 + 2 + (insOf p f).a.toNat, none⟩ = some (.int .i64 (f.reg (insOf p f).a))
  gb : w.cell? ⟨g, k * 14 + 2 + (insOf p f).b.toNat, none⟩ = some (.int .i64 (f.reg (insOf p f).b))
  d2 : w.cell? ⟨pg, f.fn.toNat * 3 + 2, none⟩ = some (.slice (some ⟨cg, 0, none⟩) M ccap)
  c0 : w.cell? ⟨cg, f.pc.toNat * 5, none⟩ = some (.int .i64 (insOf p f).op)
  c1 : w.cell? ⟨cg, f.pc.toNat * 5 + 1, none⟩ = some (.int .i64 (insOf p f).dst)
  c2 : w.cell? ⟨cg, f.pc.toNat * 5 + 2, none⟩ = some (.int .i64 (insOf p f).a)
  c3 : w.cell? ⟨cg, f.pc.toNat * 5 + 3, none⟩ = some (.int .i64 (insOf p f).b)
  c4 : w.cell? ⟨cg, f.pc.toNat * 5 + 4, none⟩ = some (.int .i64 (insOf p f).imm)
  fn0 : 0 ≤ f.fn
  fn1 : f.fn < (N : Int)
  pc0 : 0 ≤ f.pc
  pc1 : f.pc < (M : Int)
  M40 : M ≤ 40
  dst0 : 0 ≤ (insOf p f).dst
  dst1 : (insOf p f).dst < 12
  a0 : 0 ≤ (insOf p f).a
  a1 : (insOf p f).a < 12
  b0 : 0 ≤ (insOf p f).b
  b1 : (insOf p f).b < 12
  k8 : k < 8
  lE : E < w.heap.size
  lg : g < w.heap.size
  lp : pg < w.heap.size
  lc : cg < w.heap.size
theorem Nx.drewN {fs : List Fr} {f : Fr} {k g cap pg N PC cg M ccap : Nat} (X : Nx p w0 w E pv s FS ES AS fs f k g cap pg N PC cg M ccap) (n : Nat) : Nx p w0 (w.drewN n) E pv s FS ES AS fs f k g cap pg N PC cg M ccap := { X with eng := X.eng.drewN n }
theorem Nx.drew {fs : List Fr} {f : Fr} {k g cap pg N PC cg M ccap : Nat} (X : Nx p w0 w E pv s FS ES AS fs f k g cap pg N PC cg M ccap) : Nx p w0 w.drew E pv s FS ES AS fs f k g cap pg N PC cg M ccap := { X with eng := X.eng.drew }
theorem nx_of (hp : Right p) (h : EngAt w0 w E pv s FS ES AS) (hP : ProgAt w0 pv p) (hi : StInv p s) {fs : List Fr} {f : Fr} (hf : s.frames = fs ++ [f]) :
    ∃ k g cap pg N PC cg M ccap, Nx p w0 w E pv s FS ES AS fs f k g cap pg N PC cg M ccap := by
  have hm := hi.mem
  have hr : ∀ x ∈ s.frames, x.regs.length = 12 := fun x hx => (hi.fr x hx).regs
  have hfo : FrOk p f := hi.fr f (by rw [hf]; simp)
  obtain ⟨g, cap, hFS, hcap, hgE, hgl, -, -, hcell, -⟩ := h.frames (k := fs.length) (by rw [hf]; simp) hr
  obtain ⟨pg, PC, CA, ccap, cg, M, hpv, hpg, hfn1, -, d2, hCA, hcg, hM, hpc1, d40, d41, d42, d43, d44⟩ := ins_at hP hfo
  have hO := hp.ins hfo
  have hF := hp.fnok hfo
  have hd := hi.deep
  rw [hf] at hd
  simp only [List.length_append, List.length_cons, List.length_nil] at hd
  have hif : s.frames[fs.length]? = some f := by rw [hf]; simp
  have r2 := hF.r2
  have a2 := hO.a2
  have b2 := hO.b2
  have dd2 := hO.dst2
  have hfl := hfo.regs
  have ga := hcell _ f (2 + (insOf p f).a.toNat) hif (by have := hO.a1; omega)
  rw [frCell_reg hfl hO.a1 (by omega), ← Nat.add_assoc] at ga
  have gb := hcell _ f (2 + (insOf p f).b.toNat) hif (by have := hO.b1; omega)
  rw [frCell_reg hfl hO.b1 (by omega), ← Nat.add_assoc] at gb
  have g0 := hcell _ f 0 hif (by omega)
  rw [Nat.add_zero] at g0
  have hsz := h.below.size
  refine ⟨fs.length, g, cap, pg, p.length, PC, cg, M, ccap, h, rfl, hFS, hcap, hgE, (h.cellC hm (by omega)).trans (stC_19 _ _ _ hm), ?_, ?_, g0, hcell _ f 1 hif (by omega), ga, gb, ?_, ?_, ?_, ?_, ?_, ?_, hfo.fn0, hfn1, hfo.pc0, hpc1, ?_, hO.dst1, by omega, hO.a1, by omega, hO.b1, by omega, by omega, h.lt, hgl, by omega, by omega⟩
  · rw [h.cellC hm (by omega), stC_2, hFS]
  · rw [h.cellP hm, hpv]
  · exact (h.below.cell (p := ⟨pg, _, none⟩) hpg).trans (by rw [d2, hCA])
  · exact (h.below.cell (p := ⟨cg, _, none⟩) hcg).trans d40
  · exact (h.below.cell (p := ⟨cg, _, none⟩) hcg).trans d41
  · exact (h.below.cell (p := ⟨cg, _, none⟩) hcg).trans d42
  · exact (h.below.cell (p := ⟨cg, _, none⟩) hcg).trans d43
  · exact (h.below.cell (p := ⟨cg, _, none⟩) hcg).trans d44
  · have := hF.c2; omega
end
/-- The engine with its last frame, and the instruction that is done, in a block of its own. -/
structure Top (w0 w : World) (E : Nat) (pv : Value) (s : St) (ES AS : Value) (fs : List Fr) (f : Fr) (k g cap I : Nat) (x : Ins) : Prop where
  eng : EngAt w0 w E pv s (.slice (some ⟨g, 0, none⟩) (k + 1) cap) ES AS
  hf : s.frames = fs ++ [f]
  hk : fs.length = k
  hr : ∀ y ∈ s.frames, y.regs.length = 12
  hm : s.mem.length = 16
  ins : w.heap[I]? = some (.cells #[.int .i64 x.op, .int .i64 x.dst, .int .i64 x.a, .int .i64 x.b, .int .i64 x.imm] 62 (0, 0))
section
variable {w0 w : World} {E : Nat} {pv ES AS : Value} {s : St} {fs : List Fr} {f : Fr} {k g cap I : Nat} {x : Ins}
theorem Top.hfr (h : Top w0 w E pv s ES AS fs f k g cap I x) : f.regs.length = 12 := h.hr f (by rw [h.hf]; simp)
theorem Top.cell (h : Top w0 w E pv s ES AS fs f k g cap I x) {j : Nat} (hj : j < 14) : w.cell? ⟨g, k * 14 + j, none⟩ = (frCell f)[j]? :=
  h.eng.fcell h.hr (by rw [h.hf, ← h.hk]; simp) hj
theorem Top.c1 (h : Top w0 w E pv s ES AS fs f k g cap I x) : w.cell? ⟨g, k * 14 + 1, none⟩ = some (.int .i64 f.pc) := h.cell (by omega)
theorem Top.cR (h : Top w0 w E pv s ES AS fs f k g cap I x) {r : Int} (h0 : 0 ≤ r) (h1 : r < 12) : w.cell? ⟨g, k * 14 + 2 + r.toNat, none⟩ = some (.int .i64 (f.reg r)) := by
  rw [Nat.add_assoc, h.cell (by omega), frCell_reg h.hfr h0 h1]
theorem Top.frz (h : Top w0 w E pv s ES AS fs f k g cap I x) (j : Nat) : w.frozen? ⟨g, j, none⟩ = false := h.eng.ffrozen h.hr (by rw [h.hf]; simp) j
theorem Top.e19 (h : Top w0 w E pv s ES AS fs f k g cap I x) : w.cell? ⟨E, 19, none⟩ = some (.int .i64 s.fuel) := (h.eng.cellC h.hm (by omega)).trans (stC_19 _ _ _ h.hm)
theorem Top.iC (h : Top w0 w E pv s ES AS fs f k g cap I x) (i : Nat) : w.cell? ⟨I, i, none⟩ = #[Value.int .i64 x.op, .int .i64 x.dst, .int .i64 x.a, .int .i64 x.b, .int .i64 x.imm][i]? := cell_block h.ins i
theorem Top.gb (h : Top w0 w E pv s ES AS fs f k g cap I x) : ∃ c, w.heap[g]? = some (.cells c 60 (0, 0)) := by
  rcases h.eng.rows.fr.2 with ⟨h', -⟩ | ⟨g', c', cur, h', -, hh, -⟩
  · cases h'
  · simp only [Value.slice.injEq, Option.some.injEq, Addr.mk.injEq, and_true] at h'
    obtain ⟨rfl, -, -⟩ := h'
    exact ⟨_, hh⟩
theorem types_ne {b c : Nat} {u v : Array Value} {t1 t2 : TypeId} {fz fz' : Nat × Nat} (h1 : w.heap[b]? = some (.cells u t1 fz)) (h2 : w.heap[c]? = some (.cells v t2 fz')) (ht : t1 ≠ t2) : b ≠ c := fun e => by
  subst e
  rw [h1] at h2
  simp only [Option.some.injEq, Obj.cells.injEq] at h2
  exact ht h2.2.1
theorem Top.frame (h : Top w0 w E pv s ES AS fs f k g cap I x) {j : Nat} {v : Value} {f' : Fr} (hj : j < 14) (he : (frCell f).set j v = frCell f') (hl : f'.regs.length = f.regs.length) : Top w0 (w.setCell ⟨g, k * 14 + j, none⟩ v) E pv { s with frames := fs ++ [f'] } ES AS fs f' k g cap I x := by
  obtain ⟨c, hg⟩ := h.gb
  have h1 := (show EngAt w0 w E pv s (.slice (some ⟨g, 0, none⟩) s.frames.length cap) ES AS by have := h.eng; rw [h.hf]; simpa [h.hk] using this).frame (fs := fs) (gs := []) (f := f) (f' := f') h.hf h.hr hj he
  have hlen : s.frames.length = k + 1 := by rw [h.hf]; simp [h.hk]
  rw [hlen, h.hk] at h1
  refine ⟨h1, rfl, h.hk, fun y hy => ?_, h.hm, block_set_ne h.ins (types_ne hg h.ins (by decide)) _ _⟩
  rcases List.mem_append.1 (show y ∈ fs ++ [f'] from hy) with h2 | h2
  · exact h.hr y (by rw [h.hf]; simp [h2])
  · rw [List.mem_singleton.1 h2, hl]; exact h.hfr
theorem Top.put (h : Top w0 w E pv s ES AS fs f k g cap I x) {r : Int} (h0 : 0 ≤ r) (h1 : r < 12) (n : Int) : Top w0 (w.setCell ⟨g, k * 14 + 2 + r.toNat, none⟩ (.int .i64 n)) E pv { s with frames := fs ++ [f.put r n] } ES AS fs (f.put r n) k g cap I x := by
  rw [Nat.add_assoc]
  exact h.frame (by omega) (frCell_put f r n) (put_len f r n)
theorem Top.pc (h : Top w0 w E pv s ES AS fs f k g cap I x) (n : Int) : Top w0 (w.setCell ⟨g, k * 14 + 1, none⟩ (.int .i64 n)) E pv { s with frames := fs ++ [f.at n] } ES AS fs (f.at n) k g cap I x :=
  h.frame (by omega) (frCell_pc f n) rfl
theorem Top.fuel (h : Top w0 w E pv s ES AS fs f k g cap I x) (n : Int) : Top w0 (w.setCell ⟨E, 19, none⟩ (.int .i64 n)) E pv { s with fuel := n } ES AS fs f k g cap I x :=
  ⟨h.eng.set' h.hm (by omega) (stS_19 _ _ _ h.hm n) rfl rfl rfl, h.hf, h.hk, h.hr, h.hm, block_set_ne h.ins (types_ne h.eng.blk h.ins (by decide)) _ _⟩
theorem Top.memo (h : Top w0 w E pv s ES AS fs f k g cap I x) {i : Nat} (hi : i < 16) (n : Int) : Top w0 (w.setCell ⟨E, 3 + i, none⟩ (.int .i64 n)) E pv { s with mem := s.mem.set i n } ES AS fs f k g cap I x :=
  ⟨h.eng.set' h.hm (by omega) (stS_mem _ _ _ h.hm hi n) rfl rfl rfl, h.hf, h.hk, h.hr, by simp [h.hm], block_set_ne h.ins (types_ne h.eng.blk h.ins (by decide)) _ _⟩
theorem Top.drewN (h : Top w0 w E pv s ES AS fs f k g cap I x) (n : Nat) : Top w0 (w.drewN n) E pv s ES AS fs f k g cap I x := { h with eng := h.eng.drewN n }
theorem Top.drew (h : Top w0 w E pv s ES AS fs f k g cap I x) : Top w0 w.drew E pv s ES AS fs f k g cap I x := { h with eng := h.eng.drew }
end
end Go.Proofs.YtnbopmlemddakaaDoor
