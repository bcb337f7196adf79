/-
  The contract of the engine's call.
-/
import Derived.Test.YtfngkpbbimibaaaDoorSt1
import Derived.Deep.RegionLaw
import Derived.BigRegion
import Derived.Deep.RegionHeld3
import Derived.Laws.CopyOwn
import Derived.Test.YtfngkpbbimibaaaDoorMkS
namespace Go.Proofs.YtfngkpbbimibaaaDoor
open Go.RowKit Tier
theorem EngAt.alloc {w0 w : World} {E : Nat} {pv FS ES AS : Value} {s : St} (h : EngAt w0 w E pv s FS ES AS) (o : Obj) : EngAt w0 (w.alloc o) E pv s FS ES AS :=
  ⟨block_alloc h.blk o, ⟨h.rows.fr.alloc o, h.rows.ev.alloc o, h.rows.an.keeps (fun _ _ hk => block_alloc hk o), h.rows.ne⟩, h.base, h.below.alloc h.below.size o⟩
theorem EngAt.keeps {w0 w w' : World} {E : Nat} {pv FS ES AS : Value} {s : St} (h : EngAt w0 w E pv s FS ES AS) (hb : Below w.heap.size w w') : EngAt w0 w' E pv s FS ES AS :=
  ⟨below_block hb (block_lt h.blk) h.blk, h.rows.below hb, h.base, h.below.trans (hb.mono h.below.size)⟩
theorem frCell_14 {f : Fr} (h : f.regs.length = 12) : ∃ u0 u1 u2 u3 u4 u5 u6 u7 u8 u9 u10 u11 u12 u13 : Value, frCell f = [u0, u1, u2, u3, u4, u5, u6, u7, u8, u9, u10, u11, u12, u13] := by
  have h14 := frCell_length h
  generalize frCell f = l at h14
  match l, h14 with
  | [u0, u1, u2, u3, u4, u5, u6, u7, u8, u9, u10, u11, u12, u13], _ => exact ⟨u0, u1, u2, u3, u4, u5, u6, u7, u8, u9, u10, u11, u12, u13, rfl⟩
theorem eng_push {w0 w w2 : World} {E : Nat} {pv FS ES AS : Value} {s : St} (h : EngAt w0 w E pv s FS ES AS) (hm : s.mem.length = 16) {g cap : Nat} {f : Fr}
    (hown : w2.ownsRow w0.heap.size 68 14 (.slice (some ⟨g, 0, none⟩) (s.frames.length + 1) cap) (s.frames.length + 1) (frCells s.frames ++ frCell f)) (hg : w.grownBy w2 FS.ownBlock) :
    w2.frozen? ⟨E, 2, none⟩ = false ∧ w2.cell? ⟨E, 2, none⟩ = some FS ∧ ∀ w3, w2.setCell ⟨E, 2, none⟩ (.slice (some ⟨g, 0, none⟩) (s.frames.length + 1) cap) = w3 →
      EngAt w0 w3 E pv { s with frames := s.frames ++ [f] } (.slice (some ⟨g, 0, none⟩) (s.frames.length + 1) cap) ES AS := by
  have hE : FS.ownBlock ≠ some E := own_type h.rows.fr h.blk eng_ne60
  have keep : ∀ (k : Nat) (ob : Obj), w.heap[k]? = some ob → FS.ownBlock ≠ some k → w2.heap[k]? = some ob := fun k ob hk hne =>
    (hg.block k (block_lt hk) (fun e => hne e.symm)).trans hk
  have hblk := keep E _ h.blk hE
  refine ⟨frozen_block hblk 2, ?_, ?_⟩
  · rw [cell_block hblk, ← cell_block h.blk, h.cellC hm (by omega), stC_2]
  · intro w3 hw3
    have hl : (s.frames ++ [f]).length = s.frames.length + 1 := by simp
    have hiv : frCells (s.frames ++ [f]) = frCells s.frames ++ frCell f := by rw [frCells_append, frCells_one]
    have hev : w2.ownsRow w0.heap.size 3 1 ES s.events.length (intsV s.events) := by
      refine h.rows.ev.kept hg ?_
      rcases h.rows.ev.2 with ⟨hf, -⟩ | ⟨g', c', cur, hf, -, hh, -⟩
      · rw [hf]; exact .inl rfl
      · right
        intro e
        have e' : FS.ownBlock = some g' := by rw [← e, hf]; rfl
        exact own_type h.rows.fr hh (by decide) e'
    have han : NumAt w2 w0.heap.size AS s.answers := by
      obtain ⟨A, c, rfl, h2, h3⟩ := h.rows.an
      refine ⟨A, c, rfl, h2, fun hl => ?_⟩
      obtain ⟨b, o', cur, rfl, h5, h6, h7⟩ := h3 hl
      exact ⟨b, o', cur, rfl, h5, keep b _ h6 (own_type h.rows.fr h6 (by decide)), h7⟩
    have hrows : StRows w2 w0.heap.size { s with frames := s.frames ++ [f] } (.slice (some ⟨g, 0, none⟩) (s.frames.length + 1) cap) ES AS :=
      ⟨by simpa only [hl, hiv] using hown, hev, han, h.rows.ne⟩
    have hbel : Below w0.heap.size w0 w2 := h.below.grown hg h.below.size (fun k hk => (h.rows.fr.lt k hk).1)
    subst hw3
    refine ⟨block_put hblk ?_, hrows.set hblk eng_ne60 eng_ne3 2 _, h.base, hbel.setCell h.base _⟩
    rw [List.set_append_left _ _ (by rw [stCells_length hm]; omega), stS_2]; rfl
set_option maxRecDepth 100000 in
set_option maxHeartbeats 4000000 in
theorem call_deep {w0 w : World} {E : Nat} {pv FS ES AS : Value} {s : St} (h : EngAt w0 w E pv s FS ES AS) (hm : s.mem.length = 16) (hl : s.frames.length = 8) (op dst xa xb imm a b : Int) :
    Calls Tryd.prog 56 #[.pointer (some ⟨E, 0, none⟩), .agg #[.int .i64 op, .int .i64 dst, .int .i64 xa, .int .i64 xb, .int .i64 imm], .int .i64 a, .int .i64 b] w fun e w' => e = .returned (.tuple #[]) ∧ EngAt w0 w' E pv { s with status := 5 } FS ES AS := by
  obtain ⟨A, cap, rfl, -⟩ := own_slice h.rows.fr
  have q2 := h.cellC hm (i := 2) (by omega)
  rw [stC_2, hl] at q2
  have hlt := h.lt
  have HM := Lib.hid hm
  have HH := Lib.hid h
  clear h hm
  go_enter Tryd.func56, Tryd.ntmps56
  go_wp2_with (go_at_call 54; go_must (refine (halt_any (HH.out.alloc _) HM.out 5).mono ?_; rintro e w2 ⟨rfl, h2⟩))
  exact bodyPost_ret (v := .tuple #[]) (by simp [results, Tryd.results56, go_sem]) rfl ⟨rfl, h2⟩
set_option maxRecDepth 100000 in
set_option maxHeartbeats 4000000 in
theorem call_push {p : List Fnc} {w0 w : World} {E : Nat} {pv FS ES AS : Value} {s : St} (h : EngAt w0 w E pv s FS ES AS) (hP : ProgAt w0 pv p) (hm : s.mem.length = 16) (hl : s.frames.length < 8) (op dst xa xb imm a b : Int) {F : Fnc} (hi0 : 0 ≤ imm) (hF : p[imm.toNat]? = some F) (hF0 : 0 ≤ F.params) (hF2 : F.params ≤ 2) :
    Calls Tryd.prog 56 #[.pointer (some ⟨E, 0, none⟩), .agg #[.int .i64 op, .int .i64 dst, .int .i64 xa, .int .i64 xb, .int .i64 imm], .int .i64 a, .int .i64 b] w fun e w' => e = .returned (.tuple #[]) ∧ ∃ FS', EngAt w0 w' E pv { s with frames := s.frames ++ [newFr imm F.params a b] } FS' ES AS := by
  obtain ⟨i0, hi, hz0, hz1, hz2⟩ := info_parts infoFr
  obtain ⟨A, cap, rfl, -⟩ := own_slice h.rows.fr
  obtain ⟨pA, PC, rfl, hpA⟩ := hP.slice
  have hil : imm.toNat < p.length := (List.getElem?_eq_some_iff.1 hF).1
  obtain ⟨pg, rfl, hpg, hfn⟩ := hpA (by omega)
  obtain ⟨x, -, d0, -, -⟩ := hfn _ _ hF
  have q2 := h.cellC hm (i := 2) (by omega)
  rw [stC_2] at q2
  have q22 := h.cellP hm
  have D0 := (h.below.cell (p := ⟨pg, imm.toNat * 3, none⟩) hpg).trans d0
  have hlt := h.lt
  have hpl : pg < w.heap.size := Nat.lt_of_lt_of_le hpg h.below.size
  obtain ⟨n, hn⟩ : ∃ n, s.frames.length = n := ⟨_, rfl⟩
  have hne : ((n : Int) == 8) = false := by simp; omega
  rw [hn] at q2
  have HM := Lib.hid hm
  have HH := Lib.hid h
  have HN := Lib.hid hn
  obtain ⟨N, hNN⟩ : ∃ N, p.length = N := ⟨_, rfl⟩
  rw [hNN] at q22 hil
  have hil' : imm < (N : Int) := by omega
  clear h hm hfn d0 hpA
  obtain ⟨m, hmm⟩ : ∃ m : Nat, F.params = m := ⟨F.params.toNat, by omega⟩
  have hm2 : m ≤ 2 := by omega
  rw [hmm] at D0 ⊢
  have hm3 : (m : Int) ≤ 2 := by omega
  have hm4 : (0 : Int) ≤ m := by omega
  clear hF hF0 hF2
  have HCS : Hid (((argsOf m a b).map (Value.int .i64)).length = m) := Lib.hid (by
    have hc : m = 0 ∨ m = 1 ∨ m = 2 := by omega
    rcases hc with rfl | rfl | rfl <;> rfl)
  have HMN : Hid (Nat.min m 12 = m) := Lib.hid (Nat.min_eq_left (by omega))
  have HSZ : Hid ((Tryd.prog.info? 3).map (·.size) = some 1) := Lib.hid (by kernel_rfl)
  go_enter Tryd.func56, Tryd.ntmps56
  go_wp2_with fail
  have H1 := Lib.hid ((HH.out.alloc (.cells #[.int .i64 op, .int .i64 dst, .int .i64 xa, .int .i64 xb, .int .i64 imm] 76)).alloc (.cells (frCell (newFr imm 0 a b)).toArray 68))
  have HBL := Lib.hid (((Below.refl w.heap.size w).alloc (Nat.le_refl _) (.cells #[.int .i64 op, .int .i64 dst, .int .i64 xa, .int .i64 xb, .int .i64 imm] 76)).alloc (by simp) (.cells (frCell (newFr imm 0 a b)).toArray 68))
  have HB0 := Lib.hid (block_alloc (heap_alloc_new w (.cells #[.int .i64 op, .int .i64 dst, .int .i64 xa, .int .i64 xb, .int .i64 imm] 76)) (.cells (frCell (newFr imm 0 a b)).toArray 68))
  have HB1 := Lib.hid (heap_alloc_new1 w (.cells #[.int .i64 op, .int .i64 dst, .int .i64 xa, .int .i64 xb, .int .i64 imm] 76) (.cells (frCell (newFr imm 0 a b)).toArray 68))
  have hsz1 : ((w.alloc (.cells #[.int .i64 op, .int .i64 dst, .int .i64 xa, .int .i64 xb, .int .i64 imm] 76)).alloc (.cells (frCell (newFr imm 0 a b)).toArray 68)).heap.size = w.heap.size + 2 := by simp
  obtain ⟨w1, hw1⟩ : ∃ w1, (w.alloc (.cells #[.int .i64 op, .int .i64 dst, .int .i64 xa, .int .i64 xb, .int .i64 imm] 76)).alloc (.cells (frCell (newFr imm 0 a b)).toArray 68) = w1 := ⟨_, rfl⟩
  rw [hw1] at H1 HBL HB0 HB1 hsz1
  have hw1' := hw1
  simp only [frCell, newFr, argsOf, List.replicate, List.map, Int.reduceEq, if_true, List.length_nil, Nat.sub_zero, List.nil_append, List.cons_append] at hw1'
  rw [hw1']
  clear hw1 hw1' q2 q22
  have e22 := H1.out.cellP HM.out
  rw [hNN] at e22
  have e4 : w1.cell? ⟨w.heap.size, 4, none⟩ = some (.int .i64 imm) := (cell_block HB0.out 4).trans rfl
  have D0' := (HBL.out.cell (p := ⟨pg, imm.toNat * 3, none⟩) hpl).trans D0
  have z1 : E < w.heap.size + 1 := by omega
  have z2 : pg < w.heap.size + 1 := by omega
  clear D0
  have hcsd : argsOf m a b = argsOf m a b := rfl
  obtain ⟨cs, hcs⟩ : ∃ cs, (argsOf m a b).map (Value.int .i64) = cs := ⟨_, rfl⟩
  rw [hcs] at HCS
  have HNC : Hid (∀ (W : World), W.heap[w.heap.size + 2]? = some (.cells #[.int .i64 a, .int .i64 b] 3 (0, 0)) → ∀ j v, cs[j]? = some v → W.cell? ((⟨w.heap.size + 2, 0, none⟩ : Addr).add j) = some v) := Lib.hid (fun W hW j v hj => by
    rw [Addr.add_lit, cell_block hW, Nat.zero_add]
    rw [← hcs] at hj
    have hc : m = 0 ∨ m = 1 ∨ m = 2 := by omega
    rcases hc with rfl | rfl | rfl
    · simp [argsOf] at hj
    · cases j with
      | zero => simpa [argsOf] using hj
      | succ j => simp [argsOf] at hj
    · cases j with
      | zero => simpa [argsOf] using hj
      | succ j => cases j with
        | zero => simpa [argsOf] using hj
        | succ j => simp [argsOf] at hj)
  have HOC : Hid (∀ v ∈ cs, v.oneCell' = true) := Lib.hid (fun v hv => by rw [← hcs] at hv; obtain ⟨x, -, rfl⟩ := List.mem_map.1 hv; rfl)
  have HFC : Hid (splice (frCell (newFr imm 0 a b)) 2 cs = frCell (newFr imm m a b)) := Lib.hid (by
    rw [← hcs]
    have hc : m = 0 ∨ m = 1 ∨ m = 2 := by omega
    rcases hc with rfl | rfl | rfl <;> rfl)
  clear hcs hcsd
  have hFL : (frCell (newFr imm 0 a b)).length = 14 := rfl
  generalize hFr : frCell (newFr imm 0 a b) = Z at *
  clear hFr
  go_region_held3 (fun w' => w'.cell? ⟨E, 22, none⟩ = some (.slice (some ⟨pg, 0, none⟩) N PC) ∧ w'.cell? ⟨w.heap.size, 4, none⟩ = some (.int .i64 imm) ∧ w'.cell? ⟨pg, imm.toNat * 3, none⟩ = some (.int .i64 m)) (first | exact ⟨y1, y2, y3⟩ | exact ⟨e22, e4, D0'⟩ | exact ⟨(Below.cell (B := w.heap.size + 1) ((Below.refl _ w1).alloc (by omega) _) (p := ⟨E, 22, none⟩) z1).trans e22, (Below.cell (B := w.heap.size + 1) ((Below.refl _ w1).alloc (by omega) _) (p := ⟨w.heap.size, 4, none⟩) (by simp)).trans e4, (Below.cell (B := w.heap.size + 1) ((Below.refl _ w1).alloc (by omega) _) (p := ⟨pg, imm.toNat * 3, none⟩) z2).trans D0'⟩)
    (first | (refine step_copy_splice rfl (.tmp 22) (.tmp 36) 40 40 rfl 3 Tryd.underlying40 HSZ.out (some ⟨w.heap.size + 1, 2, none⟩) (some ⟨w.heap.size + 2, 0, none⟩) 12 12 m 2 rfl rfl (w.heap.size + 1) 2 Z 68 (by exact (Below.heap_alloc w1 _ _ (by rw [hsz1]; omega)).trans HB1.out) cs (by rw [HCS.out]; exact HMN.out.symm) (fun _ => ⟨rfl, _, rfl, HNC.out _ (by rw [← hsz1]; exact heap_alloc_new _ _)⟩) (by rw [HCS.out]; omega) HOC.out (w.heap.size + 1) w1 (by have hb := Below.refl (w.heap.size + 1) w1; repeat (first | exact hb | exact Below.refl _ _ | apply Below.drew | apply below_drewN | refine Below.alloc ?_ (by first | omega | (simp; done) | (simp; omega)) _ | refine Below.setCell ?_ (by first | omega | (simp; done) | (simp; omega)) _)) (Nat.le_refl _) ?_; intro w4 hg4 hb4; have y1 := (hb4.cell (p := ⟨E, 22, none⟩) z1).trans e22; have y2 := (hb4.cell (p := ⟨w.heap.size, 4, none⟩) (by simp)).trans e4; have y3 := (hb4.cell (p := ⟨pg, imm.toNat * 3, none⟩) z2).trans D0'))
  rename_i hHeld
  clear hHeld y1 y2 y3 e22 e4 D0'
  rw [HFC.out] at hg4
  have HX4 : Hid (EngAt w0 w4 E (.slice (some ⟨pg, 0, none⟩) p.length PC) s (.slice A n cap) ES AS) := Lib.hid (by have := HH.out.keeps (HBL.out.trans (hb4.mono (by omega))); rw [hn] at this; exact this)
  have hsz4 := hb4.size
  have hnl : (newFr imm m a b).regs.length = 12 := by
    have hc : m = 0 ∨ m = 1 ∨ m = 2 := by omega
    rcases hc with rfl | rfl | rfl <;> rfl
  obtain ⟨u0, u1, u2, u3, u4, u5, u6, u7, u8, u9, u10, u11, u12, u13, hu⟩ := frCell_14 hnl
  have HU := Lib.hid hu
  have HON : Hid (∀ u ∈ [u0, u1, u2, u3, u4, u5, u6, u7, u8, u9, u10, u11, u12, u13], u.oneCell' = true) := Lib.hid (by rw [← hu, ← frCells_one]; exact frCells_cell)
  have hg5 := hg4.out
  rw [hu] at hg5
  have k0 := (cell_block hg5 0).trans rfl
  have k1 := (cell_block hg5 1).trans rfl
  have k2 := (cell_block hg5 2).trans rfl
  have k3 := (cell_block hg5 3).trans rfl
  have k4 := (cell_block hg5 4).trans rfl
  have k5 := (cell_block hg5 5).trans rfl
  have k6 := (cell_block hg5 6).trans rfl
  have k7 := (cell_block hg5 7).trans rfl
  have k8 := (cell_block hg5 8).trans rfl
  have k9 := (cell_block hg5 9).trans rfl
  have k10 := (cell_block hg5 10).trans rfl
  have k11 := (cell_block hg5 11).trans rfl
  have k12 := (cell_block hg5 12).trans rfl
  have k13 := (cell_block hg5 13).trans rfl
  have q2 := (HX4.out.cellC HM.out (i := 2) (by omega)).trans (stC_2 _ _ _ _)
  have hlt4 := HX4.out.lt
  have hlt4' : w.heap.size + 1 < w4.heap.size := by omega
  clear hg5 hg4 hb4 hu H1 HBL HB0 HB1 HNC HOC HFC HCS HMN HSZ hFL hsz1 z2 hil hil' hne HH hP
  go_wp2_with fail
  go_region_law (refine step_append_lies _ rfl (.tmp 43) (.tmp 45) 46 rfl w0.heap.size 68 i0 _ 14 112 Tryd.underlying46 hi hz0 hz1 hz2 rfl (by decide) (.slice A n cap) n (frCells s.frames) rfl (by have := HX4.out.rows.fr; rw [hn] at this; exact this.alloc _) ⟨w4.heap.size, 0, none⟩ 1 1 [u0, u1, u2, u3, u4, u5, u6, u7, u8, u9, u10, u11, u12, u13] rfl rfl (World.news_of_block (cs := #[u0, u1, u2, u3, u4, u5, u6, u7, u8, u9, u10, u11, u12, u13]) (t := 68) (fr := (0, 0)) (heap_alloc_new _ _)) HON.out (by decide) (by unfold maxLen; omega) (by omega) (by have := HX4.out.below.size; simp; omega) _ rfl ?_; intro g cap5 w5 hown hgr _ _; obtain ⟨f5, c5, hst5⟩ := eng_push (cap := cap5) (g := g) (f := newFr imm m a b) (HX4.out.drew.alloc (.cells #[u0, u1, u2, u3, u4, u5, u6, u7, u8, u9, u10, u11, u12, u13] 68)) HM.out (by rw [HU.out, hn]; exact hown) hgr; have HST5 := Lib.hid hst5; clear hst5 hown hgr)
  all_goals go_wp2_with fail
  all_goals (
    have h6 := HST5.out _ rfl
    rw [hn] at h6
    exact bodyPost_end (v := .tuple #[]) (by simp [results, Tryd.results56, go_sem]) rfl ⟨rfl, _, h6⟩)
end Go.Proofs.YtfngkpbbimibaaaDoor
/-
  What the engine's next reads; the engine with its last frame.
-/
namespace Go.Proofs.YtfngkpbbimibaaaDoor
open Go.RowKit Tier
section
variable {p : List Fnc} {w0 w : World} {E : Nat} {pv FS ES AS : Value} {s : St}
/-- What next reads. -/
structure Nx (p : List Fnc) (w0 w : World) (E : Nat) (pv : Value) (s : St) (FS ES AS : Value) (fs : List Fr) (f : Fr) (k g cap pg N PC cg M ccap : Nat) : Prop where
  eng : EngAt w0 w E pv s FS ES AS
  hk : fs.length = k
  fs0 : FS = .slice (some ⟨g, 0, none⟩) (k + 1) cap
  cap1 : k + 1 ≤ cap
  gE : g ≠ E
  e19 : w.cell? ⟨E, 19, none⟩ = some (.int .i64 s.fuel)
  e2 : w.cell? ⟨E, 2, none⟩ = some (.slice (some ⟨g, 0, none⟩) (k + 1) cap)
  e22 : w.cell? ⟨E, 22, none⟩ = some (.slice (some ⟨pg, 0, none⟩) N PC)
  g0 : w.cell? ⟨g, k * 14, none⟩ = some (.int .i64 f.fn)
  g1 : w.cell? ⟨g, k * 14 + 1, none⟩ = some (.int .i64 f.pc)
  ga : w.cell? ⟨g, k * 14 + 2 + (insOf p f).a.toNat, none⟩ = some (.int .i64 (f.reg (insOf p f).a))
  gb : w.cell? ⟨g, k * 14 + 2 + (insOf p f).b.toNat, none⟩ = some (.int .i64 (f.reg (insOf p f).b))
  d2 : w.cell? ⟨pg, f.fn.toNat * 3 + 2, none⟩ = some (.slice (some ⟨cg, 0, none⟩) M ccap)
  c0 : w.cell? ⟨cg, f.pc.toNat * 5, none⟩ = some (.int .i64 (insOf p f).op)
  c1 : w.cell? ⟨cg, f.pc.toNat * 5 + 1, none⟩ = some (.int .i64 (insOf p f).dst)
  c2 : w.cell? ⟨cg, f.pc.toNat * 5 + 2, none⟩ = some (.int .i64 (insOf p f).a)
  c3 : w.cell? ⟨cg, f.pc.toNat * 5 + 3, none⟩ = some (.int .i64 (insOf p f).b)
  c4 : w.cell? ⟨cg, f.pc.toNat * 5 + 4, none⟩ = some (.int .i64 (insOf p f).imm)
  fn0 : 0 ≤ f.fn
  fn1 : f.fn < (N : Int)
  pc0 : 0 ≤ f.pc
  pc1 : f.pc < (M : Int)
  M40 : M ≤ 40
  dst0 : 0 ≤ (insOf p f).dst
  dst1 : (insOf p f).dst < 12
  a0 : 0 ≤ (insOf p f).a
  a1 : (insOf p f).a < 12
  b0 : 0 ≤ (insOf p f).b
  b1 : (insOf p f).b < 12
  k8 : k < 8
  lE : E < w.heap.size
  lg : g < w.heap.size
  lp : pg < w.heap.size
  lc : cg < w.heap.size
theorem Nx.drewN {fs : List Fr} {f : Fr} {k g cap pg N PC cg M ccap : Nat} (X : Nx p w0 w E pv s FS ES AS fs f k g cap pg N PC cg M ccap) (n : Nat) : Nx p w0 (w.drewN n) E pv s FS ES AS fs f k g cap pg N PC cg M ccap := { X with eng := X.eng.drewN n }
theorem Nx.drew {fs : List Fr} {f : Fr} {k g cap pg N PC cg M ccap : Nat} (X : Nx p w0 w E pv s FS ES AS fs f k g cap pg N PC cg M ccap) : Nx p w0 w.drew E pv s FS ES AS fs f k g cap pg N PC cg M ccap := { X with eng := X.eng.drew }
theorem nx_of (hp : Right p) (h : EngAt w0 w E pv s FS ES AS) (hP : ProgAt w0 pv p) (hi : StInv p s) {fs : List Fr} {f : Fr} (hf : s.frames = fs ++ [f]) :
    ∃ k g cap pg N PC cg M ccap, Nx p w0 w E pv s FS ES AS fs f k g cap pg N PC cg M ccap := by
  have hm := hi.mem
  have hr : ∀ x ∈ s.frames, x.regs.length = 12 := fun x hx => (hi.fr x hx).regs
  have hfo : FrOk p f := hi.fr f (by rw [hf]; simp)
  obtain ⟨g, cap, hFS, hcap, hgE, hgl, -, -, hcell, -⟩ := h.frames (k := fs.length) (by rw [hf]; simp) hr
  obtain ⟨pg, PC, CA, ccap, cg, M, hpv, hpg, hfn1, -, d2, hCA, hcg, hM, hpc1, d40, d41, d42, d43, d44⟩ := ins_at hP hfo
  have hO := hp.ins hfo
  have hF := hp.fnok hfo
  have hd := hi.deep
  rw [hf] at hd
  simp only [List.length_append, List.length_cons, List.length_nil] at hd
  have hif : s.frames[fs.length]? = some f := by rw [hf]; simp
  have r2 := hF.r2
  have a2 := hO.a2
  have b2 := hO.b2
  have dd2 := hO.dst2
  have hfl := hfo.regs
  have ga := hcell _ f (2 + (insOf p f).a.toNat) hif (by have := hO.a1; omega)
  rw [frCell_reg hfl hO.a1 (by omega), ← Nat.add_assoc] at ga
  have gb := hcell _ f (2 + (insOf p f).b.toNat) hif (by have := hO.b1; omega)
  rw [frCell_reg hfl hO.b1 (by omega), ← Nat.add_assoc] at gb
  have g0 := hcell _ f 0 hif (by omega)
  rw [Nat.add_zero] at g0
  have hsz := h.below.size
  refine ⟨fs.length, g, cap, pg, p.length, PC, cg, M, ccap, h, rfl, hFS, hcap, hgE, (h.cellC hm (by omega)).trans (stC_19 _ _ _ hm), ?_, ?_, g0, hcell _ f 1 hif (by omega), ga, gb, ?_, ?_, ?_, ?_, ?_, ?_, hfo.fn0, hfn1, hfo.pc0, hpc1, ?_, hO.dst1, by omega, hO.a1, by omega, hO.b1, by omega, by omega, h.lt, hgl, by omega, by omega⟩
  · rw [h.cellC hm (by omega), stC_2, hFS]
  · rw [h.cellP hm, hpv]
  · exact (h.below.cell (p := ⟨pg, _, none⟩) hpg).trans (by rw [d2, hCA])
  · exact (h.below.cell (p := ⟨cg, _, none⟩) hcg).trans d40
  · exact (h.below.cell (p := ⟨cg, _, none⟩) hcg).trans d41
  · exact (h.below.cell (p := ⟨cg, _, none⟩) hcg).trans d42
  · exact (h.below.cell (p := ⟨cg, _, none⟩) hcg).trans d43
  · exact (h.below.cell (p := ⟨cg, _, none⟩) hcg).trans d44
  · have := hF.c2; omega
end
/-- The engine with its last frame, and the instruction that is done, in a block of its own. -/
structure Top (w0 w : World) (E : Nat) (pv : Value) (s : St) (ES AS : Value) (fs : List Fr) (f : Fr) (k g cap I : Nat) (x : Ins) : Prop where
  eng : EngAt w0 w E pv s (.slice (some ⟨g, 0, none⟩) (k + 1) cap) ES AS
  hf : s.frames = fs ++ [f]
  hk : fs.length = k
  hr : ∀ y ∈ s.frames, y.regs.length = 12
  hm : s.mem.length = 16
  ins : w.heap[I]? = some (.cells #[.int .i64 x.op, .int .i64 x.dst, .int .i64 x.a, .int .i64 x.b, .int .i64 x.imm] 76 (0, 0))
section
variable {w0 w : World} {E : Nat} {pv ES AS : Value} {s : St} {fs : List Fr} {f : Fr} {k g cap I : Nat} {x : Ins}
theorem Top.hfr (h : Top w0 w E pv s ES AS fs f k g cap I x) : f.regs.length = 12 := h.hr f (by rw [h.hf]; simp)
theorem Top.cell (h : Top w0 w E pv s ES AS fs f k g cap I x) {j : Nat} (hj : j < 14) : w.cell? ⟨g, k * 14 + j, none⟩ = (frCell f)[j]? :=
  h.eng.fcell h.hr (by rw [h.hf, ← h.hk]; simp) hj
theorem Top.c1 (h : Top w0 w E pv s ES AS fs f k g cap I x) : w.cell? ⟨g, k * 14 + 1, none⟩ = some (.int .i64 f.pc) := h.cell (by omega)
theorem Top.cR (h : Top w0 w E pv s ES AS fs f k g cap I x) {r : Int} (h0 : 0 ≤ r) (h1 : r < 12) : w.cell? ⟨g, k * 14 + 2 + r.toNat, none⟩ = some (.int .i64 (f.reg r)) := by
  rw [Nat.add_assoc, h.cell (by omega), frCell_reg h.hfr h0 h1]
theorem Top.frz (h : Top w0 w E pv s ES AS fs f k g cap I x) (j : Nat) : w.frozen? ⟨g, j, none⟩ = false := h.eng.ffrozen h.hr (by rw [h.hf]; simp) j
theorem Top.e19 (h : Top w0 w E pv s ES AS fs f k g cap I x) : w.cell? ⟨E, 19, none⟩ = some (.int .i64 s.fuel) := (h.eng.cellC h.hm (by omega)).trans (stC_19 _ _ _ h.hm)
theorem Top.iC (h : Top w0 w E pv s ES AS fs f k g cap I x) (i : Nat) : w.cell? ⟨I, i, none⟩ = #[Value.int .i64 x.op, .int .i64 x.dst, .int .i64 x.a, .int .i64 x.b, .int .i64 x.imm][i]? := cell_block h.ins i
theorem Top.gb (h : Top w0 w E pv s ES AS fs f k g cap I x) : ∃ c, w.heap[g]? = some (.cells c 68 (0, 0)) := by
  rcases h.eng.rows.fr.2 with ⟨h', -⟩ | ⟨g', c', cur, h', -, hh, -⟩
  · cases h'
  · simp only [Value.slice.injEq, Option.some.injEq, Addr.mk.injEq, and_true] at h'
    obtain ⟨rfl, -, -⟩ := h'
    exact ⟨_, hh⟩
theorem types_ne {b c : Nat} {u v : Array Value} {t1 t2 : TypeId} {fz fz' : Nat × Nat} (h1 : w.heap[b]? = some (.cells u t1 fz)) (h2 : w.heap[c]? = some (.cells v t2 fz')) (ht : t1 ≠ t2) : b ≠ c := fun e => by
  subst e
  rw [h1] at h2
  simp only [Option.some.injEq, Obj.cells.injEq] at h2
  exact ht h2.2.1
theorem Top.frame (h : Top w0 w E pv s ES AS fs f k g cap I x) {j : Nat} {v : Value} {f' : Fr} (hj : j < 14) (he : (frCell f).set j v = frCell f') (hl : f'.regs.length = f.regs.length) : Top w0 (w.setCell ⟨g, k * 14 + j, none⟩ v) E pv { s with frames := fs ++ [f'] } ES AS fs f' k g cap I x := by
  obtain ⟨c, hg⟩ := h.gb
  have h1 := (show EngAt w0 w E pv s (.slice (some ⟨g, 0, none⟩) s.frames.length cap) ES AS by have := h.eng; rw [h.hf]; simpa [h.hk] using this).frame (fs := fs) (gs := []) (f := f) (f' := f') h.hf h.hr hj he
  have hlen : s.frames.length = k + 1 := by rw [h.hf]; simp [h.hk]
  rw [hlen, h.hk] at h1
  refine ⟨h1, rfl, h.hk, fun y hy => ?_, h.hm, block_set_ne h.ins (types_ne hg h.ins (by decide)) _ _⟩
  rcases List.mem_append.1 (show y ∈ fs ++ [f'] from hy) with h2 | h2
  · exact h.hr y (by rw [h.hf]; simp [h2])
  · rw [List.mem_singleton.1 h2, hl]; exact h.hfr
theorem Top.put (h : Top w0 w E pv s ES AS fs f k g cap I x) {r : Int} (h0 : 0 ≤ r) (h1 : r < 12) (n : Int) : Top w0 (w.setCell ⟨g, k * 14 + 2 + r.toNat, none⟩ (.int .i64 n)) E pv { s with frames := fs ++ [f.put r n] } ES AS fs (f.put r n) k g cap I x := by
  rw [Nat.add_assoc]
  exact h.frame (by omega) (frCell_put f r n) (put_len f r n)
theorem Top.pc (h : Top w0 w E pv s ES AS fs f k g cap I x) (n : Int) : Top w0 (w.setCell ⟨g, k * 14 + 1, none⟩ (.int .i64 n)) E pv { s with frames := fs ++ [f.at n] } ES AS fs (f.at n) k g cap I x :=
  h.frame (by omega) (frCell_pc f n) rfl
theorem Top.fuel (h : Top w0 w E pv s ES AS fs f k g cap I x) (n : Int) : Top w0 (w.setCell ⟨E, 19, none⟩ (.int .i64 n)) E pv { s with fuel := n } ES AS fs f k g cap I x :=
  ⟨h.eng.set' h.hm (by omega) (stS_19 _ _ _ h.hm n) rfl rfl rfl, h.hf, h.hk, h.hr, h.hm, block_set_ne h.ins (types_ne h.eng.blk h.ins (by decide)) _ _⟩
theorem Top.memo (h : Top w0 w E pv s ES AS fs f k g cap I x) {i : Nat} (hi : i < 16) (n : Int) : Top w0 (w.setCell ⟨E, 3 + i, none⟩ (.int .i64 n)) E pv { s with mem := s.mem.set i n } ES AS fs f k g cap I x :=
  ⟨h.eng.set' h.hm (by omega) (stS_mem _ _ _ h.hm hi n) rfl rfl rfl, h.hf, h.hk, h.hr, by simp [h.hm], block_set_ne h.ins (types_ne h.eng.blk h.ins (by decide)) _ _⟩
theorem Top.drewN (h : Top w0 w E pv s ES AS fs f k g cap I x) (n : Nat) : Top w0 (w.drewN n) E pv s ES AS fs f k g cap I x := { h with eng := h.eng.drewN n }
theorem Top.drew (h : Top w0 w E pv s ES AS fs f k g cap I x) : Top w0 w.drew E pv s ES AS fs f k g cap I x := { h with eng := h.eng.drew }
end
end Go.Proofs.YtfngkpbbimibaaaDoor
