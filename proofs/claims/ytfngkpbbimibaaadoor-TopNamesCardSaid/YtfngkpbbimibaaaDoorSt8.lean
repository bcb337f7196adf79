/-
  The contract of step.Check: a state that a right program can come to is let through.
-/
import Derived.Test.YtfngkpbbimibaaaDoorSt4
import Derived.Test.YtfngkpbbimibaaaDoorPc
namespace Go.Proofs.YtfngkpbbimibaaaDoor
open Go.RowKit Tier
theorem regs_12 {l : List Int} (h : l.length = 12) : ∃ r0 r1 r2 r3 r4 r5 r6 r7 r8 r9 r10 r11 : Int, l = [r0, r1, r2, r3, r4, r5, r6, r7, r8, r9, r10, r11] := by
  match l, h with
  | [r0, r1, r2, r3, r4, r5, r6, r7, r8, r9, r10, r11], _ => exact ⟨r0, r1, r2, r3, r4, r5, r6, r7, r8, r9, r10, r11, rfl⟩
/-- A state as it lies: the frames as a slice. -/
theorem fr_rows {w : World} {B : Nat} {s : St} {FS ES AS : Value} (h : StRows w B s FS ES AS) (hr : ∀ f ∈ s.frames, f.regs.length = 12) :
    ∃ FA cap, FS = .slice FA s.frames.length cap ∧ (0 < s.frames.length → ∃ g, FA = some ⟨g, 0, none⟩ ∧ g < w.heap.size ∧ ∀ i f j, s.frames[i]? = some f → j < 14 → w.cell? ⟨g, i * 14 + j, none⟩ = (frCell f)[j]?) := by
  obtain ⟨FA, cap, hv, hA⟩ := own_slice h.fr
  refine ⟨FA, cap, hv, fun hl => ?_⟩
  obtain ⟨g, h1, h2, h3⟩ := hA hl
  refine ⟨g, h1, h2, fun i f j hi hj => ?_⟩
  have hil : i < s.frames.length := (List.getElem?_eq_some_iff.1 hi).1
  rw [h3 _ (by omega), frCells_get hr hi hj]
set_option maxRecDepth 100000 in
set_option maxHeartbeats 8000000 in
theorem scheck_any {p : List Fnc} (hc : checkP p = 0) {B : Nat} (s : St) (FS ES AS : Value) (A : Option Addr) (cap : Nat) (w : World) (ht : Tab w) (hP : ProgAt w (.slice A p.length cap) p) (hi : StInv p s) (hr : StRows w B s FS ES AS) :
    Calls Tryd.prog 46 #[.agg #[.slice A p.length cap], .agg (stCells s FS ES AS).toArray] w fun e w' => e = .returned (.int .i64 0) ∧ Below w.heap.size w w' := by
  have hp := right_of hc
  have hregs : ∀ f ∈ s.frames, f.regs.length = 12 := fun f hf => (hi.fr f hf).regs
  obtain ⟨FA, fcap, rfl, hFA⟩ := fr_rows hr hregs
  obtain ⟨AA, acap, rfl, -, -⟩ := hr.an
  have hl1 := hp.ok.l1
  have hl2 := hp.ok.l2
  have HCK := Lib.hid (fun (W : World) (h1 : Tab W) (h2 : ProgAt W (.slice A p.length cap) p) => pcheck_any p A cap W h1 h2 (by omega) (fun f hf => by have := (hp.ok.fn f hf).c2; omega))
  rw [hc] at HCK
  have HT := Lib.hid ht
  have HP := Lib.hid hP
  have HI := Lib.hid hi
  have HFA := Lib.hid hFA
  have HL := Lib.hid (stCells_length hi.mem (.slice FA s.frames.length fcap) ES (.slice AA s.answers.length acap))
  have H0 := Lib.hid (stC_0 s (.slice FA s.frames.length fcap) ES (.slice AA s.answers.length acap))
  have H1 := Lib.hid (stC_1 s (.slice FA s.frames.length fcap) ES (.slice AA s.answers.length acap))
  have H2 := Lib.hid (stC_2 s (.slice FA s.frames.length fcap) ES (.slice AA s.answers.length acap))
  have H19 := Lib.hid (stC_19 (.slice FA s.frames.length fcap) ES (.slice AA s.answers.length acap) hi.mem)
  have H21 := Lib.hid (stC_21 (.slice FA s.frames.length fcap) ES (.slice AA s.answers.length acap) hi.mem)
  have HSI := Lib.hid (info_st (stCells_length hi.mem (.slice FA s.frames.length fcap) ES (.slice AA s.answers.length acap)))
  have t0 := hi.stat0
  have t1 := hi.stat1
  have t2 := hi.fuel0
  have t3 := hi.fuel1
  have t4 := hi.deep
  have t5 := hi.ans
  have t6 := hi.val
  have t7 := hi.done
  obtain ⟨n, hn⟩ : ∃ n, s.frames.length = n := ⟨_, rfl⟩
  obtain ⟨na, hna⟩ : ∃ n, s.answers.length = n := ⟨_, rfl⟩
  have HN := Lib.hid hn
  rw [hn] at t4 H0 H1 H2 H19 H21 HFA HL HSI
  rw [hna] at t5 H0 H1 H2 H19 H21 HL HSI
  rw [hn, hna]
  have t7' : n = 0 ↔ s.status = 1 := by rw [← hn, ← t7]; exact List.length_eq_zero_iff
  generalize stCells s (.slice FA n fcap) ES (.slice AA na acap) = C at *
  obtain ⟨st, hst⟩ : ∃ x, s.status = x := ⟨_, rfl⟩
  obtain ⟨vl, hvl⟩ : ∃ x, s.value = x := ⟨_, rfl⟩
  obtain ⟨fu, hfu⟩ : ∃ x, s.fuel = x := ⟨_, rfl⟩
  rw [hst] at t0 t1 t6 t7' H0
  rw [hvl] at t6 H1
  rw [hfu] at t2 t3 H19
  have HBB := Lib.hid (fun (w1 : World) (hb : Below (w.heap.size + 2) ((w.alloc (.cells #[.slice A p.length cap] 25)).alloc (.cells C.toArray 49)) w1) => (⟨(hb.block w.heap.size (by omega)).trans (block_alloc (heap_alloc_new w _) _), (hb.block (w.heap.size + 1) (by omega)).trans (heap_alloc_new1 w _ _), (((Below.refl w.heap.size w).alloc (Nat.le_refl _) _).alloc (by simp) _).trans (hb.mono (by omega)), hb.size⟩ :
    w1.heap[w.heap.size]? = some (.cells #[.slice A p.length cap] 25 (0, 0)) ∧ w1.heap[w.heap.size + 1]? = some (.cells C.toArray 49 (0, 0)) ∧ Below w.heap.size w w1 ∧ _))
  clear ht hP hi hr hFA t7 hn hna hst hvl hfu hregs
  by_cases hs1 : st = 1
  · have hn0 : n = 0 := t7'.2 hs1
    subst hs1 hn0
    go_enter Tryd.func46, Tryd.ntmps46
    go_wp2_with (go_at_call 18; go_must (refine (HCK.out _ (HT.out.keeps (((Below.refl w.heap.size w).alloc (Nat.le_refl _) _).alloc (by simp) _)) (HP.out.keeps (((Below.refl w.heap.size w).alloc (Nat.le_refl _) _).alloc (by simp) _))).mono ?_; rintro e w1 ⟨rfl, hb⟩; have hbb := HBB.out w1 (hb.mono (by simp)); have HB := Lib.hid hbb; have c0 := cell_block HB.out.1 0; have s0 := (cell_block HB.out.2.1 0).trans (List.getElem?_toArray.trans H0.out); have s1 := (cell_block HB.out.2.1 1).trans (List.getElem?_toArray.trans H1.out); have s2 := (cell_block HB.out.2.1 2).trans (List.getElem?_toArray.trans H2.out); have s19 := (cell_block HB.out.2.1 19).trans (List.getElem?_toArray.trans H19.out); have s21 := (cell_block HB.out.2.1 21).trans (List.getElem?_toArray.trans H21.out); clear hb hbb))
    go_loopw [65] (fun v wr => v = .int .i64 0 ∧ Below w1.heap.size w1 wr) (fun _ _ => 0)
    case atStart => exact ⟨rfl, Below.refl _ _⟩
    case round =>
      obtain ⟨rfl, hbr⟩ := hrel
      go_wp2_with fail
      go_ret
      exact ⟨rfl, HB.out.2.2.1.trans (hbr.mono HB.out.2.2.1.size)⟩
  · have hv0 := t6 hs1
    have hn1 : n ≠ 0 := fun e => hs1 (t7'.1 e)
    subst hv0
    have hne1 : (st == 1) = false := by simpa using hs1
    have hne2 : ((n : Int) == 0) = false := by simpa using hn1
    go_enter Tryd.func46, Tryd.ntmps46
    go_wp2_with (go_at_call 18; go_must (refine (HCK.out _ (HT.out.keeps (((Below.refl w.heap.size w).alloc (Nat.le_refl _) _).alloc (by simp) _)) (HP.out.keeps (((Below.refl w.heap.size w).alloc (Nat.le_refl _) _).alloc (by simp) _))).mono ?_; rintro e w1 ⟨rfl, hb⟩; have hbb := HBB.out w1 (hb.mono (by simp)); have HB := Lib.hid hbb; have c0 := cell_block HB.out.1 0; have s0 := (cell_block HB.out.2.1 0).trans (List.getElem?_toArray.trans H0.out); have s1 := (cell_block HB.out.2.1 1).trans (List.getElem?_toArray.trans H1.out); have s2 := (cell_block HB.out.2.1 2).trans (List.getElem?_toArray.trans H2.out); have s19 := (cell_block HB.out.2.1 19).trans (List.getElem?_toArray.trans H19.out); have s21 := (cell_block HB.out.2.1 21).trans (List.getElem?_toArray.trans H21.out); clear hb hbb))
    go_loopw [65] (fun v wr => ∃ k : Nat, k ≤ n ∧ v = .int .i64 (k : Int) ∧ Below w1.heap.size w1 wr) (fun v _ => n - (intOf v).toNat)
    case atStart => exact ⟨0, by omega, rfl, Below.refl _ _⟩
    case round =>
      obtain ⟨k, hk, rfl, hbr⟩ := hrel
      have HBR := Lib.hid hbr
      by_cases hkn : k = n
      · subst hkn
        go_wp2_with fail
        go_ret
        exact ⟨rfl, HB.out.2.2.1.trans (hbr.mono HB.out.2.2.1.size)⟩
      · have hkn' : k < n := by omega
        have hk1 : (k : Int) < n := by omega
        have hk2 : (0 : Int) ≤ k := by omega
        have hkw : IntKind.i64.wrap ((k : Int) + 1) = k + 1 := by rw [IntKind.wrap_i64]; omega
        obtain ⟨f, hf⟩ : ∃ f, s.frames[k]? = some f := ⟨s.frames[k]'(by rw [HN.out]; exact hkn'), List.getElem?_eq_getElem _⟩
        have hfo := HI.out.fr f (List.mem_of_getElem? hf)
        obtain ⟨g, hg, hgz, hcell⟩ := HFA.out (by omega)
        subst hg
        obtain ⟨pg, PC, CA, ccap, cg, M, hpv, hpg, hfn1, -, d2, rfl, hcg, -, hpc1, d40, -, -, -, d44⟩ := ins_at HP.out hfo
        simp only [Value.slice.injEq, true_and] at hpv
        obtain ⟨rfl, rfl⟩ := hpv
        have hbw := HB.out.2.2.1.trans (hbr.mono HB.out.2.2.1.size)
        have z1 := HB.out.2.2.2
        have z2 := hbr.size
        simp at z1
        obtain ⟨r0, r1, r2, r3, r4, r5, r6, r7, r8, r9, r10, r11, hreg⟩ := regs_12 hfo.regs
        have g0 := (hcell k f 0 hf (by omega)).trans (show _ = some (Value.int .i64 f.fn) from rfl)
        have g1 := (hcell k f 1 hf (by omega)).trans (show _ = some (Value.int .i64 f.pc) from rfl)
        rw [Nat.add_zero] at g0
        have g2 := (hcell k f 2 hf (by omega)).trans (show _ = some (Value.int .i64 r0) by unfold frCell; rw [hreg]; rfl)
        have g3 := (hcell k f 3 hf (by omega)).trans (show _ = some (Value.int .i64 r1) by unfold frCell; rw [hreg]; rfl)
        have g4 := (hcell k f 4 hf (by omega)).trans (show _ = some (Value.int .i64 r2) by unfold frCell; rw [hreg]; rfl)
        have g5 := (hcell k f 5 hf (by omega)).trans (show _ = some (Value.int .i64 r3) by unfold frCell; rw [hreg]; rfl)
        have g6 := (hcell k f 6 hf (by omega)).trans (show _ = some (Value.int .i64 r4) by unfold frCell; rw [hreg]; rfl)
        have g7 := (hcell k f 7 hf (by omega)).trans (show _ = some (Value.int .i64 r5) by unfold frCell; rw [hreg]; rfl)
        have g8 := (hcell k f 8 hf (by omega)).trans (show _ = some (Value.int .i64 r6) by unfold frCell; rw [hreg]; rfl)
        have g9 := (hcell k f 9 hf (by omega)).trans (show _ = some (Value.int .i64 r7) by unfold frCell; rw [hreg]; rfl)
        have g10 := (hcell k f 10 hf (by omega)).trans (show _ = some (Value.int .i64 r8) by unfold frCell; rw [hreg]; rfl)
        have g11 := (hcell k f 11 hf (by omega)).trans (show _ = some (Value.int .i64 r9) by unfold frCell; rw [hreg]; rfl)
        have g12 := (hcell k f 12 hf (by omega)).trans (show _ = some (Value.int .i64 r10) by unfold frCell; rw [hreg]; rfl)
        have g13 := (hcell k f 13 hf (by omega)).trans (show _ = some (Value.int .i64 r11) by unfold frCell; rw [hreg]; rfl)
        have hunext : ∀ u, s.frames[k + 1]? = some u → w.cell? ⟨g, (k + 1) * 14, none⟩ = some (.int .i64 u.fn) ∧ (insOf p f).op = 17 ∧ (insOf p f).imm = u.fn := fun u hu => by
          refine ⟨hcell (k + 1) u 0 hu (by omega), ?_⟩
          have hl : k + 1 < s.frames.length := (List.getElem?_eq_some_iff.1 hu).1
          have e : s.frames = s.frames.take k ++ f :: u :: s.frames.drop (k + 2) := by
            have e1 : f :: u :: s.frames.drop (k + 2) = s.frames.drop k := by
              rw [List.drop_eq_getElem_cons (i := k) (by omega), List.drop_eq_getElem_cons hl]
              rw [List.getElem?_eq_getElem (by omega)] at hf
              rw [List.getElem?_eq_getElem hl] at hu
              rw [Option.some.inj hf, Option.some.inj hu]
            rw [e1, List.take_append_drop]
          exact HI.out.calls _ _ f u e
        have HUN := Lib.hid hunext
        rw [← hbw.cell (p := ⟨g, _, none⟩) hgz] at g0 g1 g2 g3 g4 g5 g6 g7 g8 g9 g10 g11 g12 g13
        rw [← hbw.cell (p := ⟨pg, _, none⟩) hpg] at d2
        rw [← hbw.cell (p := ⟨cg, _, none⟩) hcg] at d40 d44
        have b0 : wr.cell? ⟨w.heap.size, 0, none⟩ = some (.slice (some ⟨pg, 0, none⟩) p.length cap) := (hbr.cell (p := ⟨w.heap.size, 0, none⟩) (by show w.heap.size < w1.heap.size; omega)).trans c0
        have b2 := (hbr.cell (p := ⟨w.heap.size + 1, 2, none⟩) (by show w.heap.size + 1 < w1.heap.size; omega)).trans s2
        have zg : g < wr.heap.size := by omega
        have zp : pg < wr.heap.size := by omega
        have zc : cg < wr.heap.size := by omega
        have z3 : w.heap.size + 1 < wr.heap.size := by omega
        have z4 : w.heap.size < wr.heap.size := by omega
        have fn0 := hfo.fn0
        have pc0 := hfo.pc0
        have fnb : decide (f.fn < 0) = false := by simpa using fn0
        have pcb : decide (f.pc < 0) = false := by simpa using pc0
        have pcc : decide ((M : Int) ≤ f.pc) = false := by simpa using hpc1
        clear hcell hunext hf hreg
        by_cases hk3 : k + 1 < n
        · have hk4 : (k : Int) + 1 < n := by omega
          have hk5 : (0 : Int) ≤ (k : Int) + 1 := by omega
          obtain ⟨u, hu⟩ : ∃ u, s.frames[k + 1]? = some u := ⟨s.frames[k + 1]'(by rw [HN.out]; exact hk3), List.getElem?_eq_getElem _⟩
          obtain ⟨gu, ho, him⟩ := HUN.out u hu
          rw [← hbw.cell (p := ⟨g, _, none⟩) hgz] at gu
          rw [ho] at d40
          rw [him] at d44
          clear ho him hu
          go_wp2_with fail
          go_quiet (fail)
          go_wp2_with fail
          go_roundw
          case rel => exact ⟨k + 1, by omega, by go_num, HBR.out.trans (by have hb := Below.refl wr.heap.size wr; exact (Below.mono (by repeat (first | exact hb | exact Below.refl _ _ | apply Below.drew | apply below_drewN | refine Below.alloc ?_ (by first | omega | (simp; done) | (simp; omega)) _ | refine Below.setCell ?_ (by first | omega | (simp; done) | (simp; omega)) _)) (HBR.out.size)))⟩
          case measure => simp [intOf]; omega
        · have hk4 : decide ((k : Int) + 1 < n) = false := by simp; omega
          go_wp2_with fail
          go_quiet (fail)
          go_wp2_with fail
          go_roundw
          case rel => exact ⟨k + 1, by omega, by go_num, HBR.out.trans (by have hb := Below.refl wr.heap.size wr; exact (Below.mono (by repeat (first | exact hb | exact Below.refl _ _ | apply Below.drew | apply below_drewN | refine Below.alloc ?_ (by first | omega | (simp; done) | (simp; omega)) _ | refine Below.setCell ?_ (by first | omega | (simp; done) | (simp; omega)) _)) (HBR.out.size)))⟩
          case measure => simp [intOf]; omega
end Go.Proofs.YtfngkpbbimibaaaDoor
