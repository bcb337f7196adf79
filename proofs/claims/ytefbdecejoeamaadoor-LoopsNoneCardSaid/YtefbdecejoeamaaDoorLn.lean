/-
  The walk of LoopsNone: it returns true.
-/
import Derived.Test.YtefbdecejoeamaaDoorLps
import Derived.Test.YtefbdecejoeamaaDoorLnP
import Derived.Test.YtefbdecejoeamaaDoorPgX
import Derived.Test.YtefbdecejoeamaaDoorOpn
namespace Go.Proofs.YtefbdecejoeamaaDoor
open Go.RowKit Tier
theorem codeCells_at {l : List Ins} {q : Nat} {x : Ins} (h : l[q]? = some x) {t : Nat} (ht : t < 5) : (codeCells l)[q * 5 + t]? = x.cells[t]? := by
  rw [codeCells, flat_get Ins.cells 5 l (fun _ _ => rfl) q t ht, h]; rfl
theorem fnCells_at {p : List Fnc} {vs : List Value} (hl : vs.length = p.length) {k : Nat} {u : Value} (hu : vs[k]? = some u) : (fnCells p vs)[k * 3 + 2]? = some u := by
  have hk : k < p.length := by rw [← hl]; exact (List.getElem?_eq_some_iff.1 hu).1
  have hz : (p.zip vs)[k]? = some (p[k], u) := by rw [List.getElem?_zip_eq_some]; exact ⟨List.getElem?_eq_getElem hk, hu⟩
  rw [fnCells, flat_get _ 3 (p.zip vs) (fun _ _ => rfl) k 2 (by omega), hz]; rfl
/-- While the jumps of function k are made to go on. -/
structure LnW (w w1 wr : World) (p : List Fnc) (vs : List Value) (g cap k : Nat) (F : Fnc) (j : Nat) (c : List Ins) : Prop where
  prog : ProgV wr (w.heap.size + 3) (.slice (some ⟨g, 0, none⟩) p.length cap) (p.set k { F with code := c }) vs
  box : wr.heap[w1.heap.size]? = some (.cells #[.slice (some ⟨g, 0, none⟩) p.length cap] 25 (0, 0))
  fix : FixT F.code j c
  below : Below w.heap.size w wr
theorem LnW.same {w w1 wr : World} {p : List Fnc} {vs : List Value} {g cap k j : Nat} {F : Fnc} {c : List Ins} (h : LnW w w1 wr p vs g cap k F j c) {x : Ins} (hx : F.code[j]? = some x) (hf : fixI j x = x) : LnW w w1 wr p vs g cap k F (j + 1) c := ⟨h.prog, h.box, h.fix.same hx hf, h.below⟩
theorem LnW.put {w w1 wr : World} {p : List Fnc} {vs : List Value} {g cap k j gc fcap : Nat} {F : Fnc} {c : List Ins} (h : LnW w w1 wr p vs g cap k F j c) (ha : Apart vs) (hk : k < p.length) (hu : vs[k]? = some (.slice (some ⟨gc, 0, none⟩) F.code.length fcap)) (hgc : gc < w1.heap.size) (hgb : w.heap.size ≤ gc) {x : Ins} (hx : F.code[j]? = some x) {z : Int} (hf : fixI j x = { x with imm := z }) :
    LnW w w1 (wr.setCell ⟨gc, j * 5 + 4, none⟩ (.int .i64 z)) p vs g cap k F (j + 1) (c.set j { x with imm := z }) := by
  refine ⟨?_, (Below.heap_setCell _ _ _ _ (by simp; omega)).trans h.box, h.fix.put hx hf, h.below.setCell hgb _⟩
  have hset : (p.set k { F with code := c })[k]? = some { F with code := c } := by rw [List.getElem?_set_self hk]
  have := h.prog.setImm ha hset (by rw [show ({ F with code := c } : Fnc).code.length = F.code.length from h.fix.1]; exact hu) (h.fix.at hx) z
  rw [List.set_set] at this
  exact this
set_option maxRecDepth 100000 in
set_option maxHeartbeats 8000000 in
theorem loopsNone_walk (A : Option Addr) (l : List Fnc) (cap : Nat) (fn : Int) (w : World) (ht : Tab w) (hraw : RawsAt w A l) (hln : (l.length : Int) ≤ 9223372036854775807) (hfn : In fn) :
    Calls Tryd.prog 15 #[.slice A l.length cap, .int .i64 fn] w fun e w' => e = .returned (.bool true) ∧ Below w.heap.size w w' := by
  have HT := Lib.hid ht
  have HR := Lib.hid hraw
  have HCK := Lib.hid (mkP_right l)
  clear ht hraw
  go_enter Tryd.func15, Tryd.ntmps15
  go_wp2_with fail
  refine (programx_any A cap l _ HT.out hln HR.out).mono ?_
  rintro e w1 ⟨⟨A1, cap1, vs, rfl, hpv, hap⟩, hb1⟩
  have HPV := Lib.hid hpv
  have HAP := Lib.hid hap
  have HB1 := Lib.hid hb1
  clear hpv hap hb1
  generalize mkP l = p at *
  have hRT := right_of HCK.out
  have hl1 := hRT.ok.l1
  have hl2 := hRT.ok.l2
  have hpk := picked_in fn p.length (by omega)
  obtain ⟨k, hk⟩ : ∃ k : Nat, pickedI fn p.length = k := ⟨(pickedI fn p.length).toNat, by omega⟩
  rw [hk] at hpk
  have HPK := Lib.hid (fun (W : World) => picked_any fn p.length W hfn (by omega) (by omega))
  rw [hk] at HPK
  clear hk
  obtain ⟨A0, cap0, hA0, hA⟩ := HPV.out.at.slice
  simp only [Value.slice.injEq, true_and] at hA0
  obtain ⟨g, hAg, hg, -⟩ := hA (by omega)
  obtain ⟨rfl, rfl⟩ := hA0
  subst hAg
  have hkl : k < p.length := by omega
  obtain ⟨F, hF⟩ : ∃ f, p[k]? = some f := ⟨p[k], List.getElem?_eq_getElem hkl⟩
  have hfo := hRT.ok.fn F (List.mem_of_getElem? hF)
  obtain ⟨uk, huk⟩ : ∃ u, vs[k]? = some u := ⟨_, List.getElem?_eq_getElem (by rw [HPV.out.len]; exact hkl)⟩
  have hco := HPV.out.code k uk F huk hF
  obtain ⟨Ac, fcap, rfl, hcell⟩ := own_slice hco
  have n1 := hfo.c1
  have n2 := hfo.c2
  obtain ⟨gc, hgc, hgcl, -⟩ := hcell (by omega)
  subst hgc
  have hgb := (World.ownsRow.lt hco gc rfl).1
  have HUK := Lib.hid huk
  have HHF := Lib.hid hF
  have HC40 := Lib.hid (fun (f : Fnc) (hf : f ∈ p) => (hRT.ok.fn f hf).c2)
  obtain ⟨M, hM⟩ : ∃ M, F.code.length = M := ⟨_, rfl⟩
  have HM := Lib.hid hM
  rw [hM] at n1 n2
  obtain ⟨N, hN⟩ : ∃ N, p.length = N := ⟨_, rfl⟩
  have HN := Lib.hid hN
  rw [hN] at HPK hl1 hl2 hkl hpk ⊢
  have hk0 : (0 : Int) ≤ k := by omega
  have hk1 : (k : Int) < N := by omega
  have HW0 := Lib.hid (show LnW w w1 (w1.alloc (.cells #[.slice (some ⟨g, 0, none⟩) N cap1] 25)) p vs g cap1 k F 0 F.code from ⟨by
    have h := HPV.out.keeps ((Below.refl w1.heap.size w1).alloc (Nat.le_refl _) (.cells #[.slice (some ⟨g, 0, none⟩) N cap1] 25))
    have e : p.set k { F with code := F.code } = p := by
      apply List.ext_getElem?
      intro i
      rw [List.getElem?_set]
      by_cases e : k = i
      · subst e; rw [if_pos rfl, if_pos (by rw [hN]; exact hkl), HHF.out]
      · rw [if_neg e]
    rw [e]; exact h, by rw [heap_alloc_new, hN], FixT.start _, by have h := HB1.out; exact h.alloc h.size _⟩)
  clear hA hF hfo huk hco hcell hM hN hRT
  go_wp2_with (first | (go_at_call 26; go_must (refine (HPK.out _).mono ?_; rintro e w' ⟨rfl, rfl⟩)))
  go_loopw [8] (fun v wr => ∃ (j : Nat) (c : List Ins), j ≤ M ∧ v = .int .i64 (j : Int) ∧ LnW w w1 wr p vs g cap1 k F j c) (fun v _ => M - (intOf v).toNat)
  case atStart => exact ⟨0, F.code, by omega, rfl, HW0.out⟩
  case round =>
    obtain ⟨j, c, hj, rfl, hW⟩ := hrel
    clear HW0
    have HW := Lib.hid hW
    have hown := hW.prog.own
    rw [List.length_set, HN.out] at hown
    have hgl := (World.ownsRow.lt hown g rfl).2
    have c2 : wr.cell? ⟨g, k * 3 + 2, none⟩ = some (.slice (some ⟨gc, 0, none⟩) M fcap) := by
      have h1 := World.ownsRow.cellAt (j := k * 3 + 2) hown (by omega)
      rw [h1, fnCells_at (by rw [List.length_set]; have := HPV.out.len; exact this) HUK.out, HM.out]
    by_cases hjM : j = M
    · obtain rfl : M = j := hjM.symm
      clear hW hown
      have hq2 : (p.set k { F with code := c }).length = N := by rw [List.length_set, HN.out]
      have HCP := Lib.hid (fun (W : World) (h1 : Tab W) (h2 : ProgAt W (.slice (some ⟨g, 0, none⟩) (p.set k { F with code := c }).length cap1) (p.set k { F with code := c })) => pcheck_any (p.set k { F with code := c }) (some ⟨g, 0, none⟩) cap1 W h1 h2 (by rw [hq2]; omega) (fun f hf => by
        rcases List.mem_or_eq_of_mem_set hf with h | h
        · have := HC40.out f h; omega
        · rw [h]; show (c.length : Int) ≤ _; rw [HW.out.fix.1, HM.out]; omega))
      have HPQ := Lib.hid (show ProgAt wr (.slice (some ⟨g, 0, none⟩) N cap1) (p.set k { F with code := c }) by have h := HW.out.prog.at; rw [HN.out] at h; exact h)
      have HFQ := Lib.hid (show (p.set k { F with code := c })[k]? = some { F with code := c } by rw [List.getElem?_set_self (by rw [HN.out]; exact hkl)])
      have HFW := Lib.hid (FixT.fwd (F := F) (c := c) (by rw [HM.out]; exact HW.out.fix))
      have HLP := Lib.hid (fun (hz : checkP (p.set k { F with code := c }) = 0) (W : World) (h1 : Tab W) (h2 : ProgAt W (.slice (some ⟨g, 0, none⟩) (p.set k { F with code := c }).length cap1) (p.set k { F with code := c })) => loops_any (p.set k { F with code := c }) (some ⟨g, 0, none⟩) cap1 k { F with code := c } W h1 h2 hz HFQ.out)
      have HBK := Lib.hid (fun (hz : checkP (p.set k { F with code := c }) = 0) (W : World) (h1 : Tab W) (h2 : ProgAt W (.slice (some ⟨g, 0, none⟩) (p.set k { F with code := c }).length cap1) (p.set k { F with code := c })) => blocks_any (p.set k { F with code := c }) (some ⟨g, 0, none⟩) cap1 k { F with code := c } W h1 h2 hz HFQ.out)
      rw [hq2] at HCP HLP HBK
      obtain ⟨FQ, hFQ⟩ : ∃ f : Fnc, { F with code := c } = f := ⟨_, rfl⟩
      have hbx := HW.out.box
      rw [HN.out] at hbx
      have HBX := Lib.hid hbx
      have HBW := Lib.hid HW.out.below
      rw [hFQ] at HCP HLP HBK HPQ HFQ HFW
      obtain ⟨q, hqe⟩ : ∃ q, p.set k FQ = q := ⟨_, rfl⟩
      rw [hqe] at HCP HLP HBK HPQ HFQ
      have qx := cell_block hbx
      have zx := block_lt hbx
      clear hq2 hFQ hqe hbx
      by_cases hz : checkP q = 0
      · rw [hz] at HCP
        have HLZ := Lib.hid (HLP.out hz)
        have HBZ := Lib.hid (HBK.out hz)
        have HRQ := Lib.hid (right_of hz)
        have hH1 : 0 < (hdL FQ).length := by have := (List.getElem?_eq_some_iff.1 (zero_head HRQ.out (List.mem_of_getElem? HFQ.out))).1; omega
        have hH2 : decide ((0 : Int) < ((hdL FQ).length : Int)) = true := by rw [decide_eq_true_eq]; omega
        have HNO := Lib.hid (fun (vs2 : List Value) (rows : List (List Nat)) (hlen : rows.length = vs2.length) (hQ : ∀ row ∈ rows, LoopQ FQ row) => (show vs2.length = 0 from by
          cases rows with
          | nil => simpa using hlen.symm
          | cons row rows =>
            obtain ⟨head, back, -, h2, h3, -⟩ := hQ row (by simp)
            exact (fwd_none HRQ.out (List.mem_of_getElem? HFQ.out) HFW.out h2 h3).elim))
        clear hz HLP HBK
        go_wp2_with (first | (go_at_call 35; go_must (refine (HCP.out _ (HT.out.keeps HBW.out) HPQ.out).mono ?_; rintro e w5 ⟨rfl, hb5⟩; have HB5 := Lib.hid (HBW.out.trans (hb5.mono HBW.out.size)); have HP5 := Lib.hid (HPQ.out.keeps hb5); have HX5 := Lib.hid ((hb5.block _ (block_lt HBX.out)).trans HBX.out); have q5 := cell_block HX5.out; have z5 := block_lt HX5.out; clear hb5 qx zx)) | (go_at_call 42; go_must (refine (HLZ.out _ (HT.out.keeps HB5.out) HP5.out).mono ?_; rintro e w6 ⟨⟨w0, Al, lcap, vs2, rows, rfl, hw0, hLW, hn80, hLQ⟩, hb6⟩; rw [HNO.out vs2 rows hLW.len hLQ]; have HB6 := Lib.hid (HB5.out.trans (hb6.mono HB5.out.size)); have HP6 := Lib.hid (HP5.out.keeps hb6); have HX6 := Lib.hid ((hb6.block _ (block_lt HX5.out)).trans HX5.out); have q6 := cell_block HX6.out; have z6 := block_lt HX6.out; clear hw0 hLW hn80 hLQ hb6 q5 z5)) | (go_at_call 39; go_must (refine (HBZ.out _ (HT.out.keeps HB6.out) HP6.out).mono ?_; rintro e w7 ⟨⟨gb, Bb, bs, rfl, hgb, hBB, hOB⟩, hb7⟩; have HB7 := Lib.hid (HB6.out.trans (hb7.mono HB6.out.size)); clear hgb hBB hOB hb7 q6 z6)))
        go_ret
        exact ⟨rfl, HB7.out⟩
      · obtain ⟨e0, he0⟩ : ∃ e, checkP q = e := ⟨_, rfl⟩
        rw [he0] at hz HCP
        have hne : (e0 != 0) = true := bne_iff_ne.2 hz
        clear hz HLP HBK he0
        go_wp2_with (first | (go_at_call 35; go_must (refine (HCP.out _ (HT.out.keeps HBW.out) HPQ.out).mono ?_; rintro e w5 ⟨rfl, hb5⟩; have HB5 := Lib.hid (HBW.out.trans (hb5.mono HBW.out.size)); clear hb5)))
        go_ret
        exact ⟨rfl, HB5.out⟩
    · have j1 : (j : Int) < M := by omega
      have j2 : (0 : Int) ≤ j := by omega
      obtain ⟨x, hx⟩ : ∃ x, F.code[j]? = some x := ⟨_, List.getElem?_eq_getElem (by rw [HM.out]; omega)⟩
      have hcx := hW.fix.at hx
      have hcl : c.length = M := by rw [hW.fix.1, HM.out]
      have hrow : wr.ownsRow (w.heap.size + 3) 70 5 (.slice (some ⟨gc, 0, none⟩) M fcap) M (codeCells c) := by
        have h := hW.prog.code k _ { F with code := c } HUK.out (by rw [List.getElem?_set_self (by rw [HN.out]; exact hkl)])
        have e : ({ F with code := c } : Fnc).code.length = M := hcl
        rw [e, HM.out] at h
        exact h
      have hcell := fun (t : Nat) (ht : t < 5) => (World.ownsRow.cellAt (j := j * 5 + t) hrow (by omega)).trans (codeCells_at hcx ht)
      have e0 : wr.cell? ⟨gc, j * 5, none⟩ = some (.int .i64 x.op) := hcell 0 (by omega)
      have e4 : wr.cell? ⟨gc, j * 5 + 4, none⟩ = some (.int .i64 x.imm) := hcell 4 (by omega)
      have zgc := (World.ownsRow.lt hrow gc rfl).2
      have fz : ∀ i, wr.frozen? ⟨gc, i, none⟩ = false := by
        rcases hrow.2 with ⟨h', _⟩ | ⟨g', cap', cur, h', hb, hg, hnc, hcm, hcs, htake⟩
        · simp at h'
        · simp only [Value.slice.injEq, Option.some.injEq, Addr.mk.injEq, and_true] at h'
          obtain ⟨rfl, -⟩ := h'
          exact frozen_block hg
      have HX := Lib.hid hx
      obtain ⟨op, hop⟩ : ∃ o, x.op = o := ⟨_, rfl⟩
      obtain ⟨im, him⟩ : ∃ o, x.imm = o := ⟨_, rfl⟩
      have HOP := Lib.hid hop
      have HIM := Lib.hid him
      rw [hop] at e0
      rw [him] at e4
      clear hW hown hx hcx hrow hcl hcell hop him hjM
      by_cases hjmp : op = 15 ∨ op = 16
      · by_cases hle : im ≤ (j : Int)
        · have hd : decide (im ≤ (j : Int)) = true := by simpa using hle
          have HF1 := Lib.hid (show fixI j x = { x with imm := (j : Int) + 1 } by unfold fixI; rw [if_pos ⟨by rw [HOP.out]; exact hjmp, by rw [HIM.out]; exact hle⟩])
          have HP := Lib.hid (HW.out.put HAP.out (by rw [HN.out]; exact hkl) HUK.out hgcl (by omega) HX.out HF1.out)
          have fz4 := fz (j * 5 + 4)
          rcases hjmp with rfl | rfl
          · clear fz hle
            go_wp2_with fail
            go_roundw
            case rel => exact ⟨j + 1, _, by omega, by go_num, HP.out⟩
            case measure => simp [intOf]; omega
          · have h15 : ((16 : Int) == 15) = false := by decide
            clear fz hle
            go_wp2_with fail
            go_roundw
            case rel => exact ⟨j + 1, _, by omega, by go_num, HP.out⟩
            case measure => simp [intOf]; omega
        · have hd : decide (im ≤ (j : Int)) = false := by simpa using hle
          have HF1 := Lib.hid (show fixI j x = x by unfold fixI; rw [if_neg (by rw [HIM.out]; exact fun h => hle h.2)])
          rcases hjmp with rfl | rfl
          · clear fz hle
            go_wp2_with fail
            go_roundw
            case rel => exact ⟨j + 1, c, by omega, by go_num, HW.out.same HX.out HF1.out⟩
            case measure => simp [intOf]; omega
          · have h15 : ((16 : Int) == 15) = false := by decide
            clear fz hle
            go_wp2_with fail
            go_roundw
            case rel => exact ⟨j + 1, c, by omega, by go_num, HW.out.same HX.out HF1.out⟩
            case measure => simp [intOf]; omega
      · have h15 : (op == 15) = false := beq_eq_false_iff_ne.2 (by omega)
        have h16 : (op == 16) = false := beq_eq_false_iff_ne.2 (by omega)
        have HF1 := Lib.hid (show fixI j x = x by unfold fixI; rw [if_neg (by rw [HOP.out]; exact fun h => hjmp h.1)])
        clear fz hjmp
        go_wp2_with fail
        go_roundw
        case rel => exact ⟨j + 1, c, by omega, by go_num, HW.out.same HX.out HF1.out⟩
        case measure => simp [intOf]; omega
end Go.Proofs.YtefbdecejoeamaaDoor
