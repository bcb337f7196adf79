/-
  The walk of SsaReads: it returns true.
-/
import Derived.Test.YtlciakkbgaakiaaDoorSv3
import Derived.Test.YtlciakkbgaakiaaDoorKr
import Derived.Test.YtlciakkbgaakiaaDoorPgS
import Derived.Test.YtlciakkbgaakiaaDoorOpn
namespace Go.Proofs.YtlciakkbgaakiaaDoor
open Go.RowKit Tier
theorem SbAt.blkCell {w : World} {b : Nat} {c : SC} {s : SB} {V : SK → Value} (h : SbAt w b c s V) (hs : ∀ x ∈ s.parts, x.inn.length = 12) {g n cap : Nat} (hv : V .parts = .slice (some ⟨g, 0, none⟩) n cap) {i : Nat} (hi : i < s.parts.length) : w.cell? ⟨g, i * 15, none⟩ = some (.int .i64 (s.part i).block) := by
  refine h.own.cell .parts (by rw [rowsOf_v]; exact hv) ?_
  show (partsCells s.parts _ _)[i * 15]? = _
  unfold partsCells
  exact flat_at (f := fun j => (s.parts.getD j noPart).cells (V (.phis j)) (V (.ins j))) (t := 0) (fun k hk => part_len hs hk _ _) hi (by omega)
theorem rdL_len {p : List Fnc} {x : Ins} (_h1 : 1 ≤ x.op) (_h2 : x.op ≤ 19) (hn : 0 ≤ parOf p x) : ((rdL x (parOf p x)).length > 0 ↔ useA p x = true) ∧ ((rdL x (parOf p x)).length > 1 ↔ useB p x = true) := by
  unfold rdL useA useB takesA takesB
  by_cases c1 : x.op = 1 ∨ x.op = 15
  · rw [if_pos c1]
    rcases c1 with c | c <;> rw [c] <;> simp
  · rw [if_neg c1]
    by_cases c2 : x.op = 13 ∨ x.op = 16 ∨ x.op = 18 ∨ x.op = 19
    · rw [if_pos c2]
      rcases c2 with c | c | c | c <;> rw [c] <;> simp
    · rw [if_neg c2]
      by_cases c3 : x.op = 17
      · rw [if_pos c3, c3]
        simp
        omega
      · rw [if_neg c3]
        simp only [List.length_cons, List.length_nil]
        simp
        omega
theorem setR_ge {x : Ins} (h : 0 ≤ x.dst) : 0 ≤ setR x ↔ setsB x = true := by
  unfold setR
  by_cases c : setsB x = true
  · rw [if_pos c]; exact ⟨fun _ => c, fun _ => h⟩
  · rw [if_neg c]; exact ⟨fun h => by omega, fun h => absurd h c⟩
theorem info5 : (Tryd.prog.info? 31).map (·.size) = some 5 := by kernel_rfl
set_option maxRecDepth 100000 in
set_option maxHeartbeats 8000000 in
theorem ssaReads_walk (A : Option Addr) (l : List Fnc) (cap : Nat) (fn : Int) (w : World) (ht : Tab w) (hraw : RawsAt w A l) (hln : (l.length : Int) ≤ 9223372036854775807) (hfn : In fn) :
    Calls Tryd.prog 7 #[.slice A l.length cap, .int .i64 fn] w fun e w' => e = .returned (.bool true) ∧ Below w.heap.size w w' := by
  have HT := Lib.hid ht
  have HR := Lib.hid hraw
  have HCK := Lib.hid (mkP_right l)
  clear ht hraw
  go_enter Tryd.func7, Tryd.ntmps7
  go_wp2_with fail
  refine (program_any A cap l _ HT.out hln HR.out).mono ?_
  rintro e w1 ⟨⟨A1, cap1, vs, rfl, hpv⟩, hb1⟩
  have HPV := Lib.hid hpv
  have HB1 := Lib.hid hb1
  clear hpv hb1
  generalize mkP l = p at *
  have hRT := right_of HCK.out
  have hE : progE p = 0 := progE_ck HCK.out
  have hl1 := hRT.ok.l1
  have hl2 := hRT.ok.l2
  have hpk := picked_in fn p.length (by omega)
  obtain ⟨k, hk⟩ : ∃ k : Nat, pickedI fn p.length = k := ⟨(pickedI fn p.length).toNat, by omega⟩
  rw [hk] at hpk
  have HPK := Lib.hid (fun (W : World) => picked_any fn p.length W hfn (by omega) (by omega))
  rw [hk] at HPK
  clear hk
  obtain ⟨A0, cap0, hA0, hA⟩ := HPV.out.at.slice
  simp only [Value.slice.injEq, true_and] at hA0
  obtain ⟨g, hAg, hg, hfn'⟩ := hA (by omega)
  obtain ⟨rfl, rfl⟩ := hA0
  have hkl : k < p.length := by omega
  obtain ⟨F, hF⟩ : ∃ f, p[k]? = some f := ⟨p[k], List.getElem?_eq_getElem hkl⟩
  have hfo := hRT.ok.fn F (List.mem_of_getElem? hF)
  obtain ⟨u, hu, c0, c1, c2⟩ := hfn' k F hF
  obtain ⟨FA, fcap, rfl, hFA⟩ := hu.slice
  subst hAg
  have HBU := Lib.hid (fun (W : World) (h1 : Tab W) (h2 : ProgAt W (.slice (some ⟨g, 0, none⟩) p.length cap1) p) => build_all (some ⟨g, 0, none⟩) cap1 k W h1 h2 HCK.out hF)
  have HSL := Lib.hid (sureF_length hfo.cok hfo.p2)
  have HF := Lib.hid hF
  have HFM := Lib.hid (List.mem_of_getElem? hF)
  have HRT := Lib.hid hRT
  have HFO := Lib.hid hfo
  have n1 := hfo.c1
  have n2 := hfo.c2
  have HFA := Lib.hid hFA
  obtain ⟨M, hM⟩ : ∃ M, F.code.length = M := ⟨_, rfl⟩
  have HM := Lib.hid hM
  rw [hM] at  HSL n1 n2 c2
  have hk0 : (0 : Int) ≤ k := by omega
  have hk1 : (k : Int) < p.length := by omega
  clear hA hfn' hF hu hfo hM hRT hFA
  obtain ⟨N, hN⟩ : ∃ N, p.length = N := ⟨_, rfl⟩
  have HN := Lib.hid hN
  rw [hN] at HPK HBU hl1 hl2 hkl hk1 hpk ⊢
  have HPA := Lib.hid (show ProgAt w1 (.slice (some ⟨g, 0, none⟩) N cap1) p from by have := HPV.out.at; rw [hN] at this; exact this)
  clear hN hE
  have HXA := Lib.hid ((Below.refl w1.heap.size w1).alloc (Nat.le_refl _) (.cells #[.slice (some ⟨g, 0, none⟩) N cap1] 25))
  obtain ⟨H, hH⟩ : ∃ H, (hdL F).length = H := ⟨_, rfl⟩
  have HH := Lib.hid hH
  have hHM : H ≤ 40 := by have h1 := hdTo_len F F.code.length; have h2 : hdTo F F.code.length = hdL F := rfl; rw [h2, hH, HM.out] at h1; omega
  have hH1 : 0 < H := by have := (List.getElem?_eq_some_iff.1 (zero_head HRT.out HFM.out)).1; omega
  obtain ⟨gc, hgc, hgcl, hins⟩ := HFA.out (by rw [HM.out]; omega)
  have HGC := Lib.hid hgcl
  have HINS := Lib.hid hins
  subst hgc
  obtain ⟨P, hP⟩ : ∃ n : Nat, F.params = n := ⟨F.params.toNat, by have := HFO.out.p1; omega⟩
  have HPP := Lib.hid hP
  have hP2 : P ≤ 2 := by have := HFO.out.p2; omega
  rw [hP] at c0
  have HC0 := Lib.hid (show w1.cell? ⟨g, k * 3, none⟩ = some (.int .i64 (P : Int)) ∧ w1.cell? ⟨g, k * 3 + 1, none⟩ = some (.int .i64 F.regs) ∧ w1.cell? ⟨g, k * 3 + 2, none⟩ = some (.slice (some ⟨gc, 0, none⟩) M fcap) from ⟨c0, c1, c2⟩)
  clear hH hins hgcl hP c0 c1 c2
  go_wp2_with (first | (go_at_call 18; go_must (refine (HPK.out _).mono ?_; rintro e w' ⟨rfl, rfl⟩)) | (go_at_call 17; go_must (refine (HBU.out _ (HT.out.keeps (HB1.out.alloc HB1.out.size _)) (HPA.out.keeps HXA.out)).mono ?_; rintro e w2 ⟨⟨b, c, s, V, O, bs, K, s2, l, rfl, hbb, hsb, hbl⟩, hb⟩; have HBX := Lib.hid (BuiltX.mk hbl HCK.out HFM.out rfl : BuiltX p F O bs K _ s2 l s); have HFP := Lib.hid HBX.out.finP; have hbsl : bs.length = H := (by rw [hbl.bok.len, HH.out]); have HBL := Lib.hid hbsl; obtain ⟨Ap, cp, hvp, -, hpA⟩ := hsb.rowV .parts (n := H) (by show s.parts.length = H; rw [HFP.out.len, hbsl]); obtain ⟨gp, rfl, -, -⟩ := hpA hH1; have HVP := Lib.hid hvp; obtain ⟨vl, hvl⟩ : ∃ v, valN F bs s2 l = v := ⟨_, rfl⟩; have HVL := Lib.hid hvl; have HSB := Lib.hid hsb; have HBB := Lib.hid hbb; rw [hvp, show ((F.params.toNat + (allG { s2 with same := l } bs.length).length : Nat) : Int) = ((vl : Nat) : Int) from congrArg Int.ofNat hvl, HPP.out]; rw [hvl] at HFP; have HB12 := Lib.hid (HXA.out.trans (hb.mono HXA.out.size)); have HX2 := Lib.hid ((hb.block w1.heap.size (by simp)).trans (heap_alloc_new w1 _)); have q2 := cell_block HX2.out; have z2 := block_lt HX2.out; clear hbb hsb hbl hb hvp hvl hbsl hpA)))
  obtain ⟨w3, hw3⟩ : ∃ W, w2.alloc (.cells #[.int .i64 (P : Int), .int .i64 (vl : Int), .slice (some ⟨gp, 0, none⟩) H cp] 36) = W := ⟨_, rfl⟩
  have HXS : Hid (w3.heap[w2.heap.size]? = some (.cells #[.int .i64 (P : Int), .int .i64 (vl : Int), .slice (some ⟨gp, 0, none⟩) H cp] 36 (0, 0))) := Lib.hid (hw3 ▸ heap_alloc_new _ _)
  have HB23 : Hid (Below w2.heap.size w2 w3) := Lib.hid (hw3 ▸ (Below.refl _ _).alloc (Nat.le_refl _) _)
  have HB13 : Hid (Below w1.heap.size w1 w3) := Lib.hid (HB12.out.trans (HB23.out.mono HB12.out.size))
  have HXP : Hid (w3.heap[w1.heap.size]? = some (.cells #[.slice (some ⟨g, 0, none⟩) N cap1] 25 (0, 0))) := Lib.hid ((HB23.out.block _ (block_lt HX2.out)).trans HX2.out)
  rw [hw3]
  obtain ⟨Lp, hLp⟩ : ∃ n, w1.heap.size = n := ⟨_, rfl⟩
  obtain ⟨Ls, hLs⟩ : ∃ n, w2.heap.size = n := ⟨_, rfl⟩
  have HLP := Lib.hid hLp
  have HLS := Lib.hid hLs
  rw [hLp, hLs]
  rw [hLp] at HXP
  rw [hLs] at HXS
  have p3 : w3.cell? ⟨Lp, 0, none⟩ = some (.slice (some ⟨g, 0, none⟩) N cap1) := cell_block HXP.out 0
  have zp3 := block_lt HXP.out
  clear hw3 q2 z2 hLp hLs
  obtain ⟨w4, hw4⟩ : ∃ W, w3 = W := ⟨_, rfl⟩
  subst hw4
  have HB34 : Hid (Below w3.heap.size w3 w3) := Lib.hid (Below.refl _ _)
  have HB14 : Hid (Below w1.heap.size w1 w3) := Lib.hid (HB13.out.trans (HB34.out.mono HB13.out.size))
  have HB24 : Hid (Below w2.heap.size w2 w3) := Lib.hid (HB23.out.trans (HB34.out.mono HB23.out.size))
  have HSB4 : Hid (SbAt w3 b c s V) := Lib.hid (HSB.out.keeps HB24.out)
  have KS := Lib.hid (fun (W : World) (hb : Below w3.heap.size w3 W) => (⟨(hb.cell (p := ⟨Ls, _, none⟩) (Nat.lt_of_lt_of_le (block_lt HXS.out) HB34.out.size)).trans ((HB34.out.cell (p := ⟨Ls, _, none⟩) (block_lt HXS.out)).trans (cell_block HXS.out 0)), (hb.cell (p := ⟨Ls, _, none⟩) (Nat.lt_of_lt_of_le (block_lt HXS.out) HB34.out.size)).trans ((HB34.out.cell (p := ⟨Ls, _, none⟩) (block_lt HXS.out)).trans (cell_block HXS.out 1)), (hb.cell (p := ⟨Ls, _, none⟩) (Nat.lt_of_lt_of_le (block_lt HXS.out) HB34.out.size)).trans ((HB34.out.cell (p := ⟨Ls, _, none⟩) (block_lt HXS.out)).trans (cell_block HXS.out 2)), (hb.cell (p := ⟨Lp, _, none⟩) (Nat.lt_of_lt_of_le (block_lt HXP.out) HB34.out.size)).trans ((HB34.out.cell (p := ⟨Lp, _, none⟩) (block_lt HXP.out)).trans (cell_block HXP.out 0)), (hb.cell (p := ⟨g, _, none⟩) (Nat.lt_of_lt_of_le hg HB14.out.size)).trans ((HB14.out.cell (p := ⟨g, _, none⟩) hg).trans HC0.out.1), (hb.cell (p := ⟨g, _, none⟩) (Nat.lt_of_lt_of_le hg HB14.out.size)).trans ((HB14.out.cell (p := ⟨g, _, none⟩) hg).trans HC0.out.2.2), Nat.lt_of_lt_of_le (Nat.lt_of_lt_of_le (block_lt HXS.out) HB34.out.size) hb.size, Nat.lt_of_lt_of_le (Nat.lt_of_lt_of_le (block_lt HXP.out) HB34.out.size) hb.size, Nat.lt_of_lt_of_le (Nat.lt_of_lt_of_le hg HB14.out.size) hb.size, Nat.lt_of_lt_of_le (HSB4.out.rlt .parts (g := gp) (by rw [HVP.out]; rfl)).2 hb.size⟩ :
    W.cell? ⟨Ls, 0, none⟩ = some (.int .i64 (P : Int)) ∧ W.cell? ⟨Ls, 1, none⟩ = some (.int .i64 (vl : Int)) ∧ W.cell? ⟨Ls, 2, none⟩ = some (.slice (some ⟨gp, 0, none⟩) H cp) ∧ W.cell? ⟨Lp, 0, none⟩ = some (.slice (some ⟨g, 0, none⟩) N cap1) ∧ W.cell? ⟨g, k * 3, none⟩ = some (.int .i64 (P : Int)) ∧ W.cell? ⟨g, k * 3 + 2, none⟩ = some (.slice (some ⟨gc, 0, none⟩) M fcap) ∧ Ls < W.heap.size ∧ Lp < W.heap.size ∧ g < W.heap.size ∧ gp < W.heap.size))
  have KSB := Lib.hid (fun (W : World) (hb : Below w3.heap.size w3 W) => (HSB4.out.keeps hb : SbAt W b c s V))
  have HB3 : Hid (Below w3.heap.size w3 w3) := Lib.hid (Below.refl _ _)
  clear p3 zp3
  go_wp2_with fail
  go_loopw [9] (fun v9 wr => ∃ i : Nat, i ≤ H ∧ v9 = .int .i64 (i : Int) ∧ Below w3.heap.size w3 wr) (fun v9 _ => H - (intOf v9).toNat)
  case atStart => exact ⟨0, by omega, rfl, HB3.out⟩
  case round =>
    obtain ⟨i, hiH, rfl, hb⟩ := hrel
    have HB := Lib.hid hb
    obtain ⟨s0, s1, s2', s3, s4, s5, z0, z1, z2, z3⟩ := KS.out wr hb
    by_cases hi0 : i = H
    · have hi0' := hi0.symm
      subst hi0'
      have hh1 : decide ((H : Int) > 0) = true := by rw [decide_eq_true_eq]; omega
      have hh2 : decide ((0 : Int) < H) = true := by rw [decide_eq_true_eq]; omega
      have hh3 : decide (0 < H) = true := by rw [decide_eq_true_eq]; omega
      clear s0 s1 s3 s4 s5 z1 z2 z3 hb
      go_wp2_with fail
      go_ret
      exact ⟨rfl, HB1.out.trans ((HB14.out.trans (HB.out.mono HB14.out.size)).mono HB1.out.size)⟩
    · have hi1 : i < H := by omega
      have hi2 : (i : Int) < H := by omega
      have hi3 : (0 : Int) ≤ i := by omega
      have hib : i < bs.length := by rw [HBL.out]; exact hi1
      have his : i < s.parts.length := by rw [HFP.out.len]; exact hib
      obtain ⟨m, hm⟩ : ∃ n, (s.part i).ins.length = n := ⟨_, rfl⟩
      obtain ⟨a, ha⟩ : ∃ a, hdA F i = a := ⟨_, rfl⟩
      have hil := HFP.out.il i hib
      have hsp := toF_spec HRT.out HFM.out (hdA_mem2 (show i < (hdL F).length by rw [HH.out]; exact hi1)).1
      have hz2 := hsp.2.1
      rw [hm, ha] at hil
      rw [ha, HM.out] at hz2
      have hm40 : a + m ≤ M := by have := hsp.1; rw [ha] at this; omega
      obtain ⟨Ai, ci, hvi, -, hiA⟩ := (KSB.out wr hb).rowV (.ins i) (n := m) hm
      have KP := Lib.hid (fun (W : World) (hb : Below w3.heap.size w3 W) => ((KSB.out W hb).partCell HFP.out.inn HVP.out his).2.trans (by rw [hvi]) : ∀ (W : World), Below w3.heap.size w3 W → W.cell? ⟨gp, i * 15 + 2, none⟩ = some (.slice Ai m ci))
      have HIA := Lib.hid hiA
      have HVI := Lib.hid hvi
      have HM1 := Lib.hid hm
      have HIB := Lib.hid hib
      have HAE := Lib.hid ha
      clear hvi hiA hm his hsp hil hb s0 s1 s3 s4 s5 z1 z2 hi0 ha hib hz2
      go_wp2_with fail
      clear s2' z0 z3
      go_loopw [10] (fun v10 wr => ∃ t : Nat, t ≤ m ∧ v10 = .int .i64 (t : Int) ∧ Below w3.heap.size w3 wr) (fun v10 _ => m - (intOf v10).toNat)
      case atStart => exact ⟨0, by omega, rfl, HB.out⟩
      case round =>
        obtain ⟨t, htm, rfl, hb⟩ := hrel
        clear HB
        have HB := Lib.hid hb
        obtain ⟨s0, s1, s2', s3, s4, s5, z0, z1, z2, z3⟩ := KS.out wr hb
        have k2 := KP.out wr hb
        by_cases ht0 : t = m
        · have ht0' := ht0.symm
          subst ht0'
          clear s0 s1 s3 s4 s5 z1 z2 hb
          go_wp2_with fail
          go_roundw
          case rel => exact ⟨i + 1, by omega, by go_num, HB.out⟩
          case measure => simp [intOf]; omega
        · have ht1 : t < m := by omega
          have ht2 : (t : Int) < m := by omega
          have ht3 : (0 : Int) ≤ t := by omega
          obtain ⟨gi, rfl, -, -⟩ := HIA.out (by omega)
          have htl : t < (s.part i).ins.length := by rw [HM1.out]; exact ht1
          obtain ⟨q0, q1, q2, q3, q4, q5⟩ := (KSB.out wr hb).insCell (k := t) HVI.out htl
          obtain ⟨o1, o2, o3⟩ := HFP.out.iop i t HIB.out htl
          have hset := HFP.out.iset i t HIB.out htl
          obtain ⟨ha1, ha2⟩ := HFP.out.ia i t HIB.out htl
          obtain ⟨hb1, hb2⟩ := HFP.out.ib i t HIB.out htl
          have zgi := Nat.lt_of_lt_of_le (HSB4.out.rlt (.ins i) (g := gi) (by rw [HVI.out]; rfl)).2 hb.size
          rw [HAE.out] at o1 o2 o3 hset ha1 hb1
          obtain ⟨pc, hpc⟩ : ∃ n, a + t = n := ⟨_, rfl⟩
          rw [hpc] at o1 o2 o3 hset ha1 hb1
          have hpcM : pc < M := by omega
          have hpcM2 : (pc : Int) < M := by omega
          have hpc0 : (0 : Int) ≤ pc := by omega
          have hx : F.code[pc]? = some (insAt F pc) := by unfold insAt; rw [List.getD_eq_getElem?_getD, List.getElem?_eq_getElem (by rw [HM.out]; exact hpcM)]; rfl
          have hio := HFO.out.ins _ (List.mem_of_getElem? hx)
          obtain ⟨x, hx2⟩ : ∃ x, s.insA i t = x := ⟨_, rfl⟩
          rw [hx2] at q0 q1 q2 q3 q4 q5 o1 o2 o3 hset ha1 ha2 hb1 hb2
          obtain ⟨jo, jd, ja, jb, jm, jp⟩ := x
          simp only at q0 q1 q2 q3 q4 q5 o1 o2 o3 hset ha1 ha2 hb1 hb2
          subst o3
          obtain ⟨z, hz⟩ : ∃ z, insAt F pc = z := ⟨_, rfl⟩
          rw [hz] at o1 o2 hset ha1 hb1 hx hio
          have hpn : 0 ≤ parOf p z := by
            unfold parOf
            cases hq : p[z.imm.toNat]? with
            | none => simp
            | some f => exact (HRT.out.ok.fn f (List.mem_of_getElem? hq)).p1
          obtain ⟨hrl1, hrl2⟩ := rdL_len (p := p) hio.op1 hio.op2 hpn
          have hsr := setR_ge hio.dst1
          have hxc := HINS.out pc _ hx
          have HKR := Lib.hid (fun (W : World) (hb : Below w3.heap.size w3 W) => kreads_any p (some ⟨g, 0, none⟩) cap1 z F.regs F.code.length W (by rw [HN.out]; exact HPA.out.keeps (HB14.out.trans (hb.mono HB14.out.size))) hio (fun f hf => ⟨(HRT.out.ok.fn f hf).p1, (HRT.out.ok.fn f hf).p2⟩))
          rw [HN.out] at HKR
          obtain ⟨rn, hrn⟩ : ∃ n, (rdL z (parOf p z)).length = n := ⟨_, rfl⟩
          obtain ⟨sr, hsr2⟩ : ∃ n, setR z = n := ⟨_, rfl⟩
          rw [hrn] at hrl1 hrl2
          rw [hsr2] at hsr HKR
          have HRN := Lib.hid hrn
          obtain ⟨xo, xd, xa, xb, xm⟩ := z
          simp only at hxc o1 o2 HKR
          have HXC := Lib.hid hxc
          obtain ⟨u1, hu1⟩ : ∃ u, useA p ⟨xo, xd, xa, xb, xm⟩ = u := ⟨_, rfl⟩
          obtain ⟨u2, hu2⟩ : ∃ u, useB p ⟨xo, xd, xa, xb, xm⟩ = u := ⟨_, rfl⟩
          obtain ⟨u3, hu3⟩ : ∃ u, setsB ⟨xo, xd, xa, xb, xm⟩ = u := ⟨_, rfl⟩
          rw [hu1] at ha1 hrl1
          rw [hu2] at hb1 hrl2
          rw [hu3] at hset hsr
          have dec : ∀ (q : Prop) [Decidable q] (u : Bool), (q ↔ u = true) → decide q = u := fun q _ u h => by
            by_cases hq : q
            · rw [decide_eq_true hq, h.1 hq]
            · rw [decide_eq_false hq]
              cases u with
              | true => exact absurd (h.2 rfl) hq
              | false => rfl
          have f1 : decide ((rn : Int) > 0) = u1 := dec _ _ ((by omega : (rn : Int) > 0 ↔ rn > 0).trans hrl1)
          have f2 : decide ((0 : Int) < rn) = u1 := f1
          have f3 : decide (0 < rn) = u1 := dec _ _ hrl1
          have f4 : decide (ja ≥ 0) = u1 := dec _ _ ha1
          have f5 : decide (0 ≤ ja) = u1 := f4
          have f6 : decide ((rn : Int) > 1) = u2 := dec _ _ ((by omega : (rn : Int) > 1 ↔ rn > 1).trans hrl2)
          have f7 : decide ((1 : Int) < rn) = u2 := f6
          have f8 : decide (1 < rn) = u2 := dec _ _ hrl2
          have f9 : decide (jb ≥ 0) = u2 := dec _ _ hb1
          have f10 : decide (0 ≤ jb) = u2 := f9
          have f11 : decide (sr ≥ 0) = u3 := dec _ _ hsr
          have f12 : decide (0 ≤ sr) = u3 := f11
          have f13 : decide (jd ≥ 0) = u3 := dec _ _ hset
          have f14 : decide (0 ≤ jd) = u3 := f13
          have f15 : decide (ja ≥ (vl : Int)) = false := by rw [decide_eq_false_iff_not]; omega
          have f16 : decide ((vl : Int) ≤ ja) = false := f15
          have f17 : decide (jb ≥ (vl : Int)) = false := by rw [decide_eq_false_iff_not]; omega
          have f18 : decide ((vl : Int) ≤ jb) = false := f17
          have HF := Lib.hid (⟨f1, f2, f3, f4, f5, f6, f7, f8, f9, f10, f11, f12, f13, f14, f15, f16, f17, f18⟩ : _ ∧ _ ∧ _ ∧ _ ∧ _ ∧ _ ∧ _ ∧ _ ∧ _ ∧ _ ∧ _ ∧ _ ∧ _ ∧ _ ∧ _ ∧ _ ∧ _ ∧ _)
          have g1 : decide ((pc : Int) < 0) = false := by rw [decide_eq_false_iff_not]; omega
          have g2 : decide ((pc : Int) ≥ M) = false := by rw [decide_eq_false_iff_not]; omega
          have g3 : decide ((M : Int) ≤ pc) = false := g2
          have g4 : decide (M ≤ pc) = false := by rw [decide_eq_false_iff_not]; omega
          obtain ⟨Lb, hLb⟩ : ∃ n, wr.heap.size = n := ⟨_, rfl⟩
          have ho2 : jm = xm := o2
          subst ho2
          clear f1 f2 f3 f4 f5 f6 f7 f8 f9 f10 f11 f12 f13 f14 f15 f16 f17 f18 dec hu1 hu2 hu3 ha1 ha2 hb1 hb2 hset hsr hrl1 hrl2 hrn hsr2 hxc hpn hio hx hz hpc o1 hx2 htl ht0 s0 s1 s3 s4 s5 z1 z2
          go_wp2_with fail
          obtain ⟨w7, hw7⟩ : ∃ W, wr.alloc (.cells #[.int .i64 jo, .int .i64 jd, .int .i64 ja, .int .i64 jb, .int .i64 jm, .int .i64 (pc : Int)] 55) = W := ⟨_, rfl⟩
          have hb7 : Below wr.heap.size wr w7 := hw7 ▸ (Below.refl _ _).alloc (Nat.le_refl _) _
          have hB7 : w7.heap[Lb]? = some (.cells #[.int .i64 jo, .int .i64 jd, .int .i64 ja, .int .i64 jb, .int .i64 jm, .int .i64 (pc : Int)] 55 (0, 0)) := hw7 ▸ hLb ▸ heap_alloc_new _ _
          have HB7 : Hid (Below w3.heap.size w3 w7) := Lib.hid (HB.out.trans (hb7.mono HB.out.size))
          have HX7 := Lib.hid hB7
          rw [hw7]
          clear hw7 hB7 q0 q1 q2 q3 q4 q5 zgi s2' z0 z3 k2 hLb hb7 hb
          obtain ⟨s0, s1, s2', s3, s4, s5, z0, z1, z2, z3⟩ := KS.out w7 HB7.out
          have r5 : w7.cell? ⟨Lb, 5, none⟩ = some (.int .i64 (pc : Int)) := cell_block HX7.out 5
          have zL := block_lt HX7.out
          clear s0 s1 s2' s4 z0 z3
          go_quiet (fail)
          obtain ⟨w8, hw8⟩ : ∃ W, w7.drewN nq = W := ⟨_, rfl⟩
          have HB8 : Hid (Below w3.heap.size w3 w8) := Lib.hid (hw8 ▸ below_drewN HB7.out _)
          have HX8 : Hid (w8.heap[Lb]? = some (.cells #[.int .i64 jo, .int .i64 jd, .int .i64 ja, .int .i64 jb, .int .i64 jm, .int .i64 (pc : Int)] 55 (0, 0))) := Lib.hid (hw8 ▸ ((below_drewN (Below.refl w7.heap.size w7) nq).block Lb zL).trans HX7.out)
          rw [hw8]
          clear hw8 nq s3 s5 z1 z2 r5 zL g1 g2 g3 g4
          have KL := Lib.hid (fun (W : World) (hb : Below w8.heap.size w8 W) => (⟨(KS.out W (HB8.out.trans (hb.mono HB8.out.size))).2.2.2.1, (KS.out W (HB8.out.trans (hb.mono HB8.out.size))).2.2.2.2.2.1, (hb.cell (p := ⟨Lb, _, none⟩) (block_lt HX8.out)).trans (cell_block HX8.out 5), fun q v hv => by
            have hbg : Below w1.heap.size w1 W := HB14.out.trans ((HB8.out.trans (hb.mono HB8.out.size)).mono HB14.out.size)
            have hq : q < 5 := by have h := (List.getElem?_eq_some_iff.1 hv).1; simpa using h
            obtain ⟨x0, x1, x2, x3, x4⟩ := HXC.out
            refine (hbg.cell (p := ⟨gc, _, none⟩) HGC.out).trans ?_
            rcases (by omega : q = 0 ∨ q = 1 ∨ q = 2 ∨ q = 3 ∨ q = 4) with rfl | rfl | rfl | rfl | rfl
            · exact x0.trans hv
            · exact x1.trans hv
            · exact x2.trans hv
            · exact x3.trans hv
            · exact x4.trans hv⟩ :
            W.cell? ⟨Lp, 0, none⟩ = some (.slice (some ⟨g, 0, none⟩) N cap1) ∧ W.cell? ⟨g, k * 3 + 2, none⟩ = some (.slice (some ⟨gc, 0, none⟩) M fcap) ∧ W.cell? ⟨Lb, 5, none⟩ = some (.int .i64 (pc : Int)) ∧ W.rangeAt gc (pc * 5) [.int .i64 xo, .int .i64 xd, .int .i64 xa, .int .i64 xb, .int .i64 jm]))
          have HI5 : Hid ((Tryd.prog.info? 31).map (·.size) = some (List.length (α := Value) [.int .i64 xo, .int .i64 xd, .int .i64 xa, .int .i64 xb, .int .i64 jm])) := Lib.hid info5
          go_wp2_with fail
          refine wp_region_held_drew (S := fun w' => w'.cell? ⟨Lp, 0, none⟩ = some (.slice (some ⟨g, 0, none⟩) N cap1) ∧ w'.cell? ⟨g, k * 3 + 2, none⟩ = some (.slice (some ⟨gc, 0, none⟩) M fcap) ∧ w'.cell? ⟨Lb, 5, none⟩ = some (.int .i64 (pc : Int)) ∧ w'.rangeAt gc (pc * 5) [.int .i64 xo, .int .i64 xd, .int .i64 xa, .int .i64 xb, .int .i64 jm]) (by kernel_rfl) (KL.out _ (Below.refl _ _).drew) (fun hHeld => ?_)
          refine wpAnyH_take (i := 0) (v := .pointer (some ⟨Lp, 0, none⟩)) rfl (by kernel_rfl) (by kernel_rfl) (by kernel_rfl) (fun _ _ _ h => h) (Or.inl ⟨by rfl, ?_⟩) hHeld ?_
          · intro w hSw
            simp only [List.getElem_toArray, List.getElem_cons_zero]
            go_simp
          simp only [Act.put, List.getElem_toArray, List.getElem_cons_zero, List.setIfInBounds_toArray, List.set_cons_zero, List.set_cons_succ]
          refine wpAnyH_take (i := 1) (v := .slice (some ⟨g, 0, none⟩) N cap1) rfl (by kernel_rfl) (by kernel_rfl) (by kernel_rfl) (fun _ _ _ h => h) (Or.inl ⟨by rfl, ?_⟩) hHeld ?_
          · intro w hSw
            obtain ⟨p0, p1, p2, p3⟩ := hSw
            simp only [List.getElem_toArray, List.getElem_cons_zero, List.getElem_cons_succ]
            go_simp
          simp only [Act.put, List.getElem_toArray, List.getElem_cons_zero, List.getElem_cons_succ, List.setIfInBounds_toArray, List.set_cons_zero, List.set_cons_succ]
          refine wpAnyH_take (i := 2) (v := .int .i64 (k : Int)) rfl (by kernel_rfl) (by kernel_rfl) (by kernel_rfl) (fun _ _ _ h => h) (Or.inl ⟨by rfl, ?_⟩) hHeld ?_
          · intro w hSw
            simp only [List.getElem_toArray, List.getElem_cons_zero, List.getElem_cons_succ]
            go_simp
          simp only [Act.put, List.getElem_toArray, List.getElem_cons_zero, List.getElem_cons_succ, List.setIfInBounds_toArray, List.set_cons_zero, List.set_cons_succ]
          refine wpAnyH_take (i := 3) (v := .pointer (some ⟨g, k * 3, none⟩)) rfl (by kernel_rfl) (by kernel_rfl) (by kernel_rfl) (fun _ _ _ h => h) (Or.inl ⟨by rfl, ?_⟩) hHeld ?_
          · intro w hSw
            simp only [List.getElem_toArray, List.getElem_cons_zero, List.getElem_cons_succ]
            go_simp
          simp only [Act.put, List.getElem_toArray, List.getElem_cons_zero, List.getElem_cons_succ, List.setIfInBounds_toArray, List.set_cons_zero, List.set_cons_succ]
          refine wpAnyH_take (i := 4) (v := .pointer (some ⟨g, k * 3 + 2, none⟩)) rfl (by kernel_rfl) (by kernel_rfl) (by kernel_rfl) (fun _ _ _ h => h) (Or.inl ⟨by rfl, ?_⟩) hHeld ?_
          · intro w hSw
            simp only [List.getElem_toArray, List.getElem_cons_zero, List.getElem_cons_succ]
            go_simp
          simp only [Act.put, List.getElem_toArray, List.getElem_cons_zero, List.getElem_cons_succ, List.setIfInBounds_toArray, List.set_cons_zero, List.set_cons_succ]
          refine wpAnyH_take (i := 5) (v := .slice (some ⟨gc, 0, none⟩) M fcap) rfl (by kernel_rfl) (by kernel_rfl) (by kernel_rfl) (fun _ _ _ h => h) (Or.inl ⟨by rfl, ?_⟩) hHeld ?_
          · intro w hSw
            obtain ⟨p0, p1, p2, p3⟩ := hSw
            simp only [List.getElem_toArray, List.getElem_cons_zero, List.getElem_cons_succ]
            go_simp
          simp only [Act.put, List.getElem_toArray, List.getElem_cons_zero, List.getElem_cons_succ, List.setIfInBounds_toArray, List.set_cons_zero, List.set_cons_succ]
          refine wpAnyH_take (i := 6) (v := .pointer (some ⟨Lb, 5, none⟩)) rfl (by kernel_rfl) (by kernel_rfl) (by kernel_rfl) (fun _ _ _ h => h) (Or.inl ⟨by rfl, ?_⟩) hHeld ?_
          · intro w hSw
            simp only [List.getElem_toArray, List.getElem_cons_zero, List.getElem_cons_succ]
            go_simp
          simp only [Act.put, List.getElem_toArray, List.getElem_cons_zero, List.getElem_cons_succ, List.setIfInBounds_toArray, List.set_cons_zero, List.set_cons_succ]
          refine wpAnyH_take (i := 7) (v := .int .i64 (pc : Int)) rfl (by kernel_rfl) (by kernel_rfl) (by kernel_rfl) (fun _ _ _ h => h) (Or.inl ⟨by rfl, ?_⟩) hHeld ?_
          · intro w hSw
            obtain ⟨p0, p1, p2, p3⟩ := hSw
            simp only [List.getElem_toArray, List.getElem_cons_zero, List.getElem_cons_succ]
            go_simp
          simp only [Act.put, List.getElem_toArray, List.getElem_cons_zero, List.getElem_cons_succ, List.setIfInBounds_toArray, List.set_cons_zero, List.set_cons_succ]
          refine wpAnyH_take (i := 8) (v := .pointer (some ⟨gc, pc * 5, none⟩)) rfl (by kernel_rfl) (by kernel_rfl) (by kernel_rfl) (fun _ _ _ h => h) (Or.inl ⟨by rfl, ?_⟩) hHeld ?_
          · intro w hSw
            simp only [List.getElem_toArray, List.getElem_cons_zero, List.getElem_cons_succ]
            go_simp
          simp only [Act.put, List.getElem_toArray, List.getElem_cons_zero, List.getElem_cons_succ, List.setIfInBounds_toArray, List.set_cons_zero, List.set_cons_succ]
          refine' wpAnyH_take (i := 9) rfl (by kernel_rfl) (by kernel_rfl) (by kernel_rfl) (fun _ _ _ h => h) (yieldsIf_load_mid (by rfl) 31 _ rfl gc (pc * 5) rfl [.int .i64 xo, .int .i64 xd, .int .i64 xa, .int .i64 xb, .int .i64 jm] _ (fun w hSw => hSw.2.2.2) Tryd.underlying31 (by rfl) HI5.out) hHeld ?_
          simp only [Act.put, List.getElem_toArray, List.getElem_cons_zero, List.getElem_cons_succ, List.setIfInBounds_toArray, List.set_cons_zero, List.set_cons_succ]
          refine wpAnyH_ready (rs := [10]) (by kernel_rfl) (by simp) ?_
          refine AllReadyH.cons rfl (fun K hK => ?_) AllReadyH.nil
          simp only [List.getElem_toArray, List.getElem_cons_zero, List.getElem_cons_succ]
          go_simp
          refine hK.out _ _ (KL.out _ ((Below.refl w8.heap.size w8).drew.alloc (Nat.le_refl _) _)) (fun hHeld => ?_)
          clear hK K
          refine wpAnyH_ready (rs := [11]) (by kernel_rfl) (by simp) ?_
          refine AllReadyH.cons rfl (fun K hK => ?_) AllReadyH.nil
          simp only [List.getElem_toArray, List.getElem_cons_zero, List.getElem_cons_succ]
          go_simp
          refine hK.out _ _ (KL.out _ ((Below.refl w8.heap.size w8).alloc (Nat.le_refl _) _).drew) (fun hHeld => ?_)
          clear hK K
          clear hHeld
          refine wpAnyH_done (by kernel_rfl) ?_ _
          obtain ⟨w9, hw9⟩ : ∃ W, (w8.alloc (.cells #[.int .i64 xo, .int .i64 xd, .int .i64 xa, .int .i64 xb, .int .i64 jm] 31)).drew = W := ⟨_, rfl⟩
          have hb89 : Below w8.heap.size w8 w9 := hw9 ▸ ((Below.refl _ _).alloc (Nat.le_refl _) _).drew
          have HX9 : Hid (w9.heap[w8.heap.size]? = some (.cells #[.int .i64 xo, .int .i64 xd, .int .i64 xa, .int .i64 xb, .int .i64 jm] 31 (0, 0))) := Lib.hid (hw9 ▸ heap_alloc_new _ _)
          have HXB9 : Hid (w9.heap[Lb]? = some (.cells #[.int .i64 jo, .int .i64 jd, .int .i64 ja, .int .i64 jb, .int .i64 jm, .int .i64 (pc : Int)] 55 (0, 0))) := Lib.hid ((hb89.block Lb (block_lt HX8.out)).trans HX8.out)
          have HB9 : Hid (Below w3.heap.size w3 w9) := Lib.hid (HB8.out.trans (hb89.mono HB8.out.size))
          obtain ⟨Lc, hLc⟩ : ∃ n, w8.heap.size = n := ⟨_, rfl⟩
          rw [hw9, hLc]
          rw [hLc] at HX9
          clear hw9 hLc hb89 hHeld
          obtain ⟨s0, s1, s2', s3, s4, s5, z0, z1, z2, z3⟩ := KS.out w9 HB9.out
          have y0 : w9.cell? ⟨Lc, 0, none⟩ = some (.int .i64 xo) := cell_block HX9.out 0
          have y1 : w9.cell? ⟨Lc, 1, none⟩ = some (.int .i64 xd) := cell_block HX9.out 1
          have y2 : w9.cell? ⟨Lc, 2, none⟩ = some (.int .i64 xa) := cell_block HX9.out 2
          have y3 : w9.cell? ⟨Lc, 3, none⟩ = some (.int .i64 xb) := cell_block HX9.out 3
          have y4 : w9.cell? ⟨Lc, 4, none⟩ = some (.int .i64 jm) := cell_block HX9.out 4
          have zLc := block_lt HX9.out
          clear s0 s1 s2' s4 s5 z0 z2 z3
          go_wp2_with (first | (go_at_call 22; go_must (refine (HKR.out _ HB9.out).mono ?_; rintro e w10 ⟨⟨v, rfl, hO⟩, hb⟩; obtain ⟨A9, c9, rfl, -⟩ := own_slice hO; have e9 : (rdL ⟨xo, xd, xa, xb, jm⟩ (parOf p ⟨xo, xd, xa, xb, jm⟩)).length = rn := HRN.out; rw [e9]; have HB10 := Lib.hid (HB9.out.trans (hb.mono HB9.out.size)); have r1 : w10.cell? ⟨Lb, 1, none⟩ = some (.int .i64 jd) := (hb.cell (p := ⟨Lb, _, none⟩) (block_lt HXB9.out)).trans (cell_block HXB9.out 1); have r2 : w10.cell? ⟨Lb, 2, none⟩ = some (.int .i64 ja) := (hb.cell (p := ⟨Lb, _, none⟩) (block_lt HXB9.out)).trans (cell_block HXB9.out 2); have r3 : w10.cell? ⟨Lb, 3, none⟩ = some (.int .i64 jb) := (hb.cell (p := ⟨Lb, _, none⟩) (block_lt HXB9.out)).trans (cell_block HXB9.out 3); have r4 : w10.cell? ⟨Lb, 4, none⟩ = some (.int .i64 jm) := (hb.cell (p := ⟨Lb, _, none⟩) (block_lt HXB9.out)).trans (cell_block HXB9.out 4); have zL := Nat.lt_of_lt_of_le (block_lt HXB9.out) hb.size; have y4' : w10.cell? ⟨Lc, 4, none⟩ = some (.int .i64 jm) := (hb.cell (p := ⟨Lc, _, none⟩) zLc).trans y4; have zLc' := Nat.lt_of_lt_of_le zLc hb.size; obtain ⟨-, s1, -, -, -, -, z0, -, -, -⟩ := KS.out w10 HB10.out; obtain ⟨f1, f2, f3, f4, f5, f6, f7, f8, f9, f10, f11, f12, f13, f14, f15, f16, f17, f18⟩ := HF.out; clear hO hb e9 y0 y1 y2 y3 y4 zLc s3 z1)))
          go_roundw
          case rel => exact ⟨t + 1, by omega, by go_num, HB10.out⟩
          case measure => simp [intOf]; omega
end Go.Proofs.YtlciakkbgaakiaaDoor
