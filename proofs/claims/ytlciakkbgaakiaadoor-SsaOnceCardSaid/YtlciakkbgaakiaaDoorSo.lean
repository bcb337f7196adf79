/-
  The walk of SsaOnce: it returns true.
-/
import Derived.Test.YtlciakkbgaakiaaDoorSv3
import Derived.Test.YtlciakkbgaakiaaDoorPgS
import Derived.Test.YtlciakkbgaakiaaDoorOpn
namespace Go.Proofs.YtlciakkbgaakiaaDoor
open Go.RowKit Tier
theorem SbAt.blkCell {w : World} {b : Nat} {c : SC} {s : SB} {V : SK → Value} (h : SbAt w b c s V) (hs : ∀ x ∈ s.parts, x.inn.length = 12) {g n cap : Nat} (hv : V .parts = .slice (some ⟨g, 0, none⟩) n cap) {i : Nat} (hi : i < s.parts.length) : w.cell? ⟨g, i * 15, none⟩ = some (.int .i64 (s.part i).block) := by
  refine h.own.cell .parts (by rw [rowsOf_v]; exact hv) ?_
  show (partsCells s.parts _ _)[i * 15]? = _
  unfold partsCells
  exact flat_at (f := fun j => (s.parts.getD j noPart).cells (V (.phis j)) (V (.ins j))) (t := 0) (fun k hk => part_len hs hk _ _) hi (by omega)
set_option maxRecDepth 100000 in
set_option maxHeartbeats 8000000 in
theorem ssaOnce_walk (A : Option Addr) (l : List Fnc) (cap : Nat) (fn : Int) (w : World) (ht : Tab w) (hraw : RawsAt w A l) (hln : (l.length : Int) ≤ 9223372036854775807) (hfn : In fn) :
    Calls Tryd.prog 4 #[.slice A l.length cap, .int .i64 fn] w fun e w' => e = .returned (.bool true) ∧ Below w.heap.size w w' := by
  have HT := Lib.hid ht
  have HR := Lib.hid hraw
  have HCK := Lib.hid (mkP_right l)
  clear ht hraw
  go_enter Tryd.func4, Tryd.ntmps4
  go_wp2_with fail
  refine (program_any A cap l _ HT.out hln HR.out).mono ?_
  rintro e w1 ⟨⟨A1, cap1, vs, rfl, hpv⟩, hb1⟩
  have HPV := Lib.hid hpv
  have HB1 := Lib.hid hb1
  clear hpv hb1
  generalize mkP l = p at *
  have hRT := right_of HCK.out
  have hE : progE p = 0 := progE_ck HCK.out
  have hl1 := hRT.ok.l1
  have hl2 := hRT.ok.l2
  have hpk := picked_in fn p.length (by omega)
  obtain ⟨k, hk⟩ : ∃ k : Nat, pickedI fn p.length = k := ⟨(pickedI fn p.length).toNat, by omega⟩
  rw [hk] at hpk
  have HPK := Lib.hid (fun (W : World) => picked_any fn p.length W hfn (by omega) (by omega))
  rw [hk] at HPK
  clear hk
  obtain ⟨A0, cap0, hA0, hA⟩ := HPV.out.at.slice
  simp only [Value.slice.injEq, true_and] at hA0
  obtain ⟨g, hAg, hg, hfn'⟩ := hA (by omega)
  obtain ⟨rfl, rfl⟩ := hA0
  have hkl : k < p.length := by omega
  obtain ⟨F, hF⟩ : ∃ f, p[k]? = some f := ⟨p[k], List.getElem?_eq_getElem hkl⟩
  have hfo := hRT.ok.fn F (List.mem_of_getElem? hF)
  obtain ⟨u, hu, c0, c1, c2⟩ := hfn' k F hF
  obtain ⟨FA, fcap, rfl, hFA⟩ := hu.slice
  subst hAg
  have HBU := Lib.hid (fun (W : World) (h1 : Tab W) (h2 : ProgAt W (.slice (some ⟨g, 0, none⟩) p.length cap1) p) => build_all (some ⟨g, 0, none⟩) cap1 k W h1 h2 HCK.out hF)
  have HBK := Lib.hid (fun (W : World) (h1 : Tab W) (h2 : ProgAt W (.slice (some ⟨g, 0, none⟩) p.length cap1) p) => blocks_any p (some ⟨g, 0, none⟩) cap1 k F W h1 h2 HCK.out hF)
  have HSL := Lib.hid (sureF_length hfo.cok hfo.p2)
  have HF := Lib.hid hF
  have HFM := Lib.hid (List.mem_of_getElem? hF)
  have HRT := Lib.hid hRT
  have HFO := Lib.hid hfo
  have n1 := hfo.c1
  have n2 := hfo.c2
  have HFA := Lib.hid hFA
  obtain ⟨M, hM⟩ : ∃ M, F.code.length = M := ⟨_, rfl⟩
  have HM := Lib.hid hM
  rw [hM] at  HSL n1 n2 c2
  have hk0 : (0 : Int) ≤ k := by omega
  have hk1 : (k : Int) < p.length := by omega
  clear hA hfn' hF hu hfo hM hRT hFA
  obtain ⟨N, hN⟩ : ∃ N, p.length = N := ⟨_, rfl⟩
  have HN := Lib.hid hN
  rw [hN] at HPK HBU HBK hl1 hl2 hkl hk1 hpk ⊢
  have HPA := Lib.hid (show ProgAt w1 (.slice (some ⟨g, 0, none⟩) N cap1) p from by have := HPV.out.at; rw [hN] at this; exact this)
  clear hN hE
  have HXA := Lib.hid ((Below.refl w1.heap.size w1).alloc (Nat.le_refl _) (.cells #[.slice (some ⟨g, 0, none⟩) N cap1] 25))
  obtain ⟨H, hH⟩ : ∃ H, (hdL F).length = H := ⟨_, rfl⟩
  have HH := Lib.hid hH
  have hHM : H ≤ 40 := by have h1 := hdTo_len F F.code.length; have h2 : hdTo F F.code.length = hdL F := rfl; rw [h2, hH, HM.out] at h1; omega
  have hH1 : 0 < H := by have := (List.getElem?_eq_some_iff.1 (zero_head HRT.out HFM.out)).1; omega
  obtain ⟨gc, hgc, hgcl, hins⟩ := HFA.out (by rw [HM.out]; omega)
  have HGC := Lib.hid hgcl
  have HINS := Lib.hid hins
  subst hgc
  obtain ⟨P, hP⟩ : ∃ n : Nat, F.params = n := ⟨F.params.toNat, by have := HFO.out.p1; omega⟩
  have HPP := Lib.hid hP
  have hP2 : P ≤ 2 := by have := HFO.out.p2; omega
  rw [hP] at c0
  have HC0 := Lib.hid (show w1.cell? ⟨g, k * 3, none⟩ = some (.int .i64 (P : Int)) ∧ w1.cell? ⟨g, k * 3 + 1, none⟩ = some (.int .i64 F.regs) ∧ w1.cell? ⟨g, k * 3 + 2, none⟩ = some (.slice (some ⟨gc, 0, none⟩) M fcap) from ⟨c0, c1, c2⟩)
  clear hH hins hgcl hP c0 c1 c2
  go_wp2_with (first | (go_at_call 18; go_must (refine (HPK.out _).mono ?_; rintro e w' ⟨rfl, rfl⟩)) | (go_at_call 17; go_must (refine (HBU.out _ (HT.out.keeps (HB1.out.alloc HB1.out.size _)) (HPA.out.keeps HXA.out)).mono ?_; rintro e w2 ⟨⟨b, c, s, V, O, bs, K, s2, l, rfl, hbb, hsb, hbl⟩, hb⟩; have HBX := Lib.hid (BuiltX.mk hbl HCK.out HFM.out rfl : BuiltX p F O bs K _ s2 l s); have HFP := Lib.hid HBX.out.finP; have hbsl : bs.length = H := (by rw [hbl.bok.len, HH.out]); have HBL := Lib.hid hbsl; obtain ⟨Ap, cp, hvp, -, hpA⟩ := hsb.rowV .parts (n := H) (by show s.parts.length = H; rw [HFP.out.len, hbsl]); obtain ⟨gp, rfl, -, -⟩ := hpA hH1; have HVP := Lib.hid hvp; obtain ⟨vl, hvl⟩ : ∃ v, valN F bs s2 l = v := ⟨_, rfl⟩; have HVL := Lib.hid hvl; have HSB := Lib.hid hsb; have HBB := Lib.hid hbb; rw [hvp, show ((F.params.toNat + (allG { s2 with same := l } bs.length).length : Nat) : Int) = ((vl : Nat) : Int) from congrArg Int.ofNat hvl, HPP.out]; rw [hvl] at HFP; have HB12 := Lib.hid (HXA.out.trans (hb.mono HXA.out.size)); have HX2 := Lib.hid ((hb.block w1.heap.size (by simp)).trans (heap_alloc_new w1 _)); have q2 := cell_block HX2.out; have z2 := block_lt HX2.out; clear hbb hsb hbl hb hvp hvl hbsl hpA)))
  obtain ⟨w3, hw3⟩ : ∃ W, w2.alloc (.cells #[.int .i64 (P : Int), .int .i64 (vl : Int), .slice (some ⟨gp, 0, none⟩) H cp] 36) = W := ⟨_, rfl⟩
  have HXS : Hid (w3.heap[w2.heap.size]? = some (.cells #[.int .i64 (P : Int), .int .i64 (vl : Int), .slice (some ⟨gp, 0, none⟩) H cp] 36 (0, 0))) := Lib.hid (hw3 ▸ heap_alloc_new _ _)
  have HB23 : Hid (Below w2.heap.size w2 w3) := Lib.hid (hw3 ▸ (Below.refl _ _).alloc (Nat.le_refl _) _)
  have HB13 : Hid (Below w1.heap.size w1 w3) := Lib.hid (HB12.out.trans (HB23.out.mono HB12.out.size))
  have HXP : Hid (w3.heap[w1.heap.size]? = some (.cells #[.slice (some ⟨g, 0, none⟩) N cap1] 25 (0, 0))) := Lib.hid ((HB23.out.block _ (block_lt HX2.out)).trans HX2.out)
  rw [hw3]
  obtain ⟨Lp, hLp⟩ : ∃ n, w1.heap.size = n := ⟨_, rfl⟩
  obtain ⟨Ls, hLs⟩ : ∃ n, w2.heap.size = n := ⟨_, rfl⟩
  have HLP := Lib.hid hLp
  have HLS := Lib.hid hLs
  rw [hLp, hLs]
  rw [hLp] at HXP
  rw [hLs] at HXS
  have p3 : w3.cell? ⟨Lp, 0, none⟩ = some (.slice (some ⟨g, 0, none⟩) N cap1) := cell_block HXP.out 0
  have zp3 := block_lt HXP.out
  clear hw3 q2 z2 hLp hLs
  go_wp2_with (first | (go_at_call 19; go_must (refine (HBK.out _ (HT.out.keeps (HB1.out.trans (HB13.out.mono HB1.out.size))) (HPA.out.keeps HB13.out)).mono ?_; rintro e w4 ⟨⟨gb, Bb, bs2, rfl, hgb, hBK, hOK⟩, hb⟩; rw [HH.out]; have HB34 := Lib.hid hb; have HBLK := Lib.hid hBK; have HOK2 := Lib.hid hOK; clear hgb hBK hOK hb)))
  have HB14 : Hid (Below w1.heap.size w1 w4) := Lib.hid (HB13.out.trans (HB34.out.mono HB13.out.size))
  have HB24 : Hid (Below w2.heap.size w2 w4) := Lib.hid (HB23.out.trans (HB34.out.mono HB23.out.size))
  have HSB4 : Hid (SbAt w4 b c s V) := Lib.hid (HSB.out.keeps HB24.out)
  have KS := Lib.hid (fun (W : World) (hb : Below w4.heap.size w4 W) => (⟨(hb.cell (p := ⟨Ls, _, none⟩) (Nat.lt_of_lt_of_le (block_lt HXS.out) HB34.out.size)).trans ((HB34.out.cell (p := ⟨Ls, _, none⟩) (block_lt HXS.out)).trans (cell_block HXS.out 0)), (hb.cell (p := ⟨Ls, _, none⟩) (Nat.lt_of_lt_of_le (block_lt HXS.out) HB34.out.size)).trans ((HB34.out.cell (p := ⟨Ls, _, none⟩) (block_lt HXS.out)).trans (cell_block HXS.out 1)), (hb.cell (p := ⟨Ls, _, none⟩) (Nat.lt_of_lt_of_le (block_lt HXS.out) HB34.out.size)).trans ((HB34.out.cell (p := ⟨Ls, _, none⟩) (block_lt HXS.out)).trans (cell_block HXS.out 2)), (hb.cell (p := ⟨Lp, _, none⟩) (Nat.lt_of_lt_of_le (block_lt HXP.out) HB34.out.size)).trans ((HB34.out.cell (p := ⟨Lp, _, none⟩) (block_lt HXP.out)).trans (cell_block HXP.out 0)), (hb.cell (p := ⟨g, _, none⟩) (Nat.lt_of_lt_of_le hg HB14.out.size)).trans ((HB14.out.cell (p := ⟨g, _, none⟩) hg).trans HC0.out.1), (hb.cell (p := ⟨g, _, none⟩) (Nat.lt_of_lt_of_le hg HB14.out.size)).trans ((HB14.out.cell (p := ⟨g, _, none⟩) hg).trans HC0.out.2.2), Nat.lt_of_lt_of_le (Nat.lt_of_lt_of_le (block_lt HXS.out) HB34.out.size) hb.size, Nat.lt_of_lt_of_le (Nat.lt_of_lt_of_le (block_lt HXP.out) HB34.out.size) hb.size, Nat.lt_of_lt_of_le (Nat.lt_of_lt_of_le hg HB14.out.size) hb.size, Nat.lt_of_lt_of_le (HSB4.out.rlt .parts (g := gp) (by rw [HVP.out]; rfl)).2 hb.size⟩ :
    W.cell? ⟨Ls, 0, none⟩ = some (.int .i64 (P : Int)) ∧ W.cell? ⟨Ls, 1, none⟩ = some (.int .i64 (vl : Int)) ∧ W.cell? ⟨Ls, 2, none⟩ = some (.slice (some ⟨gp, 0, none⟩) H cp) ∧ W.cell? ⟨Lp, 0, none⟩ = some (.slice (some ⟨g, 0, none⟩) N cap1) ∧ W.cell? ⟨g, k * 3, none⟩ = some (.int .i64 (P : Int)) ∧ W.cell? ⟨g, k * 3 + 2, none⟩ = some (.slice (some ⟨gc, 0, none⟩) M fcap) ∧ Ls < W.heap.size ∧ Lp < W.heap.size ∧ g < W.heap.size ∧ gp < W.heap.size))
  have KSB := Lib.hid (fun (W : World) (hb : Below w4.heap.size w4 W) => (HSB4.out.keeps hb : SbAt W b c s V))
  have KB := Lib.hid (fun (W : World) (hb : Below w4.heap.size w4 W) (i : Nat) (hi : i < H) => (by
    obtain ⟨r, hr⟩ : ∃ r, bs2[i]? = some r := ⟨_, List.getElem?_eq_getElem (by rw [HOK2.out.len, HH.out]; exact hi)⟩
    obtain ⟨e1, e2, -, e4⟩ := HOK2.out.at_ i r hr
    obtain ⟨PA, pcap, hpv, -⟩ := own_slice (HBLK.out.rows.own i r true hr)
    have hpv' : r.pv = .slice PA r.pl.length pcap := hpv
    have zb := block_lt HBLK.out.blk
    have hpl : prevL bs i = prevF F i := prevL_eq HBX.out.b.bok (by rw [HBL.out]; exact hi)
    exact ⟨PA, pcap, (hb.cell (p := ⟨gb, _, none⟩) zb).trans ((HBLK.out.cell hr (j := 0) (by omega)).trans (by show some (Value.int .i64 r.fr) = _; rw [e1])), (hb.cell (p := ⟨gb, _, none⟩) zb).trans ((HBLK.out.cell hr (j := 1) (by omega)).trans (by show some (Value.int .i64 r.to) = _; rw [e2])), (hb.cell (p := ⟨gb, _, none⟩) zb).trans ((HBLK.out.cell hr (j := 3) (by omega)).trans (by show some r.pv = _; rw [hpv', e4, ← hpl])), Nat.lt_of_lt_of_le zb hb.size⟩ :
    ∃ PA pcap, W.cell? ⟨gb, i * 4, none⟩ = some (.int .i64 (hdA F i : Int)) ∧ W.cell? ⟨gb, i * 4 + 1, none⟩ = some (.int .i64 (toF F (hdA F i) : Int)) ∧ W.cell? ⟨gb, i * 4 + 3, none⟩ = some (.slice PA (prevL bs i).length pcap) ∧ gb < W.heap.size))
  obtain ⟨s0, s1, s2', s3, s4, s5, z0, z1, z2, z3⟩ := KS.out w4 (Below.refl _ _)
  clear p3 zp3 s5 s1
  go_quiet (fail)
  obtain ⟨w5, hw5⟩ : ∃ W, w4.drewN nq = W := ⟨_, rfl⟩
  have HB45 : Hid (Below w4.heap.size w4 w5) := Lib.hid (hw5 ▸ below_drewN (Below.refl _ _) _)
  rw [hw5]
  clear hw5 nq s0 s2' s3 s4 z0 z1 z2 z3
  obtain ⟨s0, -, s2', -, -, -, z0, -, -, -⟩ := KS.out w5 HB45.out
  have HFP : Hid (FinP p F O bs s vl (fun i => (allG { s2 with same := l } i).length) (fun i t => (insG { s2 with same := l } i t).length)) := HFP
  obtain ⟨gg, hgg⟩ : ∃ f : Nat → Nat, (fun i => (allG { s2 with same := l } i).length) = f := ⟨_, rfl⟩
  obtain ⟨cc, hcc⟩ : ∃ f : Nat → Nat → Nat, (fun i t => (insG { s2 with same := l } i t).length) = f := ⟨_, rfl⟩
  rw [hgg, hcc] at HFP
  have HPN : Hid (F.params.toNat = P) := Lib.hid (by rw [HPP.out, Int.toNat_natCast])
  clear hgg hcc
  go_wp2_with fail
  clear s0 s2' z0
  have hbig : ∀ i, i ≤ H → gg i ≤ 60 * i := fun i => by
    induction i with
    | zero => intro _; rw [HFP.out.g0]; omega
    | succ i ih =>
      intro hi
      have hib : i < bs.length := by rw [HBL.out]; omega
      have h1 := HFP.out.gs i hib
      have h2 := HFP.out.phl i hib
      have h3 : ∀ t, t ≤ (s.part i).ins.length → cc i t ≤ t := fun t => by
        induction t with
        | zero => intro _; rw [HFP.out.c0]; omega
        | succ t iht =>
          intro ht
          have h4 := HFP.out.iid i t hib (by omega)
          have h5 := iht (by omega)
          by_cases h6 : 0 ≤ (s.insA i t).id
          · have := (h4.1 h6).2; omega
          · have := h4.2 (by omega); omega
      have h7 := h3 _ (Nat.le_refl _)
      have h8 := HFP.out.il i hib
      have h9 := (toF_spec HRT.out HFM.out (hdA_mem2 (show i < (hdL F).length by rw [HH.out]; omega)).1).2.1
      have h10 := ih (by omega)
      rw [HM.out] at h9
      omega
  have HBIG := Lib.hid hbig
  clear hbig
  go_loopw [11, 12] (fun v11 v12 wr => ∃ i : Nat, i ≤ H ∧ v12 = .int .i64 (i : Int) ∧ v11 = .int .i64 ((P + gg i : Nat) : Int) ∧ Below w4.heap.size w4 wr) (fun _ v12 _ => H - (intOf v12).toNat)
  case atStart => exact ⟨0, by omega, rfl, by rw [HFP.out.g0]; rfl, HB45.out⟩
  case round =>
    obtain ⟨i, hiH, rfl, rfl, hb⟩ := hrel
    have HB := Lib.hid hb
    obtain ⟨s0, s1, s2', s3, s4, s5, z0, z1, z2, z3⟩ := KS.out wr hb
    by_cases hi0 : i = H
    · have hi0' := hi0.symm
      subst hi0'
      have hv : (vl : Int) = ((P + gg H : Nat) : Int) := by
        have h := HFP.out.vals
        rw [HPN.out, HBL.out] at h
        rw [h]
      rw [hv] at s1
      have he : (((P + gg H : Nat) : Int) == ((P + gg H : Nat) : Int)) = true := by simp
      generalize P + gg H = nx at *
      clear s0 s3 s4 s5 z1 z2 z3 hb
      go_wp2_with fail
      go_ret
      exact ⟨rfl, HB1.out.trans ((HB14.out.trans (HB.out.mono HB14.out.size)).mono HB1.out.size)⟩
    · have hi1 : i < H := by omega
      have hi2 : (i : Int) < H := by omega
      have hi3 : (0 : Int) ≤ i := by omega
      have hib : i < bs.length := by rw [HBL.out]; exact hi1
      have his : i < s.parts.length := by rw [HFP.out.len]; exact hib
      obtain ⟨n, hn⟩ : ∃ n, (s.part i).phis.length = n := ⟨_, rfl⟩
      obtain ⟨m, hm⟩ : ∃ n, (s.part i).ins.length = n := ⟨_, rfl⟩
      obtain ⟨pn, hpn⟩ : ∃ n, (prevL bs i).length = n := ⟨_, rfl⟩
      obtain ⟨a, ha⟩ : ∃ a, hdA F i = a := ⟨_, rfl⟩
      obtain ⟨z, hz⟩ : ∃ z, toF F (hdA F i) = z := ⟨_, rfl⟩
      have hn12 : n ≤ 12 := by rw [← hn]; exact HFP.out.phl i hib
      have hil := HFP.out.il i hib
      rw [hm, hz, ha] at hil
      have hsp := toF_spec HRT.out HFM.out (hdA_mem2 (show i < (hdL F).length by rw [HH.out]; exact hi1)).1
      have hz1 := hsp.1
      have hz2 := hsp.2.1
      rw [hz, HM.out] at hz2
      rw [hz, ha] at hz1
      have hzm : (z : Int) - (a : Int) = (m : Int) := by omega
      have hsb := KSB.out wr hb
      obtain ⟨Ah, ch, hvh, -, hhA⟩ := hsb.rowV (.phis i) (n := n) hn
      obtain ⟨Ai, ci, hvi, -, hiA⟩ := hsb.rowV (.ins i) (n := m) hm
      have hgg := HBIG.out i hiH
      have KP := Lib.hid (fun (W : World) (hb : Below w4.heap.size w4 W) => (by
        have hsb := KSB.out W hb
        obtain ⟨PA, pcap, e0, e1, e3, zgb⟩ := KB.out W hb i hi1
        have h1 := hsb.partCell HFP.out.inn HVP.out his
        rw [ha] at e0 e1
        rw [hz.symm.trans (by rw [ha])] at *
        rw [hvh, hvi] at h1
        rw [hpn] at e3
        have hb0 := hsb.blkCell HFP.out.inn HVP.out his
        rw [HFP.out.block i hib] at hb0
        exact ⟨hb0, h1.1, h1.2, e0, e1, PA, pcap, e3, zgb⟩ :
        W.cell? ⟨gp, i * 15, none⟩ = some (.int .i64 (i : Int)) ∧ W.cell? ⟨gp, i * 15 + 1, none⟩ = some (.slice Ah n ch) ∧ W.cell? ⟨gp, i * 15 + 2, none⟩ = some (.slice Ai m ci) ∧ W.cell? ⟨gb, i * 4, none⟩ = some (.int .i64 (a : Int)) ∧ W.cell? ⟨gb, i * 4 + 1, none⟩ = some (.int .i64 (z : Int)) ∧ ∃ PA pcap, W.cell? ⟨gb, i * 4 + 3, none⟩ = some (.slice PA pn pcap) ∧ gb < W.heap.size))
      obtain ⟨k0, k1, k2, e0, e1, PA, pcap, e3, zgb⟩ := KP.out wr hb
      have HHA := Lib.hid hhA
      have HIA := Lib.hid hiA
      have HVH := Lib.hid hvh
      have HVI := Lib.hid hvi
      have HN1 := Lib.hid hn
      have HM1 := Lib.hid hm
      have HIB := Lib.hid hib
      have HAE := Lib.hid ha
      have HPNL := Lib.hid hpn
      clear hsb hvh hvi hhA hiA hn hm hpn his hsp hil hb s0 s1 s3 s4 s5 z1 z2 k1 e3 hi0 ha hz hib PA pcap
      go_wp2_with fail
      go_quiet (fail)
      obtain ⟨w6, hw6⟩ : ∃ W, wr.drewN nq = W := ⟨_, rfl⟩
      have HB6 : Hid (Below w4.heap.size w4 w6) := Lib.hid (hw6 ▸ below_drewN HB.out _)
      rw [hw6]
      clear hw6 nq s2' z0 z3 k0 k2 e0 e1 zgb
      go_wp2_with fail
      go_loopw [11, 13] (fun v11 v13 wr => ∃ j : Nat, j ≤ n ∧ v13 = .int .i64 (j : Int) ∧ v11 = .int .i64 ((P + gg i + j : Nat) : Int) ∧ Below w4.heap.size w4 wr) (fun _ v13 _ => n - (intOf v13).toNat)
      case atStart => exact ⟨0, by omega, rfl, rfl, HB6.out⟩
      case round =>
        obtain ⟨j, hjn, rfl, rfl, hb⟩ := hrel
        clear HB HB6
        have HB := Lib.hid hb
        obtain ⟨s0, s1, s2', s3, s4, s5, z0, z1, z2, z3⟩ := KS.out wr hb
        obtain ⟨k0, k1, k2, e0, e1, PA, pcap, e3, zgb⟩ := KP.out wr hb
        by_cases hj0 : j = n
        · have hj0' := hj0.symm
          subst hj0'
          clear s0 s1 s3 s4 s5 z1 z2 k0 k2 e0 e1 e3 zgb hb
          go_wp2_with fail
          clear s2' z0 z3 k1
          go_loopw [11, 15] (fun v11 v15 wr => ∃ t : Nat, t ≤ m ∧ v15 = .int .i64 (t : Int) ∧ v11 = .int .i64 ((P + gg i + n + cc i t : Nat) : Int) ∧ Below w4.heap.size w4 wr) (fun _ v15 _ => m - (intOf v15).toNat)
          case atStart => exact ⟨0, by omega, rfl, by rw [HFP.out.c0]; rfl, HB.out⟩
          case round =>
            obtain ⟨t, htm, rfl, rfl, hb⟩ := hrel
            clear HB
            have HB := Lib.hid hb
            obtain ⟨s0, s1, s2', s3, s4, s5, z0, z1, z2, z3⟩ := KS.out wr hb
            obtain ⟨k0, k1, k2, e0, e1, PA, pcap, e3, zgb⟩ := KP.out wr hb
            by_cases ht0 : t = m
            · have ht0' := ht0.symm
              subst ht0'
              clear s0 s1 s3 s4 s5 z1 z2 k0 k1 e0 e1 e3 zgb hb
              go_wp2_with fail
              go_roundw
              case rel => exact ⟨i + 1, by omega, by go_num, by rw [HFP.out.gs i HIB.out, HN1.out, HM1.out, show P + (gg i + n + cc i m) = P + gg i + n + cc i m by omega], HB.out⟩
              case measure => simp [intOf]; omega
            · have ht1 : t < m := by omega
              have ht2 : (t : Int) < m := by omega
              have ht3 : (0 : Int) ≤ t := by omega
              obtain ⟨gi, rfl, -, -⟩ := HIA.out (by omega)
              have htl : t < (s.part i).ins.length := by rw [HM1.out]; exact ht1
              obtain ⟨q0, q1, q2, q3, q4, q5⟩ := (KSB.out wr hb).insCell (k := t) HVI.out htl
              obtain ⟨o1, o2, o3⟩ := HFP.out.iop i t HIB.out htl
              have hiid := HFP.out.iid i t HIB.out htl
              have zgi := Nat.lt_of_lt_of_le (HSB4.out.rlt (.ins i) (g := gi) (by rw [HVI.out]; rfl)).2 hb.size
              rw [HAE.out] at o1 o3
              obtain ⟨pc, hpc⟩ : ∃ n, a + t = n := ⟨_, rfl⟩
              rw [hpc] at o1 o3
              have hpc2 : (a : Int) + (t : Int) = (pc : Int) := by omega
              have hpcM : pc < M := by omega
              have hpcM2 : (pc : Int) < M := by omega
              have hpc0 : (0 : Int) ≤ pc := by omega
              have hx : F.code[pc]? = some (insAt F pc) := by unfold insAt; rw [List.getD_eq_getElem?_getD, List.getElem?_eq_getElem (by rw [HM.out]; exact hpcM)]; rfl
              have hop := (HINS.out pc _ hx).1
              have q6 : wr.cell? ⟨gc, pc * 5, none⟩ = some (.int .i64 (insAt F pc).op) := ((HB14.out.trans (hb.mono HB14.out.size)).cell (p := ⟨gc, _, none⟩) HGC.out).trans hop
              have zgc := Nat.lt_of_lt_of_le HGC.out (HB14.out.trans (hb.mono HB14.out.size)).size
              obtain ⟨x, hx2⟩ : ∃ x, s.insA i t = x := ⟨_, rfl⟩
              rw [hx2] at q0 q1 q2 q3 q4 q5 o1 o3 hiid
              obtain ⟨jo, jd, ja, jb, jm, jp⟩ := x
              simp only at q0 q1 q2 q3 q4 q5 o1 o3 hiid
              subst o3
              rw [← o1] at q6
              rw [HN1.out, HPN.out] at hiid
              obtain ⟨nx, hnx⟩ : ∃ x, P + gg i + n + cc i t = x := ⟨_, rfl⟩
              rw [hnx] at hiid ⊢
              have HNX := Lib.hid hnx
              have hnxb : nx ≤ 6000 := by
                have h1 : ∀ u, u ≤ m → cc i u ≤ u := fun u => by
                  induction u with
                  | zero => intro _; rw [HFP.out.c0]; omega
                  | succ u iht =>
                    intro hu
                    have h4 := HFP.out.iid i u HIB.out (by rw [HM1.out]; omega)
                    have h5 := iht (by omega)
                    by_cases h6 : 0 ≤ (s.insA i u).id
                    · have := (h4.1 h6).2; omega
                    · have := h4.2 (by omega); omega
                have := h1 t (by omega)
                omega
              obtain ⟨Lb, hLb⟩ : ∃ n, wr.heap.size = n := ⟨_, rfl⟩
              clear s0 s1 z3 k0 k1 e1 e3 hop hx hx2 ht0 o1 hnx
              go_wp2_with fail
              obtain ⟨w7, hw7⟩ : ∃ W, wr.alloc (.cells #[.int .i64 jo, .int .i64 jd, .int .i64 ja, .int .i64 jb, .int .i64 jm, .int .i64 (pc : Int)] 55) = W := ⟨_, rfl⟩
              have hb7 : Below wr.heap.size wr w7 := hw7 ▸ (Below.refl _ _).alloc (Nat.le_refl _) _
              have hB7 : w7.heap[Lb]? = some (.cells #[.int .i64 jo, .int .i64 jd, .int .i64 ja, .int .i64 jb, .int .i64 jm, .int .i64 (pc : Int)] 55 (0, 0)) := hw7 ▸ hLb ▸ heap_alloc_new _ _
              have HB7 : Hid (Below w4.heap.size w4 w7) := Lib.hid (HB.out.trans (hb7.mono HB.out.size))
              have HX7 := Lib.hid hB7
              rw [hw7]
              have q6' : w7.cell? ⟨gc, pc * 5, none⟩ = some (.int .i64 jo) := (hb7.cell (p := ⟨gc, _, none⟩) zgc).trans q6
              have zgc' := Nat.lt_of_lt_of_le zgc hb7.size
              clear hw7 hB7 q0 q1 q2 q3 q4 q5 q6 zgc zgi s2' s3 s4 s5 z0 z1 z2 k2 e0 zgb hLb hb7
              obtain ⟨s0, s1, s2', s3, s4, s5, z0, z1, z2, z3⟩ := KS.out w7 HB7.out
              obtain ⟨k0, k1, k2, e0, e1, PA, pcap, e3, zgb⟩ := KP.out w7 HB7.out
              have r0 : w7.cell? ⟨Lb, 0, none⟩ = some (.int .i64 jo) := cell_block HX7.out 0
              have r1 : w7.cell? ⟨Lb, 1, none⟩ = some (.int .i64 jd) := cell_block HX7.out 1
              have r5 : w7.cell? ⟨Lb, 5, none⟩ = some (.int .i64 (pc : Int)) := cell_block HX7.out 5
              have zL := block_lt HX7.out
              clear s0 s1 s2' z0 z3 k0 k1 k2 e1 e3 PA pcap
              go_quiet (fail)
              obtain ⟨w8, hw8⟩ : ∃ W, w7.drewN nq = W := ⟨_, rfl⟩
              have HB8 : Hid (Below w4.heap.size w4 w8) := Lib.hid (hw8 ▸ below_drewN HB7.out _)
              have r1' : w8.cell? ⟨Lb, 1, none⟩ = some (.int .i64 jd) := hw8 ▸ ((below_drewN (Below.refl w7.heap.size w7) nq).cell (p := ⟨Lb, _, none⟩) zL).trans r1
              have zL' : Lb < w8.heap.size := hw8 ▸ Nat.lt_of_lt_of_le zL (below_drewN (Below.refl w7.heap.size w7) nq).size
              rw [hw8]
              clear hw8 nq s3 s4 s5 z1 z2 e0 zgb r0 r1 r5 zL q6' zgc'
              by_cases hj0 : 0 ≤ jd
              · obtain ⟨hid1, hid2⟩ := hiid.1 hj0
                have hdj : decide (jd ≥ 0) = true := by simpa using hj0
                subst hid1
                clear hiid hj0
                go_wp2_with fail
                go_roundw
                case rel => exact ⟨t + 1, by omega, by go_num, by rw [hid2, show P + gg i + n + (cc i t + 1) = nx + 1 by have := HNX.out; omega]; go_num, HB8.out⟩
                case measure => simp [intOf]; omega
              · have hid2 := hiid.2 (by omega)
                have hdj : decide (jd ≥ 0) = false := by simpa using hj0
                clear hiid hj0
                go_wp2_with fail
                go_roundw
                case rel => exact ⟨t + 1, by omega, by go_num, by rw [hid2, HNX.out], HB8.out⟩
                case measure => simp [intOf]; omega
        · have hj1 : j < n := by omega
          have hj2 : (j : Int) < n := by omega
          have hj3 : (0 : Int) ≤ j := by omega
          obtain ⟨gh, rfl, -, -⟩ := HHA.out (by omega)
          have hjl : j < (s.part i).phis.length := by rw [HN1.out]; exact hj1
          obtain ⟨q0, q1, q2⟩ := (KSB.out wr hb).phiCell HVH.out hjl
          obtain ⟨p1, p2⟩ := HFP.out.pid i j HIB.out hjl
          obtain ⟨Aa, ca, hva, -⟩ := (KSB.out wr hb).argCells i j (n := pn) (by show (s.phi i j).args.length = pn; rw [p2, HPNL.out])
          rw [HPN.out] at p1
          obtain ⟨nx, hnx⟩ : ∃ x, P + gg i + j = x := ⟨_, rfl⟩
          rw [hnx] at p1 ⊢
          have HNX := Lib.hid hnx
          have hnxb : nx ≤ 6000 := by omega
          rw [p1] at q1
          rw [hva] at q2
          obtain ⟨rg, hrg⟩ : ∃ r, (s.phi i j).reg = r := ⟨_, rfl⟩
          rw [hrg] at q0
          have HRG := Lib.hid hrg
          have zgh := Nat.lt_of_lt_of_le (HSB4.out.rlt (.phis i) (g := gh) (by rw [HVH.out]; rfl)).2 hb.size
          obtain ⟨Lb, hLb⟩ : ∃ n, wr.heap.size = n := ⟨_, rfl⟩
          clear s0 s1 s3 s4 s5 z1 z2 k0 k2 e0 e1 hnx p1 p2 hva hrg hj0
          go_wp2_with fail
          obtain ⟨w7, hw7⟩ : ∃ W, wr.alloc (.cells #[.int .i64 rg, .int .i64 (nx : Int), .slice Aa pn ca] 53) = W := ⟨_, rfl⟩
          have hb7 : Below wr.heap.size wr w7 := hw7 ▸ (Below.refl _ _).alloc (Nat.le_refl _) _
          have hB7 : w7.heap[Lb]? = some (.cells #[.int .i64 rg, .int .i64 (nx : Int), .slice Aa pn ca] 53 (0, 0)) := hw7 ▸ hLb ▸ heap_alloc_new _ _
          have HB7 : Hid (Below w4.heap.size w4 w7) := Lib.hid (HB.out.trans (hb7.mono HB.out.size))
          have HX7 := Lib.hid hB7
          rw [hw7]
          clear hw7 hB7 q0 q1 q2 zgh s2' z0 z3 k1 e3 zgb hLb hb7 PA pcap
          obtain ⟨s0, s1, s2', s3, s4, s5, z0, z1, z2, z3⟩ := KS.out w7 HB7.out
          obtain ⟨k0, k1, k2, e0, e1, PA, pcap, e3, zgb⟩ := KP.out w7 HB7.out
          have r0 : w7.cell? ⟨Lb, 0, none⟩ = some (.int .i64 rg) := cell_block HX7.out 0
          have r1 : w7.cell? ⟨Lb, 1, none⟩ = some (.int .i64 (nx : Int)) := cell_block HX7.out 1
          have r2 : w7.cell? ⟨Lb, 2, none⟩ = some (.slice Aa pn ca) := cell_block HX7.out 2
          have zL := block_lt HX7.out
          clear s0 s1 s3 s4 s5 z1 z2 k0 k2 e0 e1 hb
          by_cases hjz : j = 0
          · subst hjz
            have hd0 : decide ((0 : Int) < 0) = false := rfl
            rw [show ((0 : Nat) : Int) = 0 from rfl]
            go_quiet (fail)
            go_wp2_with fail
            go_roundw
            case rel => exact ⟨0 + 1, by omega, by go_num, by rw [show P + gg i + (0 + 1) = nx + 1 by have := HNX.out; omega]; go_num, below_drewN HB7.out _⟩
            case measure => simp [intOf]; omega
          · obtain ⟨j', hj'⟩ : ∃ u, j = u + 1 := ⟨j - 1, by omega⟩
            have hjm : (j : Int) - 1 = (j' : Int) := by omega
            have hd0 : decide ((0 : Int) < j) = true := by rw [decide_eq_true_eq]; omega
            have hd1 : decide (0 < j) = true := by rw [decide_eq_true_eq]; omega
            have hj'l : j' < (s.part i).phis.length := by omega
            have hj'1 : (j' : Int) < n := by omega
            have hj'0 : (0 : Int) ≤ j' := by omega
            obtain ⟨rg', hrg'⟩ : ∃ r, (s.phi i j').reg = r := ⟨_, rfl⟩
            have hcr := ((KSB.out w7 HB7.out).phiCell HVH.out hj'l).1
            rw [hrg'] at hcr
            have zgh := Nat.lt_of_lt_of_le (HSB4.out.rlt (.phis i) (g := gh) (by rw [HVH.out]; rfl)).2 HB7.out.size
            have hlt : rg' < rg := by
              have h := HFP.out.pinc i j' HIB.out (by rw [← hj']; exact hjl)
              rw [← hj', HRG.out, hrg'] at h; exact h
            have hle : decide (rg ≤ rg') = false := by rw [decide_eq_false_iff_not]; omega
            clear hj' hrg' hlt hj'l hjl
            go_quiet (fail)
            go_wp2_with fail
            go_roundw
            case rel => exact ⟨j + 1, by omega, by go_num, by rw [show P + gg i + (j + 1) = nx + 1 by have := HNX.out; omega]; go_num, below_drewN HB7.out _⟩
            case measure => simp [intOf]; omega
end Go.Proofs.YtlciakkbgaakiaaDoor
