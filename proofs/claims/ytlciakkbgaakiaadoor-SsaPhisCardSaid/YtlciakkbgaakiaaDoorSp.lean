/-
  The walk of SsaPhis: it returns true.
-/
import Derived.Test.YtlciakkbgaakiaaDoorSv3
import Derived.Test.YtlciakkbgaakiaaDoorPgS
import Derived.Test.YtlciakkbgaakiaaDoorOpn
namespace Go.Proofs.YtlciakkbgaakiaaDoor
open Go.RowKit Tier
theorem SbAt.blkCell {w : World} {b : Nat} {c : SC} {s : SB} {V : SK → Value} (h : SbAt w b c s V) (hs : ∀ x ∈ s.parts, x.inn.length = 12) {g n cap : Nat} (hv : V .parts = .slice (some ⟨g, 0, none⟩) n cap) {i : Nat} (hi : i < s.parts.length) : w.cell? ⟨g, i * 15, none⟩ = some (.int .i64 (s.part i).block) := by
  refine h.own.cell .parts (by rw [rowsOf_v]; exact hv) ?_
  show (partsCells s.parts _ _)[i * 15]? = _
  unfold partsCells
  exact flat_at (f := fun j => (s.parts.getD j noPart).cells (V (.phis j)) (V (.ins j))) (t := 0) (fun k hk => part_len hs hk _ _) hi (by omega)
set_option maxRecDepth 100000 in
set_option maxHeartbeats 8000000 in
theorem ssaPhis_walk (A : Option Addr) (l : List Fnc) (cap : Nat) (fn : Int) (w : World) (ht : Tab w) (hraw : RawsAt w A l) (hln : (l.length : Int) ≤ 9223372036854775807) (hfn : In fn) :
    Calls Tryd.prog 6 #[.slice A l.length cap, .int .i64 fn] w fun e w' => e = .returned (.bool true) ∧ Below w.heap.size w w' := by
  have HT := Lib.hid ht
  have HR := Lib.hid hraw
  have HCK := Lib.hid (mkP_right l)
  clear ht hraw
  go_enter Tryd.func6, Tryd.ntmps6
  go_wp2_with fail
  refine (program_any A cap l _ HT.out hln HR.out).mono ?_
  rintro e w1 ⟨⟨A1, cap1, vs, rfl, hpv⟩, hb1⟩
  have HPV := Lib.hid hpv
  have HB1 := Lib.hid hb1
  clear hpv hb1
  generalize mkP l = p at *
  have hRT := right_of HCK.out
  have hE : progE p = 0 := progE_ck HCK.out
  have hl1 := hRT.ok.l1
  have hl2 := hRT.ok.l2
  have hpk := picked_in fn p.length (by omega)
  obtain ⟨k, hk⟩ : ∃ k : Nat, pickedI fn p.length = k := ⟨(pickedI fn p.length).toNat, by omega⟩
  rw [hk] at hpk
  have HPK := Lib.hid (fun (W : World) => picked_any fn p.length W hfn (by omega) (by omega))
  rw [hk] at HPK
  clear hk
  obtain ⟨A0, cap0, hA0, hA⟩ := HPV.out.at.slice
  simp only [Value.slice.injEq, true_and] at hA0
  obtain ⟨g, hAg, hg, hfn'⟩ := hA (by omega)
  obtain ⟨rfl, rfl⟩ := hA0
  have hkl : k < p.length := by omega
  obtain ⟨F, hF⟩ : ∃ f, p[k]? = some f := ⟨p[k], List.getElem?_eq_getElem hkl⟩
  have hfo := hRT.ok.fn F (List.mem_of_getElem? hF)
  obtain ⟨u, hu, c0, c1, c2⟩ := hfn' k F hF
  obtain ⟨FA, fcap, rfl, hFA⟩ := hu.slice
  subst hAg
  have HBU := Lib.hid (fun (W : World) (h1 : Tab W) (h2 : ProgAt W (.slice (some ⟨g, 0, none⟩) p.length cap1) p) => build_all (some ⟨g, 0, none⟩) cap1 k W h1 h2 HCK.out hF)
  have HBK := Lib.hid (fun (W : World) (h1 : Tab W) (h2 : ProgAt W (.slice (some ⟨g, 0, none⟩) p.length cap1) p) => blocks_any p (some ⟨g, 0, none⟩) cap1 k F W h1 h2 HCK.out hF)
  have HLV := Lib.hid (fun (W : World) (h1 : Tab W) (h2 : ProgAt W (.slice (some ⟨g, 0, none⟩) p.length cap1) p) => live_any p (some ⟨g, 0, none⟩) cap1 k F W h1 h2 HCK.out hF)
  have HSL := Lib.hid (sureF_length hfo.cok hfo.p2)
  have HF := Lib.hid hF
  have HFM := Lib.hid (List.mem_of_getElem? hF)
  have HRT := Lib.hid hRT
  have HFO := Lib.hid hfo
  have n1 := hfo.c1
  have n2 := hfo.c2
  have HFA := Lib.hid hFA
  obtain ⟨M, hM⟩ : ∃ M, F.code.length = M := ⟨_, rfl⟩
  have HM := Lib.hid hM
  rw [hM] at  HSL n1 n2 c2
  have hk0 : (0 : Int) ≤ k := by omega
  have hk1 : (k : Int) < p.length := by omega
  clear hA hfn' hF hu hfo hM hRT hFA
  obtain ⟨N, hN⟩ : ∃ N, p.length = N := ⟨_, rfl⟩
  have HN := Lib.hid hN
  rw [hN] at HPK HBU HBK HLV hl1 hl2 hkl hk1 hpk ⊢
  have HPA := Lib.hid (show ProgAt w1 (.slice (some ⟨g, 0, none⟩) N cap1) p from by have := HPV.out.at; rw [hN] at this; exact this)
  clear hN hE
  have HXA := Lib.hid ((Below.refl w1.heap.size w1).alloc (Nat.le_refl _) (.cells #[.slice (some ⟨g, 0, none⟩) N cap1] 25))
  obtain ⟨H, hH⟩ : ∃ H, (hdL F).length = H := ⟨_, rfl⟩
  have HH := Lib.hid hH
  have hHM : H ≤ 40 := by have h1 := hdTo_len F F.code.length; have h2 : hdTo F F.code.length = hdL F := rfl; rw [h2, hH, HM.out] at h1; omega
  have hH1 : 0 < H := by have := (List.getElem?_eq_some_iff.1 (zero_head HRT.out HFM.out)).1; omega
  obtain ⟨gc, hgc, hgcl, hins⟩ := HFA.out (by rw [HM.out]; omega)
  have HGC := Lib.hid hgcl
  have HINS := Lib.hid hins
  subst hgc
  obtain ⟨P, hP⟩ : ∃ n : Nat, F.params = n := ⟨F.params.toNat, by have := HFO.out.p1; omega⟩
  have HPP := Lib.hid hP
  have hP2 : P ≤ 2 := by have := HFO.out.p2; omega
  rw [hP] at c0
  have HC0 := Lib.hid (show w1.cell? ⟨g, k * 3, none⟩ = some (.int .i64 (P : Int)) ∧ w1.cell? ⟨g, k * 3 + 1, none⟩ = some (.int .i64 F.regs) ∧ w1.cell? ⟨g, k * 3 + 2, none⟩ = some (.slice (some ⟨gc, 0, none⟩) M fcap) from ⟨c0, c1, c2⟩)
  clear hH hins hgcl hP c0 c1 c2
  go_wp2_with (first | (go_at_call 18; go_must (refine (HPK.out _).mono ?_; rintro e w' ⟨rfl, rfl⟩)) | (go_at_call 17; go_must (refine (HBU.out _ (HT.out.keeps (HB1.out.alloc HB1.out.size _)) (HPA.out.keeps HXA.out)).mono ?_; rintro e w2 ⟨⟨b, c, s, V, O, bs, K, s2, l, rfl, hbb, hsb, hbl⟩, hb⟩; have HBX := Lib.hid (BuiltX.mk hbl HCK.out HFM.out rfl : BuiltX p F O bs K _ s2 l s); have HFP := Lib.hid HBX.out.finP; have hbsl : bs.length = H := (by rw [hbl.bok.len, HH.out]); have HBL := Lib.hid hbsl; obtain ⟨Ap, cp, hvp, -, hpA⟩ := hsb.rowV .parts (n := H) (by show s.parts.length = H; rw [HFP.out.len, hbsl]); obtain ⟨gp, rfl, -, -⟩ := hpA hH1; have HVP := Lib.hid hvp; obtain ⟨vl, hvl⟩ : ∃ v, valN F bs s2 l = v := ⟨_, rfl⟩; have HVL := Lib.hid hvl; have HSB := Lib.hid hsb; have HBB := Lib.hid hbb; rw [hvp, show ((F.params.toNat + (allG { s2 with same := l } bs.length).length : Nat) : Int) = ((vl : Nat) : Int) from congrArg Int.ofNat hvl, HPP.out]; rw [hvl] at HFP; have HB12 := Lib.hid (HXA.out.trans (hb.mono HXA.out.size)); have HX2 := Lib.hid ((hb.block w1.heap.size (by simp)).trans (heap_alloc_new w1 _)); have q2 := cell_block HX2.out; have z2 := block_lt HX2.out; clear hbb hsb hbl hb hvp hvl hbsl hpA)))
  obtain ⟨w3, hw3⟩ : ∃ W, w2.alloc (.cells #[.int .i64 (P : Int), .int .i64 (vl : Int), .slice (some ⟨gp, 0, none⟩) H cp] 36) = W := ⟨_, rfl⟩
  have HXS : Hid (w3.heap[w2.heap.size]? = some (.cells #[.int .i64 (P : Int), .int .i64 (vl : Int), .slice (some ⟨gp, 0, none⟩) H cp] 36 (0, 0))) := Lib.hid (hw3 ▸ heap_alloc_new _ _)
  have HB23 : Hid (Below w2.heap.size w2 w3) := Lib.hid (hw3 ▸ (Below.refl _ _).alloc (Nat.le_refl _) _)
  have HB13 : Hid (Below w1.heap.size w1 w3) := Lib.hid (HB12.out.trans (HB23.out.mono HB12.out.size))
  have HXP : Hid (w3.heap[w1.heap.size]? = some (.cells #[.slice (some ⟨g, 0, none⟩) N cap1] 25 (0, 0))) := Lib.hid ((HB23.out.block _ (block_lt HX2.out)).trans HX2.out)
  rw [hw3]
  obtain ⟨Lp, hLp⟩ : ∃ n, w1.heap.size = n := ⟨_, rfl⟩
  obtain ⟨Ls, hLs⟩ : ∃ n, w2.heap.size = n := ⟨_, rfl⟩
  have HLP := Lib.hid hLp
  have HLS := Lib.hid hLs
  rw [hLp, hLs]
  rw [hLp] at HXP
  rw [hLs] at HXS
  have p3 : w3.cell? ⟨Lp, 0, none⟩ = some (.slice (some ⟨g, 0, none⟩) N cap1) := cell_block HXP.out 0
  have zp3 := block_lt HXP.out
  clear hw3 q2 z2 hLp hLs
  go_upto_region 6 with (first | (go_at_call 19; go_must (refine (HBK.out _ (HT.out.keeps (HB1.out.trans (HB13.out.mono HB1.out.size))) (HPA.out.keeps HB13.out)).mono ?_; rintro e wq ⟨⟨gb, Bb, bs2, rfl, hgb, hBK, hOK⟩, hb⟩; rw [HH.out]; have HB3Q := Lib.hid hb; have HBLKQ := Lib.hid hBK; have HOK2 := Lib.hid hOK; have pq : wq.cell? ⟨Lp, 0, none⟩ = some (.slice (some ⟨g, 0, none⟩) N cap1) := (hb.cell (p := ⟨Lp, _, none⟩) zp3).trans p3; have zpq := Nat.lt_of_lt_of_le zp3 hb.size; clear hgb hBK hOK hb p3 zp3)) | (go_at_call 21; go_must (refine (HLV.out _ (HT.out.keeps (HB1.out.trans ((HB13.out.trans (HB3Q.out.mono HB13.out.size)).mono HB1.out.size))) (HPA.out.keeps (HB13.out.trans (HB3Q.out.mono HB13.out.size)))).mono ?_; rintro e w4 ⟨⟨lb, O2, rfl, hlb, hint, hlok⟩, hb⟩; rw [HM.out]; have HB34 := Lib.hid (HB3Q.out.trans (hb.mono HB3Q.out.size)); have HBLK := Lib.hid (HBLKQ.out.keeps hb); have hOO : O2 = O := hlok.unique HBX.out.b.lok; subst hOO; have HINT := Lib.hid hint; clear hlb hint hlok hb pq zpq)))
  have HB14 : Hid (Below w1.heap.size w1 w4) := Lib.hid (HB13.out.trans (HB34.out.mono HB13.out.size))
  have HB24 : Hid (Below w2.heap.size w2 w4) := Lib.hid (HB23.out.trans (HB34.out.mono HB23.out.size))
  have HSB4 : Hid (SbAt w4 b c s V) := Lib.hid (HSB.out.keeps HB24.out)
  have KS := Lib.hid (fun (W : World) (hb : Below w4.heap.size w4 W) => (⟨(hb.cell (p := ⟨Ls, _, none⟩) (Nat.lt_of_lt_of_le (block_lt HXS.out) HB34.out.size)).trans ((HB34.out.cell (p := ⟨Ls, _, none⟩) (block_lt HXS.out)).trans (cell_block HXS.out 0)), (hb.cell (p := ⟨Ls, _, none⟩) (Nat.lt_of_lt_of_le (block_lt HXS.out) HB34.out.size)).trans ((HB34.out.cell (p := ⟨Ls, _, none⟩) (block_lt HXS.out)).trans (cell_block HXS.out 1)), (hb.cell (p := ⟨Ls, _, none⟩) (Nat.lt_of_lt_of_le (block_lt HXS.out) HB34.out.size)).trans ((HB34.out.cell (p := ⟨Ls, _, none⟩) (block_lt HXS.out)).trans (cell_block HXS.out 2)), (hb.cell (p := ⟨Lp, _, none⟩) (Nat.lt_of_lt_of_le (block_lt HXP.out) HB34.out.size)).trans ((HB34.out.cell (p := ⟨Lp, _, none⟩) (block_lt HXP.out)).trans (cell_block HXP.out 0)), (hb.cell (p := ⟨g, _, none⟩) (Nat.lt_of_lt_of_le hg HB14.out.size)).trans ((HB14.out.cell (p := ⟨g, _, none⟩) hg).trans HC0.out.1), (hb.cell (p := ⟨g, _, none⟩) (Nat.lt_of_lt_of_le hg HB14.out.size)).trans ((HB14.out.cell (p := ⟨g, _, none⟩) hg).trans HC0.out.2.2), Nat.lt_of_lt_of_le (Nat.lt_of_lt_of_le (block_lt HXS.out) HB34.out.size) hb.size, Nat.lt_of_lt_of_le (Nat.lt_of_lt_of_le (block_lt HXP.out) HB34.out.size) hb.size, Nat.lt_of_lt_of_le (Nat.lt_of_lt_of_le hg HB14.out.size) hb.size, Nat.lt_of_lt_of_le (HSB4.out.rlt .parts (g := gp) (by rw [HVP.out]; rfl)).2 hb.size⟩ :
    W.cell? ⟨Ls, 0, none⟩ = some (.int .i64 (P : Int)) ∧ W.cell? ⟨Ls, 1, none⟩ = some (.int .i64 (vl : Int)) ∧ W.cell? ⟨Ls, 2, none⟩ = some (.slice (some ⟨gp, 0, none⟩) H cp) ∧ W.cell? ⟨Lp, 0, none⟩ = some (.slice (some ⟨g, 0, none⟩) N cap1) ∧ W.cell? ⟨g, k * 3, none⟩ = some (.int .i64 (P : Int)) ∧ W.cell? ⟨g, k * 3 + 2, none⟩ = some (.slice (some ⟨gc, 0, none⟩) M fcap) ∧ Ls < W.heap.size ∧ Lp < W.heap.size ∧ g < W.heap.size ∧ gp < W.heap.size))
  have KSB := Lib.hid (fun (W : World) (hb : Below w4.heap.size w4 W) => (HSB4.out.keeps hb : SbAt W b c s V))
  have KB := Lib.hid (fun (W : World) (hb : Below w4.heap.size w4 W) (i : Nat) (hi : i < H) => (by
    obtain ⟨r, hr⟩ : ∃ r, bs2[i]? = some r := ⟨_, List.getElem?_eq_getElem (by rw [HOK2.out.len, HH.out]; exact hi)⟩
    obtain ⟨e1, e2, -, e4⟩ := HOK2.out.at_ i r hr
    obtain ⟨PA, pcap, hpv, -⟩ := own_slice (HBLK.out.rows.own i r true hr)
    have hpv' : r.pv = .slice PA r.pl.length pcap := hpv
    have zb := block_lt HBLK.out.blk
    have hpl : prevL bs i = prevF F i := prevL_eq HBX.out.b.bok (by rw [HBL.out]; exact hi)
    exact ⟨PA, pcap, (hb.cell (p := ⟨gb, _, none⟩) zb).trans ((HBLK.out.cell hr (j := 0) (by omega)).trans (by show some (Value.int .i64 r.fr) = _; rw [e1])), (hb.cell (p := ⟨gb, _, none⟩) zb).trans ((HBLK.out.cell hr (j := 1) (by omega)).trans (by show some (Value.int .i64 r.to) = _; rw [e2])), (hb.cell (p := ⟨gb, _, none⟩) zb).trans ((HBLK.out.cell hr (j := 3) (by omega)).trans (by show some r.pv = _; rw [hpv', e4, ← hpl])), Nat.lt_of_lt_of_le zb hb.size⟩ :
    ∃ PA pcap, W.cell? ⟨gb, i * 4, none⟩ = some (.int .i64 (hdA F i : Int)) ∧ W.cell? ⟨gb, i * 4 + 1, none⟩ = some (.int .i64 (toF F (hdA F i) : Int)) ∧ W.cell? ⟨gb, i * 4 + 3, none⟩ = some (.slice PA (prevL bs i).length pcap) ∧ gb < W.heap.size))
  have hHz : ((H : Int) == 0) = false := beq_eq_false_iff_ne.2 (by omega)
  obtain ⟨s0, s1, s2', s3, s4, s5, z0, z1, z2, z3⟩ := KS.out w4 (Below.refl _ _)
  clear s0 s1 s4 z3
  have HB45 : Hid (Below w4.heap.size w4 w4) := Lib.hid (Below.refl _ _)
  go_wp2_with fail
  clear s2' s3 s5 z0 z1 z2 hHz
  go_loopw [13] (fun v13 wr => ∃ i : Nat, i ≤ H ∧ v13 = .int .i64 (i : Int) ∧ Below w4.heap.size w4 wr) (fun v13 _ => H - (intOf v13).toNat)
  case atStart => exact ⟨0, by omega, rfl, HB45.out⟩
  case round =>
    obtain ⟨i, hiH, rfl, hb⟩ := hrel
    have HB := Lib.hid hb
    obtain ⟨s0, s1, s2', s3, s4, s5, z0, z1, z2, z3⟩ := KS.out wr hb
    by_cases hi0 : i = H
    · have hi0' := hi0.symm
      subst hi0'
      clear s0 s1 s3 s4 s5 z1 z2 z3 hb
      go_wp2_with fail
      go_ret
      exact ⟨rfl, HB1.out.trans ((HB14.out.trans (HB.out.mono HB14.out.size)).mono HB1.out.size)⟩
    · have hi1 : i < H := by omega
      have hi2 : (i : Int) < H := by omega
      have hi3 : (0 : Int) ≤ i := by omega
      have hib : i < bs.length := by rw [HBL.out]; exact hi1
      have his : i < s.parts.length := by rw [HFP.out.len]; exact hib
      obtain ⟨n, hn⟩ : ∃ n, (s.part i).phis.length = n := ⟨_, rfl⟩
      obtain ⟨pn, hpn⟩ : ∃ n, (prevL bs i).length = n := ⟨_, rfl⟩
      obtain ⟨a, ha⟩ : ∃ a, hdA F i = a := ⟨_, rfl⟩
      have hn12 : n ≤ 12 := by rw [← hn]; exact HFP.out.phl i hib
      obtain ⟨ham, -⟩ := hdA_mem2 (F := F) (show i < (hdL F).length by rw [HH.out]; exact hi1)
      obtain ⟨ha1, ha2⟩ := head_rch HRT.out HFM.out ham
      rw [ha] at ha1 ha2
      have ha1N : a < F.code.length := ha1
      rw [HM.out] at ha1
      have ha1' : (a : Int) < M := by omega
      have ha0 : (0 : Int) ≤ a := by omega
      have hsb := KSB.out wr hb
      obtain ⟨Ah, ch, hvh, -, hhA⟩ := hsb.rowV (.phis i) (n := n) hn
      have hpj : 0 < n → 1 < pn := fun h0 => by rw [← hpn]; exact HFP.out.pjn i hib (by rw [hn]; exact h0)
      obtain ⟨Lm, hLm⟩ : ∃ x, O2.getD a 0 = x := ⟨_, rfl⟩
      have hlc := HINT.out.cell (outL_get (liveL_get ha1N))
      rw [ha2, if_pos rfl, hLm] at hlc
      have zlb := HINT.out.lt
      have KP := Lib.hid (fun (W : World) (hb : Below w4.heap.size w4 W) => (by
        have hsb := KSB.out W hb
        obtain ⟨PA, pcap, e0, e1, e3, zgb⟩ := KB.out W hb i hi1
        have h1 := hsb.partCell HFP.out.inn HVP.out his
        rw [ha] at e0
        rw [hvh] at h1
        rw [hpn] at e3
        exact ⟨h1.1, e0, (hb.cell (p := ⟨lb, _, none⟩) zlb).trans hlc, PA, pcap, e3, zgb, Nat.lt_of_lt_of_le zlb hb.size⟩ :
        W.cell? ⟨gp, i * 15 + 1, none⟩ = some (.slice Ah n ch) ∧ W.cell? ⟨gb, i * 4, none⟩ = some (.int .i64 (a : Int)) ∧ W.cell? ⟨lb, a, none⟩ = some (.int .i64 (Lm : Int)) ∧ ∃ PA pcap, W.cell? ⟨gb, i * 4 + 3, none⟩ = some (.slice PA pn pcap) ∧ gb < W.heap.size ∧ lb < W.heap.size))
      obtain ⟨k1, e0, el, PA, pcap, e3, zgb, zlb'⟩ := KP.out wr hb
      have HHA := Lib.hid hhA
      have HVH := Lib.hid hvh
      have HN1 := Lib.hid hn
      have HIB := Lib.hid hib
      have HIS := Lib.hid his
      have HAE := Lib.hid ha
      have HPNL := Lib.hid hpn
      have HLM := Lib.hid hLm
      have HPJ := Lib.hid hpj
      clear hsb hvh hhA hn hpn ham hb s0 s1 s3 s4 s5 z1 z2 hi0 ha hib his hLm hlc zlb hpj ha2 ha1N e0 el zlb'
      have hcut : ∃ b1 b2 : Bool, decide ((n : Int) > 0) = b1 ∧ decide ((0 : Int) < n) = b1 ∧ decide (0 < n) = b1 ∧ decide ((pn : Int) < 2) = b2 ∧ decide (pn < 2) = b2 ∧ (b1 && b2) = false := by
        by_cases h0 : 0 < n
        · have := HPJ.out h0
          exact ⟨true, false, by rw [decide_eq_true_eq]; omega, by rw [decide_eq_true_eq]; omega, by rw [decide_eq_true_eq]; exact h0, by rw [decide_eq_false_iff_not]; omega, by rw [decide_eq_false_iff_not]; omega, rfl⟩
        · exact ⟨false, decide (pn < 2), by rw [decide_eq_false_iff_not]; omega, by rw [decide_eq_false_iff_not]; omega, by rw [decide_eq_false_iff_not]; exact h0, by congr 1; apply propext; omega, rfl, rfl⟩
      obtain ⟨b1, b2, d1, d2, d3, d4, d5, d6⟩ := hcut
      cases b1 with
      | false =>
        clear d4 d5 d6
        go_wp2_with fail
        clear d1 d2 d3 s2' z0 z3 k1 e3 zgb
        go_loopw [14] (fun v14 wr => ∃ j : Nat, j ≤ n ∧ v14 = .int .i64 (j : Int) ∧ Below w4.heap.size w4 wr) (fun v14 _ => n - (intOf v14).toNat)
        case atStart => exact ⟨0, by omega, rfl, HB.out⟩
        case round =>
          obtain ⟨j, hjn, rfl, hb⟩ := hrel
          clear HB
          have HB := Lib.hid hb
          obtain ⟨s0, s1, s2', s3, s4, s5, z0, z1, z2, z3⟩ := KS.out wr hb
          obtain ⟨k1, e0, el, PA, pcap, e3, zgb, zlb'⟩ := KP.out wr hb
          clear e3 PA pcap
          by_cases hj0 : j = n
          · have hj0' := hj0.symm
            subst hj0'
            clear s0 s1 s3 s4 s5 z1 z2 e0 el zgb zlb' hb
            go_wp2_with fail
            go_roundw
            case rel => exact ⟨i + 1, by omega, by go_num, HB.out⟩
            case measure => simp [intOf]; omega
          · have hj1 : j < n := by omega
            have hj2 : (j : Int) < n := by omega
            have hj3 : (0 : Int) ≤ j := by omega
            obtain ⟨gh, rfl, -, -⟩ := HHA.out (by omega)
            have hjl : j < (s.part i).phis.length := by rw [HN1.out]; exact hj1
            obtain ⟨q0, q1, q2⟩ := (KSB.out wr hb).phiCell HVH.out hjl
            obtain ⟨pa, hpa⟩ : ∃ n, (s.arg i j).length = n := ⟨_, rfl⟩
            obtain ⟨Aa, ca, hva, -⟩ := (KSB.out wr hb).argCells i j (n := pa) hpa
            obtain ⟨rg, hrg, hr12, hbit, hinn⟩ := HFP.out.preg i j HIB.out hjl
            rw [hva] at q2
            rw [hrg] at q0
            obtain ⟨id, hid⟩ : ∃ x, (s.phi i j).id = x := ⟨_, rfl⟩
            rw [hid] at q1 hinn
            have HIN := Lib.hid hinn
            have zgh := Nat.lt_of_lt_of_le (HSB4.out.rlt (.phis i) (g := gh) (by rw [HVH.out]; rfl)).2 hb.size
            obtain ⟨Lb, hLb⟩ : ∃ n, wr.heap.size = n := ⟨_, rfl⟩
            rw [HAE.out, HLM.out] at hbit
            have hdv : (Lm : Int) / 2 ^ rg = ((Lm / 2 ^ rg : Nat) : Int) := by push_cast; rfl
            have hba := live_nat3 Lm rg
            have htb : Lm.testBit rg = decide (Lm / 2 ^ rg % 2 = 1) := Nat.testBit_eq_decide_div_mod_eq
            have hm2 : Lm / 2 ^ rg % 2 = 1 := by rw [hbit] at htb; exact of_decide_eq_true htb.symm
            obtain ⟨d, hd⟩ : ∃ d, Lm / 2 ^ rg = d := ⟨_, rfl⟩
            rw [hd] at hdv hba hm2
            have hba1 : bits .and .i64 (d : Int) 1 = 1 := by rw [hba, hm2]; rfl
            have hr1 : (rg : Int) < 12 := by omega
            have hr0 : (0 : Int) ≤ rg := by omega
            clear s0 s1 s3 s4 s5 z1 z2 e0 el zgb zlb' hva hrg hid hj0 hjl hbit hba htb hm2 hd hinn hpa
            go_wp2_with fail
            obtain ⟨w7, hw7⟩ : ∃ W, wr.alloc (.cells #[.int .i64 (rg : Int), .int .i64 id, .slice Aa pa ca] 53) = W := ⟨_, rfl⟩
            have hb7 : Below wr.heap.size wr w7 := hw7 ▸ (Below.refl _ _).alloc (Nat.le_refl _) _
            have hB7 : w7.heap[Lb]? = some (.cells #[.int .i64 (rg : Int), .int .i64 id, .slice Aa pa ca] 53 (0, 0)) := hw7 ▸ hLb ▸ heap_alloc_new _ _
            have HB7 : Hid (Below w4.heap.size w4 w7) := Lib.hid (HB.out.trans (hb7.mono HB.out.size))
            have HX7 := Lib.hid hB7
            rw [hw7]
            clear hw7 hB7 q0 q1 q2 zgh s2' z0 z3 k1 hLb hb7 hb
            obtain ⟨s0, s1, s2', s3, s4, s5, z0, z1, z2, z3⟩ := KS.out w7 HB7.out
            obtain ⟨k1, e0, el, PA, pcap, e3, zgb, zlb'⟩ := KP.out w7 HB7.out
            have r0 : w7.cell? ⟨Lb, 0, none⟩ = some (.int .i64 (rg : Int)) := cell_block HX7.out 0
            have r1 : w7.cell? ⟨Lb, 1, none⟩ = some (.int .i64 id) := cell_block HX7.out 1
            have zL := block_lt HX7.out
            have ci : w7.cell? ⟨gp, i * 15 + 3 + rg, none⟩ = some (.int .i64 id) := by
              have h := (KSB.out w7 HB7.out).innCell HFP.out.inn HVP.out HIS.out hr12
              rw [HIN.out, ← Nat.add_assoc] at h
              exact h
            clear s0 s1 s3 s4 s5 z1 z2 k1 e3 PA pcap
            go_quiet (fail)
            go_wp2_with fail
            go_roundw
            case rel => exact ⟨j + 1, by omega, by go_num, below_drewN HB7.out _⟩
            case measure => simp [intOf]; omega
      | true =>
        have hb2 : b2 = false := by simpa using d6
        subst hb2
        clear d6
        go_wp2_with fail
        clear d1 d2 d3 d4 d5 s2' z0 z3 k1 e3 zgb
        go_loopw [14] (fun v14 wr => ∃ j : Nat, j ≤ n ∧ v14 = .int .i64 (j : Int) ∧ Below w4.heap.size w4 wr) (fun v14 _ => n - (intOf v14).toNat)
        case atStart => exact ⟨0, by omega, rfl, HB.out⟩
        case round =>
          obtain ⟨j, hjn, rfl, hb⟩ := hrel
          clear HB
          have HB := Lib.hid hb
          obtain ⟨s0, s1, s2', s3, s4, s5, z0, z1, z2, z3⟩ := KS.out wr hb
          obtain ⟨k1, e0, el, PA, pcap, e3, zgb, zlb'⟩ := KP.out wr hb
          clear e3 PA pcap
          by_cases hj0 : j = n
          · have hj0' := hj0.symm
            subst hj0'
            clear s0 s1 s3 s4 s5 z1 z2 e0 el zgb zlb' hb
            go_wp2_with fail
            go_roundw
            case rel => exact ⟨i + 1, by omega, by go_num, HB.out⟩
            case measure => simp [intOf]; omega
          · have hj1 : j < n := by omega
            have hj2 : (j : Int) < n := by omega
            have hj3 : (0 : Int) ≤ j := by omega
            obtain ⟨gh, rfl, -, -⟩ := HHA.out (by omega)
            have hjl : j < (s.part i).phis.length := by rw [HN1.out]; exact hj1
            obtain ⟨q0, q1, q2⟩ := (KSB.out wr hb).phiCell HVH.out hjl
            obtain ⟨pa, hpa⟩ : ∃ n, (s.arg i j).length = n := ⟨_, rfl⟩
            obtain ⟨Aa, ca, hva, -⟩ := (KSB.out wr hb).argCells i j (n := pa) hpa
            obtain ⟨rg, hrg, hr12, hbit, hinn⟩ := HFP.out.preg i j HIB.out hjl
            rw [hva] at q2
            rw [hrg] at q0
            obtain ⟨id, hid⟩ : ∃ x, (s.phi i j).id = x := ⟨_, rfl⟩
            rw [hid] at q1 hinn
            have HIN := Lib.hid hinn
            have zgh := Nat.lt_of_lt_of_le (HSB4.out.rlt (.phis i) (g := gh) (by rw [HVH.out]; rfl)).2 hb.size
            obtain ⟨Lb, hLb⟩ : ∃ n, wr.heap.size = n := ⟨_, rfl⟩
            rw [HAE.out, HLM.out] at hbit
            have hdv : (Lm : Int) / 2 ^ rg = ((Lm / 2 ^ rg : Nat) : Int) := by push_cast; rfl
            have hba := live_nat3 Lm rg
            have htb : Lm.testBit rg = decide (Lm / 2 ^ rg % 2 = 1) := Nat.testBit_eq_decide_div_mod_eq
            have hm2 : Lm / 2 ^ rg % 2 = 1 := by rw [hbit] at htb; exact of_decide_eq_true htb.symm
            obtain ⟨d, hd⟩ : ∃ d, Lm / 2 ^ rg = d := ⟨_, rfl⟩
            rw [hd] at hdv hba hm2
            have hba1 : bits .and .i64 (d : Int) 1 = 1 := by rw [hba, hm2]; rfl
            have hr1 : (rg : Int) < 12 := by omega
            have hr0 : (0 : Int) ≤ rg := by omega
            clear s0 s1 s3 s4 s5 z1 z2 e0 el zgb zlb' hva hrg hid hj0 hjl hbit hba htb hm2 hd hinn hpa
            go_wp2_with fail
            obtain ⟨w7, hw7⟩ : ∃ W, wr.alloc (.cells #[.int .i64 (rg : Int), .int .i64 id, .slice Aa pa ca] 53) = W := ⟨_, rfl⟩
            have hb7 : Below wr.heap.size wr w7 := hw7 ▸ (Below.refl _ _).alloc (Nat.le_refl _) _
            have hB7 : w7.heap[Lb]? = some (.cells #[.int .i64 (rg : Int), .int .i64 id, .slice Aa pa ca] 53 (0, 0)) := hw7 ▸ hLb ▸ heap_alloc_new _ _
            have HB7 : Hid (Below w4.heap.size w4 w7) := Lib.hid (HB.out.trans (hb7.mono HB.out.size))
            have HX7 := Lib.hid hB7
            rw [hw7]
            clear hw7 hB7 q0 q1 q2 zgh s2' z0 z3 k1 hLb hb7 hb
            obtain ⟨s0, s1, s2', s3, s4, s5, z0, z1, z2, z3⟩ := KS.out w7 HB7.out
            obtain ⟨k1, e0, el, PA, pcap, e3, zgb, zlb'⟩ := KP.out w7 HB7.out
            have r0 : w7.cell? ⟨Lb, 0, none⟩ = some (.int .i64 (rg : Int)) := cell_block HX7.out 0
            have r1 : w7.cell? ⟨Lb, 1, none⟩ = some (.int .i64 id) := cell_block HX7.out 1
            have zL := block_lt HX7.out
            have ci : w7.cell? ⟨gp, i * 15 + 3 + rg, none⟩ = some (.int .i64 id) := by
              have h := (KSB.out w7 HB7.out).innCell HFP.out.inn HVP.out HIS.out hr12
              rw [HIN.out, ← Nat.add_assoc] at h
              exact h
            clear s0 s1 s3 s4 s5 z1 z2 k1 e3 PA pcap
            go_quiet (fail)
            go_wp2_with fail
            go_roundw
            case rel => exact ⟨j + 1, by omega, by go_num, below_drewN HB7.out _⟩
            case measure => simp [intOf]; omega
end Go.Proofs.YtlciakkbgaakiaaDoor
