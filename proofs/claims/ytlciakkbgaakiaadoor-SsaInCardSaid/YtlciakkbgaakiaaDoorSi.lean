/-
  The walk of SsaIn: it returns true.
-/
import Derived.Test.YtlciakkbgaakiaaDoorAt
import Derived.Test.YtlciakkbgaakiaaDoorPgS
import Derived.Test.YtlciakkbgaakiaaDoorOpn
namespace Go.Proofs.YtlciakkbgaakiaaDoor
open Go.RowKit Tier
set_option maxRecDepth 100000 in
set_option maxHeartbeats 8000000 in
theorem ssaIn_walk (A : Option Addr) (l : List Fnc) (cap : Nat) (fn : Int) (w : World) (ht : Tab w) (hraw : RawsAt w A l) (hln : (l.length : Int) ≤ 9223372036854775807) (hfn : In fn) :
    Calls Tryd.prog 8 #[.slice A l.length cap, .int .i64 fn] w fun e w' => e = .returned (.bool true) ∧ Below w.heap.size w w' := by
  have HT := Lib.hid ht
  have HR := Lib.hid hraw
  have HCK := Lib.hid (mkP_right l)
  clear ht hraw
  go_enter Tryd.func8, Tryd.ntmps8
  go_wp2_with fail
  refine (program_any A cap l _ HT.out hln HR.out).mono ?_
  rintro e w1 ⟨⟨A1, cap1, vs, rfl, hpv⟩, hb1⟩
  have HPV := Lib.hid hpv
  have HB1 := Lib.hid hb1
  clear hpv hb1
  generalize mkP l = p at *
  have hRT := right_of HCK.out
  have hE : progE p = 0 := progE_ck HCK.out
  have hl1 := hRT.ok.l1
  have hl2 := hRT.ok.l2
  have hpk := picked_in fn p.length (by omega)
  obtain ⟨k, hk⟩ : ∃ k : Nat, pickedI fn p.length = k := ⟨(pickedI fn p.length).toNat, by omega⟩
  rw [hk] at hpk
  have HPK := Lib.hid (fun (W : World) => picked_any fn p.length W hfn (by omega) (by omega))
  rw [hk] at HPK
  clear hk
  obtain ⟨A0, cap0, hA0, hA⟩ := HPV.out.at.slice
  simp only [Value.slice.injEq, true_and] at hA0
  obtain ⟨g, hAg, hg, hfn'⟩ := hA (by omega)
  obtain ⟨rfl, rfl⟩ := hA0
  have hkl : k < p.length := by omega
  obtain ⟨F, hF⟩ : ∃ f, p[k]? = some f := ⟨p[k], List.getElem?_eq_getElem hkl⟩
  have hfo := hRT.ok.fn F (List.mem_of_getElem? hF)
  obtain ⟨u, hu, c0, c1, c2⟩ := hfn' k F hF
  obtain ⟨FA, fcap, rfl, hFA⟩ := hu.slice
  subst hAg
  have HBU := Lib.hid (fun (W : World) (h1 : Tab W) (h2 : ProgAt W (.slice (some ⟨g, 0, none⟩) p.length cap1) p) => build_all (some ⟨g, 0, none⟩) cap1 k W h1 h2 HCK.out hF)
  have HBK := Lib.hid (fun (W : World) (h1 : Tab W) (h2 : ProgAt W (.slice (some ⟨g, 0, none⟩) p.length cap1) p) => blocks_any p (some ⟨g, 0, none⟩) cap1 k F W h1 h2 HCK.out hF)
  have HLV := Lib.hid (fun (W : World) (h1 : Tab W) (h2 : ProgAt W (.slice (some ⟨g, 0, none⟩) p.length cap1) p) => live_any p (some ⟨g, 0, none⟩) cap1 k F W h1 h2 HCK.out hF)
  have HAT0 := Lib.hid (fun (W : World) (h1 : Tab W) (h2 : ProgAt W (.slice (some ⟨g, 0, none⟩) p.length cap1) p) => (fun (pc : Nat) (q1 : pc < F.code.length) (q2 : rchB F pc = true) => at_any p (some ⟨g, 0, none⟩) cap1 k F pc W h1 h2 HCK.out hF q1 q2))
  have HSL := Lib.hid (sureF_length hfo.cok hfo.p2)
  have HF := Lib.hid hF
  have HFM := Lib.hid (List.mem_of_getElem? hF)
  have HRT := Lib.hid hRT
  have HFO := Lib.hid hfo
  have n1 := hfo.c1
  have n2 := hfo.c2
  have HFA := Lib.hid hFA
  obtain ⟨M, hM⟩ : ∃ M, F.code.length = M := ⟨_, rfl⟩
  have HM := Lib.hid hM
  rw [hM] at  HSL n1 n2 c2
  have hk0 : (0 : Int) ≤ k := by omega
  have hk1 : (k : Int) < p.length := by omega
  clear hA hfn' hF hu hfo hM hRT hFA
  obtain ⟨N, hN⟩ : ∃ N, p.length = N := ⟨_, rfl⟩
  have HN := Lib.hid hN
  rw [hN] at HPK HBU HBK HLV HAT0 hl1 hl2 hkl hk1 hpk ⊢
  have HPA := Lib.hid (show ProgAt w1 (.slice (some ⟨g, 0, none⟩) N cap1) p from by have := HPV.out.at; rw [hN] at this; exact this)
  clear hN hE
  have HXA := Lib.hid ((Below.refl w1.heap.size w1).alloc (Nat.le_refl _) (.cells #[.slice (some ⟨g, 0, none⟩) N cap1] 25))
  obtain ⟨H, hH⟩ : ∃ H, (hdL F).length = H := ⟨_, rfl⟩
  have HH := Lib.hid hH
  have hHM : H ≤ 40 := by have h1 := hdTo_len F F.code.length; have h2 : hdTo F F.code.length = hdL F := rfl; rw [h2, hH, HM.out] at h1; omega
  have hH1 : 0 < H := by have := (List.getElem?_eq_some_iff.1 (zero_head HRT.out HFM.out)).1; omega
  obtain ⟨gc, hgc, hgcl, hins⟩ := HFA.out (by rw [HM.out]; omega)
  have HGC := Lib.hid hgcl
  have HINS := Lib.hid hins
  subst hgc
  obtain ⟨P, hP⟩ : ∃ n : Nat, F.params = n := ⟨F.params.toNat, by have := HFO.out.p1; omega⟩
  have HPP := Lib.hid hP
  have hP2 : P ≤ 2 := by have := HFO.out.p2; omega
  rw [hP] at c0
  have HC0 := Lib.hid (show w1.cell? ⟨g, k * 3, none⟩ = some (.int .i64 (P : Int)) ∧ w1.cell? ⟨g, k * 3 + 1, none⟩ = some (.int .i64 F.regs) ∧ w1.cell? ⟨g, k * 3 + 2, none⟩ = some (.slice (some ⟨gc, 0, none⟩) M fcap) from ⟨c0, c1, c2⟩)
  clear hH hins hgcl hP c0 c1 c2
  go_wp2_with (first | (go_at_call 18; go_must (refine (HPK.out _).mono ?_; rintro e w' ⟨rfl, rfl⟩)) | (go_at_call 17; go_must (refine (HBU.out _ (HT.out.keeps (HB1.out.alloc HB1.out.size _)) (HPA.out.keeps HXA.out)).mono ?_; rintro e w2 ⟨⟨b, c, s, V, O, bs, K, s2, l, rfl, hbb, hsb, hbl⟩, hb⟩; have HBX := Lib.hid (BuiltX.mk hbl HCK.out HFM.out rfl : BuiltX p F O bs K _ s2 l s); have HFP := Lib.hid HBX.out.finP; have hbsl : bs.length = H := (by rw [hbl.bok.len, HH.out]); have HBL := Lib.hid hbsl; obtain ⟨Ap, cp, hvp, -, hpA⟩ := hsb.rowV .parts (n := H) (by show s.parts.length = H; rw [HFP.out.len, hbsl]); obtain ⟨gp, rfl, -, -⟩ := hpA hH1; have HVP := Lib.hid hvp; obtain ⟨vl, hvl⟩ : ∃ v, valN F bs s2 l = v := ⟨_, rfl⟩; have HVL := Lib.hid hvl; have HSB := Lib.hid hsb; have HBB := Lib.hid hbb; rw [hvp, show ((F.params.toNat + (allG { s2 with same := l } bs.length).length : Nat) : Int) = ((vl : Nat) : Int) from congrArg Int.ofNat hvl, HPP.out]; rw [hvl] at HFP; have HB12 := Lib.hid (HXA.out.trans (hb.mono HXA.out.size)); have HX2 := Lib.hid ((hb.block w1.heap.size (by simp)).trans (heap_alloc_new w1 _)); have q2 := cell_block HX2.out; have z2 := block_lt HX2.out; clear hbb hsb hbl hb hvp hvl hbsl hpA)))
  obtain ⟨w3, hw3⟩ : ∃ W, w2.alloc (.cells #[.int .i64 (P : Int), .int .i64 (vl : Int), .slice (some ⟨gp, 0, none⟩) H cp] 36) = W := ⟨_, rfl⟩
  have HXS : Hid (w3.heap[w2.heap.size]? = some (.cells #[.int .i64 (P : Int), .int .i64 (vl : Int), .slice (some ⟨gp, 0, none⟩) H cp] 36 (0, 0))) := Lib.hid (hw3 ▸ heap_alloc_new _ _)
  have HB23 : Hid (Below w2.heap.size w2 w3) := Lib.hid (hw3 ▸ (Below.refl _ _).alloc (Nat.le_refl _) _)
  have HB13 : Hid (Below w1.heap.size w1 w3) := Lib.hid (HB12.out.trans (HB23.out.mono HB12.out.size))
  have HXP : Hid (w3.heap[w1.heap.size]? = some (.cells #[.slice (some ⟨g, 0, none⟩) N cap1] 25 (0, 0))) := Lib.hid ((HB23.out.block _ (block_lt HX2.out)).trans HX2.out)
  rw [hw3]
  obtain ⟨Lp, hLp⟩ : ∃ n, w1.heap.size = n := ⟨_, rfl⟩
  obtain ⟨Ls, hLs⟩ : ∃ n, w2.heap.size = n := ⟨_, rfl⟩
  have HLP := Lib.hid hLp
  have HLS := Lib.hid hLs
  rw [hLp, hLs]
  rw [hLp] at HXP
  rw [hLs] at HXS
  have p3 : w3.cell? ⟨Lp, 0, none⟩ = some (.slice (some ⟨g, 0, none⟩) N cap1) := cell_block HXP.out 0
  have zp3 := block_lt HXP.out
  clear hw3 q2 z2 hLp hLs
  go_upto_region 6 with (first | (go_at_call 19; go_must (refine (HBK.out _ (HT.out.keeps (HB1.out.trans (HB13.out.mono HB1.out.size))) (HPA.out.keeps HB13.out)).mono ?_; rintro e wq ⟨⟨gb, Bb, bs2, rfl, hgb, hBK, hOK⟩, hb⟩; rw [HH.out]; have HB3Q := Lib.hid hb; have HBLKQ := Lib.hid hBK; have HOK2 := Lib.hid hOK; have pq : wq.cell? ⟨Lp, 0, none⟩ = some (.slice (some ⟨g, 0, none⟩) N cap1) := (hb.cell (p := ⟨Lp, _, none⟩) zp3).trans p3; have zpq := Nat.lt_of_lt_of_le zp3 hb.size; clear hgb hBK hOK hb p3 zp3)) | (go_at_call 21; go_must (refine (HLV.out _ (HT.out.keeps (HB1.out.trans ((HB13.out.trans (HB3Q.out.mono HB13.out.size)).mono HB1.out.size))) (HPA.out.keeps (HB13.out.trans (HB3Q.out.mono HB13.out.size)))).mono ?_; rintro e w4 ⟨⟨lb, O2, rfl, hlb, hint, hlok⟩, hb⟩; rw [HM.out]; have HB34 := Lib.hid (HB3Q.out.trans (hb.mono HB3Q.out.size)); have HBLK := Lib.hid (HBLKQ.out.keeps hb); have hOO : O2 = O := hlok.unique HBX.out.b.lok; subst hOO; have HINT := Lib.hid hint; clear hlb hint hlok hb pq zpq)))
  have HB14 : Hid (Below w1.heap.size w1 w4) := Lib.hid (HB13.out.trans (HB34.out.mono HB13.out.size))
  have HB24 : Hid (Below w2.heap.size w2 w4) := Lib.hid (HB23.out.trans (HB34.out.mono HB23.out.size))
  have HSB4 : Hid (SbAt w4 b c s V) := Lib.hid (HSB.out.keeps HB24.out)
  have KS := Lib.hid (fun (W : World) (hb : Below w4.heap.size w4 W) => (⟨(hb.cell (p := ⟨Ls, _, none⟩) (Nat.lt_of_lt_of_le (block_lt HXS.out) HB34.out.size)).trans ((HB34.out.cell (p := ⟨Ls, _, none⟩) (block_lt HXS.out)).trans (cell_block HXS.out 0)), (hb.cell (p := ⟨Ls, _, none⟩) (Nat.lt_of_lt_of_le (block_lt HXS.out) HB34.out.size)).trans ((HB34.out.cell (p := ⟨Ls, _, none⟩) (block_lt HXS.out)).trans (cell_block HXS.out 1)), (hb.cell (p := ⟨Ls, _, none⟩) (Nat.lt_of_lt_of_le (block_lt HXS.out) HB34.out.size)).trans ((HB34.out.cell (p := ⟨Ls, _, none⟩) (block_lt HXS.out)).trans (cell_block HXS.out 2)), (hb.cell (p := ⟨Lp, _, none⟩) (Nat.lt_of_lt_of_le (block_lt HXP.out) HB34.out.size)).trans ((HB34.out.cell (p := ⟨Lp, _, none⟩) (block_lt HXP.out)).trans (cell_block HXP.out 0)), (hb.cell (p := ⟨g, _, none⟩) (Nat.lt_of_lt_of_le hg HB14.out.size)).trans ((HB14.out.cell (p := ⟨g, _, none⟩) hg).trans HC0.out.1), (hb.cell (p := ⟨g, _, none⟩) (Nat.lt_of_lt_of_le hg HB14.out.size)).trans ((HB14.out.cell (p := ⟨g, _, none⟩) hg).trans HC0.out.2.2), Nat.lt_of_lt_of_le (Nat.lt_of_lt_of_le (block_lt HXS.out) HB34.out.size) hb.size, Nat.lt_of_lt_of_le (Nat.lt_of_lt_of_le (block_lt HXP.out) HB34.out.size) hb.size, Nat.lt_of_lt_of_le (Nat.lt_of_lt_of_le hg HB14.out.size) hb.size, Nat.lt_of_lt_of_le (HSB4.out.rlt .parts (g := gp) (by rw [HVP.out]; rfl)).2 hb.size⟩ :
    W.cell? ⟨Ls, 0, none⟩ = some (.int .i64 (P : Int)) ∧ W.cell? ⟨Ls, 1, none⟩ = some (.int .i64 (vl : Int)) ∧ W.cell? ⟨Ls, 2, none⟩ = some (.slice (some ⟨gp, 0, none⟩) H cp) ∧ W.cell? ⟨Lp, 0, none⟩ = some (.slice (some ⟨g, 0, none⟩) N cap1) ∧ W.cell? ⟨g, k * 3, none⟩ = some (.int .i64 (P : Int)) ∧ W.cell? ⟨g, k * 3 + 2, none⟩ = some (.slice (some ⟨gc, 0, none⟩) M fcap) ∧ Ls < W.heap.size ∧ Lp < W.heap.size ∧ g < W.heap.size ∧ gp < W.heap.size))
  have KSB := Lib.hid (fun (W : World) (hb : Below w4.heap.size w4 W) => (HSB4.out.keeps hb : SbAt W b c s V))
  have KB := Lib.hid (fun (W : World) (hb : Below w4.heap.size w4 W) (i : Nat) (hi : i < H) => (by
    obtain ⟨r, hr⟩ : ∃ r, bs2[i]? = some r := ⟨_, List.getElem?_eq_getElem (by rw [HOK2.out.len, HH.out]; exact hi)⟩
    obtain ⟨e1, e2, -, e4⟩ := HOK2.out.at_ i r hr
    obtain ⟨PA, pcap, hpv, -⟩ := own_slice (HBLK.out.rows.own i r true hr)
    have hpv' : r.pv = .slice PA r.pl.length pcap := hpv
    have zb := block_lt HBLK.out.blk
    have hpl : prevL bs i = prevF F i := prevL_eq HBX.out.b.bok (by rw [HBL.out]; exact hi)
    exact ⟨PA, pcap, (hb.cell (p := ⟨gb, _, none⟩) zb).trans ((HBLK.out.cell hr (j := 0) (by omega)).trans (by show some (Value.int .i64 r.fr) = _; rw [e1])), (hb.cell (p := ⟨gb, _, none⟩) zb).trans ((HBLK.out.cell hr (j := 1) (by omega)).trans (by show some (Value.int .i64 r.to) = _; rw [e2])), (hb.cell (p := ⟨gb, _, none⟩) zb).trans ((HBLK.out.cell hr (j := 3) (by omega)).trans (by show some r.pv = _; rw [hpv', e4, ← hpl])), Nat.lt_of_lt_of_le zb hb.size⟩ :
    ∃ PA pcap, W.cell? ⟨gb, i * 4, none⟩ = some (.int .i64 (hdA F i : Int)) ∧ W.cell? ⟨gb, i * 4 + 1, none⟩ = some (.int .i64 (toF F (hdA F i) : Int)) ∧ W.cell? ⟨gb, i * 4 + 3, none⟩ = some (.slice PA (prevL bs i).length pcap) ∧ gb < W.heap.size))
  have hHz : ((H : Int) == 0) = false := beq_eq_false_iff_ne.2 (by omega)
  obtain ⟨s0, s1, s2', s3, s4, s5, z0, z1, z2, z3⟩ := KS.out w4 (Below.refl _ _)
  clear s0 s1 s4 z3
  have HB45 : Hid (Below w4.heap.size w4 w4) := Lib.hid (Below.refl _ _)
  go_wp2_with fail
  clear s2' s3 s5 z0 z1 z2 hHz
  go_loopw [13] (fun v13 wr => ∃ i : Nat, i ≤ H ∧ v13 = .int .i64 (i : Int) ∧ Below w4.heap.size w4 wr) (fun v13 _ => H - (intOf v13).toNat)
  case atStart => exact ⟨0, by omega, rfl, HB45.out⟩
  case round =>
    obtain ⟨i, hiH, rfl, hb⟩ := hrel
    have HB := Lib.hid hb
    by_cases hi0 : i = H
    · have hi0' := hi0.symm
      subst hi0'
      clear hb
      go_wp2_with fail
      go_ret
      exact ⟨rfl, HB1.out.trans ((HB14.out.trans (HB.out.mono HB14.out.size)).mono HB1.out.size)⟩
    · have hi1 : i < H := by omega
      have hi2 : (i : Int) < H := by omega
      have hi3 : (0 : Int) ≤ i := by omega
      have hib : i < bs.length := by rw [HBL.out]; exact hi1
      have his : i < s.parts.length := by rw [HFP.out.len]; exact hib
      obtain ⟨a, ha⟩ : ∃ a, hdA F i = a := ⟨_, rfl⟩
      obtain ⟨ham, -⟩ := hdA_mem2 (F := F) (show i < (hdL F).length by rw [HH.out]; exact hi1)
      obtain ⟨ha1, ha2⟩ := head_rch HRT.out HFM.out ham
      rw [ha] at ha1 ha2
      have ha1N : a < F.code.length := ha1
      have HAT := Lib.hid (fun (W : World) (h1 : Tab W) (h2 : ProgAt W (.slice (some ⟨g, 0, none⟩) N cap1) p) => HAT0.out W h1 h2 a ha1N ha2)
      rw [HM.out] at ha1
      have ha1' : (a : Int) < M := by omega
      have ha0 : (0 : Int) ≤ a := by omega
      obtain ⟨Lm, hLm⟩ : ∃ x, O2.getD a 0 = x := ⟨_, rfl⟩
      have hlc := HINT.out.cell (outL_get (liveL_get ha1N))
      rw [ha2, if_pos rfl, hLm] at hlc
      have zlb := HINT.out.lt
      have KP := Lib.hid (fun (W : World) (hb : Below w4.heap.size w4 W) => (by
        obtain ⟨PA, pcap, e0, e1, e3, zgb⟩ := KB.out W hb i hi1
        rw [ha] at e0
        exact ⟨e0, (hb.cell (p := ⟨lb, _, none⟩) zlb).trans hlc, zgb, Nat.lt_of_lt_of_le zlb hb.size⟩ :
        W.cell? ⟨gb, i * 4, none⟩ = some (.int .i64 (a : Int)) ∧ W.cell? ⟨lb, a, none⟩ = some (.int .i64 (Lm : Int)) ∧ gb < W.heap.size ∧ lb < W.heap.size))
      have HIB := Lib.hid hib
      have HIS := Lib.hid his
      have HAE := Lib.hid ha
      have HLM := Lib.hid hLm
      obtain ⟨s0, s1, s2', s3, s4, s5, z0, z1, z2, z3⟩ := KS.out wr hb
      obtain ⟨e0, el, zgb, zlb'⟩ := KP.out wr hb
      clear ham hi0 ha hib his hLm hlc zlb ha2 ha1N hb s0 s1 s2' s4 s5 z0 z2 z3 el zlb'
      go_upto_region 11 with fail
      refine wp_region_held_drew (S := fun w' => w'.cell? ⟨Lp, 0, none⟩ = some (.slice (some ⟨g, 0, none⟩) N cap1) ∧ w'.cell? ⟨gb, i * 4, none⟩ = some (.int .i64 (a : Int))) (by kernel_rfl) ⟨s3, e0⟩ (fun hHeld => ?_)
      clear s3 z1 e0 zgb
      refine wpAnyH_take (i := 0) (v := .agg #[.slice (some ⟨g, 0, none⟩) N cap1]) rfl (by kernel_rfl) (by kernel_rfl) (by kernel_rfl) (fun _ _ _ h => h) (Or.inl ⟨by rfl, ?_⟩) hHeld ?_
      · intro w hSw
        obtain ⟨p0, p1⟩ := hSw
        simp only [List.getElem_toArray, List.getElem_cons_zero]
        go_simp
      simp only [Act.put, List.getElem_toArray, List.getElem_cons_zero, List.setIfInBounds_toArray, List.set_cons_zero, List.set_cons_succ]
      refine wpAnyH_take (i := 1) (v := .int .i64 (k : Int)) rfl (by kernel_rfl) (by kernel_rfl) (by kernel_rfl) (fun _ _ _ h => h) (Or.inl ⟨by rfl, ?_⟩) hHeld ?_
      · intro w hSw
        simp only [List.getElem_toArray, List.getElem_cons_zero, List.getElem_cons_succ]
        go_simp
      simp only [Act.put, List.getElem_toArray, List.getElem_cons_zero, List.getElem_cons_succ, List.setIfInBounds_toArray, List.set_cons_zero, List.set_cons_succ]
      refine wpAnyH_take (i := 2) (v := .slice (some ⟨gb, 0, none⟩) H H) rfl (by kernel_rfl) (by kernel_rfl) (by kernel_rfl) (fun _ _ _ h => h) (Or.inl ⟨by rfl, ?_⟩) hHeld ?_
      · intro w hSw
        simp only [List.getElem_toArray, List.getElem_cons_zero, List.getElem_cons_succ]
        go_simp
      simp only [Act.put, List.getElem_toArray, List.getElem_cons_zero, List.getElem_cons_succ, List.setIfInBounds_toArray, List.set_cons_zero, List.set_cons_succ]
      refine wpAnyH_take (i := 3) (v := .int .i64 (i : Int)) rfl (by kernel_rfl) (by kernel_rfl) (by kernel_rfl) (fun _ _ _ h => h) (Or.inl ⟨by rfl, ?_⟩) hHeld ?_
      · intro w hSw
        simp only [List.getElem_toArray, List.getElem_cons_zero, List.getElem_cons_succ]
        go_simp
      simp only [Act.put, List.getElem_toArray, List.getElem_cons_zero, List.getElem_cons_succ, List.setIfInBounds_toArray, List.set_cons_zero, List.set_cons_succ]
      refine wpAnyH_take (i := 4) (v := .pointer (some ⟨gb, i * 4, none⟩)) rfl (by kernel_rfl) (by kernel_rfl) (by kernel_rfl) (fun _ _ _ h => h) (Or.inl ⟨by rfl, ?_⟩) hHeld ?_
      · intro w hSw
        simp only [List.getElem_toArray, List.getElem_cons_zero, List.getElem_cons_succ]
        go_simp
      simp only [Act.put, List.getElem_toArray, List.getElem_cons_zero, List.getElem_cons_succ, List.setIfInBounds_toArray, List.set_cons_zero, List.set_cons_succ]
      refine wpAnyH_take (i := 5) (v := .pointer (some ⟨gb, i * 4, none⟩)) rfl (by kernel_rfl) (by kernel_rfl) (by kernel_rfl) (fun _ _ _ h => h) (Or.inl ⟨by rfl, ?_⟩) hHeld ?_
      · intro w hSw
        simp only [List.getElem_toArray, List.getElem_cons_zero, List.getElem_cons_succ]
        go_simp
      simp only [Act.put, List.getElem_toArray, List.getElem_cons_zero, List.getElem_cons_succ, List.setIfInBounds_toArray, List.set_cons_zero, List.set_cons_succ]
      refine wpAnyH_take (i := 6) (v := .int .i64 (a : Int)) rfl (by kernel_rfl) (by kernel_rfl) (by kernel_rfl) (fun _ _ _ h => h) (Or.inl ⟨by rfl, ?_⟩) hHeld ?_
      · intro w hSw
        obtain ⟨p0, p1⟩ := hSw
        simp only [List.getElem_toArray, List.getElem_cons_zero, List.getElem_cons_succ]
        go_simp
      simp only [Act.put, List.getElem_toArray, List.getElem_cons_zero, List.getElem_cons_succ, List.setIfInBounds_toArray, List.set_cons_zero, List.set_cons_succ]
      refine wpAnyH_ready (rs := [7]) (by kernel_rfl) (by simp) ?_
      refine AllReadyH.cons rfl (fun K hK => ?_) AllReadyH.nil
      simp only [List.getElem_toArray, List.getElem_cons_zero, List.getElem_cons_succ]
      go_simp
      refine (HAT.out wr.drew (HT.out.keeps (HB1.out.trans ((HB14.out.trans (HB.out.drew.mono HB14.out.size)).mono HB1.out.size))) (HPA.out.keeps (HB14.out.trans (HB.out.drew.mono HB14.out.size)))).mono ?_
      rintro e w8 ⟨⟨O', bs', K', s1', s2', l', s', i', ga, ca, hbx, hi', h1, h2, rfl, hga, hgs, hcl⟩, hb8⟩
      have HRET := Lib.hid (show hdA F i' ≤ a ∧ a < toF F (hdA F i') ∧ i' < bs'.length from ⟨h1, h2, hi'⟩)
      have HBX2 := Lib.hid hbx
      have HCL := Lib.hid hcl
      have HGA := Lib.hid hgs
      have HB8 : Hid (Below w4.heap.size w4 w8) := Lib.hid (HB.out.drew.trans (hb8.mono HB.out.size))
      refine hK.out _ _ ⟨(KS.out w8 HB8.out).2.2.2.1, (KP.out w8 HB8.out).1⟩ (fun hHeld => ?_)
      clear hK K h1 h2 hi' hbx hcl hgs hb8 hga
      refine wpAnyH_take (i := 8) (v := .tuple #[.slice (some ⟨ga, 0, none⟩) 12 ca, .int .i64 0]) rfl (by kernel_rfl) (by kernel_rfl) (by kernel_rfl) (fun _ _ _ h => h) (Or.inl ⟨by rfl, ?_⟩) hHeld ?_
      · intro w hSw
        simp only [List.getElem_toArray, List.getElem_cons_zero, List.getElem_cons_succ]
        go_simp
      simp only [Act.put, List.getElem_toArray, List.getElem_cons_zero, List.getElem_cons_succ, List.setIfInBounds_toArray, List.set_cons_zero, List.set_cons_succ]
      refine wpAnyH_take (i := 9) (v := .slice (some ⟨ga, 0, none⟩) 12 ca) rfl (by kernel_rfl) (by kernel_rfl) (by kernel_rfl) (fun _ _ _ h => h) (Or.inl ⟨by rfl, ?_⟩) hHeld ?_
      · intro w hSw
        simp only [List.getElem_toArray, List.getElem_cons_zero, List.getElem_cons_succ]
        go_simp
      simp only [Act.put, List.getElem_toArray, List.getElem_cons_zero, List.getElem_cons_succ, List.setIfInBounds_toArray, List.set_cons_zero, List.set_cons_succ]
      refine wpAnyH_take (i := 10) (v := .int .i64 0) rfl (by kernel_rfl) (by kernel_rfl) (by kernel_rfl) (fun _ _ _ h => h) (Or.inl ⟨by rfl, ?_⟩) hHeld ?_
      · intro w hSw
        simp only [List.getElem_toArray, List.getElem_cons_zero, List.getElem_cons_succ]
        go_simp
      simp only [Act.put, List.getElem_toArray, List.getElem_cons_zero, List.getElem_cons_succ, List.setIfInBounds_toArray, List.set_cons_zero, List.set_cons_succ]
      refine wpAnyH_ready (rs := [11]) (by kernel_rfl) (by simp) ?_
      refine AllReadyH.cons rfl (fun K hK => ?_) AllReadyH.nil
      simp only [List.getElem_toArray, List.getElem_cons_zero, List.getElem_cons_succ]
      go_simp
      refine hK.out _ _ hHeld (fun hHeld => ?_)
      clear hK K
      refine wpAnyH_ready (rs := [12]) (by kernel_rfl) (by simp) ?_
      refine AllReadyH.cons rfl (fun K hK => ?_) AllReadyH.nil
      simp only [List.getElem_toArray, List.getElem_cons_zero, List.getElem_cons_succ]
      go_simp
      refine hK.out _ _ hHeld (fun hHeld => ?_)
      clear hK K
      clear hHeld
      refine wpAnyH_done (by kernel_rfl) ?_ _
      have HZ := Lib.hid (fun (r : Nat) (hr : r < 12) => (by
        have hu := HBX.out.unique HBX2.out
        have hii : i' = i := by
          obtain ⟨r1, r2, r3⟩ := HRET.out
          have hib' : i' < (hdL F).length := by rw [HH.out, ← HBL.out, hu.2.1]; exact r3
          obtain ⟨hm1, -⟩ := hdA_mem2 hib'
          obtain ⟨hm2, -⟩ := hdA_mem2 (F := F) (show i < (hdL F).length by rw [HH.out]; exact hi1)
          have h3 := cov_one HRT.out HFM.out hm1 hm2 r1 r2 (by rw [HAE.out]; exact Nat.le_refl _) (by rw [HAE.out]; have := (toF_spec HRT.out HFM.out hm2).1; rw [HAE.out] at this; exact this)
          have h4 := posH_hdA2 hib'
          rw [h3, posH_hdA2 (show i < (hdL F).length by rw [HH.out]; exact hi1)] at h4
          exact h4.symm
        have hc := HCL.out r hr
        have hp : s'.part i' = s.part i := by unfold SB.part; rw [← hu.1, hii]
        have h0 : a - hdA F i' = 0 := by rw [hii, HAE.out]; omega
        have hat : atR s' F i' (a - hdA F i') = (s.part i).inn := by rw [h0, ← hp]; rfl
        rw [hat, ← hu.2.2.2.1, HLM.out] at hc
        have hin := HFP.out.innl i r HIB.out hr
        rw [HAE.out, HLM.out] at hin
        by_cases hb : Lm.testBit r = true
        · rw [if_pos hb] at hc
          exact ⟨hc, hin.1⟩
        · rw [if_neg hb] at hc
          have h5 : ¬ 0 ≤ (s.part i).inn.getD r 0 := fun h => hb (hin.1.1 h)
          have h6 : (s.part i).inn.getD r 0 = -1 := by have := hin.2.1; omega
          exact ⟨by rw [h6]; exact hc, hin.1⟩ : w8.cell? ⟨ga, r, none⟩ = some (.int .i64 ((s.part i).inn.getD r 0)) ∧ (0 ≤ (s.part i).inn.getD r 0 ↔ Lm.testBit r = true)))
      have HBB : Hid (Below w8.heap.size w8 w8) := Lib.hid (Below.refl _ _)
      go_wp2_with fail
      go_loopw [16] (fun v16 wq => ∃ r : Nat, r ≤ 12 ∧ v16 = .int .i64 (r : Int) ∧ Below w8.heap.size w8 wq) (fun v16 _ => 12 - (intOf v16).toNat)
      case atStart => exact ⟨0, by omega, rfl, HBB.out⟩
      case round =>
        obtain ⟨r, hr12, rfl, hbq⟩ := hrel
        rename World => wq
        have HBQ := Lib.hid hbq
        have HBQ4 : Hid (Below w4.heap.size w4 wq) := Lib.hid (HB8.out.trans (hbq.mono HB8.out.size))
        by_cases hr0 : r = 12
        · subst hr0
          clear hbq
          go_wp2_with fail
          go_roundw
          case rel => exact ⟨i + 1, by omega, by go_num, HBQ4.out⟩
          case measure => simp [intOf]; omega
        · have hr1 : (r : Int) < 12 := by omega
          have hr2 : (0 : Int) ≤ r := by omega
          have hr3 : r < 12 := by omega
          obtain ⟨zc, zb⟩ := HZ.out r hr3
          have ci := (KSB.out wq HBQ4.out).innCell HFP.out.inn HVP.out HIS.out hr3
          rw [← Nat.add_assoc] at ci
          have cq : wq.cell? ⟨ga, r, none⟩ = some (.int .i64 ((s.part i).inn.getD r 0)) := (hbq.cell (p := ⟨ga, _, none⟩) HGA.out).trans zc
          obtain ⟨z, hz⟩ : ∃ z, (s.part i).inn.getD r 0 = z := ⟨_, rfl⟩
          rw [hz] at ci cq zb
          have zga := Nat.lt_of_lt_of_le HGA.out hbq.size
          obtain ⟨s0, s1, s2', s3, s4, s5, z0, z1, z2, z3⟩ := KS.out wq HBQ4.out
          obtain ⟨e0, el, zgb, zlb⟩ := KP.out wq HBQ4.out
          have hdv : (Lm : Int) / 2 ^ r = ((Lm / 2 ^ r : Nat) : Int) := by push_cast; rfl
          have hba := live_nat3 Lm r
          have htb : Lm.testBit r = decide (Lm / 2 ^ r % 2 = 1) := Nat.testBit_eq_decide_div_mod_eq
          obtain ⟨d, hd⟩ : ∃ d, Lm / 2 ^ r = d := ⟨_, rfl⟩
          rw [hd] at hdv hba htb
          clear hd hbq hz zc s0 s1 s3 s4 s5 z1 z2
          by_cases hbit : d % 2 = 1
          · have hba1 : bits .and .i64 (d : Int) 1 = 1 := by rw [hba, hbit]; rfl
            have hzd : decide (z ≥ 0) = true := decide_eq_true (zb.2 (by rw [htb, hbit]; rfl))
            clear hba htb hbit zb
            go_wp2_with fail
            go_quiet (fail)
            go_wp2_with fail
            go_roundw
            case rel => exact ⟨r + 1, by omega, by go_num, below_drewN HBQ.out _⟩
            case measure => simp [intOf]; omega
          · have hba1 : bits .and .i64 (d : Int) 1 = 0 := by rw [hba, show d % 2 = 0 by omega]; rfl
            have hzd : decide (z ≥ 0) = false := decide_eq_false (fun h => by have h1 := zb.1 h; rw [htb] at h1; exact hbit (of_decide_eq_true h1))
            clear hba htb hbit zb
            go_wp2_with fail
            go_quiet (fail)
            go_wp2_with fail
            go_roundw
            case rel => exact ⟨r + 1, by omega, by go_num, below_drewN HBQ.out _⟩
            case measure => simp [intOf]; omega
end Go.Proofs.YtlciakkbgaakiaaDoor
