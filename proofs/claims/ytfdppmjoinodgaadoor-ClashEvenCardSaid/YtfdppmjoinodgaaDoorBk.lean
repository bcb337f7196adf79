/-
  The contract of flow.Blocks.
-/
import Derived.Test.YtfdppmjoinodgaaDoorBkW
import Derived.Test.YtfdppmjoinodgaaDoorPs
import Derived.Test.YtfdppmjoinodgaaDoorPc
import Derived.Test.YtfdppmjoinodgaaDoorFl1
namespace Go.Proofs.YtfdppmjoinodgaaDoor
open Go.RowKit Tier
theorem made3 (w : World) (n : Nat) (hn : 0 < n) : ((w.alloc (.cells (madeCells #[.int .i64 0, .int .i64 0, .slice none 0 0, .slice none 0 0] (n * 4)) 84)).alloc (.cells #[.int .i64 (-1)] 3)).cell? ⟨w.heap.size, 3, none⟩ = some (.slice none 0 0) := by
  have h := (blks_start w n).keeps ((Below.refl _ _).alloc (Nat.le_refl _) (.cells #[.int .i64 (-1)] 3))
  have := h.cell (q := 0) (r := zBR) (by rw [List.getElem?_replicate, if_pos hn]) (j := 3) (by omega)
  rw [Nat.zero_mul] at this
  exact this
theorem madeF (w : World) (n : Nat) : ((w.alloc (.cells (madeCells #[.int .i64 0, .int .i64 0, .slice none 0 0, .slice none 0 0] (n * 4)) 84)).alloc (.cells #[.int .i64 (-1)] 3)).frozen? ⟨w.heap.size, 3, none⟩ = false := by
  have h := (blks_start w n).keeps ((Below.refl _ _).alloc (Nat.le_refl _) (.cells #[.int .i64 (-1)] 3))
  exact h.frozen 3
set_option maxRecDepth 100000 in
set_option maxHeartbeats 8000000 in
theorem blocks_any (p : List Fnc) (A : Option Addr) (cap k : Nat) (F : Fnc) (w : World) (ht : Tab w) (hp : ProgAt w (.slice A p.length cap) p) (hk : checkP p = 0) (hf : p[k]? = some F) :
    Calls Tryd.prog 24 #[.agg #[.slice A p.length cap], .int .i64 (k : Int)] w fun e w' => BlocksRet F w.heap.size e w' ∧ Below w.heap.size w w' := by
  have hR := right_of hk
  have hE := progE_ck hk
  have l2 := hR.ok.l2
  have hFm := List.mem_of_getElem? hf
  have hfo := hR.ok.fn F hFm
  have hkl := (List.getElem?_eq_some_iff.1 hf).1
  obtain ⟨A0, cap0, hA0, hA⟩ := hp.slice
  simp only [Value.slice.injEq, true_and] at hA0
  obtain ⟨g, hAg, hg, hfn⟩ := hA (by omega)
  obtain ⟨rfl, rfl⟩ := hA0
  subst hAg
  obtain ⟨u, hu, d0, d1, d2⟩ := hfn k F hf
  have HU := Lib.hid hu
  obtain ⟨FA, fcap, rfl, hFA⟩ := hu.slice
  obtain ⟨gc, hgc, hgcl, hins⟩ := hFA (by have := hfo.c1; omega)
  subst hgc
  have HPC := Lib.hid (fun (W : World) (h1 : Tab W) (h2 : ProgAt W (.slice (some ⟨g, 0, none⟩) p.length cap) p) => pcheck_any p (some ⟨g, 0, none⟩) cap W h1 h2 (by omega) (fun f hf => by have := (hR.ok.fn f hf).c2; omega))
  rw [hk] at HPC
  have HSU := Lib.hid (fun (W : World) (h1 : Tab W) (h2 : ProgAt W (.slice (some ⟨g, 0, none⟩) p.length cap) p) => psure_any p (some ⟨g, 0, none⟩) cap k F W h1 h2 hE hf)
  have HNX := Lib.hid (fun (W : World) (pc : Nat) (x : Ins) (hx : F.code[pc]? = some x) (hc : CodeAt W (.slice (some ⟨gc, 0, none⟩) F.code.length fcap) F.code) => fnext_any F (some ⟨gc, 0, none⟩) fcap pc x W hx hc hfo.c2 (fun h => by have h1 := (hfo.ins x (List.mem_of_getElem? hx)).jump h; have h2 := hfo.c2; omega))
  have HHD := Lib.hid (fun (W : World) (b : Nat) (hc : CodeAt W (.slice (some ⟨gc, 0, none⟩) F.code.length fcap) F.code) (hs : IntsB W b (outL (sureF F))) => heads_any p F (some ⟨gc, 0, none⟩) fcap b W hR hFm hc hs)
  have HT := Lib.hid ht
  have HP := Lib.hid hp
  have HR := Lib.hid hR
  have HFM := Lib.hid hFm
  have HFO := Lib.hid hfo
  have HINS := Lib.hid hins
  have n2 := hfo.c2
  obtain ⟨H, hH⟩ : ∃ H, (hdL F).length = H := ⟨_, rfl⟩
  have HH := Lib.hid hH
  have hHM : H ≤ 40 := by have h1 := hdTo_len F F.code.length; have h2 : hdTo F F.code.length = hdL F := rfl; rw [h2, hH] at h1; omega
  have hH1 : 0 < H := by have := (List.getElem?_eq_some_iff.1 (zero_head hR hFm)).1; omega
  obtain ⟨M, hM⟩ : ∃ M, F.code.length = M := ⟨_, rfl⟩
  have HM := Lib.hid hM
  obtain ⟨N, hN⟩ : ∃ N, p.length = N := ⟨_, rfl⟩
  have hk1 : (k : Int) < N := by omega
  have hk0 : (0 : Int) ≤ k := by omega
  have hmk := make_blks H hHM
  obtain ⟨i0, hI0, hz0, hz1, hz2⟩ := info_parts infoInt
  rw [hN] at HPC HSU HP l2 ⊢
  rw [hM] at HSU HNX HU HHD d2 n2
  clear hA hfn hp ht hR hE hk hf hu hFA hfo hFm hM hN hkl hins hH
  go_enter Tryd.func24, Tryd.ntmps24
  go_wp2_with (first | (go_at_call 27; go_must (refine (HPC.out _ (HT.out.alloc _) (HP.out.keeps ((Below.refl _ _).alloc (Nat.le_refl _) _))).mono ?_; rintro e w1 ⟨rfl, hb⟩; have HB1 := Lib.hid (((Below.refl w.heap.size w).alloc (Nat.le_refl _) (.cells #[.slice (some ⟨g, 0, none⟩) N cap] 25)).trans (hb.mono (by simp))); have HBX := Lib.hid ((hb.block w.heap.size (by simp)).trans (heap_alloc_new w _)); have q0 := cell_block HBX.out; have z0 := block_lt HBX.out; clear hb)) | (go_at_call 44; go_must (refine (HSU.out _ (HT.out.keeps HB1.out) (HP.out.keeps HB1.out)).mono ?_; rintro e w2 ⟨⟨b, rfl, hgb, hIB⟩, hb⟩; have HIB := Lib.hid hIB; have HB2 := Lib.hid (HB1.out.trans (hb.mono HB1.out.size)); have HBX2 := Lib.hid ((hb.block _ (block_lt HBX.out)).trans HBX.out); have q2 := cell_block HBX2.out; have z2 := block_lt HBX2.out; have g2 := Nat.lt_of_lt_of_le hg HB2.out.size; have e0 := (HB2.out.cell (p := ⟨g, _, none⟩) hg).trans d0; have e1 := (HB2.out.cell (p := ⟨g, _, none⟩) hg).trans d1; have e2 := (HB2.out.cell (p := ⟨g, _, none⟩) hg).trans d2; have HB23 := Lib.hid ((Below.refl w2.heap.size w2).alloc (Nat.le_refl _) (.cells #[.int .i64 F.params, .int .i64 F.regs, .slice (some ⟨gc, 0, none⟩) M fcap] 57)); have HFB := Lib.hid (heap_alloc_new w2 (.cells #[.int .i64 F.params, .int .i64 F.regs, .slice (some ⟨gc, 0, none⟩) M fcap] 57)); clear hb hgb hIB q0 z0)) | (go_at_call 45; go_must (refine (HHD.out _ b (HU.out.keeps (HB2.out.trans (HB23.out.mono HB2.out.size))) (HIB.out.keeps HB23.out)).mono ?_; rintro e w4 ⟨⟨v, rfl, hov⟩, hb⟩; obtain ⟨HA, hcap, hv, hrow⟩ := row_own hov; subst hv; rw [HH.out]; have HROW := Lib.hid hrow; have HB24 := Lib.hid (HB23.out.trans (hb.mono HB23.out.size)); have HFB4 := Lib.hid ((hb.block _ (block_lt HFB.out)).trans HFB.out); have HBF := Lib.hid (BW.first w4 H hH1); have c3 := made3 w4 H hH1; have f3 := madeF w4 H; clear hov hrow hb)))
  clear q2 z2 g2 e0 e1 e2 c3 f3 hmk
  have HBS := Lib.hid (show BkS F 0 0 (blk0 (.slice (some ⟨w4.heap.size + 1, 0, none⟩) 1 1) H) by rw [← HH.out]; exact blk0_start F _)
  have HB4 := Lib.hid (HB2.out.trans (HB24.out.mono HB2.out.size))
  obtain ⟨gh, hgh, hghl, hrow⟩ := HROW.out (by rw [HH.out]; exact hH1)
  have HRW := Lib.hid hrow
  have HGH := Lib.hid hghl
  subst hgh
  have HSR := Lib.hid (fun (W : World) (n k : Nat) (h : RowN W (some ⟨gh, 0, none⟩) (hdL F)) (hk : (hdL F)[k]? = some n) => bsearch_any (hdL F) (some ⟨gh, 0, none⟩) hcap n k W h (by rw [HH.out]; omega) (hdL_sorted F) hk)
  have HCO := Lib.hid (fun (W : World) (n : Nat) (h : RowN W (some ⟨gh, 0, none⟩) (hdL F)) => contains_any (hdL F) (some ⟨gh, 0, none⟩) hcap n W h (by rw [HH.out]; omega))
  rw [HH.out] at HSR HCO
  have HGC := Lib.hid hgcl
  have HZ4 := Lib.hid HB4.out.size
  have z24 := block_lt HFB4.out
  have HZ24 := Lib.hid z24
  clear hrow hghl z24 hgcl
  go_loopw [50] (fun v wr => ∃ (i : Nat) (bs : List BR), i ≤ H ∧ v = .int .i64 (i : Int) ∧ BW w4 wr bs ∧ BkS F i 0 bs) (fun v _ => H - (intOf v).toNat)
  case atStart => exact ⟨0, blk0 (.slice (some ⟨w4.heap.size + 1, 0, none⟩) 1 1) H, by omega, rfl, HBF.out, HBS.out⟩
  case round =>
    obtain ⟨i, bs, hi, rfl, hW, hS⟩ := hrel
    obtain ⟨wo, hwo⟩ : ∃ wo : World, wo = wr := ⟨_, rfl⟩
    subst hwo
    clear HBF HBS
    have HW := Lib.hid hW
    have HS := Lib.hid hS
    have HBO := Lib.hid (HB4.out.trans (hW.low.mono HB4.out.size))
    clear hW hS
    by_cases hiH : i = H
    · obtain rfl : H = i := hiH.symm
      go_wp2_with fail
      go_ret2
      exact ⟨⟨w4.heap.size, w4.heap.size + 1, bs, by rw [HH.out]; rfl, HZ4.out, HW.out.blk, BkS.fin (by rw [HH.out]; exact HS.out)⟩, HBO.out⟩
    · have hi1 : (i : Int) < H := by omega
      have hi2 : (0 : Int) ≤ i := by omega
      obtain ⟨a, ha⟩ : ∃ a, (hdL F)[i]? = some a := ⟨_, List.getElem?_eq_getElem (by rw [HH.out]; omega)⟩
      have ham := List.mem_of_getElem? ha
      obtain ⟨s1, s2, s3, s4, s5⟩ := toF_spec HR.out HFM.out ham
      have hda := hdA_eq ha
      have HHA := Lib.hid hda
      have ch := (HW.out.low.cell (p := ⟨gh, i, none⟩) HGH.out).trans (HRW.out i a ha)
      have zgh : gh < wo.heap.size := Nat.lt_of_lt_of_le HGH.out HW.out.low.size
      have zgc : gc < wo.heap.size := Nat.lt_of_lt_of_le HGC.out HBO.out.size
      obtain ⟨T, hT⟩ : ∃ T, toF F a = T := ⟨_, rfl⟩
      have HTT := Lib.hid hT
      have HAM := Lib.hid ham
      rw [hT] at s1 s2 s3 s4 s5
      rw [HM.out] at s2
      have HS4 := Lib.hid s4
      have HS5 := Lib.hid s5
      obtain ⟨r, hr⟩ : ∃ r, bs[i]? = some r := ⟨_, List.getElem?_eq_getElem (by rw [HS.out.len, HH.out]; omega)⟩
      have HRR := Lib.hid hr
      have qb := cell_block ((HW.out.low.block _ HZ24.out).trans HFB4.out)
      have zb : w2.heap.size < wo.heap.size := Nat.lt_of_lt_of_le HZ24.out HW.out.low.size
      clear hT ham s3 s4 s5 hr hda ha
      go_wp2_with fail
      go_loop [14] (fun v => ∃ c : Nat, a ≤ c ∧ c + 1 ≤ T ∧ v = .int .i64 ((c : Int) + 1)) (fun v => T - (intOf v).toNat)
      case atStart => exact ⟨a, by omega, by omega, by go_num⟩
      case round =>
        obtain ⟨c, hac, hcT, rfl⟩ := hrel
        obtain ⟨x, hx⟩ : ∃ x, F.code[c]? = some x := ⟨_, List.getElem?_eq_getElem (by rw [HM.out]; omega)⟩
        have hia := insAt_eq hx
        have HXX := Lib.hid hx
        obtain ⟨e0, -, -, -, -⟩ := HINS.out c x hx
        rw [← HBO.out.cell (p := ⟨gc, _, none⟩) HGC.out] at e0
        have HEN := Lib.hid (fun (W : World) => ends_any x.op W)
        have HCC := Lib.hid (HCO.out wo (c + 1) (RowN.keeps HROW.out HW.out.low))
        have hcc : ((c + 1 : Nat) : Int) = (c : Int) + 1 := by omega
        rw [hcc] at HCC
        have hc1 : (c : Int) + 1 - 1 = c := by omega
        have hst : stopB F (c + 1) = (decide (15 ≤ x.op) || (hdL F).contains (c + 1)) := by unfold stopB; rw [Nat.add_sub_cancel, hia]
        have HST := Lib.hid hst
        have HIA := Lib.hid hia
        clear hx hst hia hcc
        by_cases hcs : c + 1 = T
        · obtain rfl : T = c + 1 := hcs.symm
          have hor : (decide (15 ≤ x.op) || (hdL F).contains (c + 1)) = true := by rw [← HST.out]; exact HS4.out
          -- the two stores
          obtain ⟨rf, rt, rn, rnl, rp, rpl⟩ := r
          have cf0 : wo.cell? ⟨w4.heap.size, i * 4, none⟩ = some (.int .i64 rf) := HW.out.blk.cell HRR.out (j := 0) (by omega)
          have ff0 := HW.out.blk.frozen (i * 4)
          have zg4 := block_lt HW.out.blk.blk
          obtain ⟨wq1, hwq1⟩ : ∃ W, wo.setCell ⟨w4.heap.size, i * 4, none⟩ (.int .i64 (a : Int)) = W := ⟨_, rfl⟩
          have HW1 := HW.out.set0 HRR.out (a : Int)
          rw [hwq1] at HW1
          have cf1 : wq1.cell? ⟨w4.heap.size, i * 4 + 1, none⟩ = some (.int .i64 rt) := HW1.blk.cell (q := i) (r := ⟨(a : Int), rt, rn, rnl, rp, rpl⟩) (by rw [set_get HRR.out, if_pos rfl]) (j := 1) (by omega)
          have ff1 := HW1.blk.frozen (i * 4 + 1)
          have zg1 := block_lt HW1.blk.blk
          obtain ⟨wq2, hwq2⟩ : ∃ W, wq1.setCell ⟨w4.heap.size, i * 4 + 1, none⟩ (.int .i64 ((c : Int) + 1)) = W := ⟨_, rfl⟩
          have hW2 := HW.out.both HRR.out (a : Int) ((c : Int) + 1)
          rw [hwq1, hwq2] at hW2
          have HS2 := Lib.hid (HS.out.bounds HRR.out (a : Int) ((c : Int) + 1))
          have hg2 := set_get (r' := ⟨(a : Int), (c : Int) + 1, rn, rnl, rp, rpl⟩) HRR.out i
          rw [if_pos rfl] at hg2
          have HG2 := Lib.hid hg2
          have qb2 := cell_block ((hW2.low.block _ HZ24.out).trans HFB4.out)
          have zb2 : w2.heap.size < wq2.heap.size := Nat.lt_of_lt_of_le HZ24.out hW2.low.size
          have HB2' := Lib.hid (HB4.out.trans (hW2.low.mono HB4.out.size))
          have HN1 := Lib.hid (HNX.out wq2 c x HXX.out (HU.out.keeps HB2'.out))
          have HW2 := Lib.hid hW2
          have hL0 : nextS x c = nxN F a := by unfold nxN; rw [HTT.out, Nat.add_sub_cancel, HIA.out]
          obtain ⟨L, hL⟩ : ∃ L, nextS x c = L := ⟨_, rfl⟩
          have HLN0 := Lib.hid (hL.symm.trans hL0)
          have hln2 := nextS_length x c
          rw [hL] at HN1 hln2
          clear hL hL0 HW1 hW2 hg2
          have HALL := Lib.hid hor
          by_cases he : 15 ≤ x.op
          case' pos =>
            have h2 : decide (15 ≤ x.op) = true := by simpa using he
            rw [h2] at HEN
            clear h2 he hor
            go_wp2_with (first | (go_at_call 46; go_must (refine (HEN.out _).mono ?_; rintro e w' ⟨rfl, rfl⟩)) | (go_at_call 48; go_must (refine HN1.out.mono ?_; rintro e w7 ⟨⟨vv, rfl, hov⟩, hb7⟩; obtain ⟨Av, capv, hvv, hcv⟩ := own_slice hov; rw [natI_length] at hvv hcv; subst hvv; have HX7 := Lib.hid (BX.start HW2.out hb7 (Av := Av) (fun gv hgv => (World.ownsRow.lt hov gv (by rw [hgv]; rfl)).1)); have HCV := Lib.hid hcv; clear hov hb7 hcv)))
          case' neg =>
            have h2 : decide (15 ≤ x.op) = false := by simpa using he
            have h3 : (hdL F).contains (c + 1) = true := by have := HALL.out; rw [h2] at this; simpa using this
            rw [h2] at HEN
            rw [h3] at HCC
            clear h2 h3 he hor
            go_wp2_with (first | (go_at_call 46; go_must (refine (HEN.out _).mono ?_; rintro e w' ⟨rfl, rfl⟩)) | (go_at_call 47; go_must (refine HCC.out.mono ?_; rintro e w' ⟨rfl, rfl⟩)) | (go_at_call 48; go_must (refine HN1.out.mono ?_; rintro e w7 ⟨⟨vv, rfl, hov⟩, hb7⟩; obtain ⟨Av, capv, hvv, hcv⟩ := own_slice hov; rw [natI_length] at hvv hcv; subst hvv; have HX7 := Lib.hid (BX.start HW2.out hb7 (Av := Av) (fun gv hgv => (World.ownsRow.lt hov gv (by rw [hgv]; rfl)).1)); have HCV := Lib.hid hcv; clear hov hb7 hcv)))
          all_goals
            clear qb zb qb2 zb2 ch zgh zgc e0 hc1 cf0 cf1 ff0 ff1 zg4 zg1 hwq1 hwq2 HEN HCC
            obtain ⟨ln, hln⟩ : ∃ n, L.length = n := ⟨_, rfl⟩
            have HLN := Lib.hid hln
            have HLE := Lib.hid (show (nxI F (hdA F i)).length = ln by unfold nxI; rw [List.length_map, HHA.out, ← HLN0.out]; exact hln)
            rw [hln] at HCV hln2 ⊢
            clear hln
            go_loopw [89] (fun v wr => ∃ (t : Nat) (bs' : List BR), t ≤ ln ∧ v = .int .i64 (t : Int) ∧ BX w4 w7 wr Av bs' ∧ BkS F i t bs' ∧ ∃ s, bs'[i]? = some s ∧ s.fr = (a : Int) ∧ s.to = (c : Int) + 1) (fun v _ => ln - (intOf v).toNat)
            case atStart => exact ⟨0, _, by omega, rfl, HX7.out, HS2.out, _, HG2.out, rfl, rfl⟩
            case round =>
              obtain ⟨t, bs', ht, rfl, hX, hS', s, hs, hsf, hst⟩ := hrel
              have HX := Lib.hid hX
              have HSS := Lib.hid hS'
              have HSI := Lib.hid hs
              have HSF := Lib.hid hsf
              have HSG := Lib.hid hst
              clear hX hS' hs hsf hst
              by_cases htl : t = ln
              · obtain rfl : ln = t := htl.symm
                go_wp2_with fail
                go_roundw
                case rel => exact ⟨i + 1, bs', by omega, by go_num, HX.out.bw, BkS.next (by rw [HLE.out]; exact HSS.out) (fun r' h' => by rw [HSI.out] at h'; obtain rfl := Option.some.inj h'; rw [HHA.out, HTT.out]; exact ⟨HSF.out, by rw [HSG.out]; omega⟩)⟩
                case measure => simp [intOf]; omega
              · have ht1 : (t : Int) < ln := by omega
                have ht2 : (0 : Int) ≤ t := by omega
                obtain ⟨n, hn⟩ : ∃ n, L[t]? = some n := ⟨_, List.getElem?_eq_getElem (by rw [HLN.out]; omega)⟩
                obtain ⟨gv, hgv, hgl, hcc⟩ := HCV.out (by omega)
                obtain ⟨hk1, hk2, hk3⟩ := HX.out.keep gv hgv hgl
                have cn := (cell_eqH hk1 (o := t)).trans ((hcc t (by omega)).trans (show _ = some (Value.int .i64 (n : Int)) by simp [natI, hn]))
                have zgv : gv < wr.heap.size := World.block_lt_of_cell? _ _ cn
                have hnm : n ∈ hdL F := nxN_head HR.out HFM.out HAM.out (by rw [← HLN0.out]; exact List.mem_of_getElem? hn)
                have hkk := posH_get hnm
                obtain ⟨kk, hkd⟩ : ∃ q, posH F n = q := ⟨_, rfl⟩
                rw [hkd] at hkk
                have hkH : kk < H := by have := (List.getElem?_eq_some_iff.1 hkk).1; rw [HH.out] at this; exact this
                have hkI : (kk : Int) < H := by omega
                have hkJ : (0 : Int) ≤ kk := by omega
                have HNX2 := Lib.hid (show (nxI F (hdA F i))[t]? = some kk by unfold nxI; rw [HHA.out, ← HLN0.out, List.getElem?_map, hn]; simp [hkd])
                have HBSR := Lib.hid (HSR.out wr n kk (RowN.keeps HROW.out HX.out.bw.low) hkk)
                obtain ⟨An, capn, hnv, -⟩ := own_slice (HX.out.bw.blk.rows.own i s false HSI.out)
                have hnl : s.nl.length = t := by rw [HSS.out.nl i s HSI.out, if_neg (by omega), if_pos rfl, natI_length, List.length_take, HLE.out]; omega
                rw [show (s.lst false).length = t from hnl] at hnv
                have hown := HX.out.bw.blk.rows.own i s false HSI.out
                rw [show (s.lst false).length = t from hnl, hnv] at hown
                have HOWN := Lib.hid hown
                have HNV := Lib.hid hnv
                have HNL := Lib.hid hnl
                have cs2 : wr.cell? ⟨w4.heap.size, i * 4 + 2, none⟩ = some (.slice An t capn) := (HX.out.bw.blk.cell HSI.out (j := 2) (by omega)).trans (show some (s.val false) = _ by rw [hnv])
                have fs2 := HX.out.bw.blk.frozen (i * 4 + 2)
                have zg := block_lt HX.out.bw.blk.blk
                subst hgv
                clear hk1 hk2 hk3 hn hgl hcc hnm hkk hkd hnl hown hnv
                go_wp2_with (first | (go_at_call 49; go_must (refine HBSR.out.mono ?_; rintro e w' ⟨rfl, rfl⟩)) | (have tok := HX8; at_builtin; go_must (refine wpList_append_own_at _ rfl _ _ 37 rfl (w4.heap.size + 1) 3 i0 _ 1 8 Tryd.underlying37 hI0 hz0 hz1 hz2 rfl (by decide) (.slice A2 P cap2) P (s2.pl.map (Value.int .i64)) rfl (own_below HOW2.out ((Below.refl _ _).alloc (Nat.le_refl _) _)) ⟨wa.heap.size, 0, none⟩ 1 1 [.int .i64 (i : Int)] rfl rfl (World.news_of_block (cs := #[.int .i64 (i : Int)]) (t := 3) (fr := (0, 0)) (by simpa using heap_alloc_new wa (.cells #[.int .i64 (i : Int)] 3))) (by simp [Value.oneCell']) (by unfold maxLen; omega) (by omega) (by simp; omega) ?_); go_must (intro v9 w9 hown9 hg9 _ hat9; obtain ⟨A9, cap9, hv9, -⟩ := own_slice hown9; rw [hv9] at hown9 hat9; rw [hv9]; have hap := HX8.out.app HSI2.out true (v := .slice A9 (P + 1) cap9) (x := (i : Int)) (.cells #[.int .i64 (i : Int)] 3) (by rw [HPV.out]; exact hg9) (by rw [show (s2.lst true).length = P from HPL.out]; exact hown9) (by rw [HPV.out]; exact hat9); have c9 : w9.cell? ⟨w4.heap.size, kk * 4 + 3, none⟩ = some (.slice A2 P cap2) := (cell_eqH hap.2).trans cs3; have f9 : w9.frozen? ⟨w4.heap.size, kk * 4 + 3, none⟩ = false := frozen_block (hap.2.trans HX8.out.bw.blk.blk) _; have z9 := block_lt (hap.2.trans HX8.out.bw.blk.blk); obtain ⟨wz, hwz⟩ : ∃ W, w9.setCell ⟨w4.heap.size, kk * 4 + 3, none⟩ (.slice A9 (P + 1) cap9) = W := ⟨_, rfl⟩; have hX9 : BX w4 w7 wz (some ⟨gv, 0, none⟩) ((bs'.set i (s.upd false (.slice A8 (t + 1) cap8) (s.lst false ++ [(kk : Int)]))).set kk (s2.upd true (.slice A9 (P + 1) cap9) (s2.lst true ++ [(i : Int)]))) := (by rw [← hwz]; exact hap.1); have HX9 := Lib.hid hX9; have HST9 := Lib.hid (HSS.out.step HSI.out HNX2.out (v' := .slice A9 (P + 1) cap9) HSI2.out); clear hown9 hg9 hat9 hap hX9); clear tok) | (at_builtin; go_must (refine wpList_append_own_at _ rfl _ _ 37 rfl (w4.heap.size + 1) 3 i0 _ 1 8 Tryd.underlying37 hI0 hz0 hz1 hz2 rfl (by decide) (.slice An t capn) t (s.nl.map (Value.int .i64)) rfl (own_below HOWN.out ((Below.refl _ _).alloc (Nat.le_refl _) _)) ⟨wr.heap.size, 0, none⟩ 1 1 [.int .i64 (kk : Int)] rfl rfl (World.news_of_block (cs := #[.int .i64 (kk : Int)]) (t := 3) (fr := (0, 0)) (by simpa using heap_alloc_new wr (.cells #[.int .i64 (kk : Int)] 3))) (by simp [Value.oneCell']) (by unfold maxLen; omega) (by omega) (by simp; omega) ?_); intro v8 w8 hown8 hg8 _ hat8; obtain ⟨A8, cap8, hv8, -⟩ := own_slice hown8; rw [hv8] at hown8 hat8; rw [hv8]; have hap := HX.out.app HSI.out false (v := .slice A8 (t + 1) cap8) (x := (kk : Int)) (.cells #[.int .i64 (kk : Int)] 3) (by rw [HNV.out]; exact hg8) (by rw [show (s.lst false).length = t from HNL.out]; exact hown8) (by rw [HNV.out]; exact hat8); have c8 : w8.cell? ⟨w4.heap.size, i * 4 + 2, none⟩ = some (.slice An t capn) := (cell_eqH hap.2).trans cs2; have f8 : w8.frozen? ⟨w4.heap.size, i * 4 + 2, none⟩ = false := frozen_block (hap.2.trans HX.out.bw.blk.blk) _; have z8 := block_lt (hap.2.trans HX.out.bw.blk.blk); obtain ⟨wa, hwa⟩ : ∃ W, w8.setCell ⟨w4.heap.size, i * 4 + 2, none⟩ (.slice A8 (t + 1) cap8) = W := ⟨_, rfl⟩; have hX8 : BX w4 w7 wa (some ⟨gv, 0, none⟩) (bs'.set i (s.upd false (.slice A8 (t + 1) cap8) (s.lst false ++ [(kk : Int)]))) := (by rw [← hwa]; exact hap.1); obtain ⟨s2, hs2⟩ : ∃ s2, (bs'.set i (s.upd false (.slice A8 (t + 1) cap8) (s.lst false ++ [(kk : Int)])))[kk]? = some s2 := ⟨_, List.getElem?_eq_getElem (by rw [List.length_set, HSS.out.len, HH.out]; exact hkH)⟩; obtain ⟨s0, hs0, hpl⟩ := upd_other HSI.out _ _ _ _ hs2; have hpb : s2.pl.length ≤ 3 + 2 * i := (by rw [hpl, HSS.out.pl _ _ hs0]; exact prevTo_len _ _ _ _); have HSI2 := Lib.hid hs2; obtain ⟨A2, cap2, hpv, -⟩ := own_slice (hX8.bw.blk.rows.own kk s2 true hs2); obtain ⟨P, hP⟩ : ∃ n, s2.pl.length = n := ⟨_, rfl⟩; have HPL := Lib.hid hP; rw [show (s2.lst true).length = P from hP] at hpv; rw [hP] at hpb; have HPV := Lib.hid hpv; have HOW2 := Lib.hid (hX8.bw.blk.rows.own kk s2 true hs2); rw [show (s2.lst true).length = P from hP, hpv] at HOW2; have cs3 : wa.cell? ⟨w4.heap.size, kk * 4 + 3, none⟩ = some (.slice A2 P cap2) := (hX8.bw.blk.cell hs2 (j := 3) (by omega)).trans (show some (s2.val true) = _ by rw [hpv]); have fs3 := hX8.bw.blk.frozen (kk * 4 + 3); have z3 := block_lt hX8.bw.blk.blk; have HX8 := Lib.hid hX8; clear hown8 hg8 hat8 hap hX8 hs2 hs0 hpl hpv hP))
                go_roundw
                case rel => obtain ⟨k1, s9, k2, k3, k4⟩ := HST9.out; exact ⟨t + 1, _, by omega, by go_num, HX9.out, k1, s9, k2, k3.trans HSF.out, k4.trans HSG.out⟩
                case measure => simp [intOf]; omega
        · have h1 := (HS5.out (c + 1) (by omega) (by omega)).1
          rw [HST.out, Bool.or_eq_false_iff] at h1
          obtain ⟨h2, h3⟩ := h1
          rw [h2] at HEN
          rw [h3] at HCC
          clear h2 h3
          go_wp2_with (first | (go_at_call 46; go_must (refine (HEN.out _).mono ?_; rintro e w' ⟨rfl, rfl⟩)) | (go_at_call 47; go_must (refine HCC.out.mono ?_; rintro e w' ⟨rfl, rfl⟩)))
          go_round
          case rel => exact ⟨c + 1, by omega, by omega, by go_num⟩
          case measure => simp [intOf]; omega
end Go.Proofs.YtfdppmjoinodgaaDoor
/-
  The contract of keep.has: whether a row of numbers holds a number.
-/
namespace Go.Proofs.YtfdppmjoinodgaaDoor
open Go.RowKit Tier
def RowI (w : World) (A : Option Addr) (l : List Int) : Prop := 0 < l.length → ∃ g, A = some ⟨g, 0, none⟩ ∧ g < w.heap.size ∧ ∀ (i : Nat) (z : Int), l[i]? = some z → w.cell? ⟨g, i, none⟩ = some (.int .i64 z)
theorem RowI.keeps {w w' : World} {A : Option Addr} {l : List Int} (h : RowI w A l) (hb : Below w.heap.size w w') : RowI w' A l := fun hl => by
  obtain ⟨g, h1, h2, h3⟩ := h hl
  exact ⟨g, h1, Nat.lt_of_lt_of_le h2 hb.size, fun i n hn => (hb.cell (p := ⟨g, i, none⟩) h2).trans (h3 i n hn)⟩
theorem rowI_own {w : World} {B : Nat} {v : Value} {l : List Int} (h : OwnI w B v l) : ∃ A cap, v = .slice A l.length cap ∧ RowI w A l := by
  obtain ⟨A, cap, hv, hc⟩ := own_slice h
  refine ⟨A, cap, hv, fun hl => ?_⟩
  obtain ⟨g, h1, h2, h3⟩ := hc hl
  exact ⟨g, h1, h2, fun i n hn => (h3 i (by have := (List.getElem?_eq_some_iff.1 hn).1; omega)).trans (by simp [hn])⟩
set_option maxRecDepth 100000 in
set_option maxHeartbeats 4000000 in
theorem has_any (l : List Int) (A : Option Addr) (cap : Nat) (n : Int) (w : World) (h : RowI w A l) (hl : l.length ≤ 1000) :
    Calls Tryd.prog 16 #[.slice A l.length cap, .int .i64 n] w fun e w' => e = .returned (.bool (decide (n ∈ l))) ∧ w = w' := by
  have HR := Lib.hid h
  clear h
  obtain ⟨N, hN⟩ : ∃ N, l.length = N := ⟨_, rfl⟩
  have HN := Lib.hid hN
  rw [hN] at hl ⊢
  clear hN
  go_enter Tryd.func16, Tryd.ntmps16
  go_wp2_with fail
  go_loop [5] (fun v => ∃ i : Nat, i ≤ N ∧ v = .int .i64 (i : Int) ∧ ∀ j, j < i → l[j]? ≠ some n) (fun v => N - (intOf v).toNat)
  case atStart => exact ⟨0, by omega, rfl, fun j hj => by omega⟩
  case round =>
    obtain ⟨i, hi, rfl, hno⟩ := hrel
    have HNO := Lib.hid hno
    clear hno
    by_cases hiN : i = N
    · obtain rfl : N = i := hiN.symm
      go_wp2_with fail
      go_ret
      refine ⟨?_, rfl⟩
      have : decide (n ∈ l) = false := by
        rw [decide_eq_false_iff_not]
        intro hc
        obtain ⟨j, hj⟩ := List.getElem?_of_mem hc
        exact HNO.out j (by have := (List.getElem?_eq_some_iff.1 hj).1; rw [HN.out] at this; exact this) hj
      rw [this]; rfl
    · have hi1 : (i : Int) < N := by omega
      have hi2 : (0 : Int) ≤ i := by omega
      obtain ⟨g, hg, hgl, hc⟩ := HR.out (by rw [HN.out]; omega)
      obtain ⟨m, hm⟩ : ∃ m, l[i]? = some m := ⟨l[i]'(by rw [HN.out]; omega), List.getElem?_eq_getElem _⟩
      have cm := hc i m hm
      have HM := Lib.hid hm
      subst hg
      clear hc hm hiN
      by_cases hnm : n = m
      · subst hnm
        go_wp2_with fail
        go_ret
        refine ⟨?_, rfl⟩
        have : decide (n ∈ l) = true := by simpa using List.mem_of_getElem? HM.out
        rw [this]; rfl
      · have hmn : ¬ (m = n) := fun e => hnm e.symm
        have hmd : decide (m = n) = false := by simpa using hmn
        go_wp2_with fail
        go_round
        case rel => exact ⟨i + 1, by omega, by go_num, fun j hj e => by
          by_cases hji : j = i
          · subst hji; rw [HM.out] at e; exact hnm (Option.some.inj e).symm
          · exact HNO.out j (by omega) e⟩
        case measure => simp [intOf]; omega
end Go.Proofs.YtfdppmjoinodgaaDoor
