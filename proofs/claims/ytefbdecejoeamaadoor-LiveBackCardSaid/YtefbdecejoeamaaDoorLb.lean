/-
  The walk of LiveBack: it returns true.
-/
import Derived.Test.YtefbdecejoeamaaDoorLv
import Derived.Test.YtefbdecejoeamaaDoorBe
import Derived.Test.YtefbdecejoeamaaDoorBmP
import Derived.Test.YtefbdecejoeamaaDoorPgS
import Derived.Test.YtefbdecejoeamaaDoorOpn
namespace Go.Proofs.YtefbdecejoeamaaDoor
open Go.RowKit Tier
theorem lb_row {w : World} {g B : Nat} {bs : List BR} (h : BlkB w g B bs) {q : Nat} {r : BR} (hq : bs[q]? = some r) (c : Bool) : ∃ A cap, r.val c = .slice A (r.lst c).length cap ∧ RowI w A (r.lst c) := rowI_own (h.rows.own q r c hq)
theorem live_fix {p : List Fnc} {F : Fnc} {O : List Nat} (h : LiveOk p F O) {pc : Nat} {x : Ins} (hr : rchB F pc = true) (hx : F.code[pc]? = some x) {L : List Nat} (hL : nextS x pc = L) : O.getD pc 0 = (orN O L - (orN O L &&& setM x)) ||| readsM x (parOf p x) := by
  rw [h.fix pc x hr hx]
  unfold liveV
  rw [hL]
theorem nextS_mid {x : Ins} {pc : Nat} (ho : x.op < 15) : nextS x pc = [pc + 1] := by
  unfold nextS; rw [if_neg (by omega), if_neg (by omega), if_neg (by omega)]
theorem orN_one (O : List Nat) (n : Nat) : orN O [n] = O.getD n 0 := by simp [orN]
theorem nxN_len (F : Fnc) (a : Nat) : (nxN F a).length ≤ 2 := nextS_length _ _
set_option maxRecDepth 100000 in
set_option maxHeartbeats 8000000 in
theorem liveBack_walk (A : Option Addr) (l : List Fnc) (cap : Nat) (fn : Int) (w : World) (ht : Tab w) (hraw : RawsAt w A l) (hln : (l.length : Int) ≤ 9223372036854775807) (hfn : In fn) :
    Calls Tryd.prog 13 #[.slice A l.length cap, .int .i64 fn] w fun e w' => e = .returned (.bool true) ∧ Below w.heap.size w w' := by
  have HT := Lib.hid ht
  have HR := Lib.hid hraw
  have HCK := Lib.hid (mkP_right l)
  clear ht hraw
  go_enter Tryd.func13, Tryd.ntmps13
  go_wp2_with fail
  refine (program_any A cap l _ HT.out hln HR.out).mono ?_
  rintro e w1 ⟨⟨A1, cap1, vs, rfl, hpv⟩, hb1⟩
  have HPV := Lib.hid hpv
  have HB1 := Lib.hid hb1
  clear hpv hb1
  generalize mkP l = p at *
  have hRT := right_of HCK.out
  have hE : progE p = 0 := progE_ck HCK.out
  have hl1 := hRT.ok.l1
  have hl2 := hRT.ok.l2
  have hpk := picked_in fn p.length (by omega)
  obtain ⟨k, hk⟩ : ∃ k : Nat, pickedI fn p.length = k := ⟨(pickedI fn p.length).toNat, by omega⟩
  rw [hk] at hpk
  have HPK := Lib.hid (fun (W : World) => picked_any fn p.length W hfn (by omega) (by omega))
  rw [hk] at HPK
  clear hk
  obtain ⟨A0, cap0, hA0, hA⟩ := HPV.out.at.slice
  simp only [Value.slice.injEq, true_and] at hA0
  obtain ⟨g, hAg, hg, hfn'⟩ := hA (by omega)
  obtain ⟨rfl, rfl⟩ := hA0
  have hkl : k < p.length := by omega
  obtain ⟨F, hF⟩ : ∃ f, p[k]? = some f := ⟨p[k], List.getElem?_eq_getElem hkl⟩
  have hfo := hRT.ok.fn F (List.mem_of_getElem? hF)
  obtain ⟨u, hu, c0, c1, c2⟩ := hfn' k F hF
  obtain ⟨FA, fcap, rfl, hFA⟩ := hu.slice
  subst hAg
  have HBK := Lib.hid (fun (W : World) (h1 : Tab W) (h2 : ProgAt W (.slice (some ⟨g, 0, none⟩) p.length cap1) p) => blocks_any p (some ⟨g, 0, none⟩) cap1 k F W h1 h2 HCK.out hF)
  have HLV := Lib.hid (fun (W : World) (h1 : Tab W) (h2 : ProgAt W (.slice (some ⟨g, 0, none⟩) p.length cap1) p) => live_any p (some ⟨g, 0, none⟩) cap1 k F W h1 h2 HCK.out hF)
  have HRD := Lib.hid (fun (W : World) (h1 : Tab W) (h2 : ProgAt W (.slice (some ⟨g, 0, none⟩) p.length cap1) p) => fun (pc : Nat) (x : Ins) (hx : F.code[pc]? = some x) => preadsx_any p (some ⟨g, 0, none⟩) cap1 k pc F x W h1 h2 hE hF hx)
  have HSL := Lib.hid (sureF_length hfo.cok hfo.p2)
  have HF := Lib.hid hF
  have HFM := Lib.hid (List.mem_of_getElem? hF)
  have HRT := Lib.hid hRT
  have HFO := Lib.hid hfo
  have n1 := hfo.c1
  have n2 := hfo.c2
  have HFA := Lib.hid hFA
  obtain ⟨M, hM⟩ : ∃ M, F.code.length = M := ⟨_, rfl⟩
  have HM := Lib.hid hM
  rw [hM] at  HSL n1 n2 c2
  have hk0 : (0 : Int) ≤ k := by omega
  have hk1 : (k : Int) < p.length := by omega
  clear hA hfn' hF hu hfo hM hRT c0 c1 hFA
  obtain ⟨N, hN⟩ : ∃ N, p.length = N := ⟨_, rfl⟩
  have HN := Lib.hid hN
  rw [hN] at HPK HBK HLV HRD hl1 hl2 hkl hk1 hpk ⊢
  have HPA := Lib.hid (show ProgAt w1 (.slice (some ⟨g, 0, none⟩) N cap1) p from by have := HPV.out.at; rw [hN] at this; exact this)
  clear hN hE
  have HXA := Lib.hid ((Below.refl w1.heap.size w1).alloc (Nat.le_refl _) (.cells #[.slice (some ⟨g, 0, none⟩) N cap1] 25))
  obtain ⟨H, hH⟩ : ∃ H, (hdL F).length = H := ⟨_, rfl⟩
  have HH := Lib.hid hH
  have hHM : H ≤ 40 := by have h1 := hdTo_len F F.code.length; have h2 : hdTo F F.code.length = hdL F := rfl; rw [h2, hH, HM.out] at h1; omega
  have hH1 : 0 < H := by have := (List.getElem?_eq_some_iff.1 (zero_head HRT.out HFM.out)).1; omega
  have hHz : ((H : Int) == 0) = false := beq_eq_false_iff_ne.2 (by omega)
  clear hH
  go_wp2_with (first | (go_at_call 26; go_must (refine (HPK.out _).mono ?_; rintro e w' ⟨rfl, rfl⟩)) | (go_at_call 36; go_must (refine (HLV.out _ (HT.out.keeps (HB1.out.alloc HB1.out.size _)) (HPA.out.keeps HXA.out)).mono ?_; rintro e w2 ⟨⟨lb, O, rfl, hlb, hIL, hOK⟩, hb⟩; rw [HM.out]; have HB12 := Lib.hid (HXA.out.trans (hb.mono HXA.out.size)); have HIL := Lib.hid hIL; have HOK := Lib.hid hOK; have HX2 := Lib.hid ((hb.block w1.heap.size (by simp)).trans (heap_alloc_new w1 _)); have q2 := cell_block HX2.out; have z2 := block_lt HX2.out; clear hlb hIL hb hOK)) | (go_at_call 39; go_must (refine (HBK.out _ (HT.out.keeps (HB1.out.trans (HB12.out.mono HB1.out.size))) (HPA.out.keeps HB12.out)).mono ?_; rintro e w3 ⟨⟨gb, Bb, bs, rfl, hgb, hBB, hOB⟩, hb⟩; rw [HH.out]; have HB13 := Lib.hid (HB12.out.trans (hb.mono HB12.out.size)); have HIL3 := Lib.hid (HIL.out.keeps hb); have HBB := Lib.hid hBB; have HOB := Lib.hid hOB; have HX3 := Lib.hid ((hb.block _ (block_lt HX2.out)).trans HX2.out); have q3 := cell_block HX3.out; have z3 := block_lt HX3.out; have g3 : g < w3.heap.size := Nat.lt_of_lt_of_le hg HB13.out.size; have d2 := (HB13.out.cell (p := ⟨g, _, none⟩) hg).trans c2; clear hgb hBB hOB hb q2 z2)))
  clear q3 z3 g3 d2
  have HGB := Lib.hid (block_lt HBB.out.blk)
  go_loopw [11] (fun v wr => ∃ i : Nat, i ≤ H ∧ v = .int .i64 (i : Int) ∧ Below w3.heap.size w3 wr) (fun v _ => H - (intOf v).toNat)
  case atStart => exact ⟨0, by omega, rfl, Below.refl _ _⟩
  case round =>
    obtain ⟨i, hi, rfl, hbo⟩ := hrel
    obtain ⟨wo, hwo⟩ : ∃ wo : World, wo = wr := ⟨_, rfl⟩
    subst hwo
    have HBO := Lib.hid hbo
    by_cases hiH : i = H
    · obtain rfl : H = i := hiH.symm
      clear hbo
      go_wp2_with fail
      go_ret
      exact ⟨rfl, HB1.out.trans ((HB13.out.trans (HBO.out.mono HB13.out.size)).mono HB1.out.size)⟩
    · have hi1 : (i : Int) < H := by omega
      have hi2 : (0 : Int) ≤ i := by omega
      obtain ⟨a, ha⟩ : ∃ a, (hdL F)[i]? = some a := ⟨_, List.getElem?_eq_getElem (by rw [HH.out]; omega)⟩
      have ham := List.mem_of_getElem? ha
      obtain ⟨s1, s2, -, -, -⟩ := toF_spec HRT.out HFM.out ham
      rw [HM.out] at s2
      obtain ⟨r, hr⟩ : ∃ r, bs[i]? = some r := ⟨_, List.getElem?_eq_getElem (by rw [HOB.out.len, HH.out]; omega)⟩
      obtain ⟨hr1, hr2⟩ := blkok_fr HOB.out hr ha
      obtain ⟨An, pn, hvn, hRn⟩ := lb_row HBB.out hr false
      have hnl := (HOB.out.at_ i r hr).2.2.1
      rw [hdA_eq ha] at hnl
      have hln : (r.lst false).length = (nxN F a).length := by show r.nl.length = _; rw [hnl, natI_length]; unfold nxI; rw [List.length_map]
      rw [hln] at hvn
      have hRn' : RowI w3 An (natI (nxI F a)) := by rw [← hnl]; exact hRn
      have HRN := Lib.hid hRn'
      have HNS := Lib.hid (show nxN F a = nextS (insAt F (toF F a - 1)) (toF F a - 1) from rfl)
      obtain ⟨T, hT⟩ : ∃ T, toF F a = T := ⟨_, rfl⟩
      have HCOV := Lib.hid (fun (q : Nat) (h1 : a ≤ q) (h2 : q < T) => cov_rch HRT.out HFM.out ham h1 (by rw [hT]; exact h2))
      have HOPS := Lib.hid (fun (q : Nat) (h1 : a ≤ q) (h2 : q + 1 < T) => cov_end HRT.out HFM.out ham h1 (by rw [hT]; exact h2))
      have HNH := Lib.hid (fun (n : Nat) (hn : n ∈ nxN F a) => nxN_head HRT.out HFM.out ham hn)
      have HCF := Lib.hid (show w3.cell? ⟨gb, i * 4, none⟩ = some (.int .i64 (a : Int)) from (HBB.out.cell hr (j := 0) (by omega)).trans (by rw [← hr1]; rfl))
      have HCT := Lib.hid (show w3.cell? ⟨gb, i * 4 + 1, none⟩ = some (.int .i64 (T : Int)) from (HBB.out.cell hr (j := 1) (by omega)).trans (by rw [← hT, ← hr2]; rfl))
      have HCN := Lib.hid (show w3.cell? ⟨gb, i * 4 + 2, none⟩ = some (.slice An (nxN F a).length pn) from (HBB.out.cell hr (j := 2) (by omega)).trans (show some (r.val false) = _ by rw [hvn]))
      rw [hT] at s1 s2 HNS
      have hln2 := nxN_len F a
      obtain ⟨LN, hLN⟩ : ∃ l, nxN F a = l := ⟨_, rfl⟩
      have HLN := Lib.hid hLN
      rw [hLN] at HCN hln2 HNS HNH
      obtain ⟨ln, hlnn⟩ : ∃ n, LN.length = n := ⟨_, rfl⟩
      have HLL := Lib.hid hlnn
      rw [hlnn] at HCN hln2
      have zgb : gb < wo.heap.size := Nat.lt_of_lt_of_le HGB.out hbo.size
      have cf := (hbo.cell (p := ⟨gb, _, none⟩) HGB.out).trans HCF.out
      clear hbo ha ham hr hr1 hr2 hvn hRn hnl hln hRn' hT hLN hlnn hiH
      go_wp2_with fail
      clear cf zgb
      go_loopw [12] (fun v wr => ∃ pc : Nat, a ≤ pc ∧ pc ≤ T ∧ v = .int .i64 (pc : Int) ∧ Below w3.heap.size w3 wr) (fun v _ => T - (intOf v).toNat)
      case atStart => exact ⟨a, Nat.le_refl _, by omega, rfl, HBO.out⟩
      case round =>
        obtain ⟨pc, hpa, hpT, rfl, hbr⟩ := hrel
        have HBR := Lib.hid hbr
        have zgb : gb < wr.heap.size := Nat.lt_of_lt_of_le HGB.out hbr.size
        have ct := (hbr.cell (p := ⟨gb, _, none⟩) HGB.out).trans HCT.out
        by_cases hpe : pc = T
        · obtain rfl : T = pc := hpe.symm
          clear hbr
          go_wp2_with fail
          go_roundw
          case rel => exact ⟨i + 1, by omega, by go_num, HBR.out⟩
          case measure => simp [intOf]; omega
        · have p1 : (pc : Int) < T := by omega
          have p2 : (0 : Int) ≤ pc := by omega
          have p3 : (pc : Int) < M := by omega
          obtain ⟨x, hx⟩ : ∃ x, F.code[pc]? = some x := ⟨_, List.getElem?_eq_getElem (by rw [HM.out]; omega)⟩
          have hio := HFO.out.ins x (List.mem_of_getElem? hx)
          have hrch := HCOV.out pc hpa (by omega)
          have HRD1 := Lib.hid (fun (W : World) h1 h2 => HRD.out W h1 h2 pc x hx)
          have hsm := setM_lt hio HFO.out.r2
          have hrd := reads_lt x hio HFO.out.r2 (parOf p x)
          have HFX := Lib.hid (fun (L : List Nat) (hL : nextS x pc = L) => live_fix HOK.out hrch hx hL)
          have HXR := Lib.hid ((hbr.block _ (block_lt HX3.out)).trans HX3.out)
          have HW1R := Lib.hid (HB13.out.trans (hbr.mono HB13.out.size))
          have HPR := Lib.hid (HPA.out.keeps HW1R.out)
          have HTR := Lib.hid (HT.out.keeps (HB1.out.trans (HW1R.out.mono HB1.out.size)))
          have hlp := outL_get (liveL_get (F := F) (O := O) (pc := pc) (by rw [HM.out]; omega))
          rw [hrch] at hlp
          have HLP := Lib.hid (show (outL (liveL F O))[pc]? = some ((O.getD pc 0 : Nat) : Int) from hlp)
          have hin := insAt_eq hx
          obtain ⟨rd, hrde⟩ : ∃ r, readsM x (parOf p x) = r := ⟨_, rfl⟩
          obtain ⟨sm, hsme⟩ : ∃ r, setM x = r := ⟨_, rfl⟩
          rw [hrde, hsme] at HRD1 HFX
          rw [hrde] at hrd
          rw [hsme] at hsm
          have qq := cell_block HXR.out
          have zq := block_lt HXR.out
          by_cases hpl : pc + 1 < T
          · have ho := HOPS.out pc hpa hpl
            rw [hin] at ho
            have hfx := HFX.out _ (nextS_mid ho)
            rw [orN_one] at hfx
            have hrch2 := HCOV.out (pc + 1) (by omega) hpl
            have hlq := outL_get (liveL_get (F := F) (O := O) (pc := pc + 1) (by rw [HM.out]; omega))
            rw [hrch2] at hlq
            have HLQ := Lib.hid (show (outL (liveL F O))[pc + 1]? = some ((O.getD (pc + 1) 0 : Nat) : Int) from hlq)
            have hO4 := getD_lt HOK.out.inv.lt (pc + 1)
            obtain ⟨v, hv⟩ : ∃ v, O.getD pc 0 = v := ⟨_, rfl⟩
            obtain ⟨b, hb⟩ : ∃ v, O.getD (pc + 1) 0 = v := ⟨_, rfl⟩
            rw [hv] at hfx HLP
            rw [hb] at hfx HLQ hO4
            have hand := andNot_nat b sm (by omega) (by omega)
            have hle : b - (b &&& sm) < 4096 := by omega
            have hor := or_nat (b - (b &&& sm)) rd (by omega) (by omega)
            rw [← hfx] at hor
            obtain ⟨an, han⟩ : ∃ a, b - (b &&& sm) = a := ⟨_, rfl⟩
            rw [han] at hand hor
            have hne : ((v : Int) != (v : Int)) = false := by simp
            have k1 : (pc : Int) + 1 < T := by omega
            have k2 : (0 : Int) ≤ (pc : Int) + 1 := by omega
            have k3 : (pc : Int) + 1 < M := by omega
            clear han hle hv hb hlp hlq hfx ho hin hx hio hrch hrch2 hrde hsme hbr hpe hO4 hsm hrd
            go_wp2_with (first | (go_at_call 38; go_must (refine (HRD1.out _ HTR.out HPR.out).mono ?_; rintro e w8 ⟨rfl, hb8⟩; have HB8 := Lib.hid (HBR.out.trans (hb8.mono HBR.out.size)); have z8 := Nat.lt_of_lt_of_le HGB.out HB8.out.size; have ct8 := (HB8.out.cell (p := ⟨gb, _, none⟩) HGB.out).trans HCT.out; have cn8 := (HB8.out.cell (p := ⟨gb, _, none⟩) HGB.out).trans HCN.out; have HIL8 := Lib.hid (HIL3.out.keeps HB8.out); have cl8 := HIL8.out.cell HLP.out; have zl8 := HIL8.out.lt; have cq8 := HIL8.out.cell HLQ.out; clear hb8 qq zq ct zgb)))
            go_roundw
            case rel => exact ⟨pc + 1, by omega, by omega, by go_num, HB8.out⟩
            case measure => simp [intOf]; omega
          · have hpT2 : pc + 1 = T := by omega
            have k1 : decide ((pc : Int) + 1 < T) = false := by rw [decide_eq_false_iff_not]; omega
            have k2 : decide (pc + 1 < T) = false := by rw [decide_eq_false_iff_not]; omega
            have hns : nextS x pc = LN := by rw [HNS.out, ← hpT2, Nat.add_sub_cancel, hin]
            have hfx := HFX.out _ hns
            have HFX2 := Lib.hid hfx
            have hol := orN_lt HOK.out.inv.lt LN
            obtain ⟨v, hv⟩ : ∃ v, O.getD pc 0 = v := ⟨_, rfl⟩
            rw [hv] at HFX2 HLP
            have hne : ((v : Int) != (v : Int)) = false := by simp
            clear hv hlp hfx hns hin hx hio hrch hrde hsme hbr hpe
            go_wp2_with (first | (go_at_call 38; go_must (refine (HRD1.out _ HTR.out HPR.out).mono ?_; rintro e w8 ⟨rfl, hb8⟩; have HB8 := Lib.hid (HBR.out.trans (hb8.mono HBR.out.size)); have z8 := Nat.lt_of_lt_of_le HGB.out HB8.out.size; have ct8 := (HB8.out.cell (p := ⟨gb, _, none⟩) HGB.out).trans HCT.out; have cn8 := (HB8.out.cell (p := ⟨gb, _, none⟩) HGB.out).trans HCN.out; have HIL8 := Lib.hid (HIL3.out.keeps HB8.out); have cl8 := HIL8.out.cell HLP.out; have zl8 := HIL8.out.lt;  clear hb8 qq zq ct zgb)))
            clear cl8 zl8 ct8
            go_loop [16, 17] (fun vb v => ∃ j : Nat, j ≤ ln ∧ v = .int .i64 (j : Int) ∧ vb = .int .i64 ((orN O (LN.take j) : Nat) : Int)) (fun _ v => ln - (intOf v).toNat)
            case atStart => exact ⟨0, by omega, rfl, rfl⟩
            case round =>
              obtain ⟨j, hj, rfl, rfl⟩ := hrel
              by_cases hjl : j = ln
              · obtain rfl : ln = j := hjl.symm
                have htl : LN.take ln = LN := List.take_of_length_le (by rw [HLL.out]; exact Nat.le_refl _)
                rw [htl]
                clear htl
                obtain ⟨b, hb⟩ : ∃ v, orN O LN = v := ⟨_, rfl⟩
                have hfx := HFX2.out
                rw [hb] at hfx hol
                rw [hb]
                have hand := andNot_nat b sm (by omega) (by omega)
                have hle : b - (b &&& sm) < 4096 := by omega
                have hor := or_nat (b - (b &&& sm)) rd (by omega) (by omega)
                rw [← hfx] at hor
                obtain ⟨an, han⟩ : ∃ a, b - (b &&& sm) = a := ⟨_, rfl⟩
                rw [han] at hand hor
                have cl8 := HIL8.out.cell HLP.out
                have zl8 := HIL8.out.lt
                clear han hle hb hfx
                go_wp2_with fail
                go_roundw
                case rel => exact ⟨pc + 1, by omega, by omega, by go_num, HB8.out⟩
                case measure => simp [intOf]; omega
              · have j1 : (j : Int) < ln := by omega
                have j2 : (0 : Int) ≤ j := by omega
                obtain ⟨n, hn⟩ : ∃ n, LN[j]? = some n := ⟨_, List.getElem?_eq_getElem (by rw [HLL.out]; omega)⟩
                have hnm := List.mem_of_getElem? hn
                have hnh := HNH.out n hnm
                have hpg := posH_get hnh
                have hph : posH F n < H := by have := (List.getElem?_eq_some_iff.1 hpg).1; rw [HH.out] at this; exact this
                have hgn : (natI (nxI F a))[j]? = some ((posH F n : Nat) : Int) := by unfold natI nxI; rw [HLN.out, List.map_map, List.getElem?_map, hn]; rfl
                obtain ⟨gv, hgv, hgl, hcc⟩ := HRN.out (by rw [natI_length]; unfold nxI; rw [List.length_map, HLN.out, HLL.out]; omega)
                have y0 := (HB8.out.cell (p := ⟨gv, _, none⟩) hgl).trans (hcc j _ hgn)
                have zgv : gv < w8.heap.size := Nat.lt_of_lt_of_le hgl HB8.out.size
                obtain ⟨r2, hr2⟩ : ∃ r, bs[posH F n]? = some r := ⟨_, List.getElem?_eq_getElem (by rw [HOB.out.len, HH.out]; exact hph)⟩
                have hf2 := (blkok_fr HOB.out hr2 hpg).1
                have y1 : w8.cell? ⟨gb, posH F n * 4, none⟩ = some (.int .i64 (n : Int)) := (HB8.out.cell (p := ⟨gb, _, none⟩) HGB.out).trans ((HBB.out.cell hr2 (j := 0) (by omega)).trans (show some (Value.int .i64 r2.fr) = some (.int .i64 (n : Int)) by rw [hf2]))
                obtain ⟨hnl, hnr⟩ := head_rch HRT.out HFM.out hnh
                have hlq := outL_get (liveL_get (F := F) (O := O) (pc := n) hnl)
                rw [hnr] at hlq
                have y2 := HIL8.out.cell (show (outL (liveL F O))[n]? = some ((O.getD n 0 : Nat) : Int) from hlq)
                have zl8 := HIL8.out.lt
                rw [HM.out] at hnl
                have hb1 := orN_lt HOK.out.inv.lt (LN.take j)
                have hb2 := getD_lt HOK.out.inv.lt n
                have hos := orN_succ O LN j n hn
                have hor := or_nat (orN O (LN.take j)) (O.getD n 0) (by omega) (by omega)
                rw [← hos] at hor
                obtain ⟨q, hq⟩ : ∃ q, posH F n = q := ⟨_, rfl⟩
                rw [hq] at y0 y1 hph
                obtain ⟨u1, hu1⟩ : ∃ u, orN O (LN.take j) = u := ⟨_, rfl⟩
                obtain ⟨u2, hu2⟩ : ∃ u, O.getD n 0 = u := ⟨_, rfl⟩
                obtain ⟨u3, hu3⟩ : ∃ u, orN O (LN.take (j + 1)) = u := ⟨_, rfl⟩
                have HU3 := Lib.hid hu3
                rw [hu1, hu2, hu3] at hor
                rw [hu2] at y2
                rw [hu1]
                have m1 : (q : Int) < H := by omega
                have m2 : (0 : Int) ≤ q := by omega
                have m3 : (n : Int) < M := by omega
                have m4 : (0 : Int) ≤ n := by omega
                subst hgv
                clear hcc hn hnm hnh hpg hgn hr2 hf2 hnl hnr hlq hb1 hb2 hos hq hu1 hu2 hu3 hgl hjl
                go_wp2_with fail
                go_round
                case rel => exact ⟨j + 1, by omega, by go_num, by rw [HU3.out]⟩
                case measure => simp [intOf]; omega
end Go.Proofs.YtefbdecejoeamaaDoor
