/-
  The walk of BlocksMeet: it returns true.
-/
import Derived.Test.YtefbdecejoeamaaDoorBk
import Derived.Test.YtefbdecejoeamaaDoorBe
import Derived.Test.YtefbdecejoeamaaDoorBmP
import Derived.Test.YtefbdecejoeamaaDoorPgS
import Derived.Test.YtefbdecejoeamaaDoorOpn
namespace Go.Proofs.YtefbdecejoeamaaDoor
open Go.RowKit Tier
theorem blk_row {w : World} {g B : Nat} {bs : List BR} (h : BlkB w g B bs) {q : Nat} {r : BR} (hq : bs[q]? = some r) (c : Bool) : ∃ A cap, r.val c = .slice A (r.lst c).length cap ∧ RowI w A (r.lst c) := rowI_own (h.rows.own q r c hq)
theorem prevF_len (F : Fnc) (k : Nat) : (prevF F k).length ≤ 3 + 2 * (hdL F).length := by
  have := prevTo_len F (hdL F).length 0 k
  rw [prevTo_zero] at this
  exact this
set_option maxRecDepth 100000 in
set_option maxHeartbeats 8000000 in
theorem blocksMeet_walk (A : Option Addr) (l : List Fnc) (cap : Nat) (fn : Int) (w : World) (ht : Tab w) (hraw : RawsAt w A l) (hln : (l.length : Int) ≤ 9223372036854775807) (hfn : In fn) :
    Calls Tryd.prog 10 #[.slice A l.length cap, .int .i64 fn] w fun e w' => e = .returned (.bool true) ∧ Below w.heap.size w w' := by
  have HT := Lib.hid ht
  have HR := Lib.hid hraw
  have HCK := Lib.hid (mkP_right l)
  clear ht hraw
  go_enter Tryd.func10, Tryd.ntmps10
  go_wp2_with fail
  refine (program_any A cap l _ HT.out hln HR.out).mono ?_
  rintro e w1 ⟨⟨A1, cap1, vs, rfl, hpv⟩, hb1⟩
  have HPV := Lib.hid hpv
  have HB1 := Lib.hid hb1
  clear hpv hb1
  generalize mkP l = p at *
  have hRT := right_of HCK.out
  have hE : progE p = 0 := progE_ck HCK.out
  have hl1 := hRT.ok.l1
  have hl2 := hRT.ok.l2
  have hpk := picked_in fn p.length (by omega)
  obtain ⟨k, hk⟩ : ∃ k : Nat, pickedI fn p.length = k := ⟨(pickedI fn p.length).toNat, by omega⟩
  rw [hk] at hpk
  have HPK := Lib.hid (fun (W : World) => picked_any fn p.length W hfn (by omega) (by omega))
  rw [hk] at HPK
  clear hk
  obtain ⟨A0, cap0, hA0, hA⟩ := HPV.out.at.slice
  simp only [Value.slice.injEq, true_and] at hA0
  obtain ⟨g, hAg, hg, hfn'⟩ := hA (by omega)
  obtain ⟨rfl, rfl⟩ := hA0
  have hkl : k < p.length := by omega
  obtain ⟨F, hF⟩ : ∃ f, p[k]? = some f := ⟨p[k], List.getElem?_eq_getElem hkl⟩
  have hfo := hRT.ok.fn F (List.mem_of_getElem? hF)
  obtain ⟨u, hu, c0, c1, c2⟩ := hfn' k F hF
  obtain ⟨FA, fcap, rfl, hFA⟩ := hu.slice
  subst hAg
  have HBK := Lib.hid (fun (W : World) (h1 : Tab W) (h2 : ProgAt W (.slice (some ⟨g, 0, none⟩) p.length cap1) p) => blocks_any p (some ⟨g, 0, none⟩) cap1 k F W h1 h2 HCK.out hF)
  have HSL := Lib.hid (sureF_length hfo.cok hfo.p2)
  have HF := Lib.hid hF
  have HFM := Lib.hid (List.mem_of_getElem? hF)
  have HRT := Lib.hid hRT
  have HFO := Lib.hid hfo
  have n1 := hfo.c1
  have n2 := hfo.c2
  have HFA := Lib.hid hFA
  obtain ⟨M, hM⟩ : ∃ M, F.code.length = M := ⟨_, rfl⟩
  have HM := Lib.hid hM
  rw [hM] at  HSL n1 n2 c2
  have hk0 : (0 : Int) ≤ k := by omega
  have hk1 : (k : Int) < p.length := by omega
  clear hA hfn' hF hu hfo hM hRT c0 c1 hFA
  obtain ⟨N, hN⟩ : ∃ N, p.length = N := ⟨_, rfl⟩
  have HN := Lib.hid hN
  rw [hN] at HPK HBK hl1 hl2 hkl hk1 hpk ⊢
  have HPA := Lib.hid (show ProgAt w1 (.slice (some ⟨g, 0, none⟩) N cap1) p from by have := HPV.out.at; rw [hN] at this; exact this)
  clear hN hE
  have HXA := Lib.hid ((Below.refl w1.heap.size w1).alloc (Nat.le_refl _) (.cells #[.slice (some ⟨g, 0, none⟩) N cap1] 25))
  obtain ⟨H, hH⟩ : ∃ H, (hdL F).length = H := ⟨_, rfl⟩
  have HH := Lib.hid hH
  have hHM : H ≤ 40 := by have h1 := hdTo_len F F.code.length; have h2 : hdTo F F.code.length = hdL F := rfl; rw [h2, hH, HM.out] at h1; omega
  have hz0 := zero_head HRT.out HFM.out
  have hH1 : 0 < H := by have := (List.getElem?_eq_some_iff.1 hz0).1; omega
  have hHz : ((H : Int) == 0) = false := beq_eq_false_iff_ne.2 (by omega)
  have HPL := Lib.hid (fun k => prevF_len F k)
  rw [hH] at HPL
  clear hH hz0
  go_wp2_with fail
  go_region_held3 (fun w' => w'.cell? ⟨w1.heap.size, 0, none⟩ = some (.slice (some ⟨g, 0, none⟩) N cap1)) (first | exact q2 _ | exact cell_block (heap_alloc_new w1 _) _) (first | (go_at_call 26; go_must (refine (HPK.out _).mono ?_; rintro e w' ⟨rfl, rfl⟩)) | (go_at_call 39; go_must (refine (HBK.out _ (HT.out.keeps (by refine HB1.out.trans ((?_ : Below w1.heap.size w1 _).mono HB1.out.size); have hb := Below.refl w1.heap.size w1; repeat (first | exact hb | exact Below.refl _ _ | apply Below.drew | apply below_drewN | refine Below.alloc ?_ (by first | omega | (simp; done) | (simp; omega)) _ | refine Below.setCell ?_ (by first | omega | (simp; done) | (simp; omega)) _))) (HPA.out.keeps (by have hb := Below.refl w1.heap.size w1; repeat (first | exact hb | exact Below.refl _ _ | apply Below.drew | apply below_drewN | refine Below.alloc ?_ (by first | omega | (simp; done) | (simp; omega)) _ | refine Below.setCell ?_ (by first | omega | (simp; done) | (simp; omega)) _)))).mono ?_; rintro e w2 ⟨⟨gb, Bb, bs, rfl, hgb, hBB, hOK⟩, hb⟩; rw [HH.out]; have hb12 : Below w1.heap.size w1 w2 := (by refine Below.trans ?_ (hb.mono (by simp)); have hb := Below.refl w1.heap.size w1; repeat (first | exact hb | exact Below.refl _ _ | apply Below.drew | apply below_drewN | refine Below.alloc ?_ (by first | omega | (simp; done) | (simp; omega)) _ | refine Below.setCell ?_ (by first | omega | (simp; done) | (simp; omega)) _)); have HB12 := Lib.hid hb12; have HBB := Lib.hid hBB; have HOK := Lib.hid hOK; have q2 := cell_block ((hb.block w1.heap.size (by simp)).trans (heap_alloc_new w1 _)); clear hgb hBB hOK hb hb12)))
  all_goals (
    rename_i hHeld
    clear hHeld
    clear q2
    obtain ⟨r0, hr0⟩ : ∃ r, bs[0]? = some r := ⟨_, List.getElem?_eq_getElem (by rw [HOK.out.len, HH.out]; omega)⟩
    obtain ⟨A0, p0, hv0, hR0⟩ := blk_row HBB.out hr0 true
    have hl0 := (HOK.out.at_ 0 r0 hr0).2.2.2
    have c0' : w2.cell? ⟨gb, 3, none⟩ = some (r0.val true) := by have := HBB.out.cell hr0 (j := 3) (by omega); rw [Nat.zero_mul] at this; exact this
    rw [hv0] at c0'
    have HH0 := Lib.hid (has_any r0.pl A0 p0 (-1) w2 hR0 (by have := HPL.out 0; rw [hl0]; omega))
    have hm0 : decide ((-1 : Int) ∈ r0.pl) = true := by rw [decide_eq_true_eq, hl0]; exact prevF_mem.2 (.inl ⟨rfl, rfl⟩)
    rw [hm0] at HH0
    obtain ⟨L0, hL0⟩ : ∃ n, (r0.lst true).length = n := ⟨_, rfl⟩
    rw [hL0] at c0'
    rw [show r0.pl.length = L0 from hL0] at HH0
    have zgb0 := block_lt HBB.out.blk
    clear hr0 hv0 hR0 hl0 hm0 hL0
    go_wp2_with (first | (go_at_call 40; go_must (refine HH0.out.mono ?_; rintro e w' ⟨rfl, rfl⟩)))
    clear c0' zgb0
    go_loopw [8] (fun v wr => ∃ i : Nat, i ≤ H ∧ v = .int .i64 (i : Int) ∧ Below w2.heap.size w2 wr) (fun v _ => H - (intOf v).toNat)
    case atStart => exact ⟨0, by omega, rfl, Below.refl _ _⟩
    case round =>
      obtain ⟨i, hi, rfl, hbo⟩ := hrel
      obtain ⟨wo, hwo⟩ : ∃ wo : World, wo = wr := ⟨_, rfl⟩
      subst hwo
      have HBO := Lib.hid hbo
      clear hbo
      by_cases hiH : i = H
      · obtain rfl : H = i := hiH.symm
        go_wp2_with fail
        go_ret
        exact ⟨rfl, HB1.out.trans ((HB12.out.trans (HBO.out.mono HB12.out.size)).mono HB1.out.size)⟩
      · have hi1 : (i : Int) < H := by omega
        have hi2 : (0 : Int) ≤ i := by omega
        obtain ⟨a, ha⟩ : ∃ a, (hdL F)[i]? = some a := ⟨_, List.getElem?_eq_getElem (by rw [HH.out]; omega)⟩
        have HA := Lib.hid ha
        obtain ⟨r, hr⟩ : ∃ r, bs[i]? = some r := ⟨_, List.getElem?_eq_getElem (by rw [HOK.out.len, HH.out]; omega)⟩
        have HRI := Lib.hid hr
        obtain ⟨An, pn, hvn, hRn⟩ := blk_row HBB.out hr false
        obtain ⟨Ap, pp, hvp, hRp⟩ := blk_row HBB.out hr true
        obtain ⟨hfr, hto, hnl, hpl⟩ := HOK.out.at_ i r hr
        obtain ⟨ln, hln⟩ : ∃ n, (r.lst false).length = n := ⟨_, rfl⟩
        obtain ⟨lp, hlp⟩ : ∃ n, (r.lst true).length = n := ⟨_, rfl⟩
        rw [hln] at hvn
        rw [hlp] at hvp
        have hlp1 : 0 < lp := by rw [← hlp]; show 0 < r.pl.length; rw [hpl]; exact prevF_some HRT.out HFM.out (by rw [HH.out]; omega)
        have hlpb : lp ≤ 3 + 2 * H := by rw [← hlp]; show r.pl.length ≤ _; rw [hpl]; exact HPL.out i
        have hlnb : ln ≤ 2 := by rw [← hln]; show r.nl.length ≤ _; rw [hnl, natI_length]; exact nxI_len _ _
        have HNL := Lib.hid hnl
        have HPLI := Lib.hid hpl
        have HRN := Lib.hid (show RowI w2 An r.nl from hRn)
        have HRP := Lib.hid (show RowI w2 Ap r.pl from hRp)
        have HLN := Lib.hid (show r.nl.length = ln from hln)
        have HLP := Lib.hid (show r.pl.length = lp from hlp)
        have HC2 := Lib.hid (show w2.cell? ⟨gb, i * 4 + 2, none⟩ = some (.slice An ln pn) from (HBB.out.cell hr (j := 2) (by omega)).trans (show some (r.val false) = _ by rw [hvn]))
        have HC3 := Lib.hid (show w2.cell? ⟨gb, i * 4 + 3, none⟩ = some (.slice Ap lp pp) from (HBB.out.cell hr (j := 3) (by omega)).trans (show some (r.val true) = _ by rw [hvp]))
        have HGB := Lib.hid (block_lt HBB.out.blk)
        clear ha hr hvn hvp hRn hRp hfr hto hnl hpl hln hlp
        go_wp2_with fail
        go_loopw [9] (fun v wr => ∃ k : Nat, k ≤ H ∧ v = .int .i64 (k : Int) ∧ Below w2.heap.size w2 wr) (fun v _ => H - (intOf v).toNat)
        case atStart => exact ⟨0, by omega, rfl, HBO.out⟩
        case round =>
          obtain ⟨kk, hk, rfl, hbr⟩ := hrel
          have HBR := Lib.hid hbr
          have zgb : gb < wr.heap.size := Nat.lt_of_lt_of_le HGB.out hbr.size
          have cn := (hbr.cell (p := ⟨gb, _, none⟩) HGB.out).trans HC2.out
          have cp := (hbr.cell (p := ⟨gb, _, none⟩) HGB.out).trans HC3.out
          by_cases hkH : kk = H
          · obtain rfl : H = kk := hkH.symm
            obtain ⟨H0, hH0⟩ : ∃ n, n = H := ⟨_, rfl⟩
            subst hH0
            clear hbr zgb cn cp
            obtain ⟨w5, hw5⟩ : ∃ w5 : World, w5 = wr := ⟨_, rfl⟩
            subst hw5
            go_wp2_with fail
            go_loopw [10] (fun v wr => ∃ k : Nat, k + 1 ≤ lp ∧ v = .int .i64 ((k : Int) + 1) ∧ Below w2.heap.size w2 wr) (fun v _ => lp + 1 - (intOf v).toNat)
            case atStart => exact ⟨0, by omega, rfl, HBR.out⟩
            case round =>
              obtain ⟨kk, hk, rfl, hbr⟩ := hrel
              have HBR := Lib.hid hbr
              have zgb : gb < wr.heap.size := Nat.lt_of_lt_of_le HGB.out hbr.size
              have cp := (hbr.cell (p := ⟨gb, _, none⟩) HGB.out).trans HC3.out
              by_cases hkl : kk + 1 = lp
              · have t1 : decide ((kk : Int) + 1 < lp) = false := by rw [decide_eq_false_iff_not]; omega
                have t2 : ((lp : Int) == 0) = false := beq_eq_false_iff_ne.2 (by omega)
                by_cases hi0 : i = 0
                · have t3 : decide ((0 : Int) < i) = false := by rw [decide_eq_false_iff_not]; omega
                  have t4 : decide (0 < i) = false := by rw [decide_eq_false_iff_not]; omega
                  clear hbr hi0 hkl
                  go_wp2_with fail
                  go_quiet (fail)
                  go_wp2_with fail
                  go_roundw
                  case rel => exact ⟨i + 1, by omega, by go_num, below_drewN HBR.out _⟩
                  case measure => simp [intOf]; omega
                · have t3 : decide ((0 : Int) < i) = true := by rw [decide_eq_true_eq]; omega
                  have t4 : decide (0 < i) = true := by rw [decide_eq_true_eq]; omega
                  obtain ⟨j, hj⟩ : ∃ j, i = j + 1 := ⟨i - 1, by omega⟩
                  have t5 : (i : Int) - 1 = j := by omega
                  have t6 : (j : Int) < H0 := by omega
                  have t7 : (0 : Int) ≤ j := by omega
                  obtain ⟨b, hb⟩ : ∃ b, (hdL F)[j]? = some b := ⟨_, List.getElem?_eq_getElem (by rw [HH.out]; omega)⟩
                  obtain ⟨rj, hrj⟩ : ∃ r, bs[j]? = some r := ⟨_, List.getElem?_eq_getElem (by rw [HOK.out.len, HH.out]; omega)⟩
                  have hle := ends_before HRT.out HFM.out hb (by have := HA.out; rw [hj] at this; exact this)
                  have cf : wr.cell? ⟨gb, i * 4, none⟩ = some (.int .i64 (a : Int)) := (hbr.cell (p := ⟨gb, _, none⟩) HGB.out).trans ((HBB.out.cell HRI.out (j := 0) (by omega)).trans (show some (Value.int .i64 r.fr) = _ by rw [(blkok_fr HOK.out HRI.out HA.out).1]))
                  have ct : wr.cell? ⟨gb, j * 4 + 1, none⟩ = some (.int .i64 (toF F b : Int)) := (hbr.cell (p := ⟨gb, _, none⟩) HGB.out).trans ((HBB.out.cell hrj (j := 1) (by omega)).trans (show some (Value.int .i64 rj.to) = _ by rw [(blkok_fr HOK.out hrj hb).2]))
                  obtain ⟨T, hT⟩ : ∃ T, toF F b = T := ⟨_, rfl⟩
                  rw [hT] at hle ct
                  have t8 : decide ((a : Int) < T) = false := by rw [decide_eq_false_iff_not]; omega
                  have t9 : decide (a < T) = false := by rw [decide_eq_false_iff_not]; omega
                  clear hbr hi0 hkl hj hb hrj hle hT
                  go_wp2_with fail
                  go_quiet (fail)
                  go_wp2_with fail
                  go_roundw
                  case rel => exact ⟨i + 1, by omega, by go_num, below_drewN HBR.out _⟩
                  case measure => simp [intOf]; omega
              · obtain ⟨gv, hgv, hgl, hcc⟩ := HRP.out (by rw [HLP.out]; omega)
                obtain ⟨z0, hz0⟩ : ∃ z, r.pl[kk]? = some z := ⟨_, List.getElem?_eq_getElem (by rw [HLP.out]; omega)⟩
                obtain ⟨z1, hz1⟩ : ∃ z, r.pl[kk + 1]? = some z := ⟨_, List.getElem?_eq_getElem (by rw [HLP.out]; omega)⟩
                have y0 := (hbr.cell (p := ⟨gv, _, none⟩) hgl).trans (hcc kk z0 hz0)
                have y1 := (hbr.cell (p := ⟨gv, _, none⟩) hgl).trans (hcc (kk + 1) z1 hz1)
                have zgv : gv < wr.heap.size := Nat.lt_of_lt_of_le hgl hbr.size
                have hlt : z0 < z1 := by
                  have hs : r.pl.Pairwise (· < ·) := by rw [HPLI.out]; exact prevF_sorted HRT.out HFM.out i
                  obtain ⟨h1, h2⟩ := List.getElem?_eq_some_iff.1 hz0
                  obtain ⟨h3, h4⟩ := List.getElem?_eq_some_iff.1 hz1
                  have := List.pairwise_iff_getElem.1 hs kk (kk + 1) h1 h3 (by omega)
                  rw [h2, h4] at this; exact this
                have hzd : decide (z1 ≤ z0) = false := by rw [decide_eq_false_iff_not]; omega
                have k1 : (kk : Int) + 1 < lp := by omega
                have k2 : (0 : Int) ≤ (kk : Int) + 1 := by omega
                have k3 : (kk : Int) + 1 - 1 = kk := by omega
                have k4 : (kk : Int) < lp := by omega
                have k5 : (0 : Int) ≤ kk := by omega
                subst hgv
                clear hcc hz0 hz1 hlt hkl hgl hbr
                go_wp2_with fail
                go_quiet (fail)
                go_wp2_with fail
                go_roundw
                case rel => exact ⟨kk + 1, by omega, by go_num, below_drewN HBR.out _⟩
                case measure => simp [intOf]; omega
          · obtain ⟨rk, hrk⟩ : ∃ r, bs[kk]? = some r := ⟨_, List.getElem?_eq_getElem (by rw [HOK.out.len, HH.out]; omega)⟩
            obtain ⟨Ak, pk, hvk, hRk⟩ := blk_row HBB.out hrk true
            have hlk := (HOK.out.at_ kk rk hrk).2.2.2
            have HRK := Lib.hid (show RowI w2 Ak rk.pl from hRk)
            have ck : wr.cell? ⟨gb, kk * 4 + 3, none⟩ = some (.slice Ak rk.pl.length pk) := (hbr.cell (p := ⟨gb, _, none⟩) HGB.out).trans ((HBB.out.cell hrk (j := 3) (by omega)).trans (show some (rk.val true) = _ by rw [hvk]; rfl))
            have heq := meet_eq (F := F) (i := i) (k := kk) (by rw [HH.out]; omega)
            rw [← hlk, ← HNL.out] at heq
            have HN1 := Lib.hid (fun n => has_any r.nl An pn (kk : Int) (wr.drewN n) (HRN.out.keeps (below_drewN HBR.out n)) (by rw [HLN.out]; omega))
            have HN2 := Lib.hid (fun n => has_any rk.pl Ak pk (i : Int) (wr.drewN n) (HRK.out.keeps (below_drewN HBR.out n)) (by have := HPL.out kk; rw [hlk]; omega))
            rw [HLN.out] at HN1
            obtain ⟨lk, hlkk⟩ : ∃ n, rk.pl.length = n := ⟨_, rfl⟩
            rw [hlkk] at ck HN2
            rw [← heq] at HN2
            obtain ⟨b, hb⟩ : ∃ b, decide ((kk : Int) ∈ r.nl) = b := ⟨_, rfl⟩
            rw [hb] at HN1 HN2
            have hbb : (b != b) = false := by simp
            have k1 : (kk : Int) < H := by omega
            have k2 : (0 : Int) ≤ kk := by omega
            clear hrk hvk hRk hlk heq hlkk hb hbr hkH
            go_wp2_with fail
            go_quiet ((first | (go_at_call 40; with_reducible exact Calls.quiet_of_same ((HN1.out _).mono (fun _ _ h => ⟨h.1, h.2.symm⟩))) | (go_at_call 40; with_reducible exact Calls.quiet_of_same ((HN2.out _).mono (fun _ _ h => ⟨h.1, h.2.symm⟩)))))
            go_wp2_with fail
            go_roundw
            case rel => exact ⟨kk + 1, by omega, by go_num, below_drewN HBR.out _⟩
            case measure => simp [intOf]; omega)
end Go.Proofs.YtefbdecejoeamaaDoor
