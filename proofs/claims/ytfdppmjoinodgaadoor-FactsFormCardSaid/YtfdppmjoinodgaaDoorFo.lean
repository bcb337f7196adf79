/-
  The walk of FactsForm: it returns true.
-/
import Derived.Test.YtfdppmjoinodgaaDoorFd6
import Derived.Test.YtfdppmjoinodgaaDoorFdF
import Derived.Test.YtfdppmjoinodgaaDoorSu3
import Derived.Test.YtfdppmjoinodgaaDoorOpn
namespace Go.Proofs.YtfdppmjoinodgaaDoor
open Go.RowKit Tier
theorem fact_cell {W : World} {g i : Nat} {L : List FactS} {t : TypeId} (h : W.heap[g]? = some (.cells (factCells L).toArray t (0, 0))) (hi : i < L.length) : W.cell? ⟨g, i * 2, none⟩ = some (.int .i64 (L.getD i noF).k) ∧ W.cell? ⟨g, i * 2 + 1, none⟩ = some (.int .i64 (L.getD i noF).v) := by
  constructor
  · refine (cell_block h _).trans (List.getElem?_toArray.trans ?_)
    exact flat_at (f := fun i => (L.getD i noF).cells) (n := 2) (t := 0) (fun _ _ => rfl) hi (by omega)
  · refine (cell_block h _).trans (List.getElem?_toArray.trans ?_)
    exact flat_at (f := fun i => (L.getD i noF).cells) (n := 2) (t := 1) (fun _ _ => rfl) hi (by omega)
theorem met_cell {W : World} {g i : Nat} {L : List Bool} {t : TypeId} (h : W.heap[g]? = some (.cells (L.map Value.bool).toArray t (0, 0))) (hi : i < L.length) : W.cell? ⟨g, i, none⟩ = some (.bool (L.getD i false)) := by
  refine (cell_block h _).trans (List.getElem?_toArray.trans ?_)
  rw [List.getElem?_map, List.getD_eq_getElem?_getD, List.getElem?_eq_getElem hi]; rfl
set_option maxRecDepth 100000 in
set_option maxHeartbeats 8000000 in
theorem factsForm_walk (A : Option Addr) (l : List Fnc) (cap : Nat) (fn : Int) (w : World) (ht : Tab w) (hraw : RawsAt w A l) (hln : (l.length : Int) ≤ 9223372036854775807) (hfn : In fn) :
    Calls Tryd.prog 4 #[.slice A l.length cap, .int .i64 fn] w fun e w' => e = .returned (.bool true) ∧ Below w.heap.size w w' := by
  have HT := Lib.hid ht
  have HR := Lib.hid hraw
  have HCK := Lib.hid (mkP_right l)
  clear ht hraw
  go_enter Tryd.func4, Tryd.ntmps4
  go_wp2_with fail
  refine (program_any A cap l _ HT.out hln HR.out).mono ?_
  rintro e w1 ⟨⟨A1, cap1, vs, rfl, hpv⟩, hb1⟩
  have HPV := Lib.hid hpv
  have HB1 := Lib.hid hb1
  clear hpv hb1
  generalize mkP l = p at *
  have hRT := right_of HCK.out
  have hE : progE p = 0 := progE_ck HCK.out
  have hl1 := hRT.ok.l1
  have hl2 := hRT.ok.l2
  have hpk := picked_in fn p.length (by omega)
  obtain ⟨k, hk⟩ : ∃ k : Nat, pickedI fn p.length = k := ⟨(pickedI fn p.length).toNat, by omega⟩
  rw [hk] at hpk
  have HPK := Lib.hid (fun (W : World) => picked_any fn p.length W hfn (by omega) (by omega))
  rw [hk] at HPK
  clear hk
  obtain ⟨A0, cap0, hA0, hA⟩ := HPV.out.at.slice
  simp only [Value.slice.injEq, true_and] at hA0
  obtain ⟨g, hAg, hg, hfn'⟩ := hA (by omega)
  obtain ⟨rfl, rfl⟩ := hA0
  have hkl : k < p.length := by omega
  obtain ⟨F, hF⟩ : ∃ f, p[k]? = some f := ⟨p[k], List.getElem?_eq_getElem hkl⟩
  have hfo := hRT.ok.fn F (List.mem_of_getElem? hF)
  obtain ⟨u, hu, c0, c1, c2⟩ := hfn' k F hF
  obtain ⟨FA, fcap, rfl, hFA⟩ := hu.slice
  subst hAg
  have HFC := Lib.hid (fun (W : World) (h1 : Tab W) (h2 : ProgAt W (.slice (some ⟨g, 0, none⟩) p.length cap1) p) => facts_any p F (some ⟨g, 0, none⟩) cap1 k W h1 h2 HCK.out hF)
  have HBU := Lib.hid (fun (W : World) (h1 : Tab W) (h2 : ProgAt W (.slice (some ⟨g, 0, none⟩) p.length cap1) p) => build_all (some ⟨g, 0, none⟩) cap1 k W h1 h2 HCK.out hF)
  have HSL := Lib.hid (sureF_length hfo.cok hfo.p2)
  have HF := Lib.hid hF
  have HFM := Lib.hid (List.mem_of_getElem? hF)
  have HRT := Lib.hid hRT
  have HFO := Lib.hid hfo
  have n1 := hfo.c1
  have n2 := hfo.c2
  have HFA := Lib.hid hFA
  obtain ⟨M, hM⟩ : ∃ M, F.code.length = M := ⟨_, rfl⟩
  have HM := Lib.hid hM
  rw [hM] at  HSL n1 n2 c2
  have hk0 : (0 : Int) ≤ k := by omega
  have hk1 : (k : Int) < p.length := by omega
  clear hA hfn' hF hu hfo hM hRT c0 c1 hFA
  obtain ⟨N, hN⟩ : ∃ N, p.length = N := ⟨_, rfl⟩
  have HN := Lib.hid hN
  rw [hN] at HPK HFC HBU hl1 hl2 hkl hk1 hpk ⊢
  have HPA := Lib.hid (show ProgAt w1 (.slice (some ⟨g, 0, none⟩) N cap1) p from by have := HPV.out.at; rw [hN] at this; exact this)
  clear hN hE
  have HXA := Lib.hid ((Below.refl w1.heap.size w1).alloc (Nat.le_refl _) (.cells #[.slice (some ⟨g, 0, none⟩) N cap1] 25))
  obtain ⟨H, hH⟩ : ∃ H, (hdL F).length = H := ⟨_, rfl⟩
  have HH := Lib.hid hH
  have hH1 : 0 < H := by have := (List.getElem?_eq_some_iff.1 (zero_head HRT.out HFM.out)).1; omega
  obtain ⟨P, hP⟩ : ∃ n : Nat, F.params = n := ⟨F.params.toNat, by have := HFO.out.p1; omega⟩
  have HPP := Lib.hid hP
  clear hH hP
  have hHz : ((H : Int) == 0) = false := beq_eq_false_iff_ne.2 (by omega)
  have hHd : decide ((H : Int) = 0) = false := decide_eq_false (by omega)
  go_upto_region 5 with (first | (go_at_call 13; go_must (refine (HPK.out _).mono ?_; rintro e w' ⟨rfl, rfl⟩)) | (go_at_call 17; go_must (refine (HFC.out _ (HT.out.keeps (HB1.out.alloc HB1.out.size _)) (HPA.out.keeps HXA.out)).mono ?_; rintro e w2 ⟨⟨s0, O0, bs0, K0, s10, s20, l0, y, gf, gm, rfl, hzf, hzm, hbx0, hend, hff, hfm⟩, hb⟩; have HBX0 := Lib.hid hbx0; have HFR := Lib.hid (hbx0.form hend); have HBL0 : Hid (bs0.length = H) := Lib.hid (by rw [hbx0.b.bok.len, HH.out]); rw [HBL0.out]; have HFF := Lib.hid hff; have HFM2 := Lib.hid hfm; have HB12 := Lib.hid (HXA.out.trans (hb.mono HXA.out.size)); have HX2 := Lib.hid ((hb.block w1.heap.size (by simp)).trans (heap_alloc_new w1 _)); have q2 := cell_block HX2.out 0; have z2 := block_lt HX2.out; clear hzf hzm hbx0 hend hff hfm hb)) | (go_at_call 15; go_must (refine (HBU.out _ (HT.out.keeps (HB1.out.trans (HB12.out.mono HB1.out.size))) (HPA.out.keeps HB12.out)).mono ?_; rintro e w3 ⟨⟨b, c, s, V, O, bs, K, s2, l, rfl, hbb, hsb, hbl⟩, hb⟩; have HBX := Lib.hid (BuiltX.mk hbl HCK.out HFM.out rfl : BuiltX p F O bs K _ s2 l s); have hbsl : bs.length = H := (by rw [hbl.bok.len, HH.out]); obtain ⟨Ap, cp, hvp, -, hpA⟩ := hsb.rowV .parts (n := H) (by show s.parts.length = H; rw [HBX.out.finP.len, hbsl]); obtain ⟨gp, rfl, -, -⟩ := hpA hH1; have HVP := Lib.hid hvp; have HSB := Lib.hid hsb; have HSL2 := Lib.hid hbsl; have hvl : valN F bs s2 l = valN F bs0 s20 l0 := (HBX.out.unique HBX0.out).2.2.1; rw [hvp, show ((F.params.toNat + (allG { s2 with same := l } bs.length).length : Nat) : Int) = ((valN F bs0 s20 l0 : Nat) : Int) from congrArg Int.ofNat hvl, HPP.out]; have HB23 := Lib.hid hb; clear hbb hsb hbl hb hvp hvl hbsl hpA q2 z2)))
  have hvs := HBX0.out.few.1
  have hHM : H ≤ 40 := by rw [← HSL2.out]; exact bs_le HCK.out HFM.out HBX.out.b.bok
  have hP2 : F.params.toNat = P := by rw [HPP.out]; rfl
  have hPv : P ≤ valN F bs0 s20 l0 := by have := HBX0.out.finP.vals; rw [hP2] at this; omega
  have HFS := Lib.hid (HFR.out.two (HBX.out.unique HBX0.out).1.symm)
  obtain ⟨vl, hvl⟩ : ∃ v, valN F bs0 s20 l0 = v := ⟨_, rfl⟩
  rw [hvl] at hvs hPv HFS ⊢
  rw [hP2, HBL0.out] at HFS
  clear hvl HFR
  obtain ⟨w4, hw4⟩ : ∃ W, w3.alloc (.cells #[.int .i64 (P : Int), .int .i64 (vl : Int), .slice (some ⟨gp, 0, none⟩) H cp] 34) = W := ⟨_, rfl⟩
  have HXS : Hid (w4.heap[w3.heap.size]? = some (.cells #[.int .i64 (P : Int), .int .i64 (vl : Int), .slice (some ⟨gp, 0, none⟩) H cp] 34 (0, 0))) := Lib.hid (hw4 ▸ heap_alloc_new _ _)
  have HB34 : Hid (Below w3.heap.size w3 w4) := Lib.hid (hw4 ▸ (Below.refl _ _).alloc (Nat.le_refl _) _)
  have HB24 := Lib.hid (HB23.out.trans (HB34.out.mono HB23.out.size))
  have HB14 := Lib.hid (HB12.out.trans (HB24.out.mono HB12.out.size))
  have HSB4 := Lib.hid (HSB.out.keeps HB34.out)
  have hff := (HB24.out.block _ (block_lt HFF.out)).trans HFF.out
  have hfm := (HB24.out.block _ (block_lt HFM2.out)).trans HFM2.out
  have hyn := HFS.out.n
  have hym := HFS.out.m
  have KX := Lib.hid (fun (W : World) (hb : Below w4.heap.size w4 W) => (by
    have hx := (hb.block _ (block_lt HXS.out)).trans HXS.out
    exact ⟨cell_block hx 0, cell_block hx 1, cell_block hx 2, block_lt hx, Nat.lt_of_lt_of_le (block_lt hff) hb.size, Nat.lt_of_lt_of_le (block_lt hfm) hb.size, Nat.lt_of_lt_of_le (HSB4.out.rlt .parts (g := gp) (by rw [HVP.out]; rfl)).2 hb.size⟩ :
    W.cell? ⟨w3.heap.size, 0, none⟩ = some (.int .i64 (P : Int)) ∧ W.cell? ⟨w3.heap.size, 1, none⟩ = some (.int .i64 (vl : Int)) ∧ W.cell? ⟨w3.heap.size, 2, none⟩ = some (.slice (some ⟨gp, 0, none⟩) H cp) ∧ w3.heap.size < W.heap.size ∧ gf < W.heap.size ∧ gm < W.heap.size ∧ gp < W.heap.size))
  have KF := Lib.hid (fun (W : World) (hb : Below w4.heap.size w4 W) (v : Nat) (hv : v < vl) => (fact_cell ((hb.block _ (block_lt hff)).trans hff) (by rw [hyn]; exact hv) : W.cell? ⟨gf, v * 2, none⟩ = some (.int .i64 (y.F.getD v noF).k) ∧ W.cell? ⟨gf, v * 2 + 1, none⟩ = some (.int .i64 (y.F.getD v noF).v)))
  have KM := Lib.hid (fun (W : World) (hb : Below w4.heap.size w4 W) (i : Nat) (hi : i < H) => (met_cell ((hb.block _ (block_lt hfm)).trans hfm) (by rw [hym]; exact hi) : W.cell? ⟨gm, i, none⟩ = some (.bool (y.met.getD i false))))
  have KSB := Lib.hid (fun (W : World) (hb : Below w4.heap.size w4 W) => (HSB4.out.keeps hb : SbAt W b c s V))
  have HSP : Hid (s.parts.length = H) := Lib.hid (by rw [HBX.out.finP.len, HSL2.out])
  have HILQ := Lib.hid HBX.out.finP.inn
  have HFEW : Hid (∀ i, i < H → (s.part i).ins.length ≤ 40) := Lib.hid (fun i hi => (HBX.out.few.2 i (by rw [HSL2.out]; exact hi)).2)
  obtain ⟨L, hL⟩ : ∃ n, w3.heap.size = n := ⟨_, rfl⟩
  rw [hL] at KX
  have m0 := KM.out w4 (Below.refl _ _) 0 hH1
  rw [HFS.out.m0] at m0
  obtain ⟨k0, k1, k2, z0, z1, z2, z3⟩ := KX.out w4 (Below.refl _ _)
  have HB44 : Hid (Below w4.heap.size w4 w4) := Lib.hid (Below.refl _ _)
  rw [hw4, hL]
  clear hw4 hL hff hfm hyn hym HFF HFM2 HSB HSB4 HXS hP2
  go_wp2_with fail
  clear m0 k0 k1 k2 z0 z1 z2 z3 hHz hHd
  go_loopw [12] (fun x wr => ∃ v : Nat, v ≤ P ∧ x = .int .i64 (v : Int) ∧ Below w4.heap.size w4 wr) (fun x _ => P - (intOf x).toNat)
  case atStart => exact ⟨0, by omega, rfl, HB44.out⟩
  case round =>
    obtain ⟨v, hv, rfl, hb⟩ := hrel
    have HB := Lib.hid hb
    obtain ⟨k0, k1, k2, z0, z1, z2, z3⟩ := KX.out wr hb
    by_cases hv0 : v = P
    · have hv0' := hv0.symm
      subst hv0'
      clear hb hv hv0
      go_wp2_with fail
      clear k0 k1 k2 z0 z1 z2 z3
      go_loopw [13] (fun x wr => ∃ u : Nat, u ≤ vl ∧ x = .int .i64 (u : Int) ∧ Below w4.heap.size w4 wr) (fun x _ => vl - (intOf x).toNat)
      case atStart => exact ⟨0, by omega, rfl, HB.out⟩
      case round =>
        clear HB
        rename World => wq
        obtain ⟨u, hu, rfl, hb⟩ := hrel
        have HB := Lib.hid hb
        obtain ⟨k0, k1, k2, z0, z1, z2, z3⟩ := KX.out wq hb
        by_cases hu0 : u = vl
        · have hu0' := hu0.symm
          subst hu0'
          clear hb hu hu0
          go_wp2_with fail
          clear k0 k1 k2 z0 z1 z2 z3
          go_loopw [14] (fun x wr => ∃ i : Nat, i ≤ H ∧ x = .int .i64 (i : Int) ∧ Below w4.heap.size w4 wr) (fun x _ => H - (intOf x).toNat)
          case atStart => exact ⟨0, by omega, rfl, HB.out⟩
          case round =>
            clear HB
            rename World => wi
            obtain ⟨i, hi, rfl, hb⟩ := hrel
            have HB := Lib.hid hb
            obtain ⟨k0, k1, k2, z0, z1, z2, z3⟩ := KX.out wi hb
            by_cases hi0 : i = H
            · have hi0' := hi0.symm
              subst hi0'
              clear hb hi hi0
              go_wp2_with fail
              go_ret
              exact ⟨rfl, HB1.out.trans ((HB14.out.trans (HB.out.mono HB14.out.size)).mono HB1.out.size)⟩
            · have hi1 : (i : Int) < H := by omega
              have hi2 : (0 : Int) ≤ i := by omega
              have hi3 : i < H := by omega
              obtain ⟨n, hn⟩ : ∃ n, (s.part i).ins.length = n := ⟨_, rfl⟩
              have hn40 : n ≤ 40 := by rw [← hn]; exact HFEW.out i hi3
              obtain ⟨IA, ic, hvi, -, hia⟩ := (KSB.out w4 HB44.out).rowV (.ins i) (n := n) hn
              have KP := Lib.hid (fun (W : World) (hb : Below w4.heap.size w4 W) => (by
                have h1 := ((KSB.out W hb).partCell HILQ.out HVP.out (by rw [HSP.out]; exact hi3)).2
                rw [hvi] at h1
                exact h1 : W.cell? ⟨gp, i * 15 + 2, none⟩ = some (.slice IA n ic)))
              have HVI := Lib.hid hvi
              have HIA := Lib.hid hia
              have HNN := Lib.hid hn
              clear hb hvi hia hn hi0
              go_wp2_with fail
              clear k0 k1 k2 z0 z1 z2 z3
              go_loopw [15] (fun x wr => ∃ t : Nat, t ≤ n ∧ x = .int .i64 (t : Int) ∧ Below w4.heap.size w4 wr) (fun x _ => n - (intOf x).toNat)
              case atStart => exact ⟨0, by omega, rfl, HB.out⟩
              case round =>
                clear HB
                rename World => wt
                obtain ⟨t, ht, rfl, hb⟩ := hrel
                have HB := Lib.hid hb
                obtain ⟨k0, k1, k2, z0, z1, z2, z3⟩ := KX.out wt hb
                have k3 := KP.out wt hb
                by_cases ht0 : t = n
                · have ht0' := ht0.symm
                  subst ht0'
                  clear hb ht ht0
                  go_wp2_with fail
                  go_roundw
                  case rel => exact ⟨i + 1, by omega, by go_num, HB.out⟩
                  case measure => simp [intOf]; omega
                · have ht1 : (t : Int) < n := by omega
                  have ht2 : (0 : Int) ≤ t := by omega
                  have htl : t < (s.part i).ins.length := by rw [HNN.out]; omega
                  obtain ⟨gin, rfl, -, zg⟩ := HIA.out (by omega)
                  have zgin : gin < wt.heap.size := Nat.lt_of_lt_of_le zg hb.size
                  obtain ⟨c0, c1, c2, c3, c4, c5⟩ := (KSB.out wt hb).insCell HVI.out htl
                  have HST := Lib.hid (HFS.out.set i t hi3 htl)
                  obtain ⟨⟨jo, jd, ja, jb, jm, jp⟩, hz⟩ : ∃ z, s.insA i t = z := ⟨_, rfl⟩
                  rw [hz] at c0 c1 c2 c3 c4 c5 HST
                  simp only at c0 c1 c2 c3 c4 c5 HST
                  obtain ⟨w5, hw5⟩ : ∃ W, wt.alloc (.cells #[.int .i64 jo, .int .i64 jd, .int .i64 ja, .int .i64 jb, .int .i64 jm, .int .i64 jp] 52) = W := ⟨_, rfl⟩
                  have hb5 : Below wt.heap.size wt w5 := hw5 ▸ (Below.refl _ _).alloc (Nat.le_refl _) _
                  have hx5 : w5.heap[wt.heap.size]? = some (.cells #[.int .i64 jo, .int .i64 jd, .int .i64 ja, .int .i64 jb, .int .i64 jm, .int .i64 jp] 52 (0, 0)) := hw5 ▸ heap_alloc_new _ _
                  have HB5 := Lib.hid (hb.trans (hb5.mono hb.size))
                  have HX5 := Lib.hid hx5
                  clear hb hz zg ht0 htl hx5 hb5
                  go_upto_region 24 with fail
                  obtain ⟨x0, x1, x2, x3, x4, x5⟩ := (show _ ∧ _ ∧ _ ∧ _ ∧ _ ∧ _ from ⟨cell_block HX5.out 0, cell_block HX5.out 1, cell_block HX5.out 2, cell_block HX5.out 3, cell_block HX5.out 4, block_lt HX5.out⟩)
                  obtain ⟨-, -, -, -, y1, y2, -⟩ := KX.out w5 HB5.out
                  have hme := KM.out w5 HB5.out i hi3
                  clear c0 c1 c2 c3 c4 c5 k0 k1 k2 k3 z0 z1 z2 z3 zgin hw5
                  by_cases ho : jo = 1
                  · obtain ⟨d, hd, hdl, hm1, hm0⟩ := HST.out ho
                    have e1 : decide (jo = 1) = true := decide_eq_true ho
                    have e2 : (jo == 1) = true := by simpa using ho
                    have hd1 : (d : Int) < vl := by omega
                    have hd2 : (0 : Int) ≤ d := by omega
                    obtain ⟨f0, f1⟩ := KF.out w5 HB5.out d hdl
                    rw [hd] at x1
                    cases hm : y.met.getD i false with
                    | true =>
                      rw [hm1 hm] at f0 f1
                      rw [hm] at hme
                      simp only at f0 f1
                      have heq := eq_fact 1 jm 1 jm
                      rw [decide_eq_true ⟨rfl, rfl⟩] at heq
                      clear ho hd hm hm1 hm0 HST hdl
                      go_quiet (fail)
                      go_wp2_with fail
                      go_roundw
                      case rel => exact ⟨t + 1, by omega, by go_num, by first | exact below_drewN HB5.out _ | exact HB5.out⟩
                      case measure => simp [intOf]; omega
                    | false =>
                      rw [hm0 hm] at f0
                      rw [hm] at hme
                      clear ho hd hm hm1 hm0 HST hdl
                      go_quiet (fail)
                      go_wp2_with fail
                      go_roundw
                      case rel => exact ⟨t + 1, by omega, by go_num, by first | exact below_drewN HB5.out _ | exact HB5.out⟩
                      case measure => simp [intOf]; omega
                  · have e1 : decide (jo = 1) = false := decide_eq_false ho
                    have e2 : (jo == 1) = false := by simpa using ho
                    clear ho HST
                    go_quiet (fail)
                    go_wp2_with fail
                    go_roundw
                    case rel => exact ⟨t + 1, by omega, by go_num, by first | exact below_drewN HB5.out _ | exact HB5.out⟩
                    case measure => simp [intOf]; omega
        · have hu1 : (u : Int) < vl := by omega
          have hu2 : (0 : Int) ≤ u := by omega
          have hu3 : u < vl := by omega
          obtain ⟨f0, f1⟩ := KF.out wq hb u hu3
          have hva := HFS.out.val u
          obtain ⟨fk, hfk⟩ : ∃ x, (y.F.getD u noF).k = x := ⟨_, rfl⟩
          obtain ⟨fv, hfv⟩ : ∃ x, (y.F.getD u noF).v = x := ⟨_, rfl⟩
          rw [hfk] at f0 hva
          rw [hfv] at f1 hva
          by_cases h1 : fk = 1
          · have e1 : decide (fk = 1) = true := decide_eq_true h1
            have e2 : (fk == 1) = true := by simpa using h1
            have e3 : (fk != 1) = false := by simpa using h1
            clear hb hfk hfv hva h1
            go_wp2_with fail
            go_roundw
            case rel => exact ⟨u + 1, by omega, by go_num, HB.out⟩
            case measure => simp [intOf]; omega
          · have e1 : decide (fk = 1) = false := decide_eq_false h1
            have e2 : (fk == 1) = false := by simpa using h1
            have e3 : (fk != 1) = true := by simpa using h1
            rw [hva h1] at f1
            clear hb hfk hfv hva h1
            go_wp2_with fail
            go_roundw
            case rel => exact ⟨u + 1, by omega, by go_num, HB.out⟩
            case measure => simp [intOf]; omega
    · have hv1 : (v : Int) < P := by omega
      have hv2 : (0 : Int) ≤ v := by omega
      have hv3 : (v : Int) < vl := by omega
      obtain ⟨f0, -⟩ := KF.out wr hb v (by omega)
      rw [HFS.out.par v (by omega)] at f0
      clear hb
      go_wp2_with fail
      go_roundw
      case rel => exact ⟨v + 1, by omega, by go_num, HB.out⟩
      case measure => simp [intOf]; omega
end Go.Proofs.YtfdppmjoinodgaaDoor
