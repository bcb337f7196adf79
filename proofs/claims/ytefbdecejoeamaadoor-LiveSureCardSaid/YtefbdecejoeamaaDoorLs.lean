/-
  The walk of LiveSure: it returns true.
-/
import Derived.Test.YtefbdecejoeamaaDoorLv
import Derived.Test.YtefbdecejoeamaaDoorPgS
import Derived.Test.YtefbdecejoeamaaDoorOpn
namespace Go.Proofs.YtefbdecejoeamaaDoor
open Go.RowKit Tier
set_option maxRecDepth 100000 in
set_option maxHeartbeats 8000000 in
theorem liveSure_walk (A : Option Addr) (l : List Fnc) (cap : Nat) (fn : Int) (w : World) (ht : Tab w) (hraw : RawsAt w A l) (hln : (l.length : Int) ≤ 9223372036854775807) (hfn : In fn) :
    Calls Tryd.prog 8 #[.slice A l.length cap, .int .i64 fn] w fun e w' => e = .returned (.bool true) ∧ Below w.heap.size w w' := by
  have HT := Lib.hid ht
  have HR := Lib.hid hraw
  have HCK := Lib.hid (mkP_right l)
  clear ht hraw
  go_enter Tryd.func8, Tryd.ntmps8
  go_wp2_with fail
  refine (program_any A cap l _ HT.out hln HR.out).mono ?_
  rintro e w1 ⟨⟨A1, cap1, vs, rfl, hpv⟩, hb1⟩
  have HPV := Lib.hid hpv
  have HB1 := Lib.hid hb1
  clear hpv hb1
  generalize mkP l = p at *
  have hRT := right_of HCK.out
  have hE : progE p = 0 := progE_ck HCK.out
  have hl1 := hRT.ok.l1
  have hl2 := hRT.ok.l2
  have hpk := picked_in fn p.length (by omega)
  obtain ⟨k, hk⟩ : ∃ k : Nat, pickedI fn p.length = k := ⟨(pickedI fn p.length).toNat, by omega⟩
  rw [hk] at hpk
  have HPK := Lib.hid (fun (W : World) => picked_any fn p.length W hfn (by omega) (by omega))
  rw [hk] at HPK
  clear hk
  obtain ⟨A0, cap0, hA0, hA⟩ := HPV.out.at.slice
  simp only [Value.slice.injEq, true_and] at hA0
  obtain ⟨g, hAg, hg, hfn'⟩ := hA (by omega)
  obtain ⟨rfl, rfl⟩ := hA0
  have hkl : k < p.length := by omega
  obtain ⟨F, hF⟩ : ∃ f, p[k]? = some f := ⟨p[k], List.getElem?_eq_getElem hkl⟩
  have hfo := hRT.ok.fn F (List.mem_of_getElem? hF)
  obtain ⟨u, hu, c0, c1, c2⟩ := hfn' k F hF
  obtain ⟨FA, fcap, rfl, hFA⟩ := hu.slice
  subst hAg
  have HSU := Lib.hid (fun (W : World) (h1 : Tab W) (h2 : ProgAt W (.slice (some ⟨g, 0, none⟩) p.length cap1) p) => psure_any p (some ⟨g, 0, none⟩) cap1 k F W h1 h2 hE hF)
  have HLV := Lib.hid (fun (W : World) (h1 : Tab W) (h2 : ProgAt W (.slice (some ⟨g, 0, none⟩) p.length cap1) p) => live_any p (some ⟨g, 0, none⟩) cap1 k F W h1 h2 HCK.out hF)
  have HRD := Lib.hid (fun (W : World) (h1 : Tab W) (h2 : ProgAt W (.slice (some ⟨g, 0, none⟩) p.length cap1) p) => fun (pc : Nat) (x : Ins) (hx : F.code[pc]? = some x) => preadsx_any p (some ⟨g, 0, none⟩) cap1 k pc F x W h1 h2 hE hF hx)
  have HSL := Lib.hid (sureF_length hfo.cok hfo.p2)
  have HF := Lib.hid hF
  have HFM := Lib.hid (List.mem_of_getElem? hF)
  have HRT := Lib.hid hRT
  have HFO := Lib.hid hfo
  have n1 := hfo.c1
  have n2 := hfo.c2
  have HFA := Lib.hid hFA
  obtain ⟨M, hM⟩ : ∃ M, F.code.length = M := ⟨_, rfl⟩
  have HM := Lib.hid hM
  rw [hM] at HSU HSL n1 n2 c2
  have hk0 : (0 : Int) ≤ k := by omega
  have hk1 : (k : Int) < p.length := by omega
  clear hA hfn' hF hu hfo hM hRT c0 c1 hFA
  obtain ⟨N, hN⟩ : ∃ N, p.length = N := ⟨_, rfl⟩
  have HN := Lib.hid hN
  rw [hN] at HPK HSU HLV HRD hl1 hl2 hkl hk1 hpk ⊢
  have HPA := Lib.hid (show ProgAt w1 (.slice (some ⟨g, 0, none⟩) N cap1) p from by have := HPV.out.at; rw [hN] at this; exact this)
  clear hN hE
  have HXA := Lib.hid ((Below.refl w1.heap.size w1).alloc (Nat.le_refl _) (.cells #[.slice (some ⟨g, 0, none⟩) N cap1] 25))
  go_wp2_with (first | (go_at_call 26; go_must (refine (HPK.out _).mono ?_; rintro e w' ⟨rfl, rfl⟩)) | (go_at_call 36; go_must (refine (HLV.out _ (HT.out.keeps (HB1.out.alloc HB1.out.size _)) (HPA.out.keeps HXA.out)).mono ?_; rintro e w2 ⟨⟨lb, O, rfl, hlb, hIL, hOK⟩, hb⟩; rw [HM.out]; have HB12 := Lib.hid (HXA.out.trans (hb.mono HXA.out.size)); have HIL := Lib.hid hIL; have HOK := Lib.hid hOK; have HX2 := Lib.hid ((hb.block w1.heap.size (by simp)).trans (heap_alloc_new w1 _)); have q2 := cell_block HX2.out; have z2 := block_lt HX2.out; clear hlb hIL hb hOK)) | (go_at_call 37; go_must (refine (HSU.out _ (HT.out.keeps (HB1.out.trans (HB12.out.mono HB1.out.size))) (HPA.out.keeps HB12.out)).mono ?_; rintro e w3 ⟨⟨sb, rfl, hsb, hIS⟩, hb⟩; have HB13 := Lib.hid (HB12.out.trans (hb.mono HB12.out.size)); have HIL3 := Lib.hid (HIL.out.keeps hb); have HIS := Lib.hid hIS; have HX3 := Lib.hid ((hb.block _ (block_lt HX2.out)).trans HX2.out); have q3 := cell_block HX3.out; have z3 := block_lt HX3.out; have g3 : g < w3.heap.size := Nat.lt_of_lt_of_le hg HB13.out.size; have d2 := (HB13.out.cell (p := ⟨g, _, none⟩) hg).trans c2; clear hsb hIS hb q2 z2)))
  clear q3 z3 g3 d2
  go_loopw [11] (fun v wr => ∃ i : Nat, i ≤ M ∧ v = .int .i64 (i : Int) ∧ Below w3.heap.size w3 wr) (fun v _ => M - (intOf v).toNat)
  case atStart => exact ⟨0, by omega, rfl, Below.refl _ _⟩
  case round =>
    obtain ⟨i, hi, rfl, hbr⟩ := hrel
    have HBR := Lib.hid hbr
    have HW1R := Lib.hid (HB13.out.trans (hbr.mono HB13.out.size))
    by_cases hiM : i = M
    · obtain rfl : M = i := hiM.symm
      clear hbr
      go_wp2_with fail
      go_ret
      exact ⟨rfl, HB1.out.trans (HW1R.out.mono HB1.out.size)⟩
    · have hi1 : (i : Int) < M := by omega
      have hi2 : (0 : Int) ≤ i := by omega
      have hILr := HIL3.out.keeps hbr
      have hISr := HIS.out.keeps hbr
      have HILR := Lib.hid hILr
      have cl := hILr.cell (outL_get (liveL_get (F := F) (O := O) (pc := i) (by rw [HM.out]; omega)))
      obtain ⟨o, ho⟩ : ∃ o, (sureF F)[i]? = some o := ⟨_, List.getElem?_eq_getElem (by rw [HSL.out]; omega)⟩
      have cs := hISr.cell (outL_get ho)
      have zl := hILr.lt
      have zs := hISr.lt
      obtain ⟨x, hx⟩ : ∃ x, F.code[i]? = some x := ⟨_, List.getElem?_eq_getElem (by rw [HM.out]; omega)⟩
      have hio := HFO.out.ins x (List.mem_of_getElem? hx)
      have hrdl := reads_lt x hio HFO.out.r2 (parOf p x)
      have HRD1 := Lib.hid (fun (W : World) h1 h2 => HRD.out W h1 h2 i x hx)
      have HXR := Lib.hid ((hbr.block _ (block_lt HX3.out)).trans HX3.out)
      have HPR := Lib.hid (HPA.out.keeps HW1R.out)
      have HTR := Lib.hid (HT.out.keeps (HB1.out.trans (HW1R.out.mono HB1.out.size)))
      have HXX := Lib.hid hx
      obtain ⟨rd, hrd⟩ : ∃ r, readsM x (parOf p x) = r := ⟨_, rfl⟩
      have HRE := Lib.hid hrd
      rw [hrd] at HRD1 hrdl
      clear hrd hx hio hILr hISr hbr
      cases ho2 : o with
      | none =>
        have hr : rchB F i = false := by unfold rchB; rw [ho, ho2]; rfl
        rw [hr] at cl
        rw [ho2] at cs
        have hoi : oI none = -1 := rfl
        have hoj : oI (if false = true then some (O.getD i 0) else none) = -1 := rfl
        rw [hoi] at cs
        rw [hoj] at cl
        have HCL := Lib.hid cl
        clear hr ho ho2 hoi hoj
        go_wp2_with fail
        go_quiet (fail)
        clear cl cs zl zs
        have HQX := Lib.hid (show (wr.drewN nq).heap[w1.heap.size]? = _ from HXR.out)
        have qq := cell_block HQX.out
        have zq := block_lt HQX.out
        go_wp2_with (first | (go_at_call 38; go_must (refine (HRD1.out _ (HTR.out.drewN _) (HPR.out.keeps (below_drewN (Below.refl _ _) _))).mono ?_; rintro e w8 ⟨rfl, hb8⟩; have HB8 := Lib.hid ((below_drewN (Below.refl wr.heap.size wr) nq).trans hb8); have c8 := (HB8.out.cell (p := ⟨lb, i, none⟩) HILR.out.lt).trans HCL.out; have z8 := Nat.lt_of_lt_of_le HILR.out.lt HB8.out.size; clear hb8)))
        go_roundw
        case rel => exact ⟨i + 1, by omega, by go_num, HBR.out.trans (HB8.out.mono HBR.out.size)⟩
        case measure => simp [intOf]; omega
      | some m =>
        have hr : rchB F i = true := by unfold rchB; rw [ho, ho2]; rfl
        rw [hr] at cl
        rw [ho2] at cs
        have hoi : oI (some m) = (m : Int) := rfl
        have hoj : oI (if true = true then some (O.getD i 0) else none) = ((O.getD i 0 : Nat) : Int) := rfl
        rw [hoi] at cs
        rw [hoj] at cl
        have hsub := (HOK.out.sure HCK.out HFM.out (by rw [ho, ho2])).and
        have hm4 := sureF_mask HFO.out.cok HFO.out.p2 i m (by rw [ho, ho2])
        have hO4 := getD_lt HOK.out.inv.lt i
        have hrs := (show Sub rd (O.getD i 0) from by rw [← HRE.out]; exact (HOK.out.pre i x hr HXX.out).2).and
        obtain ⟨v, hv⟩ : ∃ v, O.getD i 0 = v := ⟨_, rfl⟩
        rw [hv] at cl hsub hO4 hrs
        have hand := andNot_nat v m (by omega) (by omega)
        have hand2 := andNot_nat rd v (by omega) (by omega)
        rw [show v - (v &&& m) = 0 by omega] at hand
        rw [show rd - (rd &&& v) = 0 by omega] at hand2
        have HCL := Lib.hid cl
        have hm0 : decide ((m : Int) < 0) = false := by simp
        have hv0 : decide ((v : Int) < 0) = false := by simp
        have hv1 : decide ((0 : Int) ≤ (v : Int)) = true := by simp
        have HA2 := Lib.hid hand2
        clear hr ho ho2 hoi hoj hsub hrs hv hand2
        go_wp2_with fail
        go_quiet (fail)
        clear cl cs zl zs hand
        have HQX := Lib.hid (show (wr.drewN nq).heap[w1.heap.size]? = _ from HXR.out)
        have qq := cell_block HQX.out
        have zq := block_lt HQX.out
        go_wp2_with (first | (go_at_call 38; go_must (refine (HRD1.out _ (HTR.out.drewN _) (HPR.out.keeps (below_drewN (Below.refl _ _) _))).mono ?_; rintro e w8 ⟨rfl, hb8⟩; have HB8 := Lib.hid ((below_drewN (Below.refl wr.heap.size wr) nq).trans hb8); have c8 := (HB8.out.cell (p := ⟨lb, i, none⟩) HILR.out.lt).trans HCL.out; have z8 := Nat.lt_of_lt_of_le HILR.out.lt HB8.out.size; have ha2 := HA2.out; clear hb8)))
        go_roundw
        case rel => exact ⟨i + 1, by omega, by go_num, HBR.out.trans (HB8.out.mono HBR.out.size)⟩
        case measure => simp [intOf]; omega
end Go.Proofs.YtefbdecejoeamaaDoor
