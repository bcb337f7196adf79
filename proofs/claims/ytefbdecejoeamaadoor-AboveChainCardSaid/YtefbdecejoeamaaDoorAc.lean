/-
  The walk of AboveChain: it returns true.
-/
import Derived.Test.YtefbdecejoeamaaDoorAb
import Derived.Test.YtefbdecejoeamaaDoorBe
import Derived.Test.YtefbdecejoeamaaDoorBmP
import Derived.Test.YtefbdecejoeamaaDoorPgS
import Derived.Test.YtefbdecejoeamaaDoorOpn
namespace Go.Proofs.YtefbdecejoeamaaDoor
open Go.RowKit Tier
theorem come_in {G : Nat → Nat → Prop} {i : Nat} (hc : Come G i) (h0 : i ≠ 0) : ∃ q, Av G i q ∧ G q i := by
  have key : ∀ j, Come G j → Av G i j ∨ ∃ q, Av G i q ∧ G q i := fun j hj => by
    induction hj with
    | zero => exact .inl (.zero (fun e => h0 e.symm))
    | step hq he ih =>
      rename_i q n
      rcases ih with ih | ih
      · by_cases e : n = i
        · subst e; exact .inr ⟨q, ih, he⟩
        · exact .inl (.step ih he e)
      · exact .inr ih
  rcases key i hc with h | h
  · exact absurd rfl h.ne
  · exact h
theorem idom_one {p : List Fnc} {F : Fnc} (hp : Right p) (hF : F ∈ p) {i q : Nat} (hi : i < (hdL F).length) (h0 : i ≠ 0) (h : prevN F i = [q]) : idomN F i = q := by
  have hd := edg_dom hp hF
  have hq : ∀ q', Edg F q' i → q' = q := fun q' hq' => by
    have := prevN_mem.2 hq'
    rw [h] at this
    exact List.mem_singleton.1 this
  have hqE : Edg F q i := prevN_mem.1 (by rw [h]; simp)
  have hid : Idom (Edg F) q i := by
    refine ⟨fun e => ?_, (dom_step h0).2 (.inr fun q' hq' hv => ?_), fun m hm hdm => ?_⟩
    · obtain ⟨q', hv, he⟩ := come_in (hd.come i hi) h0
      exact hv.ne ((hq q' he).trans e)
    · exact hv.ne (hq q' hq')
    · rcases (dom_step h0).1 hdm with e | hh
      · exact absurd e hm
      · exact hh q hqE
  obtain ⟨h1, h2⟩ := idomN_spec hp hF hi h0
  exact idom_unique (hd.come _ h1) h2 hid
theorem domC_le (G : Nat → Nat → Prop) (n i : Nat) : domC G n i ≤ n := by
  unfold domC; exact Nat.le_trans List.countP_le_length (by simp)
theorem idomN_count {p : List Fnc} {F : Fnc} (hp : Right p) (hF : F ∈ p) {i : Nat} (hi : i < (hdL F).length) (h0 : i ≠ 0) : domC (Edg F) (hdL F).length (idomN F i) + 1 = domC (Edg F) (hdL F).length i :=
  idom_count (edg_dom hp hF) hi (idomN_spec hp hF hi h0).2
set_option maxRecDepth 100000 in
set_option maxHeartbeats 8000000 in
theorem aboveChain_walk (A : Option Addr) (l : List Fnc) (cap : Nat) (fn : Int) (w : World) (ht : Tab w) (hraw : RawsAt w A l) (hln : (l.length : Int) ≤ 9223372036854775807) (hfn : In fn) :
    Calls Tryd.prog 12 #[.slice A l.length cap, .int .i64 fn] w fun e w' => e = .returned (.bool true) ∧ Below w.heap.size w w' := by
  have HT := Lib.hid ht
  have HR := Lib.hid hraw
  have HCK := Lib.hid (mkP_right l)
  clear ht hraw
  go_enter Tryd.func12, Tryd.ntmps12
  go_wp2_with fail
  refine (program_any A cap l _ HT.out hln HR.out).mono ?_
  rintro e w1 ⟨⟨A1, cap1, vs, rfl, hpv⟩, hb1⟩
  have HPV := Lib.hid hpv
  have HB1 := Lib.hid hb1
  clear hpv hb1
  generalize mkP l = p at *
  have hRT := right_of HCK.out
  have hE : progE p = 0 := progE_ck HCK.out
  have hl1 := hRT.ok.l1
  have hl2 := hRT.ok.l2
  have hpk := picked_in fn p.length (by omega)
  obtain ⟨k, hk⟩ : ∃ k : Nat, pickedI fn p.length = k := ⟨(pickedI fn p.length).toNat, by omega⟩
  rw [hk] at hpk
  have HPK := Lib.hid (fun (W : World) => picked_any fn p.length W hfn (by omega) (by omega))
  rw [hk] at HPK
  clear hk
  obtain ⟨A0, cap0, hA0, hA⟩ := HPV.out.at.slice
  simp only [Value.slice.injEq, true_and] at hA0
  obtain ⟨g, hAg, hg, hfn'⟩ := hA (by omega)
  obtain ⟨rfl, rfl⟩ := hA0
  have hkl : k < p.length := by omega
  obtain ⟨F, hF⟩ : ∃ f, p[k]? = some f := ⟨p[k], List.getElem?_eq_getElem hkl⟩
  have hfo := hRT.ok.fn F (List.mem_of_getElem? hF)
  obtain ⟨u, hu, c0, c1, c2⟩ := hfn' k F hF
  obtain ⟨FA, fcap, rfl, hFA⟩ := hu.slice
  subst hAg
  have HBK := Lib.hid (fun (W : World) (h1 : Tab W) (h2 : ProgAt W (.slice (some ⟨g, 0, none⟩) p.length cap1) p) => blocks_any p (some ⟨g, 0, none⟩) cap1 k F W h1 h2 HCK.out hF)
  have HAV := Lib.hid (fun (W : World) (h1 : Tab W) (h2 : ProgAt W (.slice (some ⟨g, 0, none⟩) p.length cap1) p) => above_any p (some ⟨g, 0, none⟩) cap1 k F W h1 h2 HCK.out hF)
  have HSL := Lib.hid (sureF_length hfo.cok hfo.p2)
  have HF := Lib.hid hF
  have HFM := Lib.hid (List.mem_of_getElem? hF)
  have HRT := Lib.hid hRT
  have HFO := Lib.hid hfo
  have n1 := hfo.c1
  have n2 := hfo.c2
  have HFA := Lib.hid hFA
  obtain ⟨M, hM⟩ : ∃ M, F.code.length = M := ⟨_, rfl⟩
  have HM := Lib.hid hM
  rw [hM] at  HSL n1 n2 c2
  have hk0 : (0 : Int) ≤ k := by omega
  have hk1 : (k : Int) < p.length := by omega
  clear hA hfn' hF hu hfo hM hRT c0 c1 hFA
  obtain ⟨N, hN⟩ : ∃ N, p.length = N := ⟨_, rfl⟩
  have HN := Lib.hid hN
  rw [hN] at HPK HBK HAV hl1 hl2 hkl hk1 hpk ⊢
  have HPA := Lib.hid (show ProgAt w1 (.slice (some ⟨g, 0, none⟩) N cap1) p from by have := HPV.out.at; rw [hN] at this; exact this)
  clear hN hE
  have HXA := Lib.hid ((Below.refl w1.heap.size w1).alloc (Nat.le_refl _) (.cells #[.slice (some ⟨g, 0, none⟩) N cap1] 25))
  obtain ⟨H, hH⟩ : ∃ H, (hdL F).length = H := ⟨_, rfl⟩
  have HH := Lib.hid hH
  have hHM : H ≤ 40 := by have h1 := hdTo_len F F.code.length; have h2 : hdTo F F.code.length = hdL F := rfl; rw [h2, hH, HM.out] at h1; omega
  have hH1 : 0 < H := by have := (List.getElem?_eq_some_iff.1 (zero_head HRT.out HFM.out)).1; omega
  have hHz : ((H : Int) == 0) = false := beq_eq_false_iff_ne.2 (by omega)
  have hH0 : (0 : Int) < H := by omega
  clear hH
  go_wp2_with (first | (go_at_call 26; go_must (refine (HPK.out _).mono ?_; rintro e w' ⟨rfl, rfl⟩)) | (go_at_call 41; go_must (refine (HAV.out _ (HT.out.keeps (HB1.out.alloc HB1.out.size _)) (HPA.out.keeps HXA.out)).mono ?_; rintro e w2 ⟨⟨ab, rfl, hab, hIL⟩, hb⟩; rw [HH.out]; have HB12 := Lib.hid (HXA.out.trans (hb.mono HXA.out.size)); have HIL := Lib.hid hIL; have HX2 := Lib.hid ((hb.block w1.heap.size (by simp)).trans (heap_alloc_new w1 _)); have q2 := cell_block HX2.out; have z2 := block_lt HX2.out; clear hab hIL hb)) | (go_at_call 39; go_must (refine (HBK.out _ (HT.out.keeps (HB1.out.trans (HB12.out.mono HB1.out.size))) (HPA.out.keeps HB12.out)).mono ?_; rintro e w3 ⟨⟨gb, Bb, bs, rfl, hgb, hBB, hOB⟩, hb⟩; rw [HH.out]; have HB13 := Lib.hid (HB12.out.trans (hb.mono HB12.out.size)); have HIL3 := Lib.hid (HIL.out.keeps hb); have HBB := Lib.hid hBB; have HOB := Lib.hid hOB; have ca3 := HIL3.out.cell (show (abvL F)[0]? = some (-1) from abvL_get (by rw [HH.out]; exact hH1)); have za3 := HIL3.out.lt; clear hgb hBB hOB hb q2 z2)))
  clear ca3 za3
  have HGB := Lib.hid (block_lt HBB.out.blk)
  go_loopw [11] (fun v wr => ∃ j : Nat, j + 1 ≤ H ∧ v = .int .i64 ((j : Int) + 1) ∧ Below w3.heap.size w3 wr) (fun v _ => H + 1 - (intOf v).toNat)
  case atStart => exact ⟨0, by omega, rfl, Below.refl _ _⟩
  case round =>
    obtain ⟨j, hj, rfl, hbo⟩ := hrel
    obtain ⟨wo, hwo⟩ : ∃ wo : World, wo = wr := ⟨_, rfl⟩
    subst hwo
    have HBO := Lib.hid hbo
    by_cases hjH : j + 1 = H
    · have t1 : decide ((j : Int) + 1 < H) = false := by rw [decide_eq_false_iff_not]; omega
      have t2 : decide (j + 1 < H) = false := by rw [decide_eq_false_iff_not]; omega
      clear hbo
      go_wp2_with fail
      go_ret
      exact ⟨rfl, HB1.out.trans ((HB13.out.trans (HBO.out.mono HB13.out.size)).mono HB1.out.size)⟩
    · obtain ⟨i, hie⟩ : ∃ i, i = j + 1 := ⟨_, rfl⟩
      have hic : (j : Int) + 1 = (i : Int) := by omega
      rw [hic]
      have hi0 : i ≠ 0 := by omega
      have hi1 : i < H := by omega
      have i1 : (i : Int) < H := by omega
      have i2 : (0 : Int) ≤ i := by omega
      have HIC := Lib.hid (show (i : Int) + 1 = ((j + 1 : Nat) : Int) + 1 by omega)
      have HIJ := Lib.hid (show j + 1 + 1 ≤ H by omega)
      clear hie hic hbo
      go_wp2_with fail
      go_loop [12, 13] (fun va vn => ∃ (q n : Nat), q < H ∧ n + domC (Edg F) H q ≤ H ∧ va = .int .i64 (q : Int) ∧ vn = .int .i64 (n : Int)) (fun va _ => domC (Edg F) H (intOf va).toNat)
      case atStart => exact ⟨i, 0, hi1, by have := domC_le (Edg F) H i; omega, rfl, rfl⟩
      case round =>
        obtain ⟨q, n, hq, hn, rfl, rfl⟩ := hrel
        have HIR := Lib.hid (HIL3.out.keeps HBO.out)
        by_cases hq0 : q = 0
        · subst hq0
          clear hn hq
          obtain ⟨r, hr⟩ : ∃ r, bs[i]? = some r := ⟨_, List.getElem?_eq_getElem (by rw [HOB.out.len, HH.out]; exact hi1)⟩
          obtain ⟨Ap, pp, hvp, hRp⟩ := ab_row HBB.out hr true
          have hpl := (HOB.out.at_ i r hr).2.2.2
          rw [prevF_pos hi0] at hpl
          have hlp : (r.lst true).length = (prevN F i).length := by show r.pl.length = _; rw [hpl, natI_length]
          rw [hlp] at hvp
          have HRP := Lib.hid (show RowI w3 Ap (natI (prevN F i)) by rw [← hpl]; exact hRp)
          have zgb : gb < wo.heap.size := Nat.lt_of_lt_of_le HGB.out HBO.out.size
          have cp : wo.cell? ⟨gb, i * 4 + 3, none⟩ = some (.slice Ap (prevN F i).length pp) := (HBO.out.cell (p := ⟨gb, _, none⟩) HGB.out).trans ((HBB.out.cell hr (j := 3) (by omega)).trans (show some (r.val true) = _ by rw [hvp]))
          have ca : wo.cell? ⟨ab, i, none⟩ = some (.int .i64 (idomN F i : Int)) := HIR.out.cell (show (abvL F)[i]? = some (idomN F i : Int) from by rw [abvL_get (by rw [HH.out]; exact hi1)]; unfold abvI; rw [if_neg hi0])
          have za := HIR.out.lt
          have hplen := prevN_len F hi0
          rw [HH.out] at hplen
          by_cases hone : (prevN F i).length = 1
          · obtain ⟨q1, hq1⟩ : ∃ q, prevN F i = [q] := List.length_eq_one_iff.1 hone
            have hid := idom_one HRT.out HFM.out (by rw [HH.out]; exact hi1) hi0 hq1
            obtain ⟨gv, hgv, hgl, hcc⟩ := HRP.out (by rw [natI_length]; omega)
            have y0 : wo.cell? ⟨gv, 0, none⟩ = some (.int .i64 (q1 : Int)) := (HBO.out.cell (p := ⟨gv, _, none⟩) hgl).trans (hcc 0 (q1 : Int) (by rw [hq1]; rfl))
            have zgv : gv < wo.heap.size := Nat.lt_of_lt_of_le hgl HBO.out.size
            rw [hone] at cp
            rw [hid] at ca
            have hne : ((q1 : Int) != (q1 : Int)) = false := by simp
            subst hgv
            clear hr hvp hRp hpl hlp hplen hone hq1 hid hgl hcc
            go_wp2_with fail
            go_quiet (fail)
            go_wp2_with fail
            go_roundw
            case rel => exact ⟨j + 1, HIJ.out, by rw [← HIC.out], below_drewN HBO.out _⟩
            case measure => have := HIC.out; simp [intOf]; omega
          · obtain ⟨lp, hlpe⟩ : ∃ n, (prevN F i).length = n := ⟨_, rfl⟩
            rw [hlpe] at cp hone hplen
            have hne : ((lp : Int) == 1) = false := beq_eq_false_iff_ne.2 (by omega)
            have hne2 : decide ((lp : Int) = 1) = false := by rw [decide_eq_false_iff_not]; omega
            have hne3 : decide (lp = 1) = false := by rw [decide_eq_false_iff_not]; omega
            clear hr hvp hRp hpl hlp hlpe
            go_wp2_with fail
            go_quiet (fail)
            go_wp2_with fail
            go_roundw
            case rel => exact ⟨j + 1, HIJ.out, by rw [← HIC.out], below_drewN HBO.out _⟩
            case measure => have := HIC.out; simp [intOf]; omega
        · have q1 : (q : Int) < H := by omega
          have q2 : (0 : Int) ≤ q := by omega
          have q3 : ((q : Int) != 0) = true := bne_iff_ne.2 (by omega)
          have ca : wo.cell? ⟨ab, q, none⟩ = some (.int .i64 (idomN F q : Int)) := HIR.out.cell (show (abvL F)[q]? = some (idomN F q : Int) from by rw [abvL_get (by rw [HH.out]; exact hq)]; unfold abvI; rw [if_neg hq0])
          have za := HIR.out.lt
          have hcn := idomN_count HRT.out HFM.out (by rw [HH.out]; exact hq) hq0
          have hil := (idomN_spec HRT.out HFM.out (by rw [HH.out]; exact hq) hq0).1
          rw [HH.out] at hcn hil
          obtain ⟨m, hm⟩ : ∃ m, idomN F q = m := ⟨_, rfl⟩
          rw [hm] at ca hcn hil
          have n1 : (n : Int) ≤ 40 := by omega
          have n2 : n ≤ 40 := by omega
          have t1 : decide ((H : Int) < n) = false := by rw [decide_eq_false_iff_not]; omega
          have t2 : decide (H < n) = false := by rw [decide_eq_false_iff_not]; omega
          have t3 : decide ((m : Int) < 0) = false := by rw [decide_eq_false_iff_not]; omega
          have t4 : decide ((H : Int) ≤ m) = false := by rw [decide_eq_false_iff_not]; omega
          have t5 : decide (H ≤ m) = false := by rw [decide_eq_false_iff_not]; omega
          have HCN := Lib.hid hcn
          have HIL := Lib.hid hil
          have HN := Lib.hid hn
          clear hm hcn hil hn
          go_wp2_with fail
          go_round
          case rel => exact ⟨m, n + 1, HIL.out, by have h1 := HCN.out; have h2 := HN.out; omega, rfl, by go_num⟩
          case measure => have h1 := HCN.out; simp [intOf]; omega
end Go.Proofs.YtefbdecejoeamaaDoor
