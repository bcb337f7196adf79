/-
  The walk of BlocksCover: it returns true.
-/
import Derived.Test.YtefbdecejoeamaaDoorBk
import Derived.Test.YtefbdecejoeamaaDoorBe
import Derived.Test.YtefbdecejoeamaaDoorBcP
import Derived.Test.YtefbdecejoeamaaDoorPgS
import Derived.Test.YtefbdecejoeamaaDoorOpn
namespace Go.Proofs.YtefbdecejoeamaaDoor
open Go.RowKit Tier
theorem outL_sign {F : Fnc} {i : Nat} {o : Option Nat} (h : (sureF F)[i]? = some o) : rchB F i = o.isSome := by unfold rchB; rw [h]; rfl
set_option maxRecDepth 100000 in
set_option maxHeartbeats 8000000 in
theorem blocksCover_walk (A : Option Addr) (l : List Fnc) (cap : Nat) (fn : Int) (w : World) (ht : Tab w) (hraw : RawsAt w A l) (hln : (l.length : Int) ≤ 9223372036854775807) (hfn : In fn) :
    Calls Tryd.prog 9 #[.slice A l.length cap, .int .i64 fn] w fun e w' => e = .returned (.bool true) ∧ Below w.heap.size w w' := by
  have HT := Lib.hid ht
  have HR := Lib.hid hraw
  have HCK := Lib.hid (mkP_right l)
  clear ht hraw
  go_enter Tryd.func9, Tryd.ntmps9
  go_wp2_with fail
  refine (program_any A cap l _ HT.out hln HR.out).mono ?_
  rintro e w1 ⟨⟨A1, cap1, vs, rfl, hpv⟩, hb1⟩
  have HPV := Lib.hid hpv
  have HB1 := Lib.hid hb1
  clear hpv hb1
  generalize mkP l = p at *
  have hRT := right_of HCK.out
  have hE : progE p = 0 := progE_ck HCK.out
  have hl1 := hRT.ok.l1
  have hl2 := hRT.ok.l2
  have hpk := picked_in fn p.length (by omega)
  obtain ⟨k, hk⟩ : ∃ k : Nat, pickedI fn p.length = k := ⟨(pickedI fn p.length).toNat, by omega⟩
  rw [hk] at hpk
  have HPK := Lib.hid (fun (W : World) => picked_any fn p.length W hfn (by omega) (by omega))
  rw [hk] at HPK
  clear hk
  obtain ⟨A0, cap0, hA0, hA⟩ := HPV.out.at.slice
  simp only [Value.slice.injEq, true_and] at hA0
  obtain ⟨g, hAg, hg, hfn'⟩ := hA (by omega)
  obtain ⟨rfl, rfl⟩ := hA0
  have hkl : k < p.length := by omega
  obtain ⟨F, hF⟩ : ∃ f, p[k]? = some f := ⟨p[k], List.getElem?_eq_getElem hkl⟩
  have hfo := hRT.ok.fn F (List.mem_of_getElem? hF)
  obtain ⟨u, hu, c0, c1, c2⟩ := hfn' k F hF
  obtain ⟨FA, fcap, rfl, hFA⟩ := hu.slice
  subst hAg
  have HBK := Lib.hid (fun (W : World) (h1 : Tab W) (h2 : ProgAt W (.slice (some ⟨g, 0, none⟩) p.length cap1) p) => blocks_any p (some ⟨g, 0, none⟩) cap1 k F W h1 h2 HCK.out hF)
  have HSU := Lib.hid (fun (W : World) (h1 : Tab W) (h2 : ProgAt W (.slice (some ⟨g, 0, none⟩) p.length cap1) p) => psure_any p (some ⟨g, 0, none⟩) cap1 k F W h1 h2 hE hF)
  have HSL := Lib.hid (sureF_length hfo.cok hfo.p2)
  have HF := Lib.hid hF
  have HFM := Lib.hid (List.mem_of_getElem? hF)
  have HRT := Lib.hid hRT
  have HFO := Lib.hid hfo
  have n1 := hfo.c1
  have n2 := hfo.c2
  have HFA := Lib.hid hFA
  obtain ⟨M, hM⟩ : ∃ M, F.code.length = M := ⟨_, rfl⟩
  have HM := Lib.hid hM
  rw [hM] at HSU HSL n1 n2 c2
  have hk0 : (0 : Int) ≤ k := by omega
  have hk1 : (k : Int) < p.length := by omega
  clear hA hfn' hF hu hfo hM hRT hFA
  obtain ⟨N, hN⟩ : ∃ N, p.length = N := ⟨_, rfl⟩
  have HN := Lib.hid hN
  rw [hN] at HPK HBK HSU hl1 hl2 hkl hk1 hpk ⊢
  have HPA := Lib.hid (show ProgAt w1 (.slice (some ⟨g, 0, none⟩) N cap1) p from by have := HPV.out.at; rw [hN] at this; exact this)
  clear hN hE
  have HXA := Lib.hid ((Below.refl w1.heap.size w1).alloc (Nat.le_refl _) (.cells #[.slice (some ⟨g, 0, none⟩) N cap1] 25))
  obtain ⟨H, hH⟩ : ∃ H, (hdL F).length = H := ⟨_, rfl⟩
  have HH := Lib.hid hH
  have hHM : H ≤ 40 := by have h1 := hdTo_len F F.code.length; have h2 : hdTo F F.code.length = hdL F := rfl; rw [h2, hH, HM.out] at h1; omega
  have hz0 := zero_head HRT.out HFM.out
  have HZH := Lib.hid hz0
  have hH1 : 0 < H := by have := (List.getElem?_eq_some_iff.1 hz0).1; omega
  obtain ⟨gc, hgc, hgcl, hins⟩ := HFA.out (by rw [HM.out]; omega)
  have HGC := Lib.hid hgcl
  have HINS := Lib.hid hins
  subst hgc
  have HXB := Lib.hid (HXA.out.alloc HXA.out.size (.cells #[.int .i64 F.params, .int .i64 F.regs, .slice (some ⟨gc, 0, none⟩) M fcap] 56))
  have hHz : decide ((H : Int) = 0) = false := by rw [decide_eq_false_iff_not]; omega
  clear hH hins hgcl hz0
  go_wp2_with (first | (go_at_call 26; go_must (refine (HPK.out _).mono ?_; rintro e w' ⟨rfl, rfl⟩)) | (go_at_call 39; go_must (refine (HBK.out _ (HT.out.keeps (HB1.out.trans (HXB.out.mono HB1.out.size))) (HPA.out.keeps HXB.out)).mono ?_; rintro e w2 ⟨⟨gb, Bb, bs, rfl, hgb, hBB, hOK⟩, hb⟩; rw [HH.out]; have HB12 := Lib.hid (HXB.out.trans (hb.mono HXB.out.size)); have HBB := Lib.hid hBB; have HOK := Lib.hid hOK; have HX2 := Lib.hid ((hb.block w1.heap.size (by simp; omega)).trans (block_alloc (heap_alloc_new w1 _) _)); have HF2 := Lib.hid ((hb.block (w1.heap.size + 1) (by simp)).trans (heap_alloc_new2 w1 _ _)); have q2 := cell_block HX2.out; have z2 := block_lt HX2.out; clear hgb hBB hOK hb)) | (go_at_call 37; go_must (refine (HSU.out _ (HT.out.keeps (HB1.out.trans (HB12.out.mono HB1.out.size))) (HPA.out.keeps HB12.out)).mono ?_; rintro e w3 ⟨⟨sb, rfl, hsb, hIS⟩, hb⟩; have HB13 := Lib.hid (HB12.out.trans (hb.mono HB12.out.size)); have HBB3 := Lib.hid (HBB.out.keeps hb); have HIS := Lib.hid hIS; have HF3 := Lib.hid ((hb.block _ (block_lt HF2.out)).trans HF2.out); have q3 := cell_block HF3.out; have z3 := block_lt HF3.out; obtain ⟨r0, hr0⟩ : ∃ r, bs[0]? = some r := ⟨_, List.getElem?_eq_getElem (by rw [HOK.out.len, HH.out]; omega)⟩; have cb0 : w3.cell? ⟨gb, 0, none⟩ = some (.int .i64 0) := (HBB3.out.cell hr0 (j := 0) (by omega)).trans (show some (Value.int .i64 r0.fr) = _ by rw [(blkok_fr HOK.out hr0 HZH.out).1]; rfl); have zb0 := block_lt HBB3.out.blk; clear hsb hIS hb q2 z2 hr0)))
  clear cb0 zb0
  go_loop [12] (fun v => ∃ pc : Nat, pc ≤ M ∧ v = .int .i64 (pc : Int)) (fun v => M - (intOf v).toNat)
  case atStart => exact ⟨0, by omega, rfl⟩
  case round =>
    obtain ⟨pc, hpc, rfl⟩ := hrel
    by_cases hpM : pc = M
    · obtain rfl : M = pc := hpM.symm
      go_wp2_with fail
      go_ret
      exact ⟨rfl, HB1.out.trans (HB13.out.mono HB1.out.size)⟩
    · have hp1 : (pc : Int) < M := by omega
      have hp2 : (0 : Int) ≤ pc := by omega
      obtain ⟨x, hx⟩ : ∃ x, F.code[pc]? = some x := ⟨_, List.getElem?_eq_getElem (by rw [HM.out]; omega)⟩
      have HIA := Lib.hid (insAt_eq hx)
      obtain ⟨e0, -, -, -, -⟩ := HINS.out pc x hx
      rw [← HB13.out.cell (p := ⟨gc, _, none⟩) HGC.out] at e0
      have zgc : gc < w3.heap.size := Nat.lt_of_lt_of_le HGC.out HB13.out.size
      obtain ⟨o, ho⟩ : ∃ o, (sureF F)[pc]? = some o := ⟨_, List.getElem?_eq_getElem (by rw [HSL.out]; omega)⟩
      have cs := HIS.out.cell (outL_get ho)
      have zs := HIS.out.lt
      have HCT := Lib.hid (cov_count HRT.out HFM.out (pc := pc) (by rw [HM.out]; omega))
      rw [HH.out, outL_sign ho] at HCT
      have HCS := Lib.hid (fun i => cnt_succ (covB F pc) i)
      have HC0 := Lib.hid (show (List.range 0).countP (covB F pc) = 0 by simp)
      obtain ⟨C, hC⟩ : ∃ C : Nat → Nat, ∀ i, (List.range i).countP (covB F pc) = C i := ⟨fun i => (List.range i).countP (covB F pc), fun _ => rfl⟩
      simp only [hC] at HCT HCS HC0
      have hCle : ∀ i, C i ≤ i := fun i => by rw [← hC]; have := List.countP_le_length (p := covB F pc) (l := List.range i); simpa using this
      have HCL := Lib.hid hCle
      clear hx ho hC hCle
      go_wp2_with fail
      go_loop [13, 14] (fun vn vi => ∃ i : Nat, i ≤ H ∧ vi = .int .i64 (i : Int) ∧ vn = .int .i64 (C i : Int)) (fun _ vi => H - (intOf vi).toNat)
      case atStart => exact ⟨0, by omega, rfl, by rw [HC0.out]; rfl⟩
      case round =>
        obtain ⟨i, hi, rfl, rfl⟩ := hrel
        by_cases hiH : i = H
        · obtain rfl : H = i := hiH.symm
          rw [HCT.out]
          cases o with
          | none =>
            have hoi : oI none = -1 := rfl
            rw [hoi] at cs
            have hs0 : (none : Option Nat).isSome = false := rfl
            clear hoi
            go_wp2_with fail
            exact ⟨⟨pc + 1, by omega, by omega⟩, by simp [intOf]; omega⟩
          | some m =>
            have hoi : oI (some m) = (m : Int) := rfl
            rw [hoi] at cs
            have hs0 : (some m : Option Nat).isSome = true := rfl
            have hm0 : decide ((0 : Int) ≤ (m : Int)) = true := by simp
            clear hoi
            go_wp2_with fail
            exact ⟨⟨pc + 1, by omega, by omega⟩, by simp [intOf]; omega⟩
        · have hi1 : (i : Int) < H := by omega
          have hi2 : (0 : Int) ≤ i := by omega
          obtain ⟨a, ha⟩ : ∃ a, (hdL F)[i]? = some a := ⟨_, List.getElem?_eq_getElem (by rw [HH.out]; omega)⟩
          have ham := List.mem_of_getElem? ha
          obtain ⟨s1, s2, -, -, -⟩ := toF_spec HRT.out HFM.out ham
          obtain ⟨r, hr⟩ : ∃ r, bs[i]? = some r := ⟨_, List.getElem?_eq_getElem (by rw [HOK.out.len, HH.out]; omega)⟩
          obtain ⟨hr1, hr2⟩ := blkok_fr HOK.out hr ha
          have cf : w3.cell? ⟨gb, i * 4, none⟩ = some (.int .i64 (a : Int)) := (HBB3.out.cell hr (j := 0) (by omega)).trans (by rw [← hr1]; rfl)
          have ct : w3.cell? ⟨gb, i * 4 + 1, none⟩ = some (.int .i64 (toF F a : Int)) := (HBB3.out.cell hr (j := 1) (by omega)).trans (by rw [← hr2]; rfl)
          have zgb := block_lt HBB3.out.blk
          have hend := cov_end HRT.out HFM.out ham (pc := pc)
          rw [HIA.out] at hend
          have hcv : covB F pc i = (decide (a ≤ pc) && decide (pc < toF F a)) := by unfold covB; rw [hdA_eq ha]
          have HSC := Lib.hid (HCS.out i)
          rw [hcv] at HSC
          rw [HM.out] at s2
          have hcl := HCL.out i
          obtain ⟨T, hT⟩ : ∃ T, toF F a = T := ⟨_, rfl⟩
          rw [hT] at ct s1 s2 hend HSC
          clear hr hr1 hr2 ha ham hT hcv
          by_cases h1 : a ≤ pc
          · have t1 : decide ((a : Int) ≤ pc) = true := by rw [decide_eq_true_eq]; omega
            have u1 : decide (a ≤ pc) = true := by rw [decide_eq_true_eq]; omega
            by_cases h2 : pc < T
            · have t2 : decide ((pc : Int) < T) = true := by rw [decide_eq_true_eq]; omega
              have u2 : decide (pc < T) = true := by rw [decide_eq_true_eq]; omega
              have HS2 := Lib.hid (show C (i + 1) = C i + 1 by rw [HSC.out]; simp [h1, h2])
              by_cases ho : 15 ≤ x.op
              · obtain rfl : T = pc + 1 := by
                  by_cases h3 : pc + 1 < T
                  · have := hend h1 h3; omega
                  · omega
                have hod : decide (15 ≤ x.op) = true := by simpa using ho
                have hT1 : ((pc + 1 : Nat) : Int) = (pc : Int) + 1 := by omega
                have t3 : (pc : Int) + 1 - 1 = pc := by omega
                rw [hT1] at ct t2
                clear u2
                clear hend h1 h2 hT1 ho HSC
                go_wp2_with fail
                go_round
                case rel => exact ⟨i + 1, by omega, by go_num, by rw [HS2.out]; go_num⟩
                case measure => simp [intOf]; omega
              · have hod : decide (15 ≤ x.op) = false := by simpa using ho
                clear hend h1 h2 ho HSC
                go_wp2_with fail
                go_round
                case rel => exact ⟨i + 1, by omega, by go_num, by rw [HS2.out]; go_num⟩
                case measure => simp [intOf]; omega
            · have t2 : decide ((pc : Int) < T) = false := by rw [decide_eq_false_iff_not]; omega
              have u2 : decide (pc < T) = false := by rw [decide_eq_false_iff_not]; omega
              have HS2 := Lib.hid (show C (i + 1) = C i by rw [HSC.out]; simp [h2])
              clear hend h1 h2 HSC
              go_wp2_with fail
              go_round
              case rel => exact ⟨i + 1, by omega, by go_num, by rw [HS2.out]⟩
              case measure => simp [intOf]; omega
          · have t1 : decide ((a : Int) ≤ pc) = false := by rw [decide_eq_false_iff_not]; omega
            have u1 : decide (a ≤ pc) = false := by rw [decide_eq_false_iff_not]; omega
            have HS2 := Lib.hid (show C (i + 1) = C i by rw [HSC.out]; simp [h1])
            clear hend h1 HSC
            go_wp2_with fail
            go_round
            case rel => exact ⟨i + 1, by omega, by go_num, by rw [HS2.out]⟩
            case measure => simp [intOf]; omega
end Go.Proofs.YtefbdecejoeamaaDoor
