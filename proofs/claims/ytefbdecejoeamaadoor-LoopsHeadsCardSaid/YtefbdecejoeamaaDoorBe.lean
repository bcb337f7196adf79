/-
  The walk of BlocksEnd: it returns true.
-/
import Derived.Test.YtefbdecejoeamaaDoorBk
import Derived.Test.YtefbdecejoeamaaDoorHas
import Derived.Test.YtefbdecejoeamaaDoorPgS
import Derived.Test.YtefbdecejoeamaaDoorOpn
namespace Go.Proofs.YtefbdecejoeamaaDoor
open Go.RowKit Tier
theorem to_end {p : List Fnc} {F : Fnc} (hp : Right p) (hF : F ∈ p) {a : Nat} (ha : a ∈ hdL F) (ho : (insAt F (toF F a - 1)).op < 15) : toF F a ∈ hdL F := by
  obtain ⟨-, -, -, h4, -⟩ := toF_spec hp hF ha
  unfold stopB at h4
  rw [Bool.or_eq_true] at h4
  rcases h4 with h4 | h4
  · simp at h4; omega
  · simpa using h4
theorem rowI_natI {w : World} {B : Nat} {A : Option Addr} {n cap : Nat} {l : List Nat} (h : OwnI w B (.slice A n cap) (natI l)) : RowI w A (natI l) := by
  obtain ⟨A', cap', h1, h2⟩ := rowI_own h
  simp only [Value.slice.injEq] at h1
  rw [h1.1]; exact h2
theorem blkok_fr {F : Fnc} {bs : List BR} (h : BlkOk F bs) {q a : Nat} {r : BR} (hq : bs[q]? = some r) (ha : (hdL F)[q]? = some a) : r.fr = (a : Int) ∧ r.to = (toF F a : Int) := by
  obtain ⟨h1, h2, -, -⟩ := h.at_ q r hq
  rw [hdA_eq ha] at h1 h2
  exact ⟨h1, h2⟩
theorem mem_natI {l : List Nat} {n : Nat} : (n : Int) ∈ natI l ↔ n ∈ l := by
  unfold natI
  rw [List.mem_map]
  exact ⟨fun ⟨m, h1, h2⟩ => by have : m = n := by omega
                               subst this; exact h1, fun h => ⟨n, h, rfl⟩⟩
set_option maxRecDepth 100000 in
set_option maxHeartbeats 8000000 in
theorem blocksEnd_walk (A : Option Addr) (l : List Fnc) (cap : Nat) (fn : Int) (w : World) (ht : Tab w) (hraw : RawsAt w A l) (hln : (l.length : Int) ≤ 9223372036854775807) (hfn : In fn) :
    Calls Tryd.prog 11 #[.slice A l.length cap, .int .i64 fn] w fun e w' => e = .returned (.bool true) ∧ Below w.heap.size w w' := by
  have HT := Lib.hid ht
  have HR := Lib.hid hraw
  have HCK := Lib.hid (mkP_right l)
  clear ht hraw
  go_enter Tryd.func11, Tryd.ntmps11
  go_wp2_with fail
  refine (program_any A cap l _ HT.out hln HR.out).mono ?_
  rintro e w1 ⟨⟨A1, cap1, vs, rfl, hpv⟩, hb1⟩
  have HPV := Lib.hid hpv
  have HB1 := Lib.hid hb1
  clear hpv hb1
  generalize mkP l = p at *
  have hRT := right_of HCK.out
  have hE : progE p = 0 := progE_ck HCK.out
  have hl1 := hRT.ok.l1
  have hl2 := hRT.ok.l2
  have hpk := picked_in fn p.length (by omega)
  obtain ⟨k, hk⟩ : ∃ k : Nat, pickedI fn p.length = k := ⟨(pickedI fn p.length).toNat, by omega⟩
  rw [hk] at hpk
  have HPK := Lib.hid (fun (W : World) => picked_any fn p.length W hfn (by omega) (by omega))
  rw [hk] at HPK
  clear hk
  obtain ⟨A0, cap0, hA0, hA⟩ := HPV.out.at.slice
  simp only [Value.slice.injEq, true_and] at hA0
  obtain ⟨g, hAg, hg, hfn'⟩ := hA (by omega)
  obtain ⟨rfl, rfl⟩ := hA0
  have hkl : k < p.length := by omega
  obtain ⟨F, hF⟩ : ∃ f, p[k]? = some f := ⟨p[k], List.getElem?_eq_getElem hkl⟩
  have hfo := hRT.ok.fn F (List.mem_of_getElem? hF)
  obtain ⟨u, hu, c0, c1, c2⟩ := hfn' k F hF
  obtain ⟨FA, fcap, rfl, hFA⟩ := hu.slice
  subst hAg
  have HBK := Lib.hid (fun (W : World) (h1 : Tab W) (h2 : ProgAt W (.slice (some ⟨g, 0, none⟩) p.length cap1) p) => blocks_any p (some ⟨g, 0, none⟩) cap1 k F W h1 h2 HCK.out hF)
  have HSL := Lib.hid (sureF_length hfo.cok hfo.p2)
  have HF := Lib.hid hF
  have HFM := Lib.hid (List.mem_of_getElem? hF)
  have HRT := Lib.hid hRT
  have HFO := Lib.hid hfo
  have n1 := hfo.c1
  have n2 := hfo.c2
  have HFA := Lib.hid hFA
  obtain ⟨M, hM⟩ : ∃ M, F.code.length = M := ⟨_, rfl⟩
  have HM := Lib.hid hM
  rw [hM] at  HSL n1 n2 c2
  have hk0 : (0 : Int) ≤ k := by omega
  have hk1 : (k : Int) < p.length := by omega
  clear hA hfn' hF hu hfo hM hRT hFA
  obtain ⟨N, hN⟩ : ∃ N, p.length = N := ⟨_, rfl⟩
  have HN := Lib.hid hN
  rw [hN] at HPK HBK hl1 hl2 hkl hk1 hpk ⊢
  have HPA := Lib.hid (show ProgAt w1 (.slice (some ⟨g, 0, none⟩) N cap1) p from by have := HPV.out.at; rw [hN] at this; exact this)
  clear hN hE
  have HXA := Lib.hid ((Below.refl w1.heap.size w1).alloc (Nat.le_refl _) (.cells #[.slice (some ⟨g, 0, none⟩) N cap1] 25))
  obtain ⟨i0, hI0, hz0, hz1, hz2⟩ := info_parts infoInt
  obtain ⟨H, hH⟩ : ∃ H, (hdL F).length = H := ⟨_, rfl⟩
  have HH := Lib.hid hH
  have hHM : H ≤ 40 := by have h1 := hdTo_len F F.code.length; have h2 : hdTo F F.code.length = hdL F := rfl; rw [h2, hH, HM.out] at h1; omega
  have hH1 : 0 < H := by have := (List.getElem?_eq_some_iff.1 (zero_head HRT.out HFM.out)).1; omega
  obtain ⟨gc, hgc, hgcl, hins⟩ := HFA.out (by rw [HM.out]; omega)
  have HGC := Lib.hid hgcl
  have HINS := Lib.hid hins
  subst hgc
  clear hH hins hgcl
  go_wp2_with (first | (go_at_call 26; go_must (refine (HPK.out _).mono ?_; rintro e w' ⟨rfl, rfl⟩)) | (go_at_call 39; go_must (refine (HBK.out _ (HT.out.keeps (HB1.out.alloc HB1.out.size _)) (HPA.out.keeps HXA.out)).mono ?_; rintro e w2 ⟨⟨gb, Bb, bs, rfl, hgb, hBB, hOK⟩, hb⟩; rw [HH.out]; have HB12 := Lib.hid (HXA.out.trans (hb.mono HXA.out.size)); have HBB := Lib.hid hBB; have HOK := Lib.hid hOK; have HX2 := Lib.hid ((hb.block w1.heap.size (by simp)).trans (heap_alloc_new w1 _)); have q2 := cell_block HX2.out; have z2 := block_lt HX2.out; have g2 : g < w2.heap.size := Nat.lt_of_lt_of_le hg HB12.out.size; have d0 := (HB12.out.cell (p := ⟨g, _, none⟩) hg).trans c0; have d1 := (HB12.out.cell (p := ⟨g, _, none⟩) hg).trans c1; have d2 := (HB12.out.cell (p := ⟨g, _, none⟩) hg).trans c2; clear hgb hBB hOK hb)))
  clear q2 z2 g2 d0 d1 d2
  obtain ⟨w3, hw3⟩ : ∃ W, w2.alloc (.cells #[.int .i64 F.params, .int .i64 F.regs, .slice (some ⟨gc, 0, none⟩) M fcap] 56) = W := ⟨_, rfl⟩
  have hfb := heap_alloc_new w2 (.cells #[.int .i64 F.params, .int .i64 F.regs, .slice (some ⟨gc, 0, none⟩) M fcap] 56)
  have hb23 : Below w2.heap.size w2 w3 := by rw [← hw3]; exact (Below.refl _ _).alloc (Nat.le_refl _) _
  rw [hw3] at hfb ⊢
  have HFB := Lib.hid hfb
  have HBB3 := Lib.hid (HBB.out.keeps hb23)
  have HB13 := Lib.hid (HB12.out.trans (hb23.mono HB12.out.size))
  have hL0 := OwnI.nil w3 w3.heap.size
  have HL0 := Lib.hid hL0
  clear hw3 hfb hb23 hL0
  go_loopw [10, 11] (fun vl v wr => ∃ (i : Nat) (A1 : Option Addr) (cp : Nat), i ≤ H ∧ v = .int .i64 (i : Int) ∧ vl = .slice A1 i cp ∧ OwnI wr w3.heap.size (.slice A1 i cp) (natI ((hdL F).take i)) ∧ Below w3.heap.size w3 wr) (fun _ v _ => H - (intOf v).toNat)
  case atStart => exact ⟨0, none, 0, by omega, rfl, rfl, HL0.out, Below.refl _ _⟩
  case round =>
    obtain ⟨i, A1, cp, hi, rfl, rfl, hO, hB⟩ := hrel
    have HO := Lib.hid hO
    have HB := Lib.hid hB
    clear hO hB
    by_cases hiH : i = H
    · obtain rfl : H = i := hiH.symm
      obtain ⟨H0, hH0⟩ : ∃ n, n = H := ⟨_, rfl⟩
      subst hH0
      have htk : (hdL F).take H0 = hdL F := List.take_of_length_le (by rw [HH.out]; exact Nat.le_refl _)
      have HO5 := Lib.hid (show RowI wr A1 (natI (hdL F)) by have := rowI_natI HO.out; rw [htk] at this; exact this)
      clear htk
      go_wp2_with fail
      obtain ⟨w5, hw5⟩ : ∃ w5 : World, w5 = wr := ⟨_, rfl⟩
      subst hw5
      have HHAS := Lib.hid (fun (W : World) (n : Int) (h : RowI W A1 (natI (hdL F))) => has_any (natI (hdL F)) A1 cp n W h (by rw [natI_length, HH.out]; omega))
      rw [natI_length, HH.out] at HHAS
      go_loopw [12] (fun v wr => ∃ (i : Nat), i ≤ H0 ∧ v = .int .i64 (i : Int) ∧ Below w5.heap.size w5 wr) (fun v _ => H0 - (intOf v).toNat)
      case atStart => exact ⟨0, by omega, rfl, Below.refl _ _⟩
      case round =>
        obtain ⟨i, hi, rfl, hbr⟩ := hrel
        have HBR := Lib.hid hbr
        have HO6 := Lib.hid (HO5.out.keeps hbr)
        have HB3R := Lib.hid (HB.out.trans (hbr.mono HB.out.size))
        clear hbr
        by_cases hiH : i = H0
        · obtain rfl : H0 = i := hiH.symm
          have hhz : decide ((0 : Int) ∈ natI (hdL F)) = true := by rw [decide_eq_true_eq]; exact mem_natI.2 (List.mem_of_getElem? (zero_head HRT.out HFM.out))
          have HH0 := Lib.hid (HHAS.out wr 0 HO6.out)
          rw [hhz] at HH0
          clear hhz
          go_wp2_with (first | (go_at_call 40; go_must (refine HH0.out.mono ?_; rintro e w' ⟨rfl, rfl⟩)))
          go_ret
          exact ⟨rfl, HB1.out.trans ((HB13.out.trans (HB3R.out.mono HB13.out.size)).mono HB1.out.size)⟩
        · have hi1 : (i : Int) < H0 := by omega
          have hi2 : (0 : Int) ≤ i := by omega
          obtain ⟨a, ha⟩ : ∃ a, (hdL F)[i]? = some a := ⟨_, List.getElem?_eq_getElem (by rw [HH.out]; omega)⟩
          have ham := List.mem_of_getElem? ha
          obtain ⟨s1, s2, -, -, -⟩ := toF_spec HRT.out HFM.out ham
          have hend := to_end HRT.out HFM.out ham
          obtain ⟨r, hr⟩ : ∃ r, bs[i]? = some r := ⟨_, List.getElem?_eq_getElem (by rw [HOK.out.len, HH.out]; omega)⟩
          obtain ⟨hr1, hr2⟩ := blkok_fr HOK.out hr ha
          have hBr := HBB3.out.keeps HB3R.out
          have cf : wr.cell? ⟨gb, i * 4, none⟩ = some (.int .i64 (a : Int)) := (hBr.cell hr (j := 0) (by omega)).trans (by rw [← hr1]; rfl)
          have ct : wr.cell? ⟨gb, i * 4 + 1, none⟩ = some (.int .i64 (toF F a : Int)) := (hBr.cell hr (j := 1) (by omega)).trans (by rw [← hr2]; rfl)
          have zgb := block_lt hBr.blk
          have HFR := Lib.hid ((HB3R.out.block _ (block_lt HFB.out)).trans HFB.out)
          have qf := cell_block HFR.out
          have zf := block_lt HFR.out
          obtain ⟨x, hx⟩ : ∃ x, F.code[toF F a - 1]? = some x := ⟨_, List.getElem?_eq_getElem (by omega)⟩
          rw [insAt_eq hx] at hend
          obtain ⟨e0, -, -, -, -⟩ := HINS.out _ x hx
          rw [← (HB13.out.trans (HB3R.out.mono HB13.out.size)).cell (p := ⟨gc, _, none⟩) HGC.out] at e0
          have zgc : gc < wr.heap.size := Nat.lt_of_lt_of_le HGC.out (HB13.out.trans (HB3R.out.mono HB13.out.size)).size
          rw [HM.out] at s2
          obtain ⟨T, hT⟩ : ∃ T, toF F a = T + 1 := ⟨toF F a - 1, by omega⟩
          rw [hT] at ct s1 s2 hend e0
          have hT1 : ((T + 1 : Nat) : Int) = (T : Int) + 1 := by omega
          rw [hT1] at ct
          have t1 : decide ((T : Int) + 1 ≤ a) = false := by rw [decide_eq_false_iff_not]; omega
          have t2 : decide ((M : Int) < (T : Int) + 1) = false := by rw [decide_eq_false_iff_not]; omega
          have t3 : (T : Int) + 1 - 1 = T := by omega
          have t4 : (T : Int) < M := by omega
          have t5 : (0 : Int) ≤ T := by omega
          rw [Nat.add_sub_cancel] at e0
          have HE0 := Lib.hid e0
          clear hr hr1 hr2 ha ham hT hx hBr
          by_cases ho : x.op < 15
          · have hod : decide (x.op < 15) = true := by simpa using ho
            have hhm : decide (((T : Int) + 1) ∈ natI (hdL F)) = true := by rw [decide_eq_true_eq, ← hT1]; exact mem_natI.2 (hend ho)
            clear ho hend hT1
            go_wp2_with fail
            go_quiet (fail)
            obtain ⟨wd, hwd⟩ : ∃ W, wr.drewN nq = W := ⟨_, rfl⟩
            have ct' : wd.cell? ⟨gb, i * 4 + 1, none⟩ = some (.int .i64 ((T : Int) + 1)) := by rw [← hwd]; exact ct
            have e0' : wd.cell? ⟨gc, T * 5, none⟩ = some (.int .i64 x.op) := by rw [← hwd]; exact e0
            have qf' := cell_block (show wd.heap[w2.heap.size]? = _ by rw [← hwd]; exact HFR.out)
            have zf' := block_lt (show wd.heap[w2.heap.size]? = _ by rw [← hwd]; exact HFR.out)
            have zgb' : gb < wd.heap.size := by rw [← hwd]; exact zgb
            have zgc' : gc < wd.heap.size := by rw [← hwd]; exact zgc
            have hbd : Below w5.heap.size w5 wd := by rw [← hwd]; exact below_drewN HBR.out _
            have HBD := Lib.hid hbd
            have hO7 := HO5.out.keeps hbd
            rw [hwd]
            clear cf ct e0 qf zf zgb zgc hwd hbd
            have HH0 := Lib.hid (fun (k : Nat) => HHAS.out (wd.drewN k) ((T : Int) + 1) (hO7.keeps (below_drewN (Below.refl _ _) _)))
            rw [hhm] at HH0
            clear hhm hO7
            go_wp2_with fail
            go_quiet ((go_at_call 40; exact Calls.quiet_of_same ((HH0.out _).mono (fun _ _ h => ⟨h.1, h.2.symm⟩))))
            go_wp2_with fail
            go_roundw
            case rel => exact ⟨i + 1, by omega, by go_num, below_drewN HBD.out _⟩
            case measure => simp [intOf]; omega
          · have hod : decide (x.op < 15) = false := by simpa using ho
            clear ho hend hT1
            go_wp2_with fail
            go_quiet (fail)
            obtain ⟨wd, hwd⟩ : ∃ W, wr.drewN nq = W := ⟨_, rfl⟩
            have ct' : wd.cell? ⟨gb, i * 4 + 1, none⟩ = some (.int .i64 ((T : Int) + 1)) := by rw [← hwd]; exact ct
            have e0' : wd.cell? ⟨gc, T * 5, none⟩ = some (.int .i64 x.op) := by rw [← hwd]; exact e0
            have qf' := cell_block (show wd.heap[w2.heap.size]? = _ by rw [← hwd]; exact HFR.out)
            have zf' := block_lt (show wd.heap[w2.heap.size]? = _ by rw [← hwd]; exact HFR.out)
            have zgb' : gb < wd.heap.size := by rw [← hwd]; exact zgb
            have zgc' : gc < wd.heap.size := by rw [← hwd]; exact zgc
            have hbd : Below w5.heap.size w5 wd := by rw [← hwd]; exact below_drewN HBR.out _
            have HBD := Lib.hid hbd
            rw [hwd]
            clear cf ct e0 qf zf zgb zgc hwd hbd
            go_wp2_with fail
            go_quiet (fail)
            go_wp2_with fail
            go_roundw
            case rel => exact ⟨i + 1, by omega, by go_num, below_drewN HBD.out _⟩
            case measure => simp [intOf]; omega
    · have hi1 : (i : Int) < H := by omega
      have hi2 : (0 : Int) ≤ i := by omega
      obtain ⟨a, ha⟩ : ∃ a, (hdL F)[i]? = some a := ⟨_, List.getElem?_eq_getElem (by rw [HH.out]; omega)⟩
      obtain ⟨r, hr⟩ : ∃ r, bs[i]? = some r := ⟨_, List.getElem?_eq_getElem (by rw [HOK.out.len, HH.out]; omega)⟩
      obtain ⟨hr1, -⟩ := blkok_fr HOK.out hr ha
      have hBr := HBB3.out.keeps HB.out
      have cf : wr.cell? ⟨gb, i * 4, none⟩ = some (.int .i64 (a : Int)) := (hBr.cell hr (j := 0) (by omega)).trans (by rw [← hr1]; rfl)
      have zgb := block_lt hBr.blk
      have hln : ((hdL F).take i).length = i := by rw [List.length_take, HH.out]; omega
      have HO4 := Lib.hid (show wr.ownsRow w3.heap.size 3 1 (.slice A1 i cp) i ((natI ((hdL F).take i)).map (Value.int .i64)) by have h := HO.out; unfold OwnI at h; rw [natI_length, hln] at h; exact h)
      have HTK := Lib.hid (show (hdL F).take (i + 1) = (hdL F).take i ++ [a] by rw [List.take_add_one, ha]; rfl)
      have HLN := Lib.hid hln
      have hw := HB.out.size
      clear hr hr1 hBr ha hln
      go_wp2_with (at_builtin; go_must (refine wpList_append_own _ rfl _ _ 40 rfl w3.heap.size 3 i0 _ 1 8 Tryd.underlying40 hI0 hz0 hz1 hz2 rfl (by decide) (.slice A1 i cp) i ((natI ((hdL F).take i)).map (Value.int .i64)) rfl (own_below HO4.out ((Below.refl _ _).alloc (Nat.le_refl _) _)) ⟨wr.heap.size, 0, none⟩ 1 1 [.int .i64 (a : Int)] rfl rfl (World.news_of_block (cs := #[.int .i64 (a : Int)]) (t := 3) (fr := (0, 0)) (by simpa using heap_alloc_new wr (.cells #[.int .i64 (a : Int)] 3))) (by simp [Value.oneCell']) (by unfold maxLen; omega) (by omega) (by simp; omega) ?_); intro v9 w9 hown9 hg9 _; obtain ⟨A9, cap9, hv9, -⟩ := own_slice hown9; rw [hv9] at hown9; rw [hv9]; have HB9 := Lib.hid ((HB.out.alloc HB.out.size (.cells #[.int .i64 (a : Int)] 3)).grown hg9 (by simp; omega) (fun k hk => (World.ownsRow.lt HO4.out k hk).1)); have HO9 := Lib.hid hown9; clear hown9 hg9)
      go_roundw
      case rel => exact ⟨i + 1, A9, cap9, by omega, by go_num, rfl, by rw [HTK.out]; unfold OwnI; simp only [natI_length, List.length_append, List.length_cons, List.length_nil, HLN.out]; have h := HO9.out; simpa [natI] using h, HB9.out⟩
      case measure => simp [intOf]; omega
end Go.Proofs.YtefbdecejoeamaaDoor
