/-
  The walk of LoopsHeads: it returns true.
-/
import Derived.Test.YtefbdecejoeamaaDoorLps
import Derived.Test.YtefbdecejoeamaaDoorBe
import Derived.Test.YtefbdecejoeamaaDoorBmP
import Derived.Test.YtefbdecejoeamaaDoorPgS
import Derived.Test.YtefbdecejoeamaaDoorOpn
namespace Go.Proofs.YtefbdecejoeamaaDoor
open Go.RowKit Tier
theorem row_mem {F : Fnc} {row : List Nat} (h : LoopQ F row) {b : Nat} (hb : b ∈ row) : b < (hdL F).length ∧ ¬ Av (Edg F) (row.getD 0 0) b := by
  obtain ⟨head, back, h1, h2, h3, ⟨rest, rfl, h5, h6⟩⟩ := h
  show b < _ ∧ ¬ Av (Edg F) head b
  rcases List.mem_cons.1 hb with e | e
  · subst e; exact ⟨h1, fun hv => hv.ne rfl⟩
  · obtain ⟨k1, -, k2, -⟩ := h6 b e
    exact ⟨k1, k2.dom h3⟩
theorem row_get {F : Fnc} {row : List Nat} (h : LoopQ F row) {j b : Nat} (hj : j ≠ 0) (hb : row[j]? = some b) : b ≠ 0 ∧ ∀ q, Edg F q b → q ∈ row := by
  obtain ⟨head, back, h1, h2, h3, ⟨rest, rfl, h5, h6⟩⟩ := h
  obtain ⟨i, rfl⟩ : ∃ i, j = i + 1 := ⟨j - 1, by omega⟩
  rw [List.getElem?_cons_succ] at hb
  obtain ⟨k1, k2, k3, k4⟩ := h6 b (List.mem_of_getElem? hb)
  refine ⟨fun e => ?_, k4⟩
  have := k3.dom h3
  rw [e] at this k2
  exact k2 (dom_zero this).symm
theorem row_up {F : Fnc} {row : List Nat} (h : LoopQ F row) {j a b : Nat} (ha : row[j + 1]? = some a) (hb : row[j + 2]? = some b) : a < b := by
  obtain ⟨head, back, h1, h2, h3, ⟨rest, rfl, h5, h6⟩⟩ := h
  rw [List.getElem?_cons_succ] at ha hb
  obtain ⟨l1, e1⟩ := List.getElem?_eq_some_iff.1 ha
  obtain ⟨l2, e2⟩ := List.getElem?_eq_some_iff.1 hb
  have := List.pairwise_iff_getElem.1 h5 j (j + 1) l1 l2 (by omega)
  rw [e1, e2] at this; exact this
theorem row_ne {F : Fnc} {row : List Nat} (h : LoopQ F row) : ∃ hd, row[0]? = some hd ∧ row.getD 0 0 = hd ∧ hd < (hdL F).length ∧ row.length ≤ (hdL F).length + 1 := by
  obtain ⟨head, back, h1, h2, h3, ⟨rest, rfl, h5, h6⟩⟩ := h
  refine ⟨head, rfl, rfl, h1, ?_⟩
  have hs : rest.Pairwise (· < ·) := h5
  have hb : ∀ b ∈ rest, b < (hdL F).length := fun b hb => (h6 b hb).1
  have key : ∀ (l : List Nat) (lo n : Nat), l.Pairwise (· < ·) → (∀ b ∈ l, lo ≤ b ∧ b < n) → l.length + lo ≤ n ∨ l = [] := fun l => by
    induction l with
    | nil => intro lo n _ _; exact .inr rfl
    | cons x l ih =>
      intro lo n hp hm
      rw [List.pairwise_cons] at hp
      have h1 := hm x (by simp)
      rcases ih (x + 1) n hp.2 (fun b hb => ⟨hp.1 b hb, (hm b (by simp [hb])).2⟩) with h2 | h2
      · left; simp; omega
      · subst h2; left; simp; omega
  rcases key rest 0 _ hs (fun b hb2 => ⟨Nat.zero_le _, hb b hb2⟩) with h7 | h7
  · simp; omega
  · subst h7; simp
set_option maxRecDepth 100000 in
set_option maxHeartbeats 8000000 in
theorem loopsHeads_walk (A : Option Addr) (l : List Fnc) (cap : Nat) (fn : Int) (w : World) (ht : Tab w) (hraw : RawsAt w A l) (hln : (l.length : Int) ≤ 9223372036854775807) (hfn : In fn) :
    Calls Tryd.prog 14 #[.slice A l.length cap, .int .i64 fn] w fun e w' => e = .returned (.bool true) ∧ Below w.heap.size w w' := by
  have HT := Lib.hid ht
  have HR := Lib.hid hraw
  have HCK := Lib.hid (mkP_right l)
  clear ht hraw
  go_enter Tryd.func14, Tryd.ntmps14
  go_wp2_with fail
  refine (program_any A cap l _ HT.out hln HR.out).mono ?_
  rintro e w1 ⟨⟨A1, cap1, vs, rfl, hpv⟩, hb1⟩
  have HPV := Lib.hid hpv
  have HB1 := Lib.hid hb1
  clear hpv hb1
  generalize mkP l = p at *
  have hRT := right_of HCK.out
  have hE : progE p = 0 := progE_ck HCK.out
  have hl1 := hRT.ok.l1
  have hl2 := hRT.ok.l2
  have hpk := picked_in fn p.length (by omega)
  obtain ⟨k, hk⟩ : ∃ k : Nat, pickedI fn p.length = k := ⟨(pickedI fn p.length).toNat, by omega⟩
  rw [hk] at hpk
  have HPK := Lib.hid (fun (W : World) => picked_any fn p.length W hfn (by omega) (by omega))
  rw [hk] at HPK
  clear hk
  obtain ⟨A0, cap0, hA0, hA⟩ := HPV.out.at.slice
  simp only [Value.slice.injEq, true_and] at hA0
  obtain ⟨g, hAg, hg, hfn'⟩ := hA (by omega)
  obtain ⟨rfl, rfl⟩ := hA0
  have hkl : k < p.length := by omega
  obtain ⟨F, hF⟩ : ∃ f, p[k]? = some f := ⟨p[k], List.getElem?_eq_getElem hkl⟩
  have hfo := hRT.ok.fn F (List.mem_of_getElem? hF)
  obtain ⟨u, hu, c0, c1, c2⟩ := hfn' k F hF
  obtain ⟨FA, fcap, rfl, hFA⟩ := hu.slice
  subst hAg
  have HBK := Lib.hid (fun (W : World) (h1 : Tab W) (h2 : ProgAt W (.slice (some ⟨g, 0, none⟩) p.length cap1) p) => blocks_any p (some ⟨g, 0, none⟩) cap1 k F W h1 h2 HCK.out hF)
  have HAV := Lib.hid (fun (W : World) (h1 : Tab W) (h2 : ProgAt W (.slice (some ⟨g, 0, none⟩) p.length cap1) p) => above_any p (some ⟨g, 0, none⟩) cap1 k F W h1 h2 HCK.out hF)
  have HLP := Lib.hid (fun (W : World) (h1 : Tab W) (h2 : ProgAt W (.slice (some ⟨g, 0, none⟩) p.length cap1) p) => loops_any p (some ⟨g, 0, none⟩) cap1 k F W h1 h2 HCK.out hF)
  have HSL := Lib.hid (sureF_length hfo.cok hfo.p2)
  have HF := Lib.hid hF
  have HFM := Lib.hid (List.mem_of_getElem? hF)
  have HRT := Lib.hid hRT
  have HFO := Lib.hid hfo
  have n1 := hfo.c1
  have n2 := hfo.c2
  have HFA := Lib.hid hFA
  obtain ⟨M, hM⟩ : ∃ M, F.code.length = M := ⟨_, rfl⟩
  have HM := Lib.hid hM
  rw [hM] at  HSL n1 n2 c2
  have hk0 : (0 : Int) ≤ k := by omega
  have hk1 : (k : Int) < p.length := by omega
  clear hA hfn' hF hu hfo hM hRT c0 c1 hFA
  obtain ⟨N, hN⟩ : ∃ N, p.length = N := ⟨_, rfl⟩
  have HN := Lib.hid hN
  rw [hN] at HPK HBK HAV HLP hl1 hl2 hkl hk1 hpk ⊢
  have HPA := Lib.hid (show ProgAt w1 (.slice (some ⟨g, 0, none⟩) N cap1) p from by have := HPV.out.at; rw [hN] at this; exact this)
  clear hN hE
  have HXA := Lib.hid ((Below.refl w1.heap.size w1).alloc (Nat.le_refl _) (.cells #[.slice (some ⟨g, 0, none⟩) N cap1] 25))
  obtain ⟨H, hH⟩ : ∃ H, (hdL F).length = H := ⟨_, rfl⟩
  have HH := Lib.hid hH
  have hHM : H ≤ 40 := by have h1 := hdTo_len F F.code.length; have h2 : hdTo F F.code.length = hdL F := rfl; rw [h2, hH, HM.out] at h1; omega
  have hH1 : 0 < H := by have := (List.getElem?_eq_some_iff.1 (zero_head HRT.out HFM.out)).1; omega
  have hHz : ((H : Int) == 0) = false := beq_eq_false_iff_ne.2 (by omega)
  clear hH
  go_wp2_with (first | (go_at_call 26; go_must (refine (HPK.out _).mono ?_; rintro e w' ⟨rfl, rfl⟩)) | (go_at_call 42; go_must (refine (HLP.out _ (HT.out.keeps (HB1.out.alloc HB1.out.size _)) (HPA.out.keeps HXA.out)).mono ?_; rintro e w2 ⟨⟨w0, Al, lcap, vs, rows, rfl, hw0, hLW, hn80, hLQ⟩, hb⟩; have HB12 := Lib.hid (HXA.out.trans (hb.mono HXA.out.size)); have HLW := Lib.hid hLW; have HLQ := Lib.hid hLQ; have HX2 := Lib.hid ((hb.block w1.heap.size (by simp)).trans (heap_alloc_new w1 _)); have q2 := cell_block HX2.out; have z2 := block_lt HX2.out; obtain ⟨n, hn⟩ : ∃ n, vs.length = n := ⟨_, rfl⟩; have HN := Lib.hid hn; rw [hn] at hn80; rw [hn]; clear hw0 hLW hLQ hb hn)) | (go_at_call 41; go_must (refine (HAV.out _ (HT.out.keeps (HB1.out.trans (HB12.out.mono HB1.out.size))) (HPA.out.keeps HB12.out)).mono ?_; rintro e w3 ⟨⟨ab, rfl, hab, hIL⟩, hb⟩; rw [HH.out]; have HB13 := Lib.hid (HB12.out.trans (hb.mono HB12.out.size)); have HIL := Lib.hid hIL; have HLW3 := Lib.hid (HLW.out.keeps hb); have HX3 := Lib.hid ((hb.block _ (block_lt HX2.out)).trans HX2.out); have q3 := cell_block HX3.out; have z3 := block_lt HX3.out; clear hab hIL hb q2 z2)) | (go_at_call 39; go_must (refine (HBK.out _ (HT.out.keeps (HB1.out.trans (HB13.out.mono HB1.out.size))) (HPA.out.keeps HB13.out)).mono ?_; rintro e w4 ⟨⟨gb, Bb, bs, rfl, hgb, hBB, hOB⟩, hb⟩; rw [HH.out]; have HB14 := Lib.hid (HB13.out.trans (hb.mono HB13.out.size)); have HIL4 := Lib.hid (HIL.out.keeps hb); have HLW4 := Lib.hid (HLW3.out.keeps hb); have HBB := Lib.hid hBB; have HOB := Lib.hid hOB; clear hgb hBB hOB hb q3 z3)))
  have HGB := Lib.hid (block_lt HBB.out.blk)
  obtain ⟨Al0, lcap0, hAl0, hAl⟩ := own_slice (show w4.ownsRow w0.heap.size 40 1 (.slice Al n lcap) n vs from by have h := HLW4.out.own; rw [HN.out] at h; exact h)
  simp only [Value.slice.injEq, true_and] at hAl0
  obtain ⟨rfl, rfl⟩ := hAl0
  have HAL := Lib.hid hAl
  clear hAl
  go_loopw [13] (fun v wr => ∃ i : Nat, i ≤ n ∧ v = .int .i64 (i : Int) ∧ Below w4.heap.size w4 wr) (fun v _ => n - (intOf v).toNat)
  case atStart => exact ⟨0, by omega, rfl, Below.refl _ _⟩
  case round =>
    obtain ⟨i, hi, rfl, hbo⟩ := hrel
    obtain ⟨wo, hwo⟩ : ∃ wo : World, wo = wr := ⟨_, rfl⟩
    subst hwo
    have HBO := Lib.hid hbo
    by_cases hin : i = n
    · obtain rfl : n = i := hin.symm
      clear hbo
      go_wp2_with fail
      go_ret
      exact ⟨rfl, HB1.out.trans ((HB14.out.trans (HBO.out.mono HB14.out.size)).mono HB1.out.size)⟩
    · have i1 : (i : Int) < n := by omega
      have i2 : (0 : Int) ≤ i := by omega
      obtain ⟨gl, hgl, hgll, hcl⟩ := HAL.out (by omega)
      subst hgl
      obtain ⟨v0, hv0⟩ : ∃ v, vs[i]? = some v := ⟨_, List.getElem?_eq_getElem (by rw [HN.out]; omega)⟩
      obtain ⟨row, hrow⟩ : ∃ r, rows[i]? = some r := ⟨_, List.getElem?_eq_getElem (by rw [HLW4.out.len, HN.out]; omega)⟩
      have hq := HLQ.out row (List.mem_of_getElem? hrow)
      obtain ⟨Ar, cr, hvr, hRI⟩ := (HLW4.out.at_ i v0 row hv0 hrow).row
      rw [natI_length] at hvr
      obtain ⟨hd, hd0, hdD, hdl, hrl⟩ := row_ne hq
      rw [HH.out] at hdl hrl
      obtain ⟨gr, hgr, hgrl, hcr⟩ := hRI (by rw [natI_length]; exact List.length_pos_of_mem (List.mem_of_getElem? hd0))
      subst hgr
      have HQ := Lib.hid hq
      have HCI := Lib.hid (show w4.cell? ⟨gl, i, none⟩ = some (.slice (some ⟨gr, 0, none⟩) row.length cr) from by have h := hcl i (by omega); rw [h, hv0, hvr])
      have HCR := Lib.hid (show ∀ (j b : Nat), row[j]? = some b → w4.cell? ⟨gr, j, none⟩ = some (.int .i64 (b : Int)) from fun j b h => hcr j (b : Int) (by unfold natI; rw [List.getElem?_map, h]; rfl))
      have HRI := Lib.hid hRI
      have HHAS := Lib.hid (fun (W : World) (z : Int) (h : RowI W (some ⟨gr, 0, none⟩) (natI row)) => has_any (natI row) (some ⟨gr, 0, none⟩) cr z W h (by rw [natI_length]; omega))
      rw [natI_length] at HHAS
      have HD0 := Lib.hid hd0
      have HDD := Lib.hid hdD
      have hr0 : 0 < row.length := List.length_pos_of_mem (List.mem_of_getElem? hd0)
      obtain ⟨rl, hrle⟩ : ∃ n, row.length = n := ⟨_, rfl⟩
      have HRL := Lib.hid hrle
      rw [hrle] at HCI HHAS hrl hr0
      have hrz : ((rl : Int) == 0) = false := beq_eq_false_iff_ne.2 (by omega)
      have zgl : gl < wo.heap.size := Nat.lt_of_lt_of_le hgll hbo.size
      have ci := (hbo.cell (p := ⟨gl, _, none⟩) hgll).trans HCI.out
      have HGL := Lib.hid hgll
      have HGR := Lib.hid hgrl
      clear hbo hgll hcl hv0 hrow hq hvr hRI hd0 hdD hgrl hcr hrle hin
      go_wp2_with fail
      clear zgl ci
      go_loopw [14] (fun v wr => ∃ j : Nat, j ≤ rl ∧ v = .int .i64 (j : Int) ∧ Below w4.heap.size w4 wr) (fun v _ => rl - (intOf v).toNat)
      case atStart => exact ⟨0, by omega, rfl, HBO.out⟩
      case round =>
        obtain ⟨j, hj, rfl, hbr⟩ := hrel
        obtain ⟨wi, hwi⟩ : ∃ wo : World, wo = wr := ⟨_, rfl⟩
        subst hwi
        have HBR := Lib.hid hbr
        have zgl : gl < wi.heap.size := Nat.lt_of_lt_of_le HGL.out hbr.size
        have ci := (hbr.cell (p := ⟨gl, _, none⟩) HGL.out).trans HCI.out
        by_cases hjr : j = rl
        · obtain rfl : rl = j := hjr.symm
          clear hbr
          go_wp2_with fail
          go_roundw
          case rel => exact ⟨i + 1, by omega, by go_num, HBR.out⟩
          case measure => simp [intOf]; omega
        · have j1 : (j : Int) < rl := by omega
          have j2 : (0 : Int) ≤ j := by omega
          obtain ⟨b, hb⟩ : ∃ b, row[j]? = some b := ⟨_, List.getElem?_eq_getElem (by rw [HRL.out]; omega)⟩
          obtain ⟨hbH, hbD⟩ := row_mem HQ.out (List.mem_of_getElem? hb)
          rw [HH.out] at hbH
          rw [HDD.out] at hbD
          have zgr : gr < wi.heap.size := Nat.lt_of_lt_of_le HGR.out hbr.size
          have cj := (hbr.cell (p := ⟨gr, _, none⟩) HGR.out).trans (HCR.out j b hb)
          have ch := (hbr.cell (p := ⟨gr, _, none⟩) HGR.out).trans (HCR.out 0 hd HD0.out)
          have b1 : decide ((b : Int) < 0) = false := by rw [decide_eq_false_iff_not]; omega
          have b2 : decide ((H : Int) ≤ b) = false := by rw [decide_eq_false_iff_not]; omega
          have b3 : decide (H ≤ b) = false := by rw [decide_eq_false_iff_not]; omega
          have HIR := Lib.hid (HIL4.out.keeps hbr)
          have HBD := Lib.hid hbD
          have HBJ := Lib.hid hb
          have bb1 : (b : Int) < H := by omega
          have bb2 : (0 : Int) ≤ b := by omega
          -- the test of the order: three ways
          have hup : decide (1 < j) = false ∨ ∃ a, row[j - 1]? = some a ∧ a < b ∧ decide (1 < j) = true := by
            by_cases h : 1 < j
            · obtain ⟨a, ha⟩ : ∃ a, row[j - 1]? = some a := ⟨_, List.getElem?_eq_getElem (by rw [HRL.out]; omega)⟩
              obtain ⟨q, rfl⟩ : ∃ q, j = q + 2 := ⟨j - 2, by omega⟩
              exact .inr ⟨a, ha, row_up HQ.out (j := q) ha hb, by simp⟩
            · left; simpa using h
          rcases hup with hup | ⟨a, ha, hab, hup⟩
          · have hup2 : decide ((1 : Int) < j) = false := by rw [decide_eq_false_iff_not] at hup ⊢; omega
            clear hbr hb hbD
            go_wp2_with fail
            clear cj
            go_loop [16] (fun v => ∃ m : Nat, m < H ∧ v = .int .i64 (m : Int) ∧ ¬ Av (Edg F) hd m) (fun v => domC (Edg F) H (intOf v).toNat)
            case atStart => exact ⟨b, hbH, rfl, HBD.out⟩
            case round =>
              obtain ⟨m, hm, rfl, hdm⟩ := hrel
              have m0 : (0 : Int) ≤ m := by omega
              have m1 : (m : Int) < H := by omega
              by_cases hmh : m = hd
              · have hgt : decide ((0 : Int) < m) = true ∨ decide ((0 : Int) < m) = false := by cases decide ((0 : Int) < m) <;> simp
                have hne : ((m : Int) != (hd : Int)) = false := by rw [hmh]; simp
                have hex : decide (0 < m) = decide ((0 : Int) < m) := by rw [decide_eq_decide]; omega
                clear hdm
                have HBR2 := Lib.hid HBR.out
                rcases hgt with hgt | hgt
                · rw [hgt] at hex
                  clear hmh
                  go_wp2_with fail
                  go_loopw [17] (fun v wr => ∃ t : Nat, (j = 0 → t = 0) ∧ (0 < j → t ≤ (prevN F b).length) ∧ v = .int .i64 (t : Int) ∧ Below w4.heap.size w4 wr) (fun v _ => (prevN F b).length + 1 - (intOf v).toNat)
                  case atStart => exact ⟨0, fun _ => rfl, fun _ => Nat.zero_le _, rfl, HBR2.out⟩
                  case round =>
                    obtain ⟨t, ht0, htl, rfl, hbt⟩ := hrel
                    have HBT := Lib.hid hbt
                    by_cases hj0 : j = 0
                    · have e1 : decide ((0 : Int) < (j : Int)) = false := by rw [decide_eq_false_iff_not]; omega
                      have e2 : decide (0 < j) = false := by rw [decide_eq_false_iff_not]; omega
                      clear hbt ht0 htl hj0
                      go_wp2_with fail
                      go_roundw
                      case rel => exact ⟨j + 1, by omega, by go_num, HBT.out⟩
                      case measure => simp [intOf]; omega
                    · have e1 : decide ((0 : Int) < (j : Int)) = true := by rw [decide_eq_true_eq]; omega
                      have e2 : decide (0 < j) = true := by rw [decide_eq_true_eq]; omega
                      have htl2 := htl (by omega)
                      have HJ0 := Lib.hid hj0
                      obtain ⟨hb0, hbp⟩ := row_get HQ.out hj0 HBJ.out
                      obtain ⟨r, hr⟩ : ∃ r, bs[b]? = some r := ⟨_, List.getElem?_eq_getElem (by rw [HOB.out.len, HH.out]; exact hbH)⟩
                      obtain ⟨Ap, pp, hvp, hRp⟩ := rowI_own (HBB.out.rows.own b r true hr)
                      have hpl := (HOB.out.at_ b r hr).2.2.2
                      rw [prevF_pos hb0] at hpl
                      have hlp : (r.lst true).length = (prevN F b).length := by show r.pl.length = _; rw [hpl, natI_length]
                      rw [hlp] at hvp
                      have HRP := Lib.hid (show RowI w4 Ap (natI (prevN F b)) by rw [← hpl]; exact hRp)
                      have zgb : gb < wr.heap.size := Nat.lt_of_lt_of_le HGB.out hbt.size
                      have cp : wr.cell? ⟨gb, b * 4 + 3, none⟩ = some (.slice Ap (prevN F b).length pp) := (hbt.cell (p := ⟨gb, _, none⟩) HGB.out).trans ((HBB.out.cell hr (j := 3) (by omega)).trans (show some (r.val true) = _ by rw [hvp]))
                      have hplen := prevL_len F hb0
                      rw [HH.out] at hplen
                      by_cases htl3 : t = (prevN F b).length
                      · have e3 : decide ((t : Int) < ((prevN F b).length : Int)) = false := by rw [decide_eq_false_iff_not]; omega
                        have e4 : decide (t < (prevN F b).length) = false := by rw [decide_eq_false_iff_not]; omega
                        clear hbt ht0 htl htl2 hj0 hbp hr hvp hRp hpl hlp htl3
                        go_wp2_with fail
                        go_roundw
                        case rel => exact ⟨j + 1, by omega, by go_num, HBT.out⟩
                        case measure => simp [intOf]; omega
                      · have e3 : (t : Int) < ((prevN F b).length : Int) := by omega
                        have e4 : (0 : Int) ≤ t := by omega
                        have e5 : t < (prevN F b).length := by omega
                        obtain ⟨q, hq⟩ : ∃ q, (prevN F b)[t]? = some q := ⟨_, List.getElem?_eq_getElem e5⟩
                        have hqm := hbp q (prevN_mem.1 (List.mem_of_getElem? hq))
                        obtain ⟨gv, hgv, hgvl, hcc⟩ := HRP.out (by rw [natI_length]; omega)
                        have y0 : wr.cell? ⟨gv, t, none⟩ = some (.int .i64 (q : Int)) := (hbt.cell (p := ⟨gv, _, none⟩) hgvl).trans (hcc t (q : Int) (by unfold natI; rw [List.getElem?_map, hq]; rfl))
                        have zgv : gv < wr.heap.size := Nat.lt_of_lt_of_le hgvl hbt.size
                        have zgl : gl < wr.heap.size := Nat.lt_of_lt_of_le HGL.out hbt.size
                        have cgl := (hbt.cell (p := ⟨gl, _, none⟩) HGL.out).trans HCI.out
                        have HH0 := Lib.hid (fun (n : Nat) => HHAS.out (wr.drewN n) (q : Int) (HRI.out.keeps (below_drewN HBT.out n)))
                        have hhm : decide ((q : Int) ∈ natI row) = true := by rw [decide_eq_true_eq]; exact mem_natI.2 hqm
                        rw [hhm] at HH0
                        subst hgv
                        clear hbt ht0 htl htl2 hj0 hbp hr hvp hRp hpl hlp htl3 hq hqm hgvl hcc hhm
                        go_wp2_with fail
                        go_quiet ((go_at_call 40; exact Calls.quiet_of_same ((HH0.out _).mono (fun _ _ h => ⟨h.1, h.2.symm⟩))))
                        go_wp2_with fail
                        go_roundw
                        case rel => exact ⟨t + 1, fun e => absurd e HJ0.out, fun _ => by omega, by go_num, below_drewN HBT.out _⟩
                        case measure => simp [intOf]; omega
                · rw [hgt] at hex
                  clear hmh
                  go_wp2_with fail
                  go_loopw [17] (fun v wr => ∃ t : Nat, (j = 0 → t = 0) ∧ (0 < j → t ≤ (prevN F b).length) ∧ v = .int .i64 (t : Int) ∧ Below w4.heap.size w4 wr) (fun v _ => (prevN F b).length + 1 - (intOf v).toNat)
                  case atStart => exact ⟨0, fun _ => rfl, fun _ => Nat.zero_le _, rfl, HBR2.out⟩
                  case round =>
                    obtain ⟨t, ht0, htl, rfl, hbt⟩ := hrel
                    have HBT := Lib.hid hbt
                    by_cases hj0 : j = 0
                    · have e1 : decide ((0 : Int) < (j : Int)) = false := by rw [decide_eq_false_iff_not]; omega
                      have e2 : decide (0 < j) = false := by rw [decide_eq_false_iff_not]; omega
                      clear hbt ht0 htl hj0
                      go_wp2_with fail
                      go_roundw
                      case rel => exact ⟨j + 1, by omega, by go_num, HBT.out⟩
                      case measure => simp [intOf]; omega
                    · have e1 : decide ((0 : Int) < (j : Int)) = true := by rw [decide_eq_true_eq]; omega
                      have e2 : decide (0 < j) = true := by rw [decide_eq_true_eq]; omega
                      have htl2 := htl (by omega)
                      have HJ0 := Lib.hid hj0
                      obtain ⟨hb0, hbp⟩ := row_get HQ.out hj0 HBJ.out
                      obtain ⟨r, hr⟩ : ∃ r, bs[b]? = some r := ⟨_, List.getElem?_eq_getElem (by rw [HOB.out.len, HH.out]; exact hbH)⟩
                      obtain ⟨Ap, pp, hvp, hRp⟩ := rowI_own (HBB.out.rows.own b r true hr)
                      have hpl := (HOB.out.at_ b r hr).2.2.2
                      rw [prevF_pos hb0] at hpl
                      have hlp : (r.lst true).length = (prevN F b).length := by show r.pl.length = _; rw [hpl, natI_length]
                      rw [hlp] at hvp
                      have HRP := Lib.hid (show RowI w4 Ap (natI (prevN F b)) by rw [← hpl]; exact hRp)
                      have zgb : gb < wr.heap.size := Nat.lt_of_lt_of_le HGB.out hbt.size
                      have cp : wr.cell? ⟨gb, b * 4 + 3, none⟩ = some (.slice Ap (prevN F b).length pp) := (hbt.cell (p := ⟨gb, _, none⟩) HGB.out).trans ((HBB.out.cell hr (j := 3) (by omega)).trans (show some (r.val true) = _ by rw [hvp]))
                      have hplen := prevL_len F hb0
                      rw [HH.out] at hplen
                      by_cases htl3 : t = (prevN F b).length
                      · have e3 : decide ((t : Int) < ((prevN F b).length : Int)) = false := by rw [decide_eq_false_iff_not]; omega
                        have e4 : decide (t < (prevN F b).length) = false := by rw [decide_eq_false_iff_not]; omega
                        clear hbt ht0 htl htl2 hj0 hbp hr hvp hRp hpl hlp htl3
                        go_wp2_with fail
                        go_roundw
                        case rel => exact ⟨j + 1, by omega, by go_num, HBT.out⟩
                        case measure => simp [intOf]; omega
                      · have e3 : (t : Int) < ((prevN F b).length : Int) := by omega
                        have e4 : (0 : Int) ≤ t := by omega
                        have e5 : t < (prevN F b).length := by omega
                        obtain ⟨q, hq⟩ : ∃ q, (prevN F b)[t]? = some q := ⟨_, List.getElem?_eq_getElem e5⟩
                        have hqm := hbp q (prevN_mem.1 (List.mem_of_getElem? hq))
                        obtain ⟨gv, hgv, hgvl, hcc⟩ := HRP.out (by rw [natI_length]; omega)
                        have y0 : wr.cell? ⟨gv, t, none⟩ = some (.int .i64 (q : Int)) := (hbt.cell (p := ⟨gv, _, none⟩) hgvl).trans (hcc t (q : Int) (by unfold natI; rw [List.getElem?_map, hq]; rfl))
                        have zgv : gv < wr.heap.size := Nat.lt_of_lt_of_le hgvl hbt.size
                        have zgl : gl < wr.heap.size := Nat.lt_of_lt_of_le HGL.out hbt.size
                        have cgl := (hbt.cell (p := ⟨gl, _, none⟩) HGL.out).trans HCI.out
                        have HH0 := Lib.hid (fun (n : Nat) => HHAS.out (wr.drewN n) (q : Int) (HRI.out.keeps (below_drewN HBT.out n)))
                        have hhm : decide ((q : Int) ∈ natI row) = true := by rw [decide_eq_true_eq]; exact mem_natI.2 hqm
                        rw [hhm] at HH0
                        subst hgv
                        clear hbt ht0 htl htl2 hj0 hbp hr hvp hRp hpl hlp htl3 hq hqm hgvl hcc hhm
                        go_wp2_with fail
                        go_quiet ((go_at_call 40; exact Calls.quiet_of_same ((HH0.out _).mono (fun _ _ h => ⟨h.1, h.2.symm⟩))))
                        go_wp2_with fail
                        go_roundw
                        case rel => exact ⟨t + 1, fun e => absurd e HJ0.out, fun _ => by omega, by go_num, below_drewN HBT.out _⟩
                        case measure => simp [intOf]; omega
              · have h0 : m ≠ 0 := fun e => by
                  rw [e] at hdm
                  exact hmh (by rw [e, dom_zero hdm])
                have hgt : decide ((0 : Int) < m) = true := by rw [decide_eq_true_eq]; omega
                have hgt2 : decide (0 < m) = true := by rw [decide_eq_true_eq]; omega
                have hne : ((m : Int) != (hd : Int)) = true := bne_iff_ne.2 (by omega)
                have ca : wi.cell? ⟨ab, m, none⟩ = some (.int .i64 (idomN F m : Int)) := HIR.out.cell (show (abvL F)[m]? = some (idomN F m : Int) from by rw [abvL_get (by rw [HH.out]; exact hm)]; unfold abvI; rw [if_neg h0])
                have za := HIR.out.lt
                have hup := (dom_up HRT.out HFM.out (a := hd) (by rw [HH.out]; exact hm) h0 (fun e => hmh e.symm)).2 hdm
                have hcn := dom_cnt HRT.out HFM.out (by rw [HH.out]; exact hm) h0
                have hil := (idomN_spec HRT.out HFM.out (by rw [HH.out]; exact hm) h0).1
                rw [HH.out] at hcn hil
                obtain ⟨q, hq⟩ : ∃ q, idomN F m = q := ⟨_, rfl⟩
                rw [hq] at ca hcn hil hup
                have HUP := Lib.hid hup
                have HCN := Lib.hid hcn
                have HIQ := Lib.hid hil
                clear hdm hup hcn hil hq h0 hmh
                go_wp2_with fail
                go_round
                case rel => exact ⟨q, HIQ.out, rfl, HUP.out⟩
                case measure => have h1 := HCN.out; simp [intOf]; omega
          · have hup2 : decide ((1 : Int) < j) = true := by rw [decide_eq_true_eq] at hup ⊢; omega
            have hj1 : (j : Int) - 1 = ((j - 1 : Nat) : Int) := by rw [decide_eq_true_eq] at hup; omega
            obtain ⟨j', hj'⟩ : ∃ j', j - 1 = j' := ⟨_, rfl⟩
            rw [hj'] at ha hj1
            have ca := (hbr.cell (p := ⟨gr, _, none⟩) HGR.out).trans (HCR.out j' a ha)
            have k1 : (j' : Int) < rl := by rw [decide_eq_true_eq] at hup; omega
            have k2 : (0 : Int) ≤ j' := by omega
            have k3 : decide ((b : Int) ≤ a) = false := by rw [decide_eq_false_iff_not]; omega
            have k4 : decide (b ≤ a) = false := by rw [decide_eq_false_iff_not]; omega
            clear hbr hb hbD ha hab hj'
            go_wp2_with fail
            clear cj ca hj1 k1 k2 k3 k4
            go_loop [16] (fun v => ∃ m : Nat, m < H ∧ v = .int .i64 (m : Int) ∧ ¬ Av (Edg F) hd m) (fun v => domC (Edg F) H (intOf v).toNat)
            case atStart => exact ⟨b, hbH, rfl, HBD.out⟩
            case round =>
              obtain ⟨m, hm, rfl, hdm⟩ := hrel
              have m0 : (0 : Int) ≤ m := by omega
              have m1 : (m : Int) < H := by omega
              by_cases hmh : m = hd
              · have hgt : decide ((0 : Int) < m) = true ∨ decide ((0 : Int) < m) = false := by cases decide ((0 : Int) < m) <;> simp
                have hne : ((m : Int) != (hd : Int)) = false := by rw [hmh]; simp
                have hex : decide (0 < m) = decide ((0 : Int) < m) := by rw [decide_eq_decide]; omega
                clear hdm
                have HBR2 := Lib.hid HBR.out
                rcases hgt with hgt | hgt
                · rw [hgt] at hex
                  clear hmh
                  go_wp2_with fail
                  go_loopw [17] (fun v wr => ∃ t : Nat, (j = 0 → t = 0) ∧ (0 < j → t ≤ (prevN F b).length) ∧ v = .int .i64 (t : Int) ∧ Below w4.heap.size w4 wr) (fun v _ => (prevN F b).length + 1 - (intOf v).toNat)
                  case atStart => exact ⟨0, fun _ => rfl, fun _ => Nat.zero_le _, rfl, HBR2.out⟩
                  case round =>
                    obtain ⟨t, ht0, htl, rfl, hbt⟩ := hrel
                    have HBT := Lib.hid hbt
                    by_cases hj0 : j = 0
                    · have e1 : decide ((0 : Int) < (j : Int)) = false := by rw [decide_eq_false_iff_not]; omega
                      have e2 : decide (0 < j) = false := by rw [decide_eq_false_iff_not]; omega
                      clear hbt ht0 htl hj0
                      go_wp2_with fail
                      go_roundw
                      case rel => exact ⟨j + 1, by omega, by go_num, HBT.out⟩
                      case measure => simp [intOf]; omega
                    · have e1 : decide ((0 : Int) < (j : Int)) = true := by rw [decide_eq_true_eq]; omega
                      have e2 : decide (0 < j) = true := by rw [decide_eq_true_eq]; omega
                      have htl2 := htl (by omega)
                      have HJ0 := Lib.hid hj0
                      obtain ⟨hb0, hbp⟩ := row_get HQ.out hj0 HBJ.out
                      obtain ⟨r, hr⟩ : ∃ r, bs[b]? = some r := ⟨_, List.getElem?_eq_getElem (by rw [HOB.out.len, HH.out]; exact hbH)⟩
                      obtain ⟨Ap, pp, hvp, hRp⟩ := rowI_own (HBB.out.rows.own b r true hr)
                      have hpl := (HOB.out.at_ b r hr).2.2.2
                      rw [prevF_pos hb0] at hpl
                      have hlp : (r.lst true).length = (prevN F b).length := by show r.pl.length = _; rw [hpl, natI_length]
                      rw [hlp] at hvp
                      have HRP := Lib.hid (show RowI w4 Ap (natI (prevN F b)) by rw [← hpl]; exact hRp)
                      have zgb : gb < wr.heap.size := Nat.lt_of_lt_of_le HGB.out hbt.size
                      have cp : wr.cell? ⟨gb, b * 4 + 3, none⟩ = some (.slice Ap (prevN F b).length pp) := (hbt.cell (p := ⟨gb, _, none⟩) HGB.out).trans ((HBB.out.cell hr (j := 3) (by omega)).trans (show some (r.val true) = _ by rw [hvp]))
                      have hplen := prevL_len F hb0
                      rw [HH.out] at hplen
                      by_cases htl3 : t = (prevN F b).length
                      · have e3 : decide ((t : Int) < ((prevN F b).length : Int)) = false := by rw [decide_eq_false_iff_not]; omega
                        have e4 : decide (t < (prevN F b).length) = false := by rw [decide_eq_false_iff_not]; omega
                        clear hbt ht0 htl htl2 hj0 hbp hr hvp hRp hpl hlp htl3
                        go_wp2_with fail
                        go_roundw
                        case rel => exact ⟨j + 1, by omega, by go_num, HBT.out⟩
                        case measure => simp [intOf]; omega
                      · have e3 : (t : Int) < ((prevN F b).length : Int) := by omega
                        have e4 : (0 : Int) ≤ t := by omega
                        have e5 : t < (prevN F b).length := by omega
                        obtain ⟨q, hq⟩ : ∃ q, (prevN F b)[t]? = some q := ⟨_, List.getElem?_eq_getElem e5⟩
                        have hqm := hbp q (prevN_mem.1 (List.mem_of_getElem? hq))
                        obtain ⟨gv, hgv, hgvl, hcc⟩ := HRP.out (by rw [natI_length]; omega)
                        have y0 : wr.cell? ⟨gv, t, none⟩ = some (.int .i64 (q : Int)) := (hbt.cell (p := ⟨gv, _, none⟩) hgvl).trans (hcc t (q : Int) (by unfold natI; rw [List.getElem?_map, hq]; rfl))
                        have zgv : gv < wr.heap.size := Nat.lt_of_lt_of_le hgvl hbt.size
                        have zgl : gl < wr.heap.size := Nat.lt_of_lt_of_le HGL.out hbt.size
                        have cgl := (hbt.cell (p := ⟨gl, _, none⟩) HGL.out).trans HCI.out
                        have HH0 := Lib.hid (fun (n : Nat) => HHAS.out (wr.drewN n) (q : Int) (HRI.out.keeps (below_drewN HBT.out n)))
                        have hhm : decide ((q : Int) ∈ natI row) = true := by rw [decide_eq_true_eq]; exact mem_natI.2 hqm
                        rw [hhm] at HH0
                        subst hgv
                        clear hbt ht0 htl htl2 hj0 hbp hr hvp hRp hpl hlp htl3 hq hqm hgvl hcc hhm
                        go_wp2_with fail
                        go_quiet ((go_at_call 40; exact Calls.quiet_of_same ((HH0.out _).mono (fun _ _ h => ⟨h.1, h.2.symm⟩))))
                        go_wp2_with fail
                        go_roundw
                        case rel => exact ⟨t + 1, fun e => absurd e HJ0.out, fun _ => by omega, by go_num, below_drewN HBT.out _⟩
                        case measure => simp [intOf]; omega
                · rw [hgt] at hex
                  clear hmh
                  go_wp2_with fail
                  go_loopw [17] (fun v wr => ∃ t : Nat, (j = 0 → t = 0) ∧ (0 < j → t ≤ (prevN F b).length) ∧ v = .int .i64 (t : Int) ∧ Below w4.heap.size w4 wr) (fun v _ => (prevN F b).length + 1 - (intOf v).toNat)
                  case atStart => exact ⟨0, fun _ => rfl, fun _ => Nat.zero_le _, rfl, HBR2.out⟩
                  case round =>
                    obtain ⟨t, ht0, htl, rfl, hbt⟩ := hrel
                    have HBT := Lib.hid hbt
                    by_cases hj0 : j = 0
                    · have e1 : decide ((0 : Int) < (j : Int)) = false := by rw [decide_eq_false_iff_not]; omega
                      have e2 : decide (0 < j) = false := by rw [decide_eq_false_iff_not]; omega
                      clear hbt ht0 htl hj0
                      go_wp2_with fail
                      go_roundw
                      case rel => exact ⟨j + 1, by omega, by go_num, HBT.out⟩
                      case measure => simp [intOf]; omega
                    · have e1 : decide ((0 : Int) < (j : Int)) = true := by rw [decide_eq_true_eq]; omega
                      have e2 : decide (0 < j) = true := by rw [decide_eq_true_eq]; omega
                      have htl2 := htl (by omega)
                      have HJ0 := Lib.hid hj0
                      obtain ⟨hb0, hbp⟩ := row_get HQ.out hj0 HBJ.out
                      obtain ⟨r, hr⟩ : ∃ r, bs[b]? = some r := ⟨_, List.getElem?_eq_getElem (by rw [HOB.out.len, HH.out]; exact hbH)⟩
                      obtain ⟨Ap, pp, hvp, hRp⟩ := rowI_own (HBB.out.rows.own b r true hr)
                      have hpl := (HOB.out.at_ b r hr).2.2.2
                      rw [prevF_pos hb0] at hpl
                      have hlp : (r.lst true).length = (prevN F b).length := by show r.pl.length = _; rw [hpl, natI_length]
                      rw [hlp] at hvp
                      have HRP := Lib.hid (show RowI w4 Ap (natI (prevN F b)) by rw [← hpl]; exact hRp)
                      have zgb : gb < wr.heap.size := Nat.lt_of_lt_of_le HGB.out hbt.size
                      have cp : wr.cell? ⟨gb, b * 4 + 3, none⟩ = some (.slice Ap (prevN F b).length pp) := (hbt.cell (p := ⟨gb, _, none⟩) HGB.out).trans ((HBB.out.cell hr (j := 3) (by omega)).trans (show some (r.val true) = _ by rw [hvp]))
                      have hplen := prevL_len F hb0
                      rw [HH.out] at hplen
                      by_cases htl3 : t = (prevN F b).length
                      · have e3 : decide ((t : Int) < ((prevN F b).length : Int)) = false := by rw [decide_eq_false_iff_not]; omega
                        have e4 : decide (t < (prevN F b).length) = false := by rw [decide_eq_false_iff_not]; omega
                        clear hbt ht0 htl htl2 hj0 hbp hr hvp hRp hpl hlp htl3
                        go_wp2_with fail
                        go_roundw
                        case rel => exact ⟨j + 1, by omega, by go_num, HBT.out⟩
                        case measure => simp [intOf]; omega
                      · have e3 : (t : Int) < ((prevN F b).length : Int) := by omega
                        have e4 : (0 : Int) ≤ t := by omega
                        have e5 : t < (prevN F b).length := by omega
                        obtain ⟨q, hq⟩ : ∃ q, (prevN F b)[t]? = some q := ⟨_, List.getElem?_eq_getElem e5⟩
                        have hqm := hbp q (prevN_mem.1 (List.mem_of_getElem? hq))
                        obtain ⟨gv, hgv, hgvl, hcc⟩ := HRP.out (by rw [natI_length]; omega)
                        have y0 : wr.cell? ⟨gv, t, none⟩ = some (.int .i64 (q : Int)) := (hbt.cell (p := ⟨gv, _, none⟩) hgvl).trans (hcc t (q : Int) (by unfold natI; rw [List.getElem?_map, hq]; rfl))
                        have zgv : gv < wr.heap.size := Nat.lt_of_lt_of_le hgvl hbt.size
                        have zgl : gl < wr.heap.size := Nat.lt_of_lt_of_le HGL.out hbt.size
                        have cgl := (hbt.cell (p := ⟨gl, _, none⟩) HGL.out).trans HCI.out
                        have HH0 := Lib.hid (fun (n : Nat) => HHAS.out (wr.drewN n) (q : Int) (HRI.out.keeps (below_drewN HBT.out n)))
                        have hhm : decide ((q : Int) ∈ natI row) = true := by rw [decide_eq_true_eq]; exact mem_natI.2 hqm
                        rw [hhm] at HH0
                        subst hgv
                        clear hbt ht0 htl htl2 hj0 hbp hr hvp hRp hpl hlp htl3 hq hqm hgvl hcc hhm
                        go_wp2_with fail
                        go_quiet ((go_at_call 40; exact Calls.quiet_of_same ((HH0.out _).mono (fun _ _ h => ⟨h.1, h.2.symm⟩))))
                        go_wp2_with fail
                        go_roundw
                        case rel => exact ⟨t + 1, fun e => absurd e HJ0.out, fun _ => by omega, by go_num, below_drewN HBT.out _⟩
                        case measure => simp [intOf]; omega
              · have h0 : m ≠ 0 := fun e => by
                  rw [e] at hdm
                  exact hmh (by rw [e, dom_zero hdm])
                have hgt : decide ((0 : Int) < m) = true := by rw [decide_eq_true_eq]; omega
                have hgt2 : decide (0 < m) = true := by rw [decide_eq_true_eq]; omega
                have hne : ((m : Int) != (hd : Int)) = true := bne_iff_ne.2 (by omega)
                have ca : wi.cell? ⟨ab, m, none⟩ = some (.int .i64 (idomN F m : Int)) := HIR.out.cell (show (abvL F)[m]? = some (idomN F m : Int) from by rw [abvL_get (by rw [HH.out]; exact hm)]; unfold abvI; rw [if_neg h0])
                have za := HIR.out.lt
                have hup := (dom_up HRT.out HFM.out (a := hd) (by rw [HH.out]; exact hm) h0 (fun e => hmh e.symm)).2 hdm
                have hcn := dom_cnt HRT.out HFM.out (by rw [HH.out]; exact hm) h0
                have hil := (idomN_spec HRT.out HFM.out (by rw [HH.out]; exact hm) h0).1
                rw [HH.out] at hcn hil
                obtain ⟨q, hq⟩ : ∃ q, idomN F m = q := ⟨_, rfl⟩
                rw [hq] at ca hcn hil hup
                have HUP := Lib.hid hup
                have HCN := Lib.hid hcn
                have HIQ := Lib.hid hil
                clear hdm hup hcn hil hq h0 hmh
                go_wp2_with fail
                go_round
                case rel => exact ⟨q, HIQ.out, rfl, HUP.out⟩
                case measure => have h1 := HCN.out; simp [intOf]; omega
end Go.Proofs.YtefbdecejoeamaaDoor
