/-
  The walk of ClashEven: it returns true.
-/
import Derived.Test.YtfdppmjoinodgaaDoorCh
import Derived.Test.YtfdppmjoinodgaaDoorSv5
import Derived.Test.YtfdppmjoinodgaaDoorPgS
import Derived.Test.YtfdppmjoinodgaaDoorOpn
namespace Go.Proofs.YtfdppmjoinodgaaDoor
open Go.RowKit Tier
/-- A matrix that is even, with nothing on its middle line. -/
structure Even (M : Nat → Nat → Bool) : Prop where
  sym : ∀ x y, M x y = true → M y x = true
  irr : ∀ x, M x x = false
theorem Even.zero : Even zM := ⟨fun _ _ h => h, fun _ => rfl⟩
theorem Even.add {M : Nat → Nat → Bool} (h : Even M) (a b : Int) : Even (addP M a b) := by
  unfold addP
  by_cases e : a ≠ b ∧ 0 ≤ a ∧ 0 ≤ b
  · rw [if_pos e]
    have hne : a.toNat ≠ b.toNat := fun h => e.1 (by omega)
    refine ⟨fun x y hxy => ?_, fun x => ?_⟩
    · simp only [Bool.or_eq_true, decide_eq_true_eq] at hxy ⊢
      rcases hxy with h1 | h1 | h1
      · exact .inl (h.sym x y h1)
      · exact .inr (.inr ⟨h1.2, h1.1⟩)
      · exact .inr (.inl ⟨h1.2, h1.1⟩)
    · simp only [Bool.or_eq_false_iff, decide_eq_false_iff_not]
      exact ⟨h.irr x, fun h1 => hne (h1.1.symm.trans h1.2), fun h1 => hne (h1.2.symm.trans h1.1)⟩
  · rw [if_neg e]; exact h
theorem Even.into {M : Nat → Nat → Bool} (h : Even M) (z : Int) (l : List Int) : ∀ j, Even (inTo M z l j)
  | 0 => h
  | j + 1 => by rw [inTo_succ]; exact (Even.into h z l j).add _ _
theorem Even.tog {M : Nat → Nat → Bool} (h : Even M) (l : List Int) (m : Int) : ∀ i, Even (togTo M l m i)
  | 0 => h
  | i + 1 => ((Even.tog h l m i).add _ _).into _ _ _
theorem Even.gin {F : Fnc} {O : List Nat} {s : SB} {i : Nat} {M : Nat → Nat → Bool} (h : Even M) : ∀ t, Even (gInTo F O s i M t)
  | 0 => h.tog _ _ _
  | t + 1 => by
    show Even (insM F O s i (gInTo F O s i M t) t)
    unfold insM
    split
    · exact Even.gin h t
    · exact (Even.gin h t).tog _ _ _
theorem Even.gat (F : Fnc) (O : List Nat) (s : SB) : ∀ i, Even (gatTo F O s i)
  | 0 => Even.zero
  | i + 1 => (Even.gat F O s i).gin _
set_option maxRecDepth 100000 in
set_option maxHeartbeats 4000000 in
theorem has_big (l : List Int) (A : Option Addr) (cap : Nat) (n : Int) (w : World) (h : RowI w A l) (hl : l.length ≤ 100000) :
    Calls Tryd.prog 16 #[.slice A l.length cap, .int .i64 n] w fun e w' => e = .returned (.bool (decide (n ∈ l))) ∧ w = w' := by
  have HR := Lib.hid h
  clear h
  obtain ⟨N, hN⟩ : ∃ N, l.length = N := ⟨_, rfl⟩
  have HN := Lib.hid hN
  rw [hN] at hl ⊢
  clear hN
  go_enter Tryd.func16, Tryd.ntmps16
  go_wp2_with fail
  go_loop [5] (fun v => ∃ i : Nat, i ≤ N ∧ v = .int .i64 (i : Int) ∧ ∀ j, j < i → l[j]? ≠ some n) (fun v => N - (intOf v).toNat)
  case atStart => exact ⟨0, by omega, rfl, fun j hj => by omega⟩
  case round =>
    obtain ⟨i, hi, rfl, hno⟩ := hrel
    have HNO := Lib.hid hno
    clear hno
    by_cases hiN : i = N
    · obtain rfl : N = i := hiN.symm
      go_wp2_with fail
      go_ret
      refine ⟨?_, rfl⟩
      have : decide (n ∈ l) = false := by
        rw [decide_eq_false_iff_not]
        intro hc
        obtain ⟨j, hj⟩ := List.getElem?_of_mem hc
        exact HNO.out j (by have := (List.getElem?_eq_some_iff.1 hj).1; rw [HN.out] at this; exact this) hj
      rw [this]; rfl
    · have hi1 : (i : Int) < N := by omega
      have hi2 : (0 : Int) ≤ i := by omega
      obtain ⟨g, hg, hgl, hc⟩ := HR.out (by rw [HN.out]; omega)
      obtain ⟨m, hm⟩ : ∃ m, l[i]? = some m := ⟨l[i]'(by rw [HN.out]; omega), List.getElem?_eq_getElem _⟩
      have cm := hc i m hm
      have HM := Lib.hid hm
      subst hg
      clear hc hm hiN
      by_cases hnm : n = m
      · subst hnm
        go_wp2_with fail
        go_ret
        refine ⟨?_, rfl⟩
        have : decide (n ∈ l) = true := by simpa using List.mem_of_getElem? HM.out
        rw [this]; rfl
      · have hmn : ¬ (m = n) := fun e => hnm e.symm
        have hmd : decide (m = n) = false := by simpa using hmn
        go_wp2_with fail
        go_round
        case rel => exact ⟨i + 1, by omega, by go_num, fun j hj e => by
          by_cases hji : j = i
          · subst hji; rw [HM.out] at e; exact hnm (Option.some.inj e).symm
          · exact HNO.out j (by omega) e⟩
        case measure => simp [intOf]; omega
set_option maxRecDepth 100000 in
set_option maxHeartbeats 8000000 in
theorem clashEven_walk (A : Option Addr) (l : List Fnc) (cap : Nat) (fn : Int) (w : World) (ht : Tab w) (hraw : RawsAt w A l) (hln : (l.length : Int) ≤ 9223372036854775807) (hfn : In fn) :
    Calls Tryd.prog 3 #[.slice A l.length cap, .int .i64 fn] w fun e w' => e = .returned (.bool true) ∧ Below w.heap.size w w' := by
  have HT := Lib.hid ht
  have HR := Lib.hid hraw
  have HCK := Lib.hid (mkP_right l)
  clear ht hraw
  go_enter Tryd.func3, Tryd.ntmps3
  go_wp2_with fail
  refine (program_any A cap l _ HT.out hln HR.out).mono ?_
  rintro e w1 ⟨⟨A1, cap1, vs, rfl, hpv⟩, hb1⟩
  have HPV := Lib.hid hpv
  have HB1 := Lib.hid hb1
  clear hpv hb1
  generalize mkP l = p at *
  have hRT := right_of HCK.out
  have hE : progE p = 0 := progE_ck HCK.out
  have hl1 := hRT.ok.l1
  have hl2 := hRT.ok.l2
  have hpk := picked_in fn p.length (by omega)
  obtain ⟨k, hk⟩ : ∃ k : Nat, pickedI fn p.length = k := ⟨(pickedI fn p.length).toNat, by omega⟩
  rw [hk] at hpk
  have HPK := Lib.hid (fun (W : World) => picked_any fn p.length W hfn (by omega) (by omega))
  rw [hk] at HPK
  clear hk
  obtain ⟨A0, cap0, hA0, hA⟩ := HPV.out.at.slice
  simp only [Value.slice.injEq, true_and] at hA0
  obtain ⟨g, hAg, hg, hfn'⟩ := hA (by omega)
  obtain ⟨rfl, rfl⟩ := hA0
  have hkl : k < p.length := by omega
  obtain ⟨F, hF⟩ : ∃ f, p[k]? = some f := ⟨p[k], List.getElem?_eq_getElem hkl⟩
  have hfo := hRT.ok.fn F (List.mem_of_getElem? hF)
  obtain ⟨u, hu, c0, c1, c2⟩ := hfn' k F hF
  obtain ⟨FA, fcap, rfl, hFA⟩ := hu.slice
  subst hAg
  have HCL := Lib.hid (fun (W : World) (h1 : Tab W) (h2 : ProgAt W (.slice (some ⟨g, 0, none⟩) p.length cap1) p) => clash_any p F (some ⟨g, 0, none⟩) cap1 k W h1 h2 HCK.out hF)
  have HBU := Lib.hid (fun (W : World) (h1 : Tab W) (h2 : ProgAt W (.slice (some ⟨g, 0, none⟩) p.length cap1) p) => build_all (some ⟨g, 0, none⟩) cap1 k W h1 h2 HCK.out hF)
  have HSL := Lib.hid (sureF_length hfo.cok hfo.p2)
  have HF := Lib.hid hF
  have HFM := Lib.hid (List.mem_of_getElem? hF)
  have HRT := Lib.hid hRT
  have HFO := Lib.hid hfo
  have n1 := hfo.c1
  have n2 := hfo.c2
  have HFA := Lib.hid hFA
  obtain ⟨M, hM⟩ : ∃ M, F.code.length = M := ⟨_, rfl⟩
  have HM := Lib.hid hM
  rw [hM] at  HSL n1 n2 c2
  have hk0 : (0 : Int) ≤ k := by omega
  have hk1 : (k : Int) < p.length := by omega
  clear hA hfn' hF hu hfo hM hRT c0 c1 hFA
  obtain ⟨N, hN⟩ : ∃ N, p.length = N := ⟨_, rfl⟩
  have HN := Lib.hid hN
  rw [hN] at HPK HCL HBU hl1 hl2 hkl hk1 hpk ⊢
  have HPA := Lib.hid (show ProgAt w1 (.slice (some ⟨g, 0, none⟩) N cap1) p from by have := HPV.out.at; rw [hN] at this; exact this)
  clear hN hE
  have HXA := Lib.hid ((Below.refl w1.heap.size w1).alloc (Nat.le_refl _) (.cells #[.slice (some ⟨g, 0, none⟩) N cap1] 25))
  obtain ⟨H, hH⟩ : ∃ H, (hdL F).length = H := ⟨_, rfl⟩
  have HH := Lib.hid hH
  have hH1 : 0 < H := by have := (List.getElem?_eq_some_iff.1 (zero_head HRT.out HFM.out)).1; omega
  obtain ⟨P, hP⟩ : ∃ n : Nat, F.params = n := ⟨F.params.toNat, by have := HFO.out.p1; omega⟩
  have HPP := Lib.hid hP
  clear hH hP
  have hHz : ((H : Int) == 0) = false := beq_eq_false_iff_ne.2 (by omega)
  go_upto_region 5 with (first | (go_at_call 13; go_must (refine (HPK.out _).mono ?_; rintro e w' ⟨rfl, rfl⟩)) | (go_at_call 14; go_must (refine (HCL.out _ (HT.out.keeps (HB1.out.alloc HB1.out.size _)) (HPA.out.keeps HXA.out)).mono ?_; rintro e w2 ⟨⟨s0, O0, bs0, K0, s10, s20, l0, U, g0, cp0, rfl, hu0, hbx0, hown⟩, hb⟩; have HBX0 := Lib.hid hbx0; have HU0 := Lib.hid hu0; have HOWN := Lib.hid hown; have HB12 := Lib.hid (HXA.out.trans (hb.mono HXA.out.size)); have HX2 := Lib.hid ((hb.block w1.heap.size (by simp)).trans (heap_alloc_new w1 _)); have q2 := cell_block HX2.out 0; have z2 := block_lt HX2.out; clear hu0 hbx0 hown hb)) | (go_at_call 15; go_must (refine (HBU.out _ (HT.out.keeps (HB1.out.trans (HB12.out.mono HB1.out.size))) (HPA.out.keeps HB12.out)).mono ?_; rintro e w3 ⟨⟨b, c, s, V, O, bs, K, s2, l, rfl, hbb, hsb, hbl⟩, hb⟩; have HBX := Lib.hid (BuiltX.mk hbl HCK.out HFM.out rfl : BuiltX p F O bs K _ s2 l s); have hbsl : bs.length = H := (by rw [hbl.bok.len, HH.out]); obtain ⟨Ap, cp, hvp, -, hpA⟩ := hsb.rowV .parts (n := H) (by show s.parts.length = H; rw [HBX.out.finP.len, hbsl]); obtain ⟨gp, rfl, -, -⟩ := hpA hH1; have hvl : valN F bs s2 l = valN F bs0 s20 l0 := (HBX.out.unique HBX0.out).2.2.1; rw [hvp, show ((F.params.toNat + (allG { s2 with same := l } bs.length).length : Nat) : Int) = ((valN F bs0 s20 l0 : Nat) : Int) from congrArg Int.ofNat hvl, HPP.out]; have HB23 := Lib.hid hb; clear hbb hsb hbl hb hvp hvl hbsl hpA q2 z2)))
  have hvs := HBX0.out.vl_small
  have HEV := Lib.hid (Even.gat F O0 s0 bs0.length)
  obtain ⟨vl, hvl⟩ : ∃ v, valN F bs0 s20 l0 = v := ⟨_, rfl⟩
  obtain ⟨M1, hM1⟩ : ∃ m, gatTo F O0 s0 bs0.length = m := ⟨_, rfl⟩
  rw [hvl] at hvs HU0 HOWN ⊢
  rw [hM1] at HEV HOWN
  clear hvl hM1
  obtain ⟨w4, hw4⟩ : ∃ W, w3.alloc (.cells #[.int .i64 (P : Int), .int .i64 (vl : Int), .slice (some ⟨gp, 0, none⟩) H cp] 34) = W := ⟨_, rfl⟩
  have HXS : Hid (w4.heap[w3.heap.size]? = some (.cells #[.int .i64 (P : Int), .int .i64 (vl : Int), .slice (some ⟨gp, 0, none⟩) H cp] 34 (0, 0))) := Lib.hid (hw4 ▸ heap_alloc_new _ _)
  have HB34 : Hid (Below w3.heap.size w3 w4) := Lib.hid (hw4 ▸ (Below.refl _ _).alloc (Nat.le_refl _) _)
  have HB24 := Lib.hid (HB23.out.trans (HB34.out.mono HB23.out.size))
  have HB14 := Lib.hid (HB12.out.trans (HB24.out.mono HB12.out.size))
  have p0 := cell_block HXS.out 1
  have p1 := cell_block HXS.out 2
  have p2 := block_lt HXS.out
  -- the rows of values that clash
  have KC := Lib.hid (fun (W : World) (hb : Below w2.heap.size w2 W) (a : Nat) (ha : a < vl) => (by
    have ho := HOWN.out.keeps hb
    have hr : clTo M1 vl vl 0 a = clsL M1 vl a := if_pos ha
    have h1 := ho.own (some a)
    have h2 : OwnI W w1.heap.size (U (some a)) (natI (clsL M1 vl a)) := by
      unfold OwnI
      rw [natI_length, ← hr]; exact own_base h1 (by simp)
    obtain ⟨A, cc, e1, e2⟩ := rowI_own h2
    rw [natI_length] at e1
    exact ⟨A, cc, (ho.cell none (by rw [clRow_v]; exact HU0.out) (show ((List.range vl).map fun a => U (some a))[a]? = _ from by rw [List.getElem?_map, List.getElem?_range ha]; rfl)).trans (by show some (U (some a)) = _; rw [e1]), e2, (ho.free none (g := g0) (n := vl) (cap := cp0) (by rw [clRow_v]; exact HU0.out) a).2⟩ :
    ∃ A cc, W.cell? ⟨g0, a, none⟩ = some (.slice A (clsL M1 vl a).length cc) ∧ RowI W A (natI (clsL M1 vl a)) ∧ g0 < W.heap.size))
  rw [hw4]
  clear hw4
  go_wp2_with fail
  clear p0 p1 p2 hHz
  have HB44 : Hid (Below w4.heap.size w4 w4) := Lib.hid (Below.refl _ _)
  go_loopw [11] (fun v11 wr => ∃ a : Nat, a ≤ vl ∧ v11 = .int .i64 (a : Int) ∧ Below w4.heap.size w4 wr) (fun v11 _ => vl - (intOf v11).toNat)
  case atStart => exact ⟨0, by omega, rfl, HB44.out⟩
  case round =>
    obtain ⟨a, hav, rfl, hb⟩ := hrel
    have HB := Lib.hid hb
    have HB2 := Lib.hid (HB24.out.trans (hb.mono HB24.out.size))
    by_cases ha0 : a = vl
    · have ha0' := ha0.symm
      subst ha0'
      clear hb
      go_wp2_with fail
      go_ret
      exact ⟨rfl, HB1.out.trans ((HB14.out.trans (HB.out.mono HB14.out.size)).mono HB1.out.size)⟩
    · have ha1 : (a : Int) < vl := by omega
      have ha2 : (0 : Int) ≤ a := by omega
      have ha3 : a < vl := by omega
      clear hb ha0
      go_wp2_with fail
      go_loopw [12] (fun v12 wq => ∃ i : Nat, i ≤ (clsL M1 vl a).length ∧ v12 = .int .i64 (i : Int) ∧ Below w4.heap.size w4 wq) (fun v12 _ => (clsL M1 vl a).length - (intOf v12).toNat)
      case atStart => exact ⟨0, by omega, rfl, HB.out⟩
      case round =>
        rename World => wq
        clear HB HB2
        obtain ⟨i, hin, rfl, hb⟩ := hrel
        have HB := Lib.hid hb
        have HB2 := Lib.hid (HB24.out.trans (hb.mono HB24.out.size))
        obtain ⟨A, cc, k0, k1, k2⟩ := KC.out wq HB2.out a ha3
        obtain ⟨L, hL⟩ : ∃ L, clsL M1 vl a = L := ⟨_, rfl⟩
        have HLE := Lib.hid hL
        have HSO := Lib.hid (clsL_sorted M1 vl a)
        have hll := clsL_len M1 vl a
        rw [hL] at k0 k1 hin HSO hll ⊢
        obtain ⟨n, hn⟩ : ∃ n, L.length = n := ⟨_, rfl⟩
        have HN := Lib.hid hn
        rw [hn] at k0 hin hll ⊢
        have HRI := Lib.hid k1
        by_cases hi0 : i = n
        · have hi0' := hi0.symm
          subst hi0'
          clear hb hL hn k1
          go_wp2_with fail
          go_roundw
          case rel => exact ⟨a + 1, by omega, by go_num, HB.out⟩
          case measure => simp [intOf]; omega
        · have hi1 : (i : Int) < n := by omega
          have hi2 : (0 : Int) ≤ i := by omega
          obtain ⟨b, hbi⟩ : ∃ b, L[i]? = some b := ⟨_, List.getElem?_eq_getElem (by omega)⟩
          obtain ⟨hb1, hb2⟩ := clsL_mem.1 (hL ▸ List.mem_of_getElem? hbi)
          obtain ⟨ga, rfl, k3, k4⟩ := k1 (by rw [natI_length]; omega)
          have k5 := k4 i b (by simp [natI, hbi])
          obtain ⟨A2, cc2, j0, j1, j2⟩ := KC.out wq HB2.out b hb1
          have HHS := Lib.hid (has_big _ A2 cc2 (a : Int) wq j1 (by rw [natI_length]; have := clsL_len M1 vl b; omega))
          have hmem : decide ((a : Int) ∈ natI (clsL M1 vl b)) = true := by
            rw [decide_eq_true_eq]
            exact List.mem_map.2 ⟨a, clsL_mem.2 ⟨ha3, HEV.out.sym _ _ hb2⟩, rfl⟩
          rw [hmem, natI_length] at HHS
          have hne : b ≠ a := fun e => by
            have h := HEV.out.irr a
            rw [e] at hb2
            rw [h] at hb2; cases hb2
          have hba : ((b : Int) == (a : Int)) = false := beq_eq_false_iff_ne.2 (by omega)
          have hbd : decide ((b : Int) = (a : Int)) = false := decide_eq_false (by omega)
          have hbn : decide (b = a) = false := decide_eq_false hne
          have hb3 : (b : Int) < vl := by omega
          have hb4 : (0 : Int) ≤ b := by omega
          have hbz : decide ((b : Int) < 0) = false := decide_eq_false (by omega)
          have hbv : decide ((b : Int) ≥ vl) = false := decide_eq_false (by omega)
          have HBI := Lib.hid hbi
          by_cases h0 : i = 0
          · subst h0
            clear hb hL hn k1 k4 hbi hb2 hmem hne j1
            go_wp2_with (go_at_call 16; go_must (refine HHS.out.mono ?_; rintro e w' ⟨rfl, rfl⟩))
            go_roundw
            case rel => exact ⟨1, by omega, by go_num, HB.out⟩
            case measure => simp [intOf]; omega
          · obtain ⟨b', hbi'⟩ : ∃ b', L[i - 1]? = some b' := ⟨_, List.getElem?_eq_getElem (by omega)⟩
            have k6 := k4 (i - 1) b' (by simp [natI, hbi'])
            have hlt : b' < b := by
              obtain ⟨r1, r2⟩ := List.getElem?_eq_some_iff.1 hbi'
              obtain ⟨r3, r4⟩ := List.getElem?_eq_some_iff.1 hbi
              have h := List.pairwise_iff_getElem.1 HSO.out (i - 1) i r1 r3 (by omega)
              rw [r2, r4] at h; exact h
            have hgt : decide ((i : Int) > 0) = true := decide_eq_true (by omega)
            have hi4 : (i : Int) - 1 = ((i - 1 : Nat) : Int) := by omega
            have hle : decide ((b : Int) ≤ (b' : Int)) = false := decide_eq_false (by omega)
            have hle2 : decide (b ≤ b') = false := decide_eq_false (by omega)
            obtain ⟨im, him⟩ : ∃ m, i - 1 = m := ⟨_, rfl⟩
            rw [him] at k6 hi4
            have him2 : im < n := by omega
            have him3 : (im : Int) < n := by omega
            clear hb hL hn k1 k4 hbi hb2 hmem hne j1 hbi' hlt him
            go_wp2_with (go_at_call 16; go_must (refine HHS.out.mono ?_; rintro e w' ⟨rfl, rfl⟩))
            go_roundw
            case rel => exact ⟨i + 1, by omega, by go_num, HB.out⟩
            case measure => simp [intOf]; omega
end Go.Proofs.YtfdppmjoinodgaaDoor
