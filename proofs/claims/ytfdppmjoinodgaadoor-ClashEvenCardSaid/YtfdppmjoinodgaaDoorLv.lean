/-
  The contract of flow.Live.
-/
import Derived.Test.YtfdppmjoinodgaaDoorLvP
import Derived.Test.YtfdppmjoinodgaaDoorFl2
import Derived.Test.YtfdppmjoinodgaaDoorMkI
import Derived.Test.YtfdppmjoinodgaaDoorPs
import Derived.Test.YtfdppmjoinodgaaDoorPc
import Derived.Test.YtfdppmjoinodgaaDoorPr
namespace Go.Proofs.YtfdppmjoinodgaaDoor
open Go.RowKit Tier
/-- The function's box, and what is live so far. -/
structure LW (w2 wr : World) (fp fr : Int) (fv : Value) (l : List Int) : Prop where
  box : wr.heap[w2.heap.size]? = some (.cells #[.int .i64 fp, .int .i64 fr, fv] 57 (0, 0))
  out : IntsB wr (w2.heap.size + 1) l
  below : Below w2.heap.size w2 wr
section
variable {w2 wr w' : World} {fp fr : Int} {fv : Value} {l : List Int}
theorem LW.keeps (h : LW w2 wr fp fr fv l) (hb : Below wr.heap.size wr w') : LW w2 w' fp fr fv l :=
  ⟨(hb.block _ (block_lt h.box)).trans h.box, h.out.keeps hb, h.below.trans (hb.mono h.below.size)⟩
theorem LW.set (h : LW w2 wr fp fr fv l) (i : Nat) (x : Int) : LW w2 (wr.setCell ⟨w2.heap.size + 1, i, none⟩ (.int .i64 x)) fp fr fv (l.set i x) :=
  ⟨(Below.heap_setCell _ _ _ _ (by simp)).trans h.box, h.out.set i x, h.below.setCell (by simp) _⟩
theorem LW.start (w : World) (fp fr : Int) (fv : Value) (n : Nat) : LW w ((w.alloc (.cells #[.int .i64 fp, .int .i64 fr, fv] 57)).alloc (.cells (madeCells #[.int .i64 0] n) 3)) fp fr fv (List.replicate n 0) := by
  refine ⟨?_, ?_, ?_⟩
  · rw [Below.heap_alloc _ _ _ (by simp)]; exact heap_alloc_new _ _
  · have := made_ints (w.alloc (.cells #[.int .i64 fp, .int .i64 fr, fv] 57)) n
    simpa using this
  · repeat (first | exact hb | exact Below.refl _ _ | apply Below.drew | apply below_drewN | refine Below.alloc ?_ (by first | omega | (simp; done) | (simp; omega)) _ | refine Below.setCell ?_ (by first | omega | (simp; done) | (simp; omega)) _)
end
theorem natI_set (O : List Nat) (k v : Nat) : (natI O).set k (v : Int) = natI (O.set k v) := by simp [natI, List.map_set]
theorem natI_get {O : List Nat} {k : Nat} (h : k < O.length) : (natI O)[k]? = some ((O.getD k 0 : Nat) : Int) := by
  rw [List.getD_eq_getElem?_getD, natI, List.getElem?_map, List.getElem?_eq_getElem h]; rfl
theorem natI_rep (n : Nat) : natI (List.replicate n 0) = List.replicate n 0 := by simp [natI]
/-- What comes back. -/
def LiveRet (p : List Fnc) (F : Fnc) (B : Nat) (e : Ending) (w' : World) : Prop := ∃ b O, e = .returned (.tuple #[.slice (some ⟨b, 0, none⟩) F.code.length F.code.length, .int .i64 0]) ∧ B ≤ b ∧ IntsB w' b (outL (liveL F O)) ∧ LiveOk p F O
set_option maxRecDepth 100000 in
set_option maxHeartbeats 8000000 in
theorem live_any (p : List Fnc) (A : Option Addr) (cap k : Nat) (F : Fnc) (w : World) (ht : Tab w) (hp : ProgAt w (.slice A p.length cap) p) (hk : checkP p = 0) (hf : p[k]? = some F) :
    Calls Tryd.prog 29 #[.agg #[.slice A p.length cap], .int .i64 (k : Int)] w fun e w' => LiveRet p F w.heap.size e w' ∧ Below w.heap.size w w' := by
  have hR := right_of hk
  have hE : progE p = 0 := by
    unfold checkP at hk
    by_cases hE : progE p = 0
    · exact hE
    · rw [if_pos hE] at hk; exact absurd hk hE
  have l2 := hR.ok.l2
  have hFm := List.mem_of_getElem? hf
  have hfo := hR.ok.fn F hFm
  have hkl := (List.getElem?_eq_some_iff.1 hf).1
  obtain ⟨A0, cap0, hA0, hA⟩ := hp.slice
  simp only [Value.slice.injEq, true_and] at hA0
  obtain ⟨g, hAg, hg, hfn⟩ := hA (by omega)
  obtain ⟨rfl, rfl⟩ := hA0
  subst hAg
  obtain ⟨u, hu, d0, d1, d2⟩ := hfn k F hf
  have HU := Lib.hid hu
  obtain ⟨FA, fcap, rfl, hFA⟩ := hu.slice
  have HPC := Lib.hid (fun (W : World) (h1 : Tab W) (h2 : ProgAt W (.slice (some ⟨g, 0, none⟩) p.length cap) p) => pcheck_any p (some ⟨g, 0, none⟩) cap W h1 h2 (by omega) (fun f hf => by have := (hR.ok.fn f hf).c2; omega))
  rw [hk] at HPC
  have HSU := Lib.hid (fun (W : World) (h1 : Tab W) (h2 : ProgAt W (.slice (some ⟨g, 0, none⟩) p.length cap) p) => psure_any p (some ⟨g, 0, none⟩) cap k F W h1 h2 hE hf)
  have HRD := Lib.hid (fun (W : World) (h1 : Tab W) (h2 : ProgAt W (.slice (some ⟨g, 0, none⟩) p.length cap) p) (pc : Nat) (x : Ins) (hx : F.code[pc]? = some x) => preadsx_any p (some ⟨g, 0, none⟩) cap k pc F x W h1 h2 hE hf hx)
  have HNX := Lib.hid (fun (W : World) (pc : Nat) (x : Ins) (hx : F.code[pc]? = some x) (hc : CodeAt W (.slice FA F.code.length fcap) F.code) => fnext_any F FA fcap pc x W hx hc hfo.c2 (fun h => by have h1 := (hfo.ins x (List.mem_of_getElem? hx)).jump h; have h2 := hfo.c2; omega))
  have HT := Lib.hid ht
  have HP := Lib.hid hp
  have HR := Lib.hid hR
  have HFM := Lib.hid hFm
  have HFO := Lib.hid hfo
  have HSL := Lib.hid (sureF_length hfo.cok hfo.p2)
  have n2 := hfo.c2
  have hst := LInv.start hR hFm
  have HST := Lib.hid hst
  obtain ⟨M, hM⟩ : ∃ M, F.code.length = M := ⟨_, rfl⟩
  have HM := Lib.hid hM
  obtain ⟨N, hN⟩ : ∃ N, p.length = N := ⟨_, rfl⟩
  have hk1 : (k : Int) < N := by omega
  have hk0 : (0 : Int) ≤ k := by omega
  have hmk := make_intsN M (by omega)
  rw [hN] at HPC HSU HRD HP l2 ⊢
  rw [hM] at HSU HNX HU d2 n2 HST HSL
  clear hA hfn hp ht hR hE hk hf hu hFA hfo hFm hM hN hst hkl
  go_enter Tryd.func29, Tryd.ntmps29
  go_wp2_with (first | (go_at_call 27; go_must (refine (HPC.out _ (HT.out.alloc _) (HP.out.keeps ((Below.refl _ _).alloc (Nat.le_refl _) _))).mono ?_; rintro e w1 ⟨rfl, hb⟩; have HB1 := Lib.hid (((Below.refl w.heap.size w).alloc (Nat.le_refl _) (.cells #[.slice (some ⟨g, 0, none⟩) N cap] 25)).trans (hb.mono (by simp))); have HBX := Lib.hid ((hb.block w.heap.size (by simp)).trans (heap_alloc_new w _)); have q0 := cell_block HBX.out; have z0 := block_lt HBX.out; clear hb)) | (go_at_call 44; go_must (refine (HSU.out _ (HT.out.keeps HB1.out) (HP.out.keeps HB1.out)).mono ?_; rintro e w2 ⟨⟨b, rfl, hgb, hIB⟩, hb⟩; have HIB := Lib.hid hIB; have HB2 := Lib.hid (HB1.out.trans (hb.mono HB1.out.size)); have HBX2 := Lib.hid ((hb.block _ (block_lt HBX.out)).trans HBX.out); have q2 := cell_block HBX2.out; have z2 := block_lt HBX2.out; have g2 := Nat.lt_of_lt_of_le hg HB2.out.size; have e0 := (HB2.out.cell (p := ⟨g, _, none⟩) hg).trans d0; have e1 := (HB2.out.cell (p := ⟨g, _, none⟩) hg).trans d1; have e2 := (HB2.out.cell (p := ⟨g, _, none⟩) hg).trans d2; clear hb hgb hIB q0 z0)))
  have HW0 := Lib.hid (LW.start w2 F.params F.regs (.slice FA M fcap) M)
  rw [← natI_rep] at HW0
  clear hmk q2 z2 g2 e0 e1 e2 d0 d1 d2
  have hbl := HIB.out.lt
  have HBL := Lib.hid hbl
  clear hbl
  go_loopg [11] (2 * muL (List.replicate M 0) + 1) (fun q v wr => ∃ (O : List Nat) (ch : Bool), LInv p F O ∧ (ch = false → FixL p F O) ∧ q = 2 * muL O + (if ch = true then 1 else 0) ∧ v = .bool ch ∧ LW w2 wr F.params F.regs (.slice FA M fcap) (natI O))
  case atStart => exact ⟨_, true, HST.out, fun h => by simp at h, rfl, rfl, HW0.out⟩
  case round =>
    obtain ⟨O, ch, hI, hF, rfl, rfl, hW⟩ := hrel
    clear HW0 HST
    have HI := Lib.hid hI
    have HW := Lib.hid hW
    have HFX := Lib.hid hF
    cases ch with
    | false =>
      have HOK := Lib.hid (show LiveOk p F O from ⟨hI, hF rfl⟩)
      clear hI hF hW
      have z1 := HW.out.out.lt
      go_wp2_with fail
      clear z1
      go_loopw [97] (fun v wr => ∃ j : Nat, j ≤ M ∧ v = .int .i64 (j : Int) ∧ LW w2 wr F.params F.regs (.slice FA M fcap) (outL ((liveL F O).take j) ++ (natI O).drop j)) (fun v _ => M - (intOf v).toNat)
      case atStart => exact ⟨0, by omega, rfl, by simpa [outL] using HW.out⟩
      case round =>
        obtain ⟨j, hj, rfl, hWj⟩ := hrel
        have HWJ := Lib.hid hWj
        have HLL := Lib.hid (show (liveL F O).length = M by rw [liveL_length, HM.out])
        have HOL := Lib.hid (show O.length = M by rw [HI.out.len, HM.out])
        by_cases hjM : j = M
        · obtain rfl : M = j := hjM.symm
          clear hWj
          go_wp2_with fail
          go_ret2
          refine ⟨⟨w2.heap.size + 1, O, by rw [HM.out]; rfl, by have := HB2.out.size; omega, ?_, HOK.out⟩, HB2.out.trans (HWJ.out.below.mono HB2.out.size)⟩
          have h := HWJ.out.out
          rw [List.take_of_length_le (by rw [HLL.out]; exact Nat.le_refl _), List.drop_eq_nil_of_le (by rw [natI_length, HOL.out]; exact Nat.le_refl _), List.append_nil] at h
          exact h
        · have hj1 : (j : Int) < M := by omega
          have hj2 : (0 : Int) ≤ j := by omega
          have z1 := hWj.out.lt
          have zb : b < wr.heap.size := Nat.lt_of_lt_of_le HBL.out hWj.below.size
          obtain ⟨o, ho⟩ : ∃ o, (sureF F)[j]? = some o := ⟨_, List.getElem?_eq_getElem (by rw [HSL.out]; omega)⟩
          have cb := (hWj.below.cell (p := ⟨b, j, none⟩) HBL.out).trans (HIB.out.cell (outL_get ho))
          have hlg := liveL_get (F := F) (O := O) (pc := j) (by rw [HM.out]; omega)
          have hdr : (natI O).drop j = ((O.getD j 0 : Nat) : Int) :: (natI O).drop (j + 1) := by
            rw [List.drop_eq_getElem_cons (by rw [natI_length, HOL.out]; omega)]
            congr 1
            have h := natI_get (O := O) (k := j) (by rw [HOL.out]; omega)
            rw [List.getElem?_eq_getElem (by rw [natI_length, HOL.out]; omega)] at h
            exact Option.some.inj h
          have htk : ((outL ((liveL F O).take j)).length) = j := by rw [outL_length, List.length_take, HLL.out]; omega
          have cj : wr.cell? ⟨w2.heap.size + 1, j, none⟩ = some (.int .i64 ((O.getD j 0 : Nat) : Int)) := hWj.out.cell (by rw [List.getElem?_append_right (by omega), htk, Nat.sub_self, hdr]; rfl)
          have fj := hWj.out.frozen j
          have hts : ∀ v : Int, (outL ((liveL F O).take j) ++ (natI O).drop j).set j v = (outL ((liveL F O).take j) ++ [v]) ++ (natI O).drop (j + 1) := fun v => by
            rw [List.set_append_right _ _ (by omega), htk, Nat.sub_self, hdr]; simp
          have htn : outL ((liveL F O).take (j + 1)) = outL ((liveL F O).take j) ++ [oI (if rchB F j = true then some (O.getD j 0) else none)] := by
            rw [List.take_add_one, hlg]; simp [outL]
          cases ho2 : o with
          | none =>
            have hr : rchB F j = false := by unfold rchB; rw [ho, ho2]; rfl
            rw [ho2] at cb
            have hoi : oI none = -1 := rfl
            rw [hoi] at cb
            rw [hr] at htn
            have HTN := Lib.hid htn
            have HST := Lib.hid (hWj.set j (-1))
            have HTS := Lib.hid (hts (-1))
            clear htn hts hdr htk hlg hWj ho ho2 hr hoi
            go_wp2_with fail
            go_roundw
            case rel => exact ⟨j + 1, by omega, by go_num, by have h := HST.out; rw [HTS.out] at h; rw [HTN.out]; exact h⟩
            case measure => simp [intOf]; omega
          | some m =>
            have hr : rchB F j = true := by unfold rchB; rw [ho, ho2]; rfl
            rw [ho2] at cb
            have hoi : oI (some m) = (m : Int) := rfl
            rw [hoi] at cb
            rw [hr] at htn
            have HTN := Lib.hid (show outL ((liveL F O).take (j + 1)) ++ (natI O).drop (j + 1) = outL ((liveL F O).take j) ++ (natI O).drop j by rw [htn, hdr]; simp [oI])
            have hm0 : ¬ ((m : Int) < 0) := by omega
            clear htn hts hdr htk hlg hWj ho ho2 hr hoi
            go_wp2_with fail
            go_roundw
            case rel => exact ⟨j + 1, by omega, by go_num, by rw [HTN.out]; exact HWJ.out⟩
            case measure => simp [intOf]; omega
    | true =>
      clear hI hF hW HFX
      have q1 := cell_block HW.out.box
      have z1 := HW.out.out.lt
      have z0 : w2.heap.size < wr.heap.size := by omega
      go_wp2_with fail
      clear q1 z1 z0
      go_loopw [11, 12] (fun vc vp wr => ∃ (kk : Nat) (O' : List Nat) (ch : Bool), kk ≤ M ∧ vp = .int .i64 ((kk : Int) - 1) ∧ vc = .bool ch ∧ LInv p F O' ∧ (ch = true → muL O' < muL O) ∧ (ch = false → O' = O ∧ ∀ (pc : Nat) (x : Ins), kk ≤ pc → rchB F pc = true → F.code[pc]? = some x → O.getD pc 0 = liveV p O x pc) ∧ LW w2 wr F.params F.regs (.slice FA M fcap) (natI O')) (fun _ vp _ => (intOf vp + 1).toNat)
      case atStart => exact ⟨M, O, false, Nat.le_refl _, rfl, rfl, HI.out, fun h => by simp at h, fun _ => ⟨rfl, fun pc x h1 _ h3 => by have h4 := (List.getElem?_eq_some_iff.1 h3).1; rw [HM.out] at h4; omega⟩, HW.out⟩
      case round =>
        obtain ⟨kk, O', ch, hkk, rfl, rfl, hI', hmu, hfx, hW'⟩ := hrel
        have HI' := Lib.hid hI'
        have HMU := Lib.hid hmu
        have HFX := Lib.hid hfx
        have HW' := Lib.hid hW'
        clear hI' hmu hfx
        by_cases hk0' : kk = 0
        · subst hk0'
          clear hW'
          have hm1 : ((0 : Nat) : Int) - 1 = -1 := rfl
          rw [hm1]
          clear hm1
          cases ch with
          | false =>
            have HFX2 := Lib.hid (HFX.out rfl)
            clear HFX HMU
            go_wp2_with fail
            go_roundg (2 * muL O')
            case rel => exact ⟨O', false, HI'.out, fun _ => by obtain ⟨h1, h2⟩ := HFX2.out; rw [h1]; exact fun pc x h3 h4 => h2 pc x (by omega) h3 h4, rfl, rfl, HW'.out⟩
            case measure => have h := HFX2.out.1; rw [h]; simp
          | true =>
            have HMU2 := Lib.hid (HMU.out rfl)
            clear HFX HMU
            go_wp2_with fail
            go_roundg (2 * muL O' + 1)
            case rel => exact ⟨O', true, HI'.out, fun h => by simp at h, rfl, rfl, HW'.out⟩
            case measure => have h := HMU2.out; simp; omega
        · obtain ⟨j, hj⟩ : ∃ j, kk = j + 1 := ⟨kk - 1, by omega⟩
          subst hj
          have hjj : ((j + 1 : Nat) : Int) - 1 = (j : Int) := by omega
          rw [hjj]
          clear hk0'
          have hj1 : (j : Int) < M := by omega
          have hj2 : (0 : Int) ≤ j := by omega
          have z1 := hW'.out.lt
          have z0 : w2.heap.size < wr.heap.size := by omega
          have q1 := cell_block hW'.box
          have zb : b < wr.heap.size := Nat.lt_of_lt_of_le HBL.out hW'.below.size
          obtain ⟨o, ho⟩ : ∃ o, (sureF F)[j]? = some o := ⟨_, List.getElem?_eq_getElem (by rw [HSL.out]; omega)⟩
          have cb := (hW'.below.cell (p := ⟨b, j, none⟩) HBL.out).trans (HIB.out.cell (outL_get ho))
          have hjw : (j : Int) = ((j : Nat) : Int) := rfl
          clear hjj hjw
          cases ho2 : o with
          | none =>
            have hr : rchB F j = false := by unfold rchB; rw [ho, ho2]; rfl
            rw [ho2] at cb
            have hoi : oI none = -1 := rfl
            rw [hoi] at cb
            have HRC := Lib.hid hr
            clear hW' ho ho2 hr hoi
            go_wp2_with fail
            go_roundw
            case rel => exact ⟨j, O', ch, by omega, rfl, rfl, HI'.out, HMU.out, fun h => ⟨(HFX.out h).1, fun pc x h1 h2 h3 => by
              by_cases h4 : pc = j
              · rw [h4, HRC.out] at h2; cases h2
              · exact (HFX.out h).2 pc x (by omega) h2 h3⟩, HW'.out⟩
            case measure => simp [intOf]
          | some m =>
            have hr : rchB F j = true := by unfold rchB; rw [ho, ho2]; rfl
            rw [ho2] at cb
            have hoi : oI (some m) = (m : Int) := rfl
            rw [hoi] at cb
            have hm0 : ¬ ((m : Int) < 0) := by omega
            have HRC := Lib.hid hr
            obtain ⟨x, hx⟩ : ∃ x, F.code[j]? = some x := ⟨_, List.getElem?_eq_getElem (by rw [HM.out]; omega)⟩
            have hio := HFO.out.ins x (List.mem_of_getElem? hx)
            have HXX := Lib.hid hx
            have HN1 := Lib.hid (fun W hc => HNX.out W j x hx hc)
            have HR1 := Lib.hid (fun W h1 h2 => HRD.out W h1 h2 j x hx)
            have HLT := Lib.hid (liveV_lt (pc := j) HI'.out hio HFO.out.r2)
            have hsm := setM_lt hio HFO.out.r2
            have hrd := reads_lt x hio HFO.out.r2 (parOf p x)
            have HNL := Lib.hid (fun (n : Nat) (hn : n ∈ nextS x j) => (HR.out.nextR HFM.out hr hx ((nextS_mem x j n).1 hn)).1)
            have HSTP := Lib.hid (HI'.out.step HR.out HFM.out hr hx)
            have HLV := Lib.hid (show liveV p O' x j = (orN O' (nextS x j) - (orN O' (nextS x j) &&& setM x)) ||| readsM x (parOf p x) from rfl)
            have hln2 := nextS_length x j
            obtain ⟨L, hL⟩ : ∃ L, nextS x j = L := ⟨_, rfl⟩
            rw [hL] at HN1 HNL HLV hln2
            obtain ⟨v, hv⟩ : ∃ v, liveV p O' x j = v := ⟨_, rfl⟩
            have HV := Lib.hid hv
            rw [hv] at HLT HSTP HLV
            obtain ⟨sm, hsme⟩ : ∃ v, setM x = v := ⟨_, rfl⟩
            obtain ⟨rd, hrde⟩ : ∃ v, readsM x (parOf p x) = v := ⟨_, rfl⟩
            rw [hsme, hrde] at HR1
            rw [hsme] at hsm
            rw [hrde] at hrd
            rw [hsme, hrde] at HLV
            have HBW := Lib.hid (HB2.out.trans (hW'.below.mono HB2.out.size))
            clear hW' ho ho2 hr hoi hx hio hL hv hsme hrde
            go_wp2_with (first | (go_at_call 48; go_must (refine (HN1.out _ (HU.out.keeps HBW.out)).mono ?_; rintro e w7 ⟨⟨vv, rfl, hov⟩, hb7⟩; obtain ⟨Av, capv, hvv, hcv⟩ := own_slice hov; rw [natI_length] at hvv hcv; subst hvv; have HB7 := Lib.hid hb7; have HW7 := Lib.hid (HW'.out.keeps hb7); have HCV := Lib.hid hcv; clear hov hb7 hcv)))
            have z7 := HW7.out.out.lt
            have z6 : w2.heap.size < w7.heap.size := by omega
            obtain ⟨ln, hln⟩ : ∃ n, L.length = n := ⟨_, rfl⟩
            have HLN := Lib.hid hln
            rw [hln] at HCV hln2 ⊢
            clear hln q1 z1 z0 zb cb
            go_loop [13, 61] (fun vb vi => ∃ i : Nat, i ≤ ln ∧ vi = .int .i64 (i : Int) ∧ vb = .int .i64 ((orN O' (L.take i) : Nat) : Int)) (fun _ vi => ln - (intOf vi).toNat)
            case atStart => exact ⟨0, by omega, rfl, rfl⟩
            case round =>
              obtain ⟨i, hi, rfl, rfl⟩ := hrel
              by_cases hil : i = ln
              · obtain rfl : ln = i := hil.symm
                have htl : L.take ln = L := List.take_of_length_le (by rw [HLN.out]; exact Nat.le_refl _)
                rw [htl]
                clear htl
                have hol := orN_lt HI'.out.lt L
                obtain ⟨ov, hov⟩ : ∃ v, orN O' L = v := ⟨_, rfl⟩
                have HLV2 := Lib.hid (show v = (ov - (ov &&& sm)) ||| rd by rw [← hov]; exact HLV.out)
                rw [hov] at hol
                rw [hov]
                clear hov
                have hand := andNot_nat ov sm (by omega) (by omega)
                have hle : ov - (ov &&& sm) < 4096 := by omega
                have hor := or_nat (ov - (ov &&& sm)) rd (by omega) (by omega)
                rw [← HLV2.out] at hor
                obtain ⟨an, han⟩ : ∃ a, ov - (ov &&& sm) = a := ⟨_, rfl⟩
                rw [han] at hand hor
                clear han hle
                have HB7W := Lib.hid (HBW.out.trans (HB7.out.mono HBW.out.size))
                have HBX7 := Lib.hid ((HW7.out.below.block _ (block_lt HBX2.out)).trans HBX2.out)
                have q7 := cell_block HBX7.out
                have zz7 := block_lt HBX7.out
                by_cases hvq : v = O'.getD j 0
                · have HVQ := Lib.hid hvq
                  have hne : ((v : Int) != (v : Int)) = false := by simp
                  go_wp2_with (first | (go_at_call 55; go_must (refine (HR1.out _ (HT.out.keeps HB7W.out) (HP.out.keeps HB7W.out)).mono ?_; rintro e w8 ⟨rfl, hb8⟩; have HW8 := Lib.hid (HW7.out.keeps hb8); have z8 := HW8.out.out.lt; have c8 : w8.cell? ⟨w2.heap.size + 1, j, none⟩ = some (.int .i64 (v : Int)) := (by rw [HVQ.out]; exact HW8.out.out.cell (natI_get (by rw [HI'.out.len, HM.out]; omega))); clear hb8 z7 z6 q7 zz7)))
                  go_roundw
                  case rel => exact ⟨j, O', ch, by omega, rfl, rfl, HI'.out, HMU.out, fun h => ⟨(HFX.out h).1, fun pc y h1 h2 h3 => by
                    by_cases h4 : pc = j
                    · subst h4
                      rw [HXX.out] at h3
                      obtain rfl := Option.some.inj h3
                      have h5 := (HFX.out h).1
                      rw [← h5, HV.out]; exact HVQ.out.symm
                    · exact (HFX.out h).2 pc y (by omega) h2 h3⟩, HW8.out⟩
                  case measure => simp [intOf]
                · have HVQ := Lib.hid hvq
                  obtain ⟨oj, hoj⟩ : ∃ a, O'.getD j 0 = a := ⟨_, rfl⟩
                  have HOJ := Lib.hid hoj
                  rw [hoj] at hvq
                  have hne : ((v : Int) != (oj : Int)) = true := bne_iff_ne.2 (by omega)
                  clear hvq hoj
                  go_wp2_with (first | (go_at_call 55; go_must (refine (HR1.out _ (HT.out.keeps HB7W.out) (HP.out.keeps HB7W.out)).mono ?_; rintro e w8 ⟨rfl, hb8⟩; have HW8 := Lib.hid (HW7.out.keeps hb8); have z8 := HW8.out.out.lt; have f8 := HW8.out.out.frozen j; have c8 : w8.cell? ⟨w2.heap.size + 1, j, none⟩ = some (.int .i64 (oj : Int)) := (by rw [← HOJ.out]; exact HW8.out.out.cell (natI_get (by rw [HI'.out.len, HM.out]; omega))); have HST8 := Lib.hid (HW8.out.set j (v : Int)); clear hb8 z7 z6 q7 zz7)))
                  go_roundw
                  case rel => exact ⟨j, O'.set j v, true, by omega, rfl, rfl, HSTP.out.1, fun _ => by
                    have h1 := HSTP.out.2 HVQ.out
                    cases ch with
                    | true => have h2 := HMU.out rfl; omega
                    | false => have h2 := (HFX.out rfl).1; rw [← h2]; exact h1, fun h => by simp at h, by rw [← natI_set]; exact HST8.out⟩
                  case measure => simp [intOf]
              · have hi1 : (i : Int) < ln := by omega
                have hi2 : (0 : Int) ≤ i := by omega
                obtain ⟨n, hn⟩ : ∃ n, L[i]? = some n := ⟨L[i]'(by rw [HLN.out]; omega), List.getElem?_eq_getElem _⟩
                obtain ⟨gv, hgv, hgl, hcc⟩ := HCV.out (by omega)
                have cn := hcc i (by omega) |>.trans (show _ = some (Value.int .i64 (n : Int)) by simp [natI, hn])
                have hnM := HNL.out n (List.mem_of_getElem? hn)
                rw [HM.out] at hnM
                have co := HW7.out.out.cell (natI_get (O := O') (k := n) (by rw [HI'.out.len, HM.out]; exact hnM))
                have hor := or_nat (orN O' (L.take i)) (O'.getD n 0) (by have := orN_lt HI'.out.lt (L.take i); omega) (by have := getD_lt HI'.out.lt n; omega)
                rw [← orN_succ O' L i n hn] at hor
                obtain ⟨on, hon⟩ : ∃ a, O'.getD n 0 = a := ⟨_, rfl⟩
                rw [hon] at hor co
                clear hon
                have hn1 : (n : Int) < M := by omega
                have hn0 : (0 : Int) ≤ n := by omega
                subst hgv
                clear hcc hn hil
                go_wp2_with fail
                go_round
                case rel => exact ⟨i + 1, by omega, by go_num, rfl⟩
                case measure => simp [intOf]; omega
end Go.Proofs.YtfdppmjoinodgaaDoor
