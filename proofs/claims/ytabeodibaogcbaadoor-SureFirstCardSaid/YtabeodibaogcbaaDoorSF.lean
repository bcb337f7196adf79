/-
  The walk of SureFirst: it returns true.
-/
import Derived.Test.YtabeodibaogcbaaDoorPg
import Derived.Test.YtabeodibaogcbaaDoorPs
import Derived.Test.YtabeodibaogcbaaDoorSuL
import Derived.Test.YtabeodibaogcbaaDoorOpn
namespace Go.Proofs.YtabeodibaogcbaaDoor
open Go.RowKit Tier
set_option maxRecDepth 100000 in
set_option maxHeartbeats 8000000 in
theorem sureFirst_walk (A : Option Addr) (l : List Fnc) (cap : Nat) (fn : Int) (w : World) (ht : Tab w) (hraw : RawsAt w A l) (hln : (l.length : Int) ≤ 9223372036854775807) (hfn : In fn) :
    Calls Tryd.prog 10 #[.slice A l.length cap, .int .i64 fn] w fun e w' => e = .returned (.bool true) ∧ Below w.heap.size w w' := by
  have HT := Lib.hid ht
  have HR := Lib.hid hraw
  have hright := mkP_right l
  have hPE : progE (mkP l) = 0 := by
    unfold checkP at hright
    by_cases h : progE (mkP l) = 0
    · exact h
    · rw [if_pos h] at hright; exact hright
  have HPE := Lib.hid hPE
  clear ht hraw hright hPE
  go_enter Tryd.func10, Tryd.ntmps10
  go_wp2_with fail
  refine (program_any A cap l _ HT.out hln HR.out).mono ?_
  rintro e w1 ⟨⟨A1, cap1, vs, rfl, hpv⟩, hb1⟩
  have HPV := Lib.hid hpv
  have HB1 := Lib.hid hb1
  clear hpv hb1
  generalize mkP l = p at *
  have HPO := Lib.hid (prog_ok HPE.out)
  have hl1 := HPO.out.l1
  have hl2 := HPO.out.l2
  have hpk := picked_in fn p.length (by omega)
  obtain ⟨k, hk⟩ : ∃ k : Nat, pickedI fn p.length = k := ⟨(pickedI fn p.length).toNat, by omega⟩
  rw [hk] at hpk
  have HPK := Lib.hid (fun (W : World) => picked_any fn p.length W hfn (by omega) (by omega))
  rw [hk] at HPK
  clear hk
  obtain ⟨A0, cap0, hA0, hA⟩ := HPV.out.at.slice
  simp only [Value.slice.injEq, true_and] at hA0
  obtain ⟨g, hAg, hg, hfn'⟩ := hA (by omega)
  obtain ⟨rfl, rfl⟩ := hA0
  have hkl : k < p.length := by omega
  obtain ⟨f, hf⟩ : ∃ f, p[k]? = some f := ⟨p[k], List.getElem?_eq_getElem hkl⟩
  have hfo := HPO.out.fn f (List.mem_of_getElem? hf)
  obtain ⟨u, hu, c0, c1, c2⟩ := hfn' k f hf
  obtain ⟨FA, fcap, rfl, -⟩ := hu.slice
  have HSU := Lib.hid (fun (W : World) (h1 : Tab W) (h2 : ProgAt W (.slice A1 p.length cap1) p) => psure_any p A1 cap1 k f W h1 h2 HPE.out hf)
  have HSL := Lib.hid (sureF_length hfo.cok hfo.p2)
  have HZ := Lib.hid (sure_zero hfo.cok hfo.p2)
  have HGE := Lib.hid (sure_ge hfo.cok hfo.p2)
  have HRG := Lib.hid (sure_regs hfo)
  have HMK := Lib.hid (fun (i m : Nat) => sureF_mask hfo.cok hfo.p2 i m)
  have n1 := hfo.c1
  have n2 := hfo.c2
  have p1 := hfo.p1
  have p2 := hfo.p2
  have r1 := hfo.r1
  have r2 := hfo.r2
  have hk0 : (0 : Int) ≤ k := by omega
  have hk1 : (k : Int) < p.length := by omega
  subst hAg
  clear hA hfn' hf hu hfo
  obtain ⟨fp, fr, fc⟩ := f
  dsimp only at *
  generalize p.length = N at *
  generalize fc.length = M at *
  generalize sureF ⟨fp, fr, fc⟩ = S at *
  have hmk := first_mask fp p1 p2
  have hrg : wrap64 ((2 : Int) ^ fr.toNat) = ((2 ^ fr.toNat : Nat) : Int) := by
    have hp : 2 ^ fr.toNat ≤ 2 ^ 12 := Nat.pow_le_pow_right (by omega) (by omega)
    have : ((2 : Int) ^ fr.toNat) = ((2 ^ fr.toNat : Nat) : Int) := by push_cast; rfl
    rw [this, wrap64]
    simp only [Nat.reducePow] at hp
    generalize 2 ^ fr.toNat = q at *
    omega
  obtain ⟨m0, hm0⟩ : ∃ m0, 2 ^ fp.toNat - 1 = m0 := ⟨_, rfl⟩
  obtain ⟨R, hR⟩ : ∃ R, 2 ^ fr.toNat = R := ⟨_, rfl⟩
  have hm0b : m0 < 4096 := by have : 2 ^ fp.toNat < 4096 := pow_lt (by omega); omega
  rw [hm0] at hmk HZ HGE
  rw [hR] at hrg HRG
  clear hm0 hR
  go_wp2_with (first | (go_at_call 14; go_must (refine (HPK.out _).mono ?_; rintro e w' ⟨rfl, rfl⟩)) | (go_at_call 23; go_must (refine (HSU.out _ (HT.out.keeps (HB1.out.alloc HB1.out.size _)) (HPV.out.at.keeps (by have hb := Below.refl w1.heap.size w1; repeat (first | exact hb | exact Below.refl _ _ | apply Below.drew | apply below_drewN | refine Below.alloc ?_ (by first | omega | (simp; done) | (simp; omega)) _ | refine Below.setCell ?_ (by first | omega | (simp; done) | (simp; omega)) _)))).mono ?_; rintro e wz ⟨⟨b, rfl, hgb, hIB⟩, hbz⟩; have hbz' : Below w1.heap.size w1 wz := (by refine Below.trans ?_ (hbz.mono (by simp)); have hb := Below.refl w1.heap.size w1; repeat (first | exact hb | exact Below.refl _ _ | apply Below.drew | apply below_drewN | refine Below.alloc ?_ (by first | omega | (simp; done) | (simp; omega)) _ | refine Below.setCell ?_ (by first | omega | (simp; done) | (simp; omega)) _)); have HBZ := Lib.hid (HB1.out.trans (hbz'.mono HB1.out.size)); have HIB := Lib.hid hIB; have hqz := (hbz.block w1.heap.size (by simp)).trans (heap_alloc_new w1 _); have qz := cell_block hqz; have zz : w1.heap.size < wz.heap.size := (Array.getElem?_eq_some_iff.1 hqz).1; have d0 := (hbz'.cell (p := ⟨g, _, none⟩) hg).trans c0; have d1 := (hbz'.cell (p := ⟨g, _, none⟩) hg).trans c1; have d2 := (hbz'.cell (p := ⟨g, _, none⟩) hg).trans c2; have gz : g < wz.heap.size := Nat.lt_of_lt_of_le hg hbz'.size; have bz : b < wz.heap.size := hIB.lt; have e0 : wz.cell? ⟨b, 0, none⟩ = some (.int .i64 (m0 : Int)) := hIB.cell (outL_get HZ.out); clear hgb hIB hbz hbz' hqz)))
  have hM0 : ¬ M = 0 := by omega
  go_quiet (fail)
  go_wp2_with fail
  go_loopw [10] (fun v wr => ∃ i : Nat, i ≤ M ∧ v = .int .i64 (i : Int) ∧ Below wz.heap.size wz wr ∧ wr.heap[wz.heap.size]? = some (.cells #[.int .i64 fp, .int .i64 fr, .slice FA M fcap] 30 (0, 0))) (fun v _ => M - (intOf v).toNat)
  case atStart =>
    refine ⟨0, by omega, rfl, ?_, heap_alloc_new _ _⟩
    have hb := Below.refl wz.heap.size wz
    repeat (first | exact hb | exact Below.refl _ _ | apply Below.drew | apply below_drewN | refine Below.alloc ?_ (by first | omega | (simp; done) | (simp; omega)) _ | refine Below.setCell ?_ (by first | omega | (simp; done) | (simp; omega)) _)
  case round =>
    obtain ⟨i, hi, rfl, hbr, hq⟩ := hrel
    have HBR := Lib.hid hbr
    have HQ := Lib.hid hq
    have qr := cell_block hq
    have zr : wz.heap.size < wr.heap.size := (Array.getElem?_eq_some_iff.1 hq).1
    have zb : b < wr.heap.size := by omega
    by_cases hiM : i = M
    · subst hiM
      clear hbr hq
      go_wp2_with fail
      go_ret
      exact ⟨rfl, HBZ.out.trans (HBR.out.mono HBZ.out.size)⟩
    · have hi1 : (i : Int) < M := by omega
      have hi0 : (0 : Int) ≤ i := by omega
      obtain ⟨o, ho⟩ : ∃ o, S[i]? = some o := ⟨S[i]'(by rw [HSL.out]; omega), List.getElem?_eq_getElem _⟩
      have co : wr.cell? ⟨b, i, none⟩ = some (.int .i64 (oI o)) := (hbr.cell (p := ⟨b, i, none⟩) bz).trans (HIB.out.cell (outL_get ho))
      have c0' : wr.cell? ⟨b, 0, none⟩ = some (.int .i64 (m0 : Int)) := (hbr.cell (p := ⟨b, 0, none⟩) bz).trans e0
      cases o with
      | none =>
        simp only [oI] at co
        have hR0 : ((R : Int) ≤ -1) = False := by simp; omega
        clear hbr hq hiM ho
        go_wp2_with fail
        go_quiet (fail)
        go_wp2_with fail
        go_roundw
        case rel =>
          refine ⟨i + 1, by omega, by go_num, ?_, HQ.out⟩
          have hb := HBR.out
          repeat (first | exact hb | exact Below.refl _ _ | apply Below.drew | apply below_drewN | refine Below.alloc ?_ (by first | omega | (simp; done) | (simp; omega)) _ | refine Below.setCell ?_ (by first | omega | (simp; done) | (simp; omega)) _)
        case measure => simp [intOf]; omega
      | some m =>
        simp only [oI] at co
        have hmR := HRG.out i m ho
        have hm4 := HMK.out i m ho
        have hge := and_nat m m0 (by omega) (by omega)
        rw [HGE.out i m ho] at hge
        have hR0 : ((R : Int) ≤ m) = False := by simp; omega
        have hR1 : (R ≤ m) = False := by simp; omega
        clear hbr hq hiM ho
        go_wp2_with fail
        go_quiet (fail)
        go_wp2_with fail
        go_roundw
        case rel =>
          refine ⟨i + 1, by omega, by go_num, ?_, HQ.out⟩
          have hb := HBR.out
          repeat (first | exact hb | exact Below.refl _ _ | apply Below.drew | apply below_drewN | refine Below.alloc ?_ (by first | omega | (simp; done) | (simp; omega)) _ | refine Below.setCell ?_ (by first | omega | (simp; done) | (simp; omega)) _)
        case measure => simp [intOf]; omega
end Go.Proofs.YtabeodibaogcbaaDoor
