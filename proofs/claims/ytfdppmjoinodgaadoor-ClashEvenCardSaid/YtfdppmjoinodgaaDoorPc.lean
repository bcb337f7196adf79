/-
  The contract of proof.Check.
-/
import Derived.Test.YtfdppmjoinodgaaDoorPf
import Derived.Test.YtfdppmjoinodgaaDoorCk
namespace Go.Proofs.YtfdppmjoinodgaaDoor
open Go.RowKit Tier
set_option maxRecDepth 100000 in
set_option maxHeartbeats 8000000 in
theorem pcheck_any (p : List Fnc) (A : Option Addr) (cap : Nat) (w : World) (ht : Tab w) (hp : ProgAt w (.slice A p.length cap) p) (hl : (p.length : Int) ≤ 4611686018427387904) (hcl : ∀ f ∈ p, (f.code.length : Int) ≤ 4611686018427387904) :
    Calls Tryd.prog 27 #[.agg #[.slice A p.length cap]] w fun e w' => e = .returned (.int .i64 (checkP p)) ∧ Below w.heap.size w w' := by
  have HCK := Lib.hid (fun (W : World) (h1 : Tab W) (h2 : ProgAt W (.slice A p.length cap) p) => check_any p (.slice A p.length cap) W h1 h2 hl hcl)
  have HT := Lib.hid ht
  have HP := Lib.hid hp
  have HFA := Lib.hid (fun (h : progE p = 0) (f : Fnc) (hf : f ∈ p) (FA : Option Addr) (fcap : Nat) (W : World) (h1 : ProgAt W (.slice A p.length cap) p) (h2 : CodeAt W (.slice FA f.code.length fcap) f.code) => pfn_any p A cap f FA fcap W h1 (prog_ok h) hf h2)
  by_cases hE : progE p = 0
  · have HOK := Lib.hid (prog_ok hE)
    have HX := Lib.hid (show checkP p = firstE (p.map (fnP p)) from if_neg (by simp [hE]))
    have HF0 := Lib.hid (HFA.out hE)
    have l1 := HOK.out.l1
    have l2 := HOK.out.l2
    obtain ⟨A0, cap0, hA0, hA⟩ := hp.slice
    simp only [Value.slice.injEq, true_and] at hA0
    obtain ⟨g, hAg, hg, hfn⟩ := hA (by omega)
    obtain ⟨rfl, rfl⟩ := hA0
    have HF := Lib.hid hfn
    subst hAg
    clear hA hfn hp ht HFA hl hcl
    generalize hN : p.length = N at *
    have HN := Lib.hid hN
    clear hN
    rw [hE] at HCK
    clear hE
    go_enter Tryd.func27, Tryd.ntmps27
    go_wp2_with (go_at_call 51; go_must (refine (HCK.out _ (HT.out.alloc _) (HP.out.keeps ((Below.refl _ _).alloc (Nat.le_refl _) _))).mono ?_; rintro e wx ⟨rfl, hbx⟩; have HBX := Lib.hid (show Below w.heap.size w wx from ((Below.refl _ _).alloc (Nat.le_refl _) _).trans (hbx.mono (by simp))); have HQ := Lib.hid ((hbx.block w.heap.size (by simp)).trans (heap_alloc_new w _)); have q0 := cell_block HQ.out; have zx : w.heap.size < wx.heap.size := (Array.getElem?_eq_some_iff.1 HQ.out).1; clear hbx))
    go_loopw [15] (fun v wr => ∃ k : Nat, k ≤ N ∧ v = .int .i64 (k : Int) ∧ (∀ j, j < k → (p.map (fnP p))[j]? = some 0) ∧ Below wx.heap.size wx wr) (fun v _ => N - (intOf v).toNat)
    case atStart => exact ⟨0, by omega, rfl, by omega, Below.refl _ _⟩
    case round =>
      obtain ⟨k, hk, rfl, hj, hbr⟩ := hrel
      have HJ := Lib.hid hj
      have HBW := Lib.hid (HBX.out.trans (hbr.mono HBX.out.size))
      have HBR := Lib.hid hbr
      have qr0 := cell_block ((hbr.block _ zx).trans HQ.out)
      have zr0 : w.heap.size < wr.heap.size := Nat.lt_of_lt_of_le zx hbr.size
      clear hj hbr
      by_cases hkN : k = N
      · subst hkN
        go_wp2_with fail
        go_ret
        refine ⟨ret_int ?_, HBW.out⟩
        rw [HX.out]
        exact (firstE_zero fun j hj => HJ.out j (by simpa [HN.out] using hj)).symm
      · have hkN' : (k : Int) < N := by omega
        have hgz : g < wr.heap.size := Nat.lt_of_lt_of_le hg HBW.out.size
        obtain ⟨f, hf⟩ : ∃ f, p[k]? = some f := ⟨p[k]'(by have := HN.out; omega), List.getElem?_eq_getElem _⟩
        obtain ⟨u, hu, c0, c1, c2⟩ := HF.out k f hf
        rw [← HBW.out.cell (p := ⟨g, _, none⟩) hg] at c0 c1 c2
        obtain ⟨CA, ccap, rfl, -⟩ := hu.slice
        have HU := Lib.hid hu
        have HCL := Lib.hid (HF0.out f (List.mem_of_getElem? hf) CA ccap)
        have HE := Lib.hid (show (p.map (fnP p))[k]? = some (fnP p f) by simp [hf])
        clear hf hu hkN
        obtain ⟨fp, fr, fc⟩ := f
        dsimp only at *
        by_cases hz : fnP p ⟨fp, fr, fc⟩ = 0
        · rw [hz] at HCL HE
          clear hz
          go_wp2_with (go_at_call 52; go_must (refine (HCL.out _ (HP.out.keeps (by have hb := HBW.out; repeat (first | exact hb | exact Below.refl _ _ | apply Below.drew | apply below_drewN | refine Below.alloc ?_ (by first | omega | (simp; done) | (simp; omega)) _ | refine Below.setCell ?_ (by first | omega | (simp; done) | (simp; omega)) _))) (HU.out.keeps (by have hb := HBW.out; repeat (first | exact hb | exact Below.refl _ _ | apply Below.drew | apply below_drewN | refine Below.alloc ?_ (by first | omega | (simp; done) | (simp; omega)) _ | refine Below.setCell ?_ (by first | omega | (simp; done) | (simp; omega)) _)))).mono ?_; rintro e wz ⟨rfl, hbz⟩; have hbz' : Below wr.heap.size wr wz := (by refine Below.trans ?_ (hbz.mono (by simp)); have hb := Below.refl wr.heap.size wr; repeat (first | exact hb | exact Below.refl _ _ | apply Below.drew | apply below_drewN | refine Below.alloc ?_ (by first | omega | (simp; done) | (simp; omega)) _ | refine Below.setCell ?_ (by first | omega | (simp; done) | (simp; omega)) _))))
          go_roundw
          case rel =>
            refine ⟨k + 1, by omega, by go_num, fun j hj => ?_, HBR.out.trans (hbz'.mono HBR.out.size)⟩
            rcases Nat.lt_succ_iff_lt_or_eq.1 hj with h | h
            · exact HJ.out j h
            · rw [h]; exact HE.out
          case measure => simp [intOf]; omega
        · have Y := Lib.hid (show checkP p = fnP p ⟨fp, fr, fc⟩ from HX.out.trans (firstE_at HE.out hz HJ.out))
          have hne : (fnP p ⟨fp, fr, fc⟩ != 0) = true := by simpa using hz
          clear hz HE
          generalize fnP p ⟨fp, fr, fc⟩ = ee at *
          go_wp2_with (go_at_call 52; go_must (refine (HCL.out _ (HP.out.keeps (by have hb := HBW.out; repeat (first | exact hb | exact Below.refl _ _ | apply Below.drew | apply below_drewN | refine Below.alloc ?_ (by first | omega | (simp; done) | (simp; omega)) _ | refine Below.setCell ?_ (by first | omega | (simp; done) | (simp; omega)) _))) (HU.out.keeps (by have hb := HBW.out; repeat (first | exact hb | exact Below.refl _ _ | apply Below.drew | apply below_drewN | refine Below.alloc ?_ (by first | omega | (simp; done) | (simp; omega)) _ | refine Below.setCell ?_ (by first | omega | (simp; done) | (simp; omega)) _)))).mono ?_; rintro e wz ⟨rfl, hbz⟩; have hbz' : Below wr.heap.size wr wz := (by refine Below.trans ?_ (hbz.mono (by simp)); have hb := Below.refl wr.heap.size wr; repeat (first | exact hb | exact Below.refl _ _ | apply Below.drew | apply below_drewN | refine Below.alloc ?_ (by first | omega | (simp; done) | (simp; omega)) _ | refine Below.setCell ?_ (by first | omega | (simp; done) | (simp; omega)) _))))
          go_ret
          exact ⟨ret_int Y.out.symm, HBW.out.trans (hbz'.mono HBW.out.size)⟩
  · have HX := Lib.hid (show checkP p = progE p from if_pos hE)
    have hne : (progE p != 0) = true := by simpa using hE
    clear hE HFA hp ht
    generalize progE p = ee at *
    go_enter Tryd.func27, Tryd.ntmps27
    go_wp2_with (go_at_call 51; go_must (refine (HCK.out _ (HT.out.alloc _) (HP.out.keeps ((Below.refl _ _).alloc (Nat.le_refl _) _))).mono ?_; rintro e wx ⟨rfl, hbx⟩))
    go_ret
    exact ⟨ret_int HX.out.symm, ((Below.refl _ _).alloc (Nat.le_refl _) _).trans (hbx.mono (by simp))⟩
end Go.Proofs.YtfdppmjoinodgaaDoor
