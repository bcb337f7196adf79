/-
  The contract of proof.Sure.
-/
import Derived.Test.YtfdppmjoinodgaaDoorPf
import Derived.Test.YtfdppmjoinodgaaDoorCk
namespace Go.Proofs.YtfdppmjoinodgaaDoor
open Go.RowKit Tier
set_option maxRecDepth 100000 in
set_option maxHeartbeats 8000000 in
theorem psure_any (p : List Fnc) (A : Option Addr) (cap k : Nat) (f : Fnc) (w : World) (ht : Tab w) (hp : ProgAt w (.slice A p.length cap) p) (hE : progE p = 0) (hf : p[k]? = some f) :
    Calls Tryd.prog 44 #[.agg #[.slice A p.length cap], .int .i64 (k : Int)] w fun e w' =>
      (∃ b, e = .returned (.tuple #[.slice (some ⟨b, 0, none⟩) f.code.length f.code.length, .int .i64 0]) ∧ w.heap.size ≤ b ∧ IntsB w' b (outL (sureF f))) ∧ Below w.heap.size w w' := by
  have hok := prog_ok hE
  have hfo := hok.fn f (List.mem_of_getElem? hf)
  have HCK := Lib.hid (fun (W : World) (h1 : Tab W) (h2 : ProgAt W (.slice A p.length cap) p) => check_any p (.slice A p.length cap) W h1 h2 (by have := hok.l2; omega) (fun f hf => by have := (hok.fn f hf).c2; omega))
  rw [hE] at HCK
  have HT := Lib.hid ht
  have HP := Lib.hid hp
  have HFO := Lib.hid hfo
  have hk := (List.getElem?_eq_some_iff.1 hf).1
  have l2 := hok.l2
  have n1 := hfo.c1
  have n2 := hfo.c2
  obtain ⟨A0, cap0, hA0, hA⟩ := hp.slice
  simp only [Value.slice.injEq, true_and] at hA0
  obtain ⟨g, hAg, hg, hfn⟩ := hA (by omega)
  obtain ⟨rfl, rfl⟩ := hA0
  obtain ⟨u, hu, c0, c1, c2⟩ := hfn k f hf
  obtain ⟨FA, fcap, rfl, -⟩ := hu.slice
  have HU := Lib.hid hu
  have HSU := Lib.hid (sure_any f FA fcap p.length)
  subst hAg
  have hk1 : (k : Int) < p.length := by omega
  have hk0 : (0 : Int) ≤ k := by omega
  have hk2 : ¬ (k : Int) < 0 := by omega
  have hk3 : ¬ (p.length : Int) ≤ k := by omega
  clear hA hfn hp ht hfo hok hf hE hu hk
  generalize p.length = N at *
  obtain ⟨fp, fr, fc⟩ := f
  dsimp only at *
  generalize hM : fc.length = M at *
  have HM := Lib.hid hM
  clear hM
  generalize sureF ⟨fp, fr, fc⟩ = S at *
  go_enter Tryd.func44, Tryd.ntmps44
  go_wp2_with (go_at_call 51; go_must (refine (HCK.out _ (HT.out.alloc _) (HP.out.keeps ((Below.refl _ _).alloc (Nat.le_refl _) _))).mono ?_; rintro e wx ⟨rfl, hbx⟩; have hbx' : Below w.heap.size w wx := ((Below.refl _ _).alloc (Nat.le_refl _) _).trans (hbx.mono (by simp)); have HBX := Lib.hid hbx'; have hq := (hbx.block w.heap.size (by simp)).trans (heap_alloc_new w _); have q0 := cell_block hq; have zx : w.heap.size < wx.heap.size := (Array.getElem?_eq_some_iff.1 hq).1; have gx : g < wx.heap.size := Nat.lt_of_lt_of_le hg hbx'.size; have d0 := (hbx'.cell (p := ⟨g, _, none⟩) hg).trans c0; have d1 := (hbx'.cell (p := ⟨g, _, none⟩) hg).trans c1; have d2 := (hbx'.cell (p := ⟨g, _, none⟩) hg).trans c2; clear hbx hbx' hq))
  have hs0 : (0 : Int) ≤ M := by omega
  have hs1 : (M : Int) ≤ (M : Int) + 1 := by omega
  have hs2 : M ≤ M + 1 := by omega
  have hs3 : ¬ M + 1 = 0 := by omega
  go_region_held3 (fun w' => w'.cell? ⟨wx.heap.size, 0, none⟩ = some (.int .i64 fp) ∧ w'.cell? ⟨wx.heap.size, 1, none⟩ = some (.int .i64 fr) ∧ w'.cell? ⟨wx.heap.size, 2, none⟩ = some (.slice FA M fcap)) (refine ⟨?_, ?_, ?_⟩ <;> first | exact qz _ | exact cell_block (heap_alloc_new wx _) _) (first | (go_at_call 76; go_must (refine (HSU.out _ HFO.out (HU.out.keeps (by have hb := HBX.out; repeat (first | exact hb | exact Below.refl _ _ | apply Below.drew | apply below_drewN | refine Below.alloc ?_ (by first | omega | (simp; done) | (simp; omega)) _ | refine Below.setCell ?_ (by first | omega | (simp; done) | (simp; omega)) _)))).mono ?_; rintro e wz ⟨⟨b, rfl, hgb, hIB⟩, hbz⟩; have hbz' : Below wx.heap.size wx wz := (by refine Below.trans ?_ (hbz.mono (by simp)); have hb := Below.refl wx.heap.size wx; repeat (first | exact hb | exact Below.refl _ _ | apply Below.drew | apply below_drewN | refine Below.alloc ?_ (by first | omega | (simp; done) | (simp; omega)) _ | refine Below.setCell ?_ (by first | omega | (simp; done) | (simp; omega)) _)); have HBZ := Lib.hid (HBX.out.trans (hbz'.mono HBX.out.size)); have HIB := Lib.hid hIB; have HGB := Lib.hid (show w.heap.size ≤ b by have := HBX.out.size; simp at hgb; omega); have qz := cell_block ((hbz.block wx.heap.size (by simp)).trans (heap_alloc_new wx _)); clear hgb hIB hbz hbz')))
  all_goals (
    go_wp2_with fail
    refine bodyPost_ret (v := .tuple #[.slice (some ⟨b, 0, none⟩) M M, .int .i64 0]) (by simp [results, Tryd.results44, go_sem]) rfl ⟨⟨b, rfl, HGB.out, HIB.out⟩, HBZ.out⟩)
end Go.Proofs.YtfdppmjoinodgaaDoor
