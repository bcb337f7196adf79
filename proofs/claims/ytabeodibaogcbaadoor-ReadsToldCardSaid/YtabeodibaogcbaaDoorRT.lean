/-
  The walk of ReadsTold: it returns true.
-/
import Derived.Test.YtabeodibaogcbaaDoorPr
import Derived.Test.YtabeodibaogcbaaDoorKr
import Derived.Test.YtabeodibaogcbaaDoorOpn
namespace Tier
open Go Go.RowKit
def orL (l : List Int) : Nat := l.foldl (fun acc r => acc ||| 2 ^ r.toNat) 0
theorem orL_snoc (l : List Int) (r : Int) : orL (l ++ [r]) = orL l ||| 2 ^ r.toNat := by simp [orL, List.foldl_append]
theorem orL_reads (x : Ins) (n : Int) (h0 : 0 ≤ n) (h1 : n ≤ 2) : orL (rdL x n) = readsM x n := by
  unfold rdL readsM
  split
  · rfl
  · split
    · simp [orL]
    · split
      · have : n = 0 ∨ n = 1 ∨ n = 2 := by omega
        rcases this with rfl | rfl | rfl <;> simp [orL]
      · simp [orL]
theorem rdL_len (x : Ins) (n : Int) : (rdL x n).length ≤ 2 := by
  unfold rdL
  split
  · simp
  · split
    · simp
    · split
      · simp; omega
      · simp
theorem rdL_in {x : Ins} {regs k funcs : Int} (h : InsOk x regs k funcs) (hr : regs ≤ 12) (n : Int) : ∀ r ∈ rdL x n, 0 ≤ r ∧ r ≤ 11 := by
  have a1 := h.a1; have a2 := h.a2; have b1 := h.b1; have b2 := h.b2
  intro r hr'
  unfold rdL at hr'
  split at hr'
  · simp at hr'
  · split at hr'
    · simp at hr'; omega
    · split at hr'
      · have := List.mem_of_mem_take hr'
        simp at this; omega
      · simp at hr'; omega
theorem orL_lt : ∀ (l : List Int), (∀ r ∈ l, 0 ≤ r ∧ r ≤ 11) → orL l < 4096 := by
  intro l
  have key : ∀ (l : List Int) (acc : Nat), acc < 4096 → (∀ r ∈ l, 0 ≤ r ∧ r ≤ 11) → l.foldl (fun acc r => acc ||| 2 ^ r.toNat) acc < 4096 := by
    intro l
    induction l with
    | nil => intro acc h _; exact h
    | cons r l ih =>
      intro acc h hr
      have := hr r (by simp)
      exact ih _ (or_lt h (pow_lt (by omega))) (fun r' h' => hr r' (by simp [h']))
  exact key l 0 (by omega)
end Tier
namespace Go.Proofs.YtabeodibaogcbaaDoor
open Go.RowKit Tier
theorem mkFn_last (bp br : Int) (raws : List Ins) (funcs : Int) (all : Bool) : (mkFn bp br raws funcs all).code[(mkFn bp br raws funcs all).code.length - 1]? = some ⟨19, 0, 0, 0, 0⟩ := by
  rw [mkFn_len, mkFn_code, List.getElem?_append_right (by simp; omega)]
  have : (preOf bp br all).length + min raws.length 22 + 2 - 1 - (preOf bp br all ++ (raws.take 22).map (fun x => rawIns x (mkFn bp br raws funcs all).regs ((preOf bp br all).length + (min raws.length 22 : Nat) + 2) funcs)).length = 1 := by simp; omega
  rw [this]; rfl
set_option maxRecDepth 100000 in
set_option maxHeartbeats 8000000 in
theorem readsTold_walk (A : Option Addr) (l : List Fnc) (cap : Nat) (fn pc : Int) (w : World) (ht : Tab w) (hraw : RawsAt w A l) (hln : (l.length : Int) ≤ 9223372036854775807) (hfn : In fn) (hpc : In pc) :
    Calls Tryd.prog 5 #[.slice A l.length cap, .int .i64 fn, .int .i64 pc] w fun e w' => e = .returned (.bool true) ∧ Below w.heap.size w w' := by
  have HT := Lib.hid ht
  have HR := Lib.hid hraw
  have HPE := Lib.hid (progE_mk l false)
  have HML := Lib.hid (show ∀ f ∈ mkProg l false, f.code[f.code.length - 1]? = some ⟨19, 0, 0, 0, 0⟩ from fun f hf => by
    obtain ⟨g, rfl⟩ := mkProg_mem hf
    exact mkFn_last g.params g.regs g.code (funcsN l : Nat) false)
  clear ht hraw
  go_enter Tryd.func5, Tryd.ntmps5
  go_wp2_with fail
  refine (shaped_any A cap l _ hln HR.out).mono ?_
  rintro e w1 ⟨⟨A1, cap1, vs, rfl, hpv⟩, hb1⟩
  have HPV := Lib.hid hpv
  have HB1 := Lib.hid hb1
  clear hpv hb1
  generalize mkProg l false = p at *
  have HPO := Lib.hid (prog_ok HPE.out)
  have hl1 := HPO.out.l1
  have hl2 := HPO.out.l2
  have hpk := picked_in fn p.length (by omega)
  obtain ⟨k, hk⟩ : ∃ k : Nat, pickedI fn p.length = k := ⟨(pickedI fn p.length).toNat, by omega⟩
  rw [hk] at hpk
  have HPK := Lib.hid (fun (W : World) => picked_any fn p.length W hfn (by omega) (by omega))
  rw [hk] at HPK
  clear hk
  obtain ⟨A0, cap0, hA0, hA⟩ := HPV.out.at.slice
  simp only [Value.slice.injEq, true_and] at hA0
  obtain ⟨g, hAg, hg, hfn'⟩ := hA (by omega)
  obtain ⟨rfl, rfl⟩ := hA0
  have hkl : k < p.length := by omega
  obtain ⟨f, hf⟩ : ∃ f, p[k]? = some f := ⟨p[k], List.getElem?_eq_getElem hkl⟩
  have hfo := HPO.out.fn f (List.mem_of_getElem? hf)
  have n1 := hfo.c1
  have n2 := hfo.c2
  obtain ⟨u, hu, c0, c1, c2⟩ := hfn' k f hf
  obtain ⟨FA, fcap, rfl, hFA⟩ := hu.slice
  obtain ⟨gc, hgc, hgl, hin⟩ := hFA (by omega)
  have hpi := picked_in pc f.code.length (by omega)
  obtain ⟨i, hi⟩ : ∃ i : Nat, pickedI pc f.code.length = i := ⟨(pickedI pc f.code.length).toNat, by omega⟩
  rw [hi] at hpi
  have HPI := Lib.hid (fun (W : World) => picked_any pc f.code.length W hpc (by omega) (by omega))
  rw [hi] at HPI
  have hil : i < f.code.length := by omega
  obtain ⟨x, hx⟩ : ∃ x, f.code[i]? = some x := ⟨f.code[i], List.getElem?_eq_getElem hil⟩
  obtain ⟨i0, i1, i2, i3, i4⟩ := hin i x hx
  have hio := hfo.ins x (List.mem_of_getElem? hx)
  have hz := HML.out f (List.mem_of_getElem? hf)
  have HRD := Lib.hid (fun (W : World) (h1 : Tab W) (h2 : ProgAt W (.slice A1 p.length cap1) p) => preadsx_any p A1 cap1 k i f x W h1 h2 HPE.out hf hx)
  have HRZ := Lib.hid (fun (W : World) (h1 : Tab W) (h2 : ProgAt W (.slice A1 p.length cap1) p) => preadsx_any p A1 cap1 k (f.code.length - 1) f _ W h1 h2 HPE.out hf hz)
  have hpar : ∀ f ∈ p, 0 ≤ f.params ∧ f.params ≤ 2 := fun f hf => ⟨(HPO.out.fn f hf).p1, (HPO.out.fn f hf).p2⟩
  have HKR := Lib.hid (fun (W : World) (h2 : ProgAt W (.slice A1 p.length cap1) p) => kreads_any p A1 cap1 x f.regs f.code.length W h2 hio hpar)
  have hpo : 0 ≤ parOf p x ∧ parOf p x ≤ 2 := by
    unfold parOf
    cases hq : p[x.imm.toNat]? with
    | none => simp
    | some f' => simpa using hpar f' (List.mem_of_getElem? hq)
  have HOR := Lib.hid (orL_reads x (parOf p x) hpo.1 hpo.2)
  have HRL := Lib.hid (rdL_len x (parOf p x))
  have HRI := Lib.hid (rdL_in hio hfo.r2 (parOf p x))
  have hd0 := hio.dst1
  have hd1 : x.dst ≤ 11 := by have := hio.dst2; have := hfo.r2; omega
  have hk0 : (0 : Int) ≤ k := by omega
  have hk1 : (k : Int) < p.length := by omega
  have hx0 : (0 : Int) ≤ i := by omega
  have hx1 : (i : Int) < f.code.length := by omega
  subst hAg
  subst hgc
  have hsr : (setsB x = true ∧ setR x = x.dst ∧ setM x = 2 ^ x.dst.toNat) ∨ (setR x = -1 ∧ setM x = 0) := by
    cases h : setsB x
    · exact .inr ⟨by simp [setR, h], by simp [setM, h]⟩
    · exact .inl ⟨rfl, by simp [setR, h], by simp [setM, h]⟩
  have HZ0 := Lib.hid (show ((readsM ⟨19, 0, 0, 0, 0⟩ (parOf p ⟨19, 0, 0, 0, 0⟩) : Nat) : Int) = 1 by simp [readsM])
  have hcast : ((f.code.length - 1 : Nat) : Int) = (f.code.length : Int) - 1 := by omega
  rw [hcast] at HRZ
  clear hA hfn' hf hu hfo hFA hin hx hio hz hi hcast hpar
  obtain ⟨fp, fr, fc⟩ := f
  obtain ⟨op, dst, a, b, imm⟩ := x
  dsimp only at *
  generalize p.length = N at *
  generalize fc.length = M at *
  generalize readsM ⟨19, 0, 0, 0, 0⟩ (parOf p ⟨19, 0, 0, 0, 0⟩) = one at *
  rw [HZ0.out] at HRZ
  have hwM : IntKind.i64.wrap ((M : Int) - 1) = (M : Int) - 1 := by rw [IntKind.wrap_i64]; omega
  go_wp2_with (first | (go_at_call 14; (refine (HPK.out _).mono ?_; rintro e w' ⟨rfl, rfl⟩; clear HPK)) | (go_at_call 14; (refine (HPI.out _).mono ?_; rintro e w' ⟨rfl, rfl⟩; clear HPI)) | (go_at_call 17; (refine (HRD.out _ (HT.out.keeps (HB1.out.alloc HB1.out.size _)) (HPV.out.at.keeps ((Below.refl _ _).alloc (Nat.le_refl _) _))).mono ?_; rintro e wa ⟨rfl, hba⟩; clear HRD; have hba' : Below w1.heap.size w1 wa := ((Below.refl _ _).alloc (Nat.le_refl _) _).trans (hba.mono (by simp)); have HBA := Lib.hid hba'; have hqa := (hba.block w1.heap.size (by simp)).trans (heap_alloc_new w1 _); have HQA := Lib.hid hqa; have qa := cell_block hqa; have za : w1.heap.size < wa.heap.size := (Array.getElem?_eq_some_iff.1 hqa).1; have ga : g < wa.heap.size := Nat.lt_of_lt_of_le hg hba'.size; have gca : gc < wa.heap.size := Nat.lt_of_lt_of_le hgl hba'.size; have d2 := (hba'.cell (p := ⟨g, _, none⟩) hg).trans c2; have e0 := (hba'.cell (p := ⟨gc, _, none⟩) hgl).trans i0; have e1 := (hba'.cell (p := ⟨gc, _, none⟩) hgl).trans i1; have e2 := (hba'.cell (p := ⟨gc, _, none⟩) hgl).trans i2; have e3 := (hba'.cell (p := ⟨gc, _, none⟩) hgl).trans i3; have e4 := (hba'.cell (p := ⟨gc, _, none⟩) hgl).trans i4; clear hba hba' hqa)))
  go_region_held3 (fun w' => w'.cell? ⟨w1.heap.size, 0, none⟩ = some (.slice (some ⟨g, 0, none⟩) N cap1) ∧ w'.cell? ⟨g, k * 3 + 2, none⟩ = some (.slice (some ⟨gc, 0, none⟩) M fcap) ∧ w'.cell? ⟨gc, i * 5, none⟩ = some (.int .i64 op) ∧ w'.cell? ⟨gc, i * 5 + 1, none⟩ = some (.int .i64 dst) ∧ w'.cell? ⟨gc, i * 5 + 2, none⟩ = some (.int .i64 a) ∧ w'.cell? ⟨gc, i * 5 + 3, none⟩ = some (.int .i64 b) ∧ w'.cell? ⟨gc, i * 5 + 4, none⟩ = some (.int .i64 imm)) (refine ⟨?_, ?_, ?_, ?_, ?_, ?_, ?_⟩ <;> first | exact qb _ | exact f2 | exact y0 | exact y1 | exact y2 | exact y3 | exact y4 | exact qa _ | exact d2 | exact e0 | exact e1 | exact e2 | exact e3 | exact e4) (first | (go_at_call 18; go_must (refine (HKR.out _ (HPV.out.at.keeps (by have hb := HBA.out; repeat (first | exact hb | exact Below.refl _ _ | apply Below.drew | apply below_drewN | refine Below.alloc ?_ (by first | omega | (simp; done) | (simp; omega)) _ | refine Below.setCell ?_ (by first | omega | (simp; done) | (simp; omega)) _)))).mono ?_; rintro e wb ⟨⟨v, rfl, hov⟩, hbb⟩; clear HKR; have hbb' : Below wa.heap.size wa wb := (by refine Below.trans ?_ (hbb.mono (by simp)); have hb := Below.refl wa.heap.size wa; repeat (first | exact hb | exact Below.refl _ _ | apply Below.drew | apply below_drewN | refine Below.alloc ?_ (by first | omega | (simp; done) | (simp; omega)) _ | refine Below.setCell ?_ (by first | omega | (simp; done) | (simp; omega)) _)); have HBB := Lib.hid (HBA.out.trans (hbb'.mono HBA.out.size)); have hqb := (hbb'.block w1.heap.size za).trans HQA.out; have HQB := Lib.hid hqb; have qb := cell_block hqb; have zb : w1.heap.size < wb.heap.size := (Array.getElem?_eq_some_iff.1 hqb).1; have gb : g < wb.heap.size := Nat.lt_of_lt_of_le ga hbb'.size; have f2 := (hbb'.cell (p := ⟨g, _, none⟩) ga).trans d2; have y0 := (hbb'.cell (p := ⟨gc, _, none⟩) gca).trans e0; have y1 := (hbb'.cell (p := ⟨gc, _, none⟩) gca).trans e1; have y2 := (hbb'.cell (p := ⟨gc, _, none⟩) gca).trans e2; have y3 := (hbb'.cell (p := ⟨gc, _, none⟩) gca).trans e3; have y4 := (hbb'.cell (p := ⟨gc, _, none⟩) gca).trans e4; have HOV := Lib.hid hov; obtain ⟨Av, capv, hv, -⟩ := own_slice hov; subst hv; clear hov hbb hbb' hqb)))
  all_goals (
    rename_i hHeld
    clear hHeld y0 y1 y2 y3 y4 e0 e1 e2 e3 e4 d2 qa
    obtain ⟨A9, cap9, hA9, hrow⟩ := own_slice HOV.out
    simp only [Value.slice.injEq, true_and] at hA9
    obtain ⟨rfl, rfl⟩ := hA9
    generalize rdL ⟨op, dst, a, b, imm⟩ (parOf p ⟨op, dst, a, b, imm⟩) = L at *
    have hLl := HRL.out
    have HOR2 := Lib.hid HOR.out.symm
    obtain ⟨gv, hgv⟩ : ∃ gv, ∀ (j : Nat) (r : Int), L[j]? = some r → Av = some ⟨gv, 0, none⟩ ∧ gv < wb.heap.size ∧ wb.cell? ⟨gv, j, none⟩ = some (.int .i64 r) := by
      by_cases h0 : 0 < L.length
      · obtain ⟨gv, h1, h2, h3⟩ := hrow h0
        refine ⟨gv, fun j r hj => ⟨h1, h2, ?_⟩⟩
        have hjl : j < L.length := (List.getElem?_eq_some_iff.1 hj).1
        rw [h3 j (by omega)]; simp [hj]
      · refine ⟨0, fun j r hj => ?_⟩
        rw [List.eq_nil_of_length_eq_zero (by omega : L.length = 0)] at hj
        simp at hj
    have HGV := Lib.hid hgv
    clear hrow hgv
    generalize hLN : L.length = ln at *
    have HLN := Lib.hid hLN
    clear hLN
    go_wp2_with fail
    go_loop [15, 16] (fun n i => ∃ (j acc : Nat), j ≤ ln ∧ i = .int .i64 (j : Nat) ∧ n = .int .i64 (acc : Nat) ∧ acc = orL (L.take j)) (fun _ i => ln - (intOf i).toNat)
    case atStart => exact ⟨0, 0, by omega, rfl, rfl, rfl⟩
    case round =>
      obtain ⟨j, acc, hj, rfl, rfl, hacc⟩ := hrel
      have HACC := Lib.hid hacc
      clear hacc
      by_cases hjl : j = ln
      · subst hjl
        have hfin : acc = readsM ⟨op, dst, a, b, imm⟩ (parOf p ⟨op, dst, a, b, imm⟩) := by
          rw [HACC.out, HOR2.out, List.take_of_length_le (by rw [HLN.out]; exact Nat.le_refl _)]
        rw [← hfin]
        clear hfin HACC
        rcases hsr with ⟨-, hs1, hs2⟩ | ⟨hs1, hs2⟩
        · rw [hs1, hs2]
          have sdst := shl_one dst hd0 (by omega)
          clear hs1 hs2
          go_wp2_with fail
          go_region_held3 (fun w' => w'.cell? ⟨w1.heap.size, 0, none⟩ = some (.slice (some ⟨g, 0, none⟩) N cap1) ∧ w'.cell? ⟨g, k * 3 + 2, none⟩ = some (.slice (some ⟨gc, 0, none⟩) M fcap)) (refine ⟨?_, ?_⟩ <;> first | exact k0 | exact k2 | exact qb _ | exact f2) (first | (go_at_call 17; first | rw [hwM] | skip; go_must (refine (HRZ.out _ (HT.out.keeps (by have hb := HB1.out.trans (HBB.out.mono HB1.out.size); repeat (first | exact hb | exact Below.refl _ _ | apply Below.drew | apply below_drewN | refine Below.alloc ?_ (by first | omega | (simp; done) | (simp; omega)) _ | refine Below.setCell ?_ (by first | omega | (simp; done) | (simp; omega)) _))) (HPV.out.at.keeps (by have hb := HBB.out; repeat (first | exact hb | exact Below.refl _ _ | apply Below.drew | apply below_drewN | refine Below.alloc ?_ (by first | omega | (simp; done) | (simp; omega)) _ | refine Below.setCell ?_ (by first | omega | (simp; done) | (simp; omega)) _)))).mono ?_; rintro e wc ⟨rfl, hbc⟩; clear HRZ; have hbc' : Below wb.heap.size wb wc := (by refine Below.trans ?_ (hbc.mono (by simp)); have hb := Below.refl wb.heap.size wb; repeat (first | exact hb | exact Below.refl _ _ | apply Below.drew | apply below_drewN | refine Below.alloc ?_ (by first | omega | (simp; done) | (simp; omega)) _ | refine Below.setCell ?_ (by first | omega | (simp; done) | (simp; omega)) _)); have HBC := Lib.hid (HBB.out.trans (hbc'.mono HBB.out.size)); have k0 : wc.cell? ⟨w1.heap.size, 0, none⟩ = some (.slice (some ⟨g, 0, none⟩) N cap1) := (hbc'.cell (p := ⟨w1.heap.size, 0, none⟩) zb).trans (by rw [qb]; rfl); have k2 := (hbc'.cell (p := ⟨g, _, none⟩) gb).trans f2; clear hbc hbc')))
          all_goals go_wp2_with fail
          all_goals go_ret
          all_goals exact ⟨rfl, HB1.out.trans (HBC.out.mono HB1.out.size)⟩
        · rw [hs1, hs2]
          clear hs1 hs2
          go_wp2_with fail
          go_region_held3 (fun w' => w'.cell? ⟨w1.heap.size, 0, none⟩ = some (.slice (some ⟨g, 0, none⟩) N cap1) ∧ w'.cell? ⟨g, k * 3 + 2, none⟩ = some (.slice (some ⟨gc, 0, none⟩) M fcap)) (refine ⟨?_, ?_⟩ <;> first | exact k0 | exact k2 | exact qb _ | exact f2) (first | (go_at_call 17; first | rw [hwM] | skip; go_must (refine (HRZ.out _ (HT.out.keeps (by have hb := HB1.out.trans (HBB.out.mono HB1.out.size); repeat (first | exact hb | exact Below.refl _ _ | apply Below.drew | apply below_drewN | refine Below.alloc ?_ (by first | omega | (simp; done) | (simp; omega)) _ | refine Below.setCell ?_ (by first | omega | (simp; done) | (simp; omega)) _))) (HPV.out.at.keeps (by have hb := HBB.out; repeat (first | exact hb | exact Below.refl _ _ | apply Below.drew | apply below_drewN | refine Below.alloc ?_ (by first | omega | (simp; done) | (simp; omega)) _ | refine Below.setCell ?_ (by first | omega | (simp; done) | (simp; omega)) _)))).mono ?_; rintro e wc ⟨rfl, hbc⟩; clear HRZ; have hbc' : Below wb.heap.size wb wc := (by refine Below.trans ?_ (hbc.mono (by simp)); have hb := Below.refl wb.heap.size wb; repeat (first | exact hb | exact Below.refl _ _ | apply Below.drew | apply below_drewN | refine Below.alloc ?_ (by first | omega | (simp; done) | (simp; omega)) _ | refine Below.setCell ?_ (by first | omega | (simp; done) | (simp; omega)) _)); have HBC := Lib.hid (HBB.out.trans (hbc'.mono HBB.out.size)); have k0 : wc.cell? ⟨w1.heap.size, 0, none⟩ = some (.slice (some ⟨g, 0, none⟩) N cap1) := (hbc'.cell (p := ⟨w1.heap.size, 0, none⟩) zb).trans (by rw [qb]; rfl); have k2 := (hbc'.cell (p := ⟨g, _, none⟩) gb).trans f2; clear hbc hbc')))
          all_goals go_wp2_with fail
          all_goals go_ret
          all_goals exact ⟨rfl, HB1.out.trans (HBC.out.mono HB1.out.size)⟩
      · have hjl2 : (j : Int) < ln := by omega
        obtain ⟨r, hr⟩ : ∃ r, L[j]? = some r := ⟨L[j]'(by rw [HLN.out]; omega), List.getElem?_eq_getElem _⟩
        obtain ⟨hAv, hgl2, hc⟩ := HGV.out j r hr
        have hri := HRI.out r (List.mem_of_getElem? hr)
        have sr := shl_one r hri.1 (by omega)
        have hacc4 : acc < 4096 := by rw [HACC.out]; exact orL_lt _ (fun r hr => HRI.out r (List.mem_of_mem_take hr))
        have hp : 2 ^ r.toNat < 4096 := pow_lt (by omega)
        have sor := or_nat acc (2 ^ r.toNat) (by omega) (by omega)
        have HN := Lib.hid (show acc ||| 2 ^ r.toNat = orL (L.take (j + 1)) by rw [List.take_add_one, hr, HACC.out]; exact (orL_snoc _ _).symm)
        push_cast at sor
        obtain ⟨acc2, ha2⟩ : ∃ acc2, acc ||| 2 ^ r.toNat = acc2 := ⟨_, rfl⟩
        rw [ha2] at sor HN
        subst hAv
        have hr0 : 0 ≤ r := hri.1
        have hr1 : r ≤ 11 := hri.2
        clear hr ha2 hp hri
        go_wp2_with fail
        go_round
        case rel => exact ⟨j + 1, acc2, by omega, by go_num, rfl, HN.out⟩
        case measure => simp [intOf]; omega)
end Go.Proofs.YtabeodibaogcbaaDoor
