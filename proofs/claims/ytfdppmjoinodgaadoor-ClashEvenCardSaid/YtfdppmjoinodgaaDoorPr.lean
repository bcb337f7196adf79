/-
  The contract of proof.Reads.
-/
import Derived.Test.YtfdppmjoinodgaaDoorSu1
import Derived.Test.YtfdppmjoinodgaaDoorAn
import Derived.Test.YtfdppmjoinodgaaDoorCk
namespace Go.Proofs.YtfdppmjoinodgaaDoor
open Go.RowKit Tier
set_option maxRecDepth 100000 in
set_option maxHeartbeats 8000000 in
theorem preadsx_any (p : List Fnc) (A : Option Addr) (cap k pc : Nat) (f : Fnc) (x : Ins) (w : World) (ht : Tab w) (hp : ProgAt w (.slice A p.length cap) p) (hE : progE p = 0) (hf : p[k]? = some f) (hx : f.code[pc]? = some x) :
    Calls Tryd.prog 55 #[.agg #[.slice A p.length cap], .int .i64 (k : Int), .int .i64 (pc : Int)] w fun e w' =>
      e = .returned (.tuple #[.int .i64 (readsM x (parOf p x) : Nat), .int .i64 (setM x : Nat), .int .i64 0]) ∧ Below w.heap.size w w' := by
  have hok := prog_ok hE
  have hfo := hok.fn f (List.mem_of_getElem? hf)
  have hio := hfo.ins x (List.mem_of_getElem? hx)
  have HCK := Lib.hid (fun (W : World) (h1 : Tab W) (h2 : ProgAt W (.slice A p.length cap) p) => check_any p (.slice A p.length cap) W h1 h2 (by have := hok.l2; omega) (fun f hf => by have := (hok.fn f hf).c2; omega))
  rw [hE] at HCK
  have HT := Lib.hid ht
  have HP := Lib.hid hp
  have hk := (List.getElem?_eq_some_iff.1 hf).1
  have hpc := (List.getElem?_eq_some_iff.1 hx).1
  have l2 := hok.l2
  have n2 := hfo.c2
  obtain ⟨A0, cap0, hA0, hA⟩ := hp.slice
  simp only [Value.slice.injEq, true_and] at hA0
  obtain ⟨g, hAg, hg, hfn⟩ := hA (by omega)
  obtain ⟨rfl, rfl⟩ := hA0
  obtain ⟨u, hu, c0, c1, c2⟩ := hfn k f hf
  obtain ⟨FA, fcap, rfl, hFA⟩ := hu.slice
  obtain ⟨gc, hgc, hgl, hin⟩ := hFA (by omega)
  obtain ⟨i0, i1, i2, i3, i4⟩ := hin pc x hx
  have HRD := Lib.hid (fun (W : World) (hW : ProgAt W (.slice A p.length cap) p) => preads_any p A cap x f.regs f.code.length W hW hio hfo.r2 (fun f hf => ⟨(hok.fn f hf).p1, (hok.fn f hf).p2⟩))
  have HSM := Lib.hid (setM_lt hio hfo.r2)
  have hd0 := hio.dst1
  have hd1 : x.dst ≤ 11 := by have := hio.dst2; have := hfo.r2; omega
  subst hAg
  subst hgc
  have hk1 : (k : Int) < p.length := by omega
  have hk0 : (0 : Int) ≤ k := by omega
  have hp0 : (0 : Int) ≤ pc := by omega
  have hp1 : (pc : Int) < f.code.length := by omega
  clear hA hfn hp ht hfo hok hf hE hu hk hFA hin hx hio
  generalize p.length = N at *
  obtain ⟨fp, fr, fc⟩ := f
  obtain ⟨op, dst, a, b, imm⟩ := x
  dsimp only at *
  generalize fc.length = M at *
  obtain ⟨r, hr⟩ : ∃ r, readsM ⟨op, dst, a, b, imm⟩ (parOf p ⟨op, dst, a, b, imm⟩) = r := ⟨_, rfl⟩
  rw [hr] at HRD
  rw [hr]
  clear hr
  have hlt0 : ((k : Int) < 0) = False := by simp
  have hlt1 : ((N : Int) ≤ k) = False := by simp; omega
  have hlt2 : ((pc : Int) < 0) = False := by simp
  have hlt3 : ((M : Int) ≤ pc) = False := by simp; omega
  have hlt4 : (N ≤ k) = False := by simp; omega
  have hlt5 : (M ≤ pc) = False := by simp; omega
  cases hsb : setsB ⟨op, dst, a, b, imm⟩
  case' false =>
    have HS := Lib.hid (show setM ⟨op, dst, a, b, imm⟩ = 0 by unfold setM; rw [if_neg (by simp [hsb])])
    have s0 : bits .and .i64 0 4095 = 0 := by decide +kernel
  case' true =>
    have HS := Lib.hid (show setM ⟨op, dst, a, b, imm⟩ = 2 ^ dst.toNat by unfold setM; rw [if_pos hsb])
    have sdst := shl_one dst hd0 (by omega)
    have san : bits .and .i64 ((2 : Int) ^ dst.toNat) 4095 = ((2 ^ dst.toNat : Nat) : Int) := by
      have h2 : 2 ^ dst.toNat < 4096 := pow_lt (by omega)
      have h := and_mask ((2 : Int) ^ dst.toNat) 12 (by omega)
      have h3 : ((2 : Int) ^ dst.toNat) = ((2 ^ dst.toNat : Nat) : Int) := by push_cast; rfl
      simp only [Int.reducePow, Int.reduceSub] at h
      rw [h, h3]
      generalize 2 ^ dst.toNat = q at *
      omega
  all_goals (
    have HSB := Lib.hid hsb
    clear hsb
    go_enter Tryd.func55, Tryd.ntmps55
    go_wp2_with (first | (go_at_call 51; go_must (refine (HCK.out _ (HT.out.alloc _) (HP.out.keeps ((Below.refl _ _).alloc (Nat.le_refl _) _))).mono ?_; rintro e wx ⟨rfl, hbx⟩; have hbx' : Below w.heap.size w wx := ((Below.refl _ _).alloc (Nat.le_refl _) _).trans (hbx.mono (by simp)); have HBX := Lib.hid hbx'; have hq := (hbx.block w.heap.size (by simp)).trans (heap_alloc_new w _); have HQ := Lib.hid hq; have q0 := cell_block hq; have zx : w.heap.size < wx.heap.size := (Array.getElem?_eq_some_iff.1 hq).1; have gx : g < wx.heap.size := Nat.lt_of_lt_of_le hg hbx'.size; have gcx : gc < wx.heap.size := Nat.lt_of_lt_of_le hgl hbx'.size; have d0 := (hbx'.cell (p := ⟨g, _, none⟩) hg).trans c0; have d1 := (hbx'.cell (p := ⟨g, _, none⟩) hg).trans c1; have d2 := (hbx'.cell (p := ⟨g, _, none⟩) hg).trans c2; have e0 := (hbx'.cell (p := ⟨gc, _, none⟩) hgl).trans i0; have e1 := (hbx'.cell (p := ⟨gc, _, none⟩) hgl).trans i1; have e2 := (hbx'.cell (p := ⟨gc, _, none⟩) hgl).trans i2; have e3 := (hbx'.cell (p := ⟨gc, _, none⟩) hgl).trans i3; have e4 := (hbx'.cell (p := ⟨gc, _, none⟩) hgl).trans i4; clear hbx hbx' hq)) | (go_at_call 85; go_must (refine (sets_any ⟨op, dst, a, b, imm⟩ _).mono ?_; rintro e wy ⟨he, hby⟩; rw [HSB.out] at he; subst he; have hxb := (hby.block wx.heap.size (by simp)).trans (heap_alloc_new wx _); have xb := cell_block hxb; have zxb : wx.heap.size < wy.heap.size := (Array.getElem?_eq_some_iff.1 hxb).1; have hby' : Below wx.heap.size wx wy := (by refine Below.trans ?_ (hby.mono (by simp)); have hb := Below.refl wx.heap.size wx; repeat (first | exact hb | exact Below.refl _ _ | apply Below.drew | apply below_drewN | refine Below.alloc ?_ (by first | omega | (simp; done) | (simp; omega)) _ | refine Below.setCell ?_ (by first | omega | (simp; done) | (simp; omega)) _)); have HBY := Lib.hid (HBX.out.trans (hby'.mono HBX.out.size)); have hyq := (hby'.block w.heap.size zx).trans HQ.out; have yq := cell_block hyq; have zy : w.heap.size < wy.heap.size := (Array.getElem?_eq_some_iff.1 hyq).1; clear hxb hby hby' hyq)) | (go_at_call 83; go_must (refine (HRD.out _ (HP.out.keeps HBY.out)).mono ?_; rintro e wz ⟨rfl, hbz⟩; have HBZ := Lib.hid (HBY.out.trans (hbz.mono HBY.out.size)); clear hbz)))
    refine bodyPost_ret (v := .tuple #[.int .i64 (r : Nat), .int .i64 (setM ⟨op, dst, a, b, imm⟩ : Nat), .int .i64 0]) (by rw [HS.out]; simp [results, Tryd.results55, go_sem]) rfl ⟨rfl, HBZ.out⟩)
end Go.Proofs.YtfdppmjoinodgaaDoor
