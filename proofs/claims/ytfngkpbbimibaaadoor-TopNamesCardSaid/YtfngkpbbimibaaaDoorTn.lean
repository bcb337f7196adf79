/-
  The walk of TopNames: it returns true.
-/
import Derived.Test.YtfngkpbbimibaaaDoorTpl
import Derived.Test.YtfngkpbbimibaaaDoorPgS
import Derived.Test.YtfngkpbbimibaaaDoorMd
import Derived.Test.YtfngkpbbimibaaaDoorPc
import Derived.Test.YtfngkpbbimibaaaDoorOpI
namespace Go.Proofs.YtfngkpbbimibaaaDoor
open Go.RowKit Tier
/-- The first function changed: all three cells are written. -/
theorem ProgV.setFn {w : World} {B g cap : Nat} {f : Fnc} {p : List Fnc} {u : Value} {vs : List Value} (h : ProgV w B (.slice (some ⟨g, 0, none⟩) (p.length + 1) cap) (f :: p) (u :: vs)) (r : Int) (c : List Ins) (u' : Value) (hc : w.ownsRow B 76 5 u' c.length (codeCells c)) :
    ProgV (((w.setCell ⟨g, 0, none⟩ (.int .i64 f.params)).setCell ⟨g, 1, none⟩ (.int .i64 r)).setCell ⟨g, 2, none⟩ u') B (.slice (some ⟨g, 0, none⟩) (p.length + 1) cap) (⟨f.params, r, c⟩ :: p) (u' :: vs) := by
  have h0 : ProgV (w.setCell ⟨g, 0, none⟩ (.int .i64 f.params)) B (.slice (some ⟨g, 0, none⟩) (p.length + 1) cap) (f :: p) (u :: vs) := by
    refine ⟨h.len, ?_, fun i u' f' hu hf => code_stored h.own (h.code i u' f' hu hf) 0 _⟩
    have := (World.ownsRow.stored h.own 0 (.int .i64 f.params)).1
    have e : (fnCells (f :: p) (u :: vs)).set 0 (.int .i64 f.params) = fnCells (f :: p) (u :: vs) := by simp [fnCells]
    rw [e] at this; exact this
  have h1 := h0.setRegs r
  exact h1.setCode c u' (code_stored h0.own (code_stored h.own hc 0 _) 1 _)
theorem swP_cons (x y : Int) (f : Fnc) (l : List Fnc) : swP x y (f :: l) = ⟨f.params, f.regs, f.code.map (swIns x y)⟩ :: l := rfl
theorem inSt_sw {x y : Nat} {p : List Fnc} (h : SwOk x y p) (hp : Right p) (a0 a1 : Int) (ans : List Int) (fuel : Int) : inSt (swP x y p) a0 a1 ans fuel = swSt x y (inSt p a0 a1 ans fuel) := by
  have e : inArgs (swP x y p) a0 a1 = inArgs p a0 a1 := by unfold inArgs; rw [fnOf_sw]
  obtain ⟨F, -, h2, h3, h4⟩ := first_params hp
  have hl : (inArgs p a0 a1).length = (fnOf p 0).params.toNat := by
    unfold inArgs
    rw [List.length_take, h2]; simp; omega
  unfold inSt
  rw [e]
  unfold beginSt swSt
  congr 1
  rw [List.map_singleton, swFr_zero rfl]
  congr 2
  exact (swR_low h.px h.py hl (by rw [h2]; omega)).symm
theorem names_eq {x y : Nat} {p : List Fnc} (h : SwOk x y p) (hc : checkP p = 0) (a0 a1 : Int) (ans : List Int) (fuel : Int) {s t : St} (hs : TidyOf p (walkSt p 10001 (inSt p a0 a1 ans fuel)) s) (ht : TidyOf (swP x y p) (walkSt (swP x y p) 10001 (inSt (swP x y p) a0 a1 ans fuel)) t) :
    t.status = s.status ∧ t.value = s.value ∧ t.mem = s.mem ∧ t.fuel = s.fuel ∧ t.events.length = s.events.length ∧ t.frames.length = s.frames.length := by
  have hp := right_of hc
  rw [inSt_sw h hp, walk_sw h hp 10001 (inSt_inv hp a0 a1 ans fuel)] at ht
  refine ⟨ht.sim.st.trans hs.sim.st.symm, ht.sim.val.trans hs.sim.val.symm, ht.sim.mem.trans hs.sim.mem.symm, ht.sim.fuel.trans hs.sim.fuel.symm, ?_, ?_⟩
  · rw [ht.sim.ev, hs.sim.ev]; rfl
  · rw [ht.sim.fr.length, hs.sim.fr.length]
    exact List.length_map ..
theorem set3_heap (w : World) {g b : Nat} (h : b ≠ g) (x y z : Value) : (((w.setCell ⟨g, 0, none⟩ x).setCell ⟨g, 1, none⟩ y).setCell ⟨g, 2, none⟩ z).heap[b]? = w.heap[b]? := by
  rw [Below.heap_setCell _ _ _ _ h, Below.heap_setCell _ _ _ _ h, Below.heap_setCell _ _ _ _ h]
theorem set3_cell (w : World) {g b : Nat} (h : b ≠ g) (x y z : Value) (i : Nat) : (((w.setCell ⟨g, 0, none⟩ x).setCell ⟨g, 1, none⟩ y).setCell ⟨g, 2, none⟩ z).cell? ⟨b, i, none⟩ = w.cell? ⟨b, i, none⟩ := by
  rw [World.cell?_setCell_far _ _ _ _ (fun e => h e.symm), World.cell?_setCell_far _ _ _ _ (fun e => h e.symm), World.cell?_setCell_far _ _ _ _ (fun e => h e.symm)]
theorem own_frozen {w : World} {B : Nat} {e : TypeId} {s : Nat} {g n cap k : Nat} {xs : List Value} (h : w.ownsRow B e s (.slice (some ⟨g, 0, none⟩) n cap) k xs) (i : Nat) : w.frozen? ⟨g, i, none⟩ = false := by
  rcases h.2 with ⟨h', _⟩ | ⟨g', cap', cur, h', hb, hg, -⟩
  · simp at h'
  · simp only [Value.slice.injEq, Option.some.injEq, Addr.mk.injEq, and_true] at h'
    obtain ⟨rfl, -⟩ := h'
    exact frozen_block hg i
set_option maxRecDepth 100000 in
set_option maxHeartbeats 8000000 in
theorem topNames_walk (A : Option Addr) (l : List Fnc) (cap : Nat) (a0 a1 : Int) (YA : Option Addr) (ans : List Int) (ycap : Nat) (fuel : Int) (na nb : Int) (w : World) (ht : Tab w) (hraw : RawsAt w A l) (hln : (l.length : Int) ≤ 9223372036854775807) (hin : InOk w a0 a1 YA ans ycap fuel) (hna : In na) (hnb : In nb) :
    Calls Tryd.prog 6 #[.slice A l.length cap, .agg #[.int .i64 a0, .int .i64 a1, .slice YA ans.length ycap, .int .i64 fuel], .int .i64 na, .int .i64 nb] w fun e w' => e = .returned (.bool true) ∧ Below w.heap.size w w' := by
  have HT := Lib.hid ht
  have HR := Lib.hid hraw
  have HIN := Lib.hid hin
  have hright := mkP_right l
  clear ht hraw hin
  go_enter Tryd.func6, Tryd.ntmps6
  go_wp2_with fail
  obtain ⟨wi, hwi⟩ : ∃ wi, w.alloc (.cells #[.int .i64 a0, .int .i64 a1, .slice YA ans.length ycap, .int .i64 fuel] 42) = wi := ⟨_, rfl⟩
  have HBI : Hid (Below w.heap.size w wi) := Lib.hid (hwi ▸ (Below.refl _ w).alloc (Nat.le_refl _) _)
  have HIB : Hid (wi.heap[w.heap.size]? = some (.cells #[.int .i64 a0, .int .i64 a1, .slice YA ans.length ycap, .int .i64 fuel] 42 (0, 0))) := Lib.hid (hwi ▸ heap_alloc_new w _)
  rw [hwi]
  refine (program_any A cap l _ (HT.out.keeps HBI.out) hln (HR.out.keeps HBI.out)).mono ?_
  rintro e w1 ⟨⟨A1, cap1, vs, rfl, hpv⟩, hb1⟩
  have HP := Lib.hid hpv.at
  have HPV := Lib.hid hpv
  have HBW := Lib.hid (HBI.out.trans (hb1.mono HBI.out.size))
  have HIB1 := Lib.hid ((hb1.block _ (block_lt HIB.out)).trans HIB.out)
  clear hpv hb1 hwi HBI HIB
  go_wp2_with fail
  obtain ⟨wj, hwj⟩ : ∃ W, w1.alloc (.cells #[.slice A1 (mkP l).length cap1] 25) = W := ⟨_, rfl⟩
  have HBJ : Hid (Below w1.heap.size w1 wj) := Lib.hid (hwj ▸ (Below.refl _ w1).alloc (Nat.le_refl _) _)
  have HPB : Hid (wj.heap[w1.heap.size]? = some (.cells #[.slice A1 (mkP l).length cap1] 25 (0, 0))) := Lib.hid (hwj ▸ heap_alloc_new w1 _)
  rw [hwj]
  have HBWJ := Lib.hid (HBW.out.trans (HBJ.out.mono HBW.out.size))
  refine (program_any A cap l _ (HT.out.keeps HBWJ.out) hln (HR.out.keeps HBWJ.out)).mono ?_
  rintro e w2 ⟨⟨A2, cap2, us, rfl, hqv⟩, hb2⟩
  have HB12 := Lib.hid (HBJ.out.trans (hb2.mono HBJ.out.size))
  have HPB2 := Lib.hid ((hb2.block _ (block_lt HPB.out)).trans HPB.out)
  have HIB2 := Lib.hid ((HB12.out.block _ (block_lt HIB1.out)).trans HIB1.out)
  have HQV := Lib.hid (hqv.base (B' := w1.heap.size + 1) (by have := block_lt HPB.out; omega))
  have HBW2 := Lib.hid (HBWJ.out.trans (hb2.mono HBWJ.out.size))
  clear hb2 hqv hwj HBJ HPB HBWJ
  generalize mkP l = p at *
  have hp := right_of hright
  have HG := Lib.hid hright
  have HRP := Lib.hid hp
  obtain ⟨F, ps, hps⟩ : ∃ F ps, p = F :: ps := by
    cases p with
    | nil => have := hp.ok.l1; simp at this
    | cons F ps => exact ⟨F, ps, rfl⟩
  have hF : p[0]? = some F := by rw [hps]; rfl
  have hfo := hp.ok.fn F (List.mem_of_getElem? hF)
  obtain ⟨u, us', hus⟩ : ∃ u us', us = u :: us' := by
    cases us with
    | nil => have := HQV.out.len; rw [hps] at this; simp at this
    | cons u us' => exact ⟨u, us', rfl⟩
  obtain ⟨A0, cap0, hA0, hA⟩ := HP.out.slice
  simp only [Value.slice.injEq, true_and] at hA0
  obtain ⟨g1, hAg, hg1, hfn⟩ := hA (by have := hp.ok.l1; omega)
  obtain ⟨rfl, rfl⟩ := hA0
  subst hAg
  obtain ⟨uc, hu, d0, d1, d2⟩ := hfn 0 F hF
  obtain ⟨FA, fcap, rfl, hFA⟩ := hu.slice
  obtain ⟨gc, hgc, hgcl, hins⟩ := hFA (by have := hfo.c1; omega)
  subst hgc
  obtain ⟨A0, cap0, hA0, hA⟩ := HQV.out.at.slice
  simp only [Value.slice.injEq, true_and] at hA0
  obtain ⟨g2, hAg, hg2, -⟩ := hA (by have := hp.ok.l1; omega)
  obtain ⟨rfl, rfl⟩ := hA0
  subst hAg
  have hg2b := (World.ownsRow.lt HQV.out.own g2 rfl).1
  have HG2 := Lib.hid (show w1.heap.size + 1 ≤ g2 from hg2b)
  have HG2l := Lib.hid hg2
  have hF0 : fnOf p 0 = F := fnOf_get (fn := 0) hF
  have r1 := hfo.r1
  have r2 := hfo.r2
  have p1 := hfo.p1
  have p2 := hfo.p2
  have p3 := hfo.p3
  have HINS := Lib.hid hins
  have HFO := Lib.hid hfo
  have HPS := Lib.hid hps
  have HUS := Lib.hid hus
  have HF0 := Lib.hid hF0
  obtain ⟨M, hM⟩ : ∃ M, F.code.length = M := ⟨_, rfl⟩
  have HM := Lib.hid hM
  obtain ⟨N, hN⟩ : ∃ N, p.length = N := ⟨_, rfl⟩
  have HN := Lib.hid hN
  have hN0 : 0 < N := by have := hp.ok.l1; omega
  have hN1 : (0 : Int) < N := by omega
  rw [hM] at d2
  rw [hN] at HPB2
  simp only [Nat.zero_mul, Nat.zero_add] at d0 d1 d2
  rw [hN]
  clear hA hfn hu hFA hins hF hfo hps hus hM hN hp hright hF0
  rw [← HB12.out.cell (p := ⟨g1, _, none⟩) hg1] at d0 d1 d2
  have e0 := cell_block HPB2.out 0
  have ze0 := block_lt HPB2.out
  have zg1 : g1 < w2.heap.size := Nat.lt_of_lt_of_le hg1 HB12.out.size
  obtain ⟨pa, hpa⟩ : ∃ x, F.params = x := ⟨_, rfl⟩
  obtain ⟨rg, hrg⟩ : ∃ x, F.regs = x := ⟨_, rfl⟩
  have HPA := Lib.hid hpa
  have HRG := Lib.hid hrg
  rw [hpa] at d0 p1 p2 p3
  rw [hrg] at d1 r1 r2 p3
  clear hpa hrg
  have hfr : 0 ≤ rg - pa ∧ rg - pa ≤ 12 := by omega
  have HT1 := Lib.hid (HT.out.keeps HBW.out)
  have HY1 := Lib.hid (HIN.out.row.keeps HBW.out)
  have HPL := Lib.hid (fun (W : World) (hb : Below w1.heap.size w1 W) => plain_any HG.out a0 a1 fuel ans YA ycap (some ⟨g1, 0, none⟩) cap1 W (HT1.out.keeps hb) (HP.out.keeps hb) (HY1.out.keeps hb) HIN.out.len HIN.out.cap HIN.out.fuel)
  rw [HN.out] at HPL
  have i0 := (cell_block HIB2.out 0).trans rfl
  have i1 := (cell_block HIB2.out 1).trans rfl
  have i2 := (cell_block HIB2.out 2).trans rfl
  have i3 := (cell_block HIB2.out 3).trans rfl
  have zi := block_lt HIB2.out
  have hz := zero_st
  have HW3 : Hid (Below w2.heap.size w2 ((w2.alloc (.cells #[.slice (some ⟨g2, 0, none⟩) N cap2] 25)).alloc (.cells #[.int .i64 pa, .int .i64 rg, .slice (some ⟨gc, 0, none⟩) M fcap] 45))) := Lib.hid (((Below.refl w2.heap.size w2).alloc (Nat.le_refl _) _).alloc (by simp) _)
  have HB3 := Lib.hid (HB12.out.trans (HW3.out.mono HB12.out.size))
  have HPB3 := Lib.hid ((HW3.out.block _ (block_lt HPB2.out)).trans HPB2.out)
  have HQB3 : Hid (((w2.alloc (.cells #[.slice (some ⟨g2, 0, none⟩) N cap2] 25)).alloc (.cells #[.int .i64 pa, .int .i64 rg, .slice (some ⟨gc, 0, none⟩) M fcap] 45)).heap[w2.heap.size]? = some (.cells #[.slice (some ⟨g2, 0, none⟩) N cap2] 25 (0, 0))) := Lib.hid (heap_two w2 _ _).1
  have HFB3 : Hid (((w2.alloc (.cells #[.slice (some ⟨g2, 0, none⟩) N cap2] 25)).alloc (.cells #[.int .i64 pa, .int .i64 rg, .slice (some ⟨gc, 0, none⟩) M fcap] 45)).heap[w2.heap.size + 1]? = some (.cells #[.int .i64 pa, .int .i64 rg, .slice (some ⟨gc, 0, none⟩) M fcap] 45 (0, 0))) := Lib.hid (heap_two w2 _ _).2
  by_cases hfree : rg - pa < 1
  · have HX3 : Hid (Sx ((w2.alloc (.cells #[.slice (some ⟨g2, 0, none⟩) N cap2] 25)).alloc (.cells #[.int .i64 pa, .int .i64 rg, .slice (some ⟨gc, 0, none⟩) M fcap] 45)) w1.heap.size (.slice (some ⟨g1, 0, none⟩) N cap1) ((w2.alloc (.cells #[.slice (some ⟨g2, 0, none⟩) N cap2] 25)).alloc (.cells #[.int .i64 pa, .int .i64 rg, .slice (some ⟨gc, 0, none⟩) M fcap] 45)) []) := Lib.hid ⟨Below.refl _ _, HPB3.out, fun x hx => by simp at hx⟩
    have hdec : decide (rg - pa < 1) = true := by simpa using hfree
    clear hfree
    go_wp2_with fail
    refine (HPL.out _ HB3.out).mono ?_
    rintro e w4 ⟨⟨C1, t1, rfl, hC1, hto, hts, hti⟩, hb4⟩
    have HX4 := Lib.hid (HX3.out.keeps hb4)
    have HC1 := Lib.hid hC1
    have HI1 := Lib.hid hti
    have HJ1 := Lib.hid (info_st (HC1.out.len HI1.out.mem))
    obtain ⟨st, hst⟩ : ∃ x, t1.status = x := ⟨_, rfl⟩
    have hsb : (st != 0) = true := by rw [← hst]; simpa using hts
    have HSV := Lib.hid hst
    clear hC1 hto hts hti hb4 hst i0 i1 i2 i3 zi e0 ze0 d0 d1 d2 zg1
    go_wp2_with (refine wpList_store_mid (by rfl) 49 _ _ (by rfl) w4.heap.size 0 C1.toArray (by rfl) (by rfl) (there_new w4 zeroV _ (by simp [HC1.out.len HI1.out.mem, zeroV_length])) (by simpa using HJ1.out) HC1.out.one ?_; obtain ⟨w5, hw5⟩ : ∃ w5, (w4.alloc (.cells zeroV.toArray 49)).setCells w4.heap.size 0 C1.toArray.toList = w5 := ⟨_, rfl⟩; rw [hw5]; have HX5 : Hid (Sx ((w2.alloc (.cells #[.slice (some ⟨g2, 0, none⟩) N cap2] 25)).alloc (.cells #[.int .i64 pa, .int .i64 rg, .slice (some ⟨gc, 0, none⟩) M fcap] 45)) w1.heap.size (.slice (some ⟨g1, 0, none⟩) N cap1) w5 [(w4.heap.size, C1, t1)]) := Lib.hid (hw5 ▸ HX4.out.add HC1.out HI1.out.mem); have pc5 := HX5.out.pcell; clear hw5; obtain ⟨FA1, fa1, EA1, ea1, AA1, aa1, hA⟩ := HX5.out.cin (.head _) HI1.out; have x0 := ((HX5.out.cell (.head _) 0).trans hA.c0).trans (by rw [HSV.out]); have x1 := HX5.out.lt (.head _); clear hA)
    go_ret
    exact ⟨rfl, HBW.out.trans ((HB3.out.trans (HX5.out.below.mono HB3.out.size)).mono HBW.out.size)⟩
  · have hdec : decide (rg - pa < 1) = false := by simpa using hfree
    have pk1 := picked_in na (rg - pa) (by omega)
    have pk2 := picked_in nb (rg - pa) (by omega)
    have HK1 := Lib.hid (fun (W : World) => upicked_any na (rg - pa) W hna (by omega) (by omega))
    have HK2 := Lib.hid (fun (W : World) => upicked_any nb (rg - pa) W hnb (by omega) (by omega))
    obtain ⟨ka, hka⟩ : ∃ x, pickedI na (rg - pa) = x := ⟨_, rfl⟩
    obtain ⟨kb, hkb⟩ : ∃ x, pickedI nb (rg - pa) = x := ⟨_, rfl⟩
    rw [hka] at pk1 HK1
    rw [hkb] at pk2 HK2
    clear hka hkb hfree hna hnb
    go_wp2_with fail
    have HIB3 := Lib.hid ((HW3.out.block _ (block_lt HIB2.out)).trans HIB2.out)
    obtain ⟨w3, hw3⟩ : ∃ W, ((w2.alloc (.cells #[.slice (some ⟨g2, 0, none⟩) N cap2] 25)).alloc (.cells #[.int .i64 pa, .int .i64 rg, .slice (some ⟨gc, 0, none⟩) M fcap] 45)) = W := ⟨_, rfl⟩
    have hz3 : w3.heap.size = w2.heap.size + 2 := by rw [← hw3]; simp
    rw [hw3] at HW3 HB3 HPB3 HQB3 HFB3 HIB3
    rw [hw3]
    clear hw3 i0 i1 i2 i3 zi e0 ze0 d0 d1 d2 zg1
    have k0 := (cell_block HFB3.out 0).trans rfl
    have k1 := (cell_block HFB3.out 1).trans rfl
    have k2 := (cell_block HFB3.out 2).trans rfl
    have zk := block_lt HFB3.out
    have b1 : 0 ≤ pa + ka ∧ pa + ka < 12 := by omega
    have b2 : 0 ≤ pa + kb ∧ pa + kb < 12 := by omega
    go_quiet ((go_at_call 16; exact Calls.quiet_of_same ((HK1.out _).mono (fun _ _ h => ⟨h.1, h.2.symm⟩))))
    obtain ⟨w4, hw4⟩ : ∃ W, w3.drewN nq = W := ⟨_, rfl⟩
    have HD4 : Hid (Below w3.heap.size w3 w4) := Lib.hid (hw4 ▸ below_drewN (Below.refl _ _) _)
    rw [hw4]
    clear hw4 k0 k1 k2 zk nq
    have HFB4 := Lib.hid ((HD4.out.block _ (block_lt HFB3.out)).trans HFB3.out)
    have k0 := (cell_block HFB4.out 0).trans rfl
    have k1 := (cell_block HFB4.out 1).trans rfl
    have k2 := (cell_block HFB4.out 2).trans rfl
    have zk := block_lt HFB4.out
    go_wp2_with fail
    go_quiet ((go_at_call 16; go_must (exact Calls.quiet_of_same ((HK2.out _).mono (fun _ _ h => ⟨h.1, h.2.symm⟩)))))
    obtain ⟨w5, hw5⟩ : ∃ W, w4.drewN nq = W := ⟨_, rfl⟩
    have HD5 : Hid (Below w3.heap.size w3 w5) := Lib.hid (hw5 ▸ below_drewN HD4.out _)
    rw [hw5]
    clear hw5 k0 k1 k2 zk nq
    have HFB5 := Lib.hid ((HD5.out.block _ (block_lt HFB3.out)).trans HFB3.out)
    have HQB5 := Lib.hid ((HD5.out.block _ (block_lt HQB3.out)).trans HQB3.out)
    have HPB5 := Lib.hid ((HD5.out.block _ (block_lt HPB3.out)).trans HPB3.out)
    have HIB5 := Lib.hid ((HD5.out.block _ (block_lt HIB3.out)).trans HIB3.out)
    have HB5 := Lib.hid (HB3.out.trans (HD5.out.mono HB3.out.size))
    have HQV5 := Lib.hid ((HQV.out.keeps HW3.out).keeps HD5.out)
    have HL5 := Lib.hid HD5.out.size
    clear HFB4 HD4
    go_wp2_with fail
    have q0 := (cell_block HQB5.out 0).trans rfl
    have k0 := (cell_block HFB5.out 0).trans rfl
    have k1 := (cell_block HFB5.out 1).trans rfl
    have k2 := (cell_block HFB5.out 2).trans rfl
    have HSW := Lib.hid (fun (W : World) (hb : Below w1.heap.size w1 W) => swapped_any F (pa + ka) (pa + kb) gc fcap W HFO.out.c1 HFO.out.c2 (Nat.lt_of_lt_of_le hgcl hb.size) (fun x hx => ⟨(HFO.out.ins x hx).op1, (HFO.out.ins x hx).op2⟩) (fun i x hx => by obtain ⟨e0, e1, e2, e3, e4⟩ := HINS.out i x hx; rw [← hb.cell (p := ⟨gc, _, none⟩) hgcl] at e0 e1 e2 e3 e4; exact ⟨e0, e1, e2, e3, e4⟩))
    rw [HPA.out, HRG.out, HM.out] at HSW
    have HNQ := Lib.hid (show w2.heap.size ≠ g2 by have := HG2l.out; omega)
    have HNF := Lib.hid (show w2.heap.size + 1 ≠ g2 by have := HG2l.out; omega)
    refine wp_region_held_drew (S := fun w' => w'.cell? ⟨w2.heap.size, 0, none⟩ = some (.slice (some ⟨g2, 0, none⟩) N cap2) ∧ w'.cell? ⟨w2.heap.size + 1, 0, none⟩ = some (.int .i64 pa) ∧ w'.cell? ⟨w2.heap.size + 1, 1, none⟩ = some (.int .i64 rg) ∧ w'.cell? ⟨w2.heap.size + 1, 2, none⟩ = some (.slice (some ⟨gc, 0, none⟩) M fcap)) (by kernel_rfl) ⟨q0, k0, k1, k2⟩ (fun hHeld => ?_)
    have HS5 := Lib.hid (show w5.cell? ⟨w2.heap.size, 0, none⟩ = some (.slice (some ⟨g2, 0, none⟩) N cap2) ∧ w5.cell? ⟨w2.heap.size + 1, 0, none⟩ = some (.int .i64 pa) ∧ w5.cell? ⟨w2.heap.size + 1, 1, none⟩ = some (.int .i64 rg) ∧ w5.cell? ⟨w2.heap.size + 1, 2, none⟩ = some (.slice (some ⟨gc, 0, none⟩) M fcap) from ⟨q0, k0, k1, k2⟩)
    clear q0 k0 k1 k2
    refine wpAnyH_take (i := 0) (v := .pointer (some ⟨w2.heap.size, 0, none⟩)) rfl (by kernel_rfl) (by kernel_rfl) (by kernel_rfl) (fun _ _ _ h => h) (Or.inl ⟨by rfl, ?_⟩) hHeld ?_
    · intro w hSw
      obtain ⟨q0, q1, q2, q3⟩ := hSw
      simp only [List.getElem_toArray, List.getElem_cons_zero]
      go_simp
    simp only [Act.put, List.getElem_toArray, List.getElem_cons_zero, List.setIfInBounds_toArray, List.set_cons_zero, List.set_cons_succ]
    refine wpAnyH_take (i := 1) (v := .slice (some ⟨g2, 0, none⟩) N cap2) rfl (by kernel_rfl) (by kernel_rfl) (by kernel_rfl) (fun _ _ _ h => h) (Or.inl ⟨by rfl, ?_⟩) hHeld ?_
    · intro w hSw
      obtain ⟨q0, q1, q2, q3⟩ := hSw
      simp only [List.getElem_toArray, List.getElem_cons_zero, List.getElem_cons_succ]
      go_simp
    simp only [Act.put, List.getElem_toArray, List.getElem_cons_zero, List.getElem_cons_succ, List.setIfInBounds_toArray, List.set_cons_zero, List.set_cons_succ]
    refine wpAnyH_take (i := 2) (v := .agg #[.int .i64 pa, .int .i64 rg, .slice (some ⟨gc, 0, none⟩) M fcap]) rfl (by kernel_rfl) (by kernel_rfl) (by kernel_rfl) (fun _ _ _ h => h) (Or.inl ⟨by rfl, ?_⟩) hHeld ?_
    · intro w hSw
      obtain ⟨q0, q1, q2, q3⟩ := hSw
      simp only [List.getElem_toArray, List.getElem_cons_zero, List.getElem_cons_succ]
      go_simp
    simp only [Act.put, List.getElem_toArray, List.getElem_cons_zero, List.getElem_cons_succ, List.setIfInBounds_toArray, List.set_cons_zero, List.set_cons_succ]
    refine wpAnyH_take (i := 3) (v := .int .i64 (pa + ka)) rfl (by kernel_rfl) (by kernel_rfl) (by kernel_rfl) (fun _ _ _ h => h) (Or.inl ⟨by rfl, ?_⟩) hHeld ?_
    · intro w hSw
      obtain ⟨q0, q1, q2, q3⟩ := hSw
      simp only [List.getElem_toArray, List.getElem_cons_zero, List.getElem_cons_succ]
      go_simp
    simp only [Act.put, List.getElem_toArray, List.getElem_cons_zero, List.getElem_cons_succ, List.setIfInBounds_toArray, List.set_cons_zero, List.set_cons_succ]
    refine wpAnyH_take (i := 4) (v := .int .i64 (pa + kb)) rfl (by kernel_rfl) (by kernel_rfl) (by kernel_rfl) (fun _ _ _ h => h) (Or.inl ⟨by rfl, ?_⟩) hHeld ?_
    · intro w hSw
      obtain ⟨q0, q1, q2, q3⟩ := hSw
      simp only [List.getElem_toArray, List.getElem_cons_zero, List.getElem_cons_succ]
      go_simp
    simp only [Act.put, List.getElem_toArray, List.getElem_cons_zero, List.getElem_cons_succ, List.setIfInBounds_toArray, List.set_cons_zero, List.set_cons_succ]
    refine wpAnyH_ready (rs := [5]) (by kernel_rfl) (by simp) ?_
    refine AllReadyH.cons rfl (fun K hK => ?_) AllReadyH.nil
    simp only [List.getElem_toArray, List.getElem_cons_zero, List.getElem_cons_succ]
    go_simp
    refine (HSW.out _ HB5.out.drew).mono ?_
    rintro e w6 ⟨⟨A6, cap6, rfl, ho6⟩, hb6⟩
    have HB6 := Lib.hid (show Below w5.heap.size w5 w6 from (Below.refl w5.heap.size w5).drew.trans (hb6.mono (Nat.le_refl _)))
    have HO6 := Lib.hid ho6
    clear hb6 ho6
    have HS6 := Lib.hid (show w6.cell? ⟨w2.heap.size, 0, none⟩ = some (.slice (some ⟨g2, 0, none⟩) N cap2) ∧ w6.cell? ⟨w2.heap.size + 1, 0, none⟩ = some (.int .i64 pa) ∧ w6.cell? ⟨w2.heap.size + 1, 1, none⟩ = some (.int .i64 rg) ∧ w6.cell? ⟨w2.heap.size + 1, 2, none⟩ = some (.slice (some ⟨gc, 0, none⟩) M fcap) from by
      obtain ⟨a, b, c, d⟩ := HS5.out
      exact ⟨(HB6.out.cell (p := ⟨_, _, none⟩) (block_lt HQB5.out)).trans a, (HB6.out.cell (p := ⟨_, _, none⟩) (block_lt HFB5.out)).trans b, (HB6.out.cell (p := ⟨_, _, none⟩) (block_lt HFB5.out)).trans c, (HB6.out.cell (p := ⟨_, _, none⟩) (block_lt HFB5.out)).trans d⟩)
    refine hK.out _ _ HS6.out (fun hHeld => ?_)
    clear hK K
    refine wpAnyH_take (i := 6) (v := .pointer (some ⟨g2, 0, none⟩)) rfl (by kernel_rfl) (by kernel_rfl) (by kernel_rfl) (fun _ _ _ h => h) (Or.inl ⟨by rfl, ?_⟩) hHeld ?_
    · intro w hSw
      obtain ⟨q0, q1, q2, q3⟩ := hSw
      simp only [List.getElem_toArray, List.getElem_cons_zero, List.getElem_cons_succ]
      go_simp
    simp only [Act.put, List.getElem_toArray, List.getElem_cons_zero, List.getElem_cons_succ, List.setIfInBounds_toArray, List.set_cons_zero, List.set_cons_succ]
    have HQV6 := Lib.hid (HQV5.out.keeps HB6.out)
    have hq6 := HQV6.out.own
    have fz := own_frozen hq6
    have zg2 := (World.ownsRow.lt hq6 g2 rfl).2
    have hcell : ∀ i, i < 3 → ∃ v, w6.cell? ⟨g2, i, none⟩ = some v := fun i hi => by
      have hl : i < (fnCells p us).length := by rw [HPS.out, HUS.out]; simp [fnCells]; omega
      exact ⟨_, (World.ownsRow.cellAt (j := i) hq6 (by have := HRP.out.ok.l1; omega)).trans (List.getElem?_eq_getElem hl)⟩
    obtain ⟨v0, c0⟩ := hcell 0 (by omega)
    obtain ⟨v1, c1⟩ := hcell 1 (by omega)
    obtain ⟨v2, c2⟩ := hcell 2 (by omega)
    clear hcell hq6
    refine wpAnyH_ready (rs := [7]) (by kernel_rfl) (by simp) ?_
    refine AllReadyH.cons rfl (fun K hK => ?_) AllReadyH.nil
    simp only [List.getElem_toArray, List.getElem_cons_zero, List.getElem_cons_succ]
    go_simp
    refine hK.out _ _ (by obtain ⟨a, b, c, d⟩ := HS6.out; exact ⟨(set3_cell _ HNQ.out _ _ _ _).trans a, (set3_cell _ HNF.out _ _ _ _).trans b, (set3_cell _ HNF.out _ _ _ _).trans c, (set3_cell _ HNF.out _ _ _ _).trans d⟩) (fun hHeld => ?_)
    clear hK K hHeld
    refine wpAnyH_done (by kernel_rfl) ?_ _
    -- the changed program
    obtain ⟨x, hx⟩ : ∃ x : Nat, pa + ka = x := ⟨(pa + ka).toNat, by omega⟩
    obtain ⟨y, hy⟩ : ∃ y : Nat, pa + kb = y := ⟨(pa + kb).toNat, by omega⟩
    rw [hx] at HO6 b1
    rw [hy] at HO6 b2
    have HSO : Hid (SwOk x y p) := Lib.hid ⟨by omega, by omega, by rw [HF0.out, HPA.out]; omega, by rw [HF0.out, HPA.out]; omega⟩
    have HGQ : Hid (checkP (swP x y p) = 0) := Lib.hid (checkP_sw HG.out (by rw [HF0.out, HRG.out]; omega) (by rw [HF0.out, HRG.out]; omega) HSO.out.px HSO.out.py)
    obtain ⟨w7, hw7⟩ : ∃ W, (((w6.setCell ⟨g2, 0, none⟩ (.int .i64 pa)).setCell ⟨g2, 1, none⟩ (.int .i64 rg)).setCell ⟨g2, 2, none⟩ (.slice A6 M cap6)) = W := ⟨_, rfl⟩
    have HQV7 : Hid (ProgV w7 (w1.heap.size + 1) (.slice (some ⟨g2, 0, none⟩) N cap2) (swP x y p) (.slice A6 M cap6 :: us')) := Lib.hid (by
      have h := HQV6.out
      have hn : N = ps.length + 1 := by rw [← HN.out, HPS.out]; rfl
      rw [HPS.out, HUS.out] at h
      have h2 := h.setFn rg (F.code.map (swIns x y)) (.slice A6 M cap6) (by
        have h3 := own_base (B' := w1.heap.size + 1) HO6.out (by have := HB5.out.size; have := HPB5.out; have := block_lt HPB5.out; show w1.heap.size + 1 ≤ w5.heap.size; omega)
        rw [List.length_map, HM.out]
        exact h3)
      rw [HPA.out, hw7] at h2
      rw [HPS.out, swP_cons, HPA.out, HRG.out, hn]
      exact h2)
    have HB67 : Hid (Below w1.heap.size w1 w7) := Lib.hid (by
      rw [← hw7]
      have h := HB5.out.trans (HB6.out.mono HB5.out.size)
      have hg := HG2.out
      exact ((h.setCell (by simp; omega) _).setCell (by simp; omega) _).setCell (by simp; omega) _)
    have HPB7 : Hid (w7.heap[w1.heap.size]? = some (.cells #[.slice (some ⟨g1, 0, none⟩) N cap1] 25 (0, 0))) := Lib.hid (by
      rw [← hw7, set3_heap _ (by have := HG2.out; omega)]
      exact (HB6.out.block _ (block_lt HPB5.out)).trans HPB5.out)
    have HQB7 : Hid (w7.heap[w2.heap.size]? = some (.cells #[.slice (some ⟨g2, 0, none⟩) N cap2] 25 (0, 0))) := Lib.hid (by
      rw [← hw7, set3_heap _ HNQ.out]
      exact (HB6.out.block _ (block_lt HQB5.out)).trans HQB5.out)
    have HIB7 : Hid (w7.heap[w.heap.size]? = some (.cells #[.int .i64 a0, .int .i64 a1, .slice YA ans.length ycap, .int .i64 fuel] 42 (0, 0))) := Lib.hid (by
      rw [← hw7, set3_heap _ (by have := HG2.out; have := HBW.out.size; have := block_lt HIB1.out; omega)]
      exact (HB6.out.block _ (block_lt HIB5.out)).trans HIB5.out)
    have HPQ := Lib.hid (fun (W : World) (hb : Below w7.heap.size w7 W) => plain_any HGQ.out a0 a1 fuel ans YA ycap (some ⟨g2, 0, none⟩) cap2 W (HT1.out.keeps (HB67.out.trans (hb.mono HB67.out.size))) (by have h := (HQV7.out.keeps hb).at; rw [swP_length, HN.out]; exact h) (HY1.out.keeps (HB67.out.trans (hb.mono HB67.out.size))) HIN.out.len HIN.out.cap HIN.out.fuel)
    have HCQ := Lib.hid (fun (W : World) (hb : Below w7.heap.size w7 W) => pcheck_any (swP x y p) (some ⟨g2, 0, none⟩) cap2 W (HT1.out.keeps (HB67.out.trans (hb.mono HB67.out.size))) (by have h := (HQV7.out.keeps hb).at; rw [swP_length, HN.out]; exact h) (by rw [swP_length]; have := HRP.out.ok.l2; omega) (fun f hf => by have := ((right_of HGQ.out).ok.fn f hf).c2; omega))
    rw [swP_length, HN.out] at HPQ HCQ
    rw [HGQ.out] at HCQ
    rw [hw7]
    have HX7 : Hid (Sx w7 w2.heap.size (.slice (some ⟨g2, 0, none⟩) N cap2) w7 []) := Lib.hid ⟨Below.refl _ _, HQB7.out, fun x hx => by simp at hx⟩
    have HNE := Lib.hid (fun (s t : St) (h1 : TidyOf p (walkSt p 10001 (inSt p a0 a1 ans fuel)) s) (h2 : TidyOf (swP x y p) (walkSt (swP x y p) 10001 (inSt (swP x y p) a0 a1 ans fuel)) t) => names_eq HSO.out HG.out a0 a1 ans fuel h1 h2)
    clear hw7 hx hy fz zg2 c0 c1 c2 v0 v1 v2 hdec pk1 pk2 b1 b2
    have e0 := (cell_block HPB7.out 0).trans rfl
    have i0 := (cell_block HIB7.out 0).trans rfl
    have i1 := (cell_block HIB7.out 1).trans rfl
    have i2 := (cell_block HIB7.out 2).trans rfl
    have i3 := (cell_block HIB7.out 3).trans rfl
    have zi := block_lt HIB7.out
    have zp := block_lt HPB7.out
    go_wp2_with fail
    refine (HPL.out _ HB67.out).mono ?_
    rintro e w8 ⟨⟨C1, t1, rfl, hC1, hto1, hts1, hti1⟩, hb8⟩
    have HX8 := Lib.hid (HX7.out.keeps hb8)
    have HC1 := Lib.hid hC1
    have HI1 := Lib.hid hti1
    have HTO1 := Lib.hid hto1
    have HJ1 := Lib.hid (info_st (HC1.out.len HI1.out.mem))
    have HIB8 := Lib.hid (fun (W : World) (hb : Below w7.heap.size w7 W) => (⟨(hb.cell (p := ⟨w.heap.size, 0, none⟩) (block_lt HIB7.out)).trans (cell_block HIB7.out 0), (hb.cell (p := ⟨w.heap.size, 1, none⟩) (block_lt HIB7.out)).trans (cell_block HIB7.out 1), (hb.cell (p := ⟨w.heap.size, 2, none⟩) (block_lt HIB7.out)).trans (cell_block HIB7.out 2), (hb.cell (p := ⟨w.heap.size, 3, none⟩) (block_lt HIB7.out)).trans (cell_block HIB7.out 3), Nat.lt_of_lt_of_le (block_lt HIB7.out) hb.size⟩ : W.cell? ⟨w.heap.size, 0, none⟩ = some (.int .i64 a0) ∧ W.cell? ⟨w.heap.size, 1, none⟩ = some (.int .i64 a1) ∧ W.cell? ⟨w.heap.size, 2, none⟩ = some (.slice YA ans.length ycap) ∧ W.cell? ⟨w.heap.size, 3, none⟩ = some (.int .i64 fuel) ∧ w.heap.size < W.heap.size))
    clear hC1 hto1 hts1 hti1 hb8 i0 i1 i2 i3 zi e0 zp
    go_wp2_with (first | (refine wpList_store_mid (by rfl) 49 _ _ (by rfl) w8.heap.size 0 C1.toArray (by rfl) (by rfl) (there_new w8 zeroV _ (by simp [HC1.out.len HI1.out.mem, zeroV_length])) (by simpa using HJ1.out) HC1.out.one ?_; obtain ⟨w9, hw9⟩ : ∃ w9, (w8.alloc (.cells zeroV.toArray 49)).setCells w8.heap.size 0 C1.toArray.toList = w9 := ⟨_, rfl⟩; rw [hw9]; have HX9 : Hid (Sx w7 w2.heap.size (.slice (some ⟨g2, 0, none⟩) N cap2) w9 [(w8.heap.size, C1, t1)]) := Lib.hid (hw9 ▸ HX8.out.add HC1.out HI1.out.mem); have pc9 := HX9.out.pcell; clear hw9; obtain ⟨i0, i1, i2, i3, zi⟩ := HIB8.out _ HX9.out.below))
    refine (HPQ.out _ HX9.out.below).mono ?_
    rintro e w10 ⟨⟨C2, t2, rfl, hC2, hto2, -, hti2⟩, hb10⟩
    have HX10 := Lib.hid (HX9.out.keeps hb10)
    have HC2 := Lib.hid (hC2.base HX9.out.below.size)
    have HI2 := Lib.hid hti2
    have HJ2 := Lib.hid (info_st (HC2.out.len HI2.out.mem))
    have HEQ := Lib.hid (HNE.out t1 t2 HTO1.out hto2)
    clear hC2 hto2 hti2 hb10 pc9 i0 i1 i2 i3 zi
    go_wp2_with (first | (refine wpList_store_mid (by rfl) 49 _ _ (by rfl) w10.heap.size 0 C2.toArray (by rfl) (by rfl) (there_new w10 zeroV _ (by simp [HC2.out.len HI2.out.mem, zeroV_length])) (by simpa using HJ2.out) HC2.out.one ?_; obtain ⟨w11, hw11⟩ : ∃ w11, (w10.alloc (.cells zeroV.toArray 49)).setCells w10.heap.size 0 C2.toArray.toList = w11 := ⟨_, rfl⟩; rw [hw11]; have HX11 : Hid (Sx w7 w2.heap.size (.slice (some ⟨g2, 0, none⟩) N cap2) w11 [(w10.heap.size, C2, t2), (w8.heap.size, C1, t1)]) := Lib.hid (hw11 ▸ HX10.out.add HC2.out HI2.out.mem); have pc11 := HX11.out.pcell; clear hw11) | (go_at_call 18; go_must (refine (HCQ.out _ HX11.out.below).mono ?_; rintro e w12 ⟨rfl, hb12⟩; have HX12 := Lib.hid (HX11.out.keeps hb12); have hX := HX12.out; obtain ⟨FA1, fa1, EA1, ea1, AA1, aa1, hA⟩ := hX.cin (.tail _ (.head _)) HI1.out; obtain ⟨FB1, fb1, EB1, eb1, AB1, ab1, hB⟩ := hX.cin (.head _) HI2.out; obtain ⟨h1, h2, h3, h4, h5, h6⟩ := HEQ.out; have x1 := hX.lt (.tail _ (.head _)); have x2 := hX.lt (.head _); have y0 := (hX.cell (.tail _ (.head _)) 0).trans hA.c0; have y1 := (hX.cell (.tail _ (.head _)) 1).trans hA.c1; have y2 := (hX.cell (.tail _ (.head _)) 2).trans hA.c2; have y3 := (hX.cell (.tail _ (.head _)) 19).trans hA.c19; have y4 := (hX.cell (.tail _ (.head _)) 20).trans hA.c20; have z0 := (hX.cell (.head _) 0).trans hB.c0; have z1 := (hX.cell (.head _) 1).trans hB.c1; have z2 := (hX.cell (.head _) 2).trans hB.c2; have z3 := (hX.cell (.head _) 19).trans hB.c19; have z4 := (hX.cell (.head _) 20).trans hB.c20; rw [h1] at z0; rw [h2] at z1; rw [h6] at z2; rw [h4] at z3; rw [h5] at z4; have heq := fun W => eq_mem t1.mem HI1.out.mem W; have HIM := Lib.hid (info_mem (C := intsV t1.mem) (by simp [intsV, HI1.out.mem])); have HRM := Lib.hid (⟨range_mem (hX.sts _ (.tail _ (.head _))).1 HI1.out.mem hA, by rw [← h3]; exact range_mem (hX.sts _ (.head _)).1 HI2.out.mem hB⟩ : w12.rangeAt w8.heap.size 3 (intsV t1.mem) ∧ w12.rangeAt w10.heap.size 3 (intsV t1.mem)); obtain ⟨MM, hMM⟩ : ∃ M, intsV t1.mem = M := ⟨_, rfl⟩; rw [hMM] at HRM HIM heq; generalize t1.status = st at *; generalize t1.value = va at *; generalize t1.fuel = fu at *; generalize t1.events.length = el at *; generalize t1.frames.length = fl at *; clear hX hA hB hMM hb12 h1 h2 h3 h4 h5 h6)) | (refine wpList_load_midg (by rfl) 47 _ (by rfl) w8.heap.size 3 (by rfl) MM _ HRM.out.1 Tryd.underlying47 (by rfl) HIM.out ?_) | (refine wpList_load_midg (by rfl) 47 _ (by rfl) w10.heap.size 3 (by rfl) MM _ HRM.out.2 Tryd.underlying47 (by rfl) HIM.out ?_))
    go_ret
    exact ⟨rfl, HBW.out.trans ((HB67.out.trans (HX12.out.below.mono HB67.out.size)).mono HBW.out.size)⟩
end Go.Proofs.YtfngkpbbimibaaaDoor
