/-
  The walk of TrimRuns: it returns true.
-/
import Derived.Test.YtnbopmlemddakaaDoorTrQ
import Derived.Test.YtnbopmlemddakaaDoorTr4
import Derived.Test.YtnbopmlemddakaaDoorOpI
namespace Go.Proofs.YtnbopmlemddakaaDoor
open Go.RowKit Tier
set_option maxRecDepth 100000 in
theorem eq_regs10 (r0 r1 r2 r3 r4 r5 r6 r7 r8 r9 r10 r11 : Int) (w : World) : (Op.equalIn 10000 58 (.agg #[.int .i64 r0, .int .i64 r1, .int .i64 r2, .int .i64 r3, .int .i64 r4, .int .i64 r5, .int .i64 r6, .int .i64 r7, .int .i64 r8, .int .i64 r9, .int .i64 r10, .int .i64 r11]) (.agg #[.int .i64 r0, .int .i64 r1, .int .i64 r2, .int .i64 r3, .int .i64 r4, .int .i64 r5, .int .i64 r6, .int .i64 r7, .int .i64 r8, .int .i64 r9, .int .i64 r10, .int .i64 r11])).run Tryd.prog w = .ok true w :=
  eq_intsS 9998 .i64 Tryd.underlying58 Tryd.underlying3 rfl (by kernel_rfl) _ (fun j hj => by
    have hc : j = 0 ∨ j = 1 ∨ j = 2 ∨ j = 3 ∨ j = 4 ∨ j = 5 ∨ j = 6 ∨ j = 7 ∨ j = 8 ∨ j = 9 ∨ j = 10 ∨ j = 11 := by omega
    rcases hc with rfl | rfl | rfl | rfl | rfl | rfl | rfl | rfl | rfl | rfl | rfl | rfl <;> exact ⟨_, rfl⟩)
theorem first_fn {p : List Fnc} (hp : Right p) : ∃ F, p[0]? = some F := ⟨_, List.getElem?_eq_getElem (by have := hp.ok.l1; omega)⟩
set_option maxRecDepth 100000 in
set_option maxHeartbeats 8000000 in
theorem trimRuns_walk (A : Option Addr) (l : List Fnc) (cap : Nat) (a0 a1 : Int) (YA : Option Addr) (ans : List Int) (ycap : Nat) (fuel : Int) (w : World) (ht : Tab w) (hraw : RawsAt w A l) (hln : (l.length : Int) ≤ 9223372036854775807) (hin : InOk w a0 a1 YA ans ycap fuel) :
    Calls Tryd.prog 19 #[.slice A l.length cap, .agg #[.int .i64 a0, .int .i64 a1, .slice YA ans.length ycap, .int .i64 fuel]] w fun e w' => e = .returned (.bool true) ∧ Below w.heap.size w w' := by
  have HT := Lib.hid ht
  have HR := Lib.hid hraw
  have HIN := Lib.hid hin
  have hright := mkP_right l
  clear ht hraw hin
  go_enter Tryd.func19, Tryd.ntmps19
  go_wp2_with fail
  obtain ⟨wi, hwi⟩ : ∃ wi, w.alloc (.cells #[.int .i64 a0, .int .i64 a1, .slice YA ans.length ycap, .int .i64 fuel] 46) = wi := ⟨_, rfl⟩
  have HBI : Hid (Below w.heap.size w wi) := Lib.hid (hwi ▸ (Below.refl _ w).alloc (Nat.le_refl _) _)
  have HIB : Hid (wi.heap[w.heap.size]? = some (.cells #[.int .i64 a0, .int .i64 a1, .slice YA ans.length ycap, .int .i64 fuel] 46 (0, 0))) := Lib.hid (hwi ▸ heap_alloc_new w _)
  rw [hwi]
  refine (program_any A cap l _ (HT.out.keeps HBI.out) hln (HR.out.keeps HBI.out)).mono ?_
  rintro e w1 ⟨⟨A1, cap1, vs, rfl, hpv⟩, hb1⟩
  have HP := Lib.hid hpv.at
  have HBW := Lib.hid (HBI.out.trans (hb1.mono HBI.out.size))
  have HT1 := Lib.hid (HT.out.keeps HBW.out)
  have hib := (hb1.block _ (block_lt HIB.out)).trans HIB.out
  have HIB1 := Lib.hid hib
  have i0 := (cell_block hib 0).trans rfl
  have i1 := (cell_block hib 1).trans rfl
  have i2 := (cell_block hib 2).trans rfl
  have i3 := (cell_block hib 3).trans rfl
  have zi := block_lt hib
  clear hpv hb1 hwi HBI HIB hib vs
  generalize mkP l = p at *
  have hp := right_of hright
  have HG := Lib.hid (hright)
  have HRP := Lib.hid hp
  have HBG := Lib.hid (fun (W : World) (hb : Below w1.heap.size w1 W) => kbegin_any hright a0 a1 fuel ans YA ycap A1 cap1 W (HT1.out.keeps hb) (HP.out.keeps hb) ((HIN.out.row.keeps HBW.out).keeps hb) HIN.out.len HIN.out.cap HIN.out.fuel)
  have hi0 := inSt_inv hp a0 a1 ans fuel
  have HTP := Lib.hid (fun (W : World) (h1 : Tab W) (h2 : ProgAt W (.slice A1 p.length cap1) p) => tprog_any p A1 cap1 W h1 h2 hright)
  clear hright
  go_wp2_with fail
  have HAL : Hid (Below w1.heap.size w1 (w1.alloc (.cells #[.slice A1 p.length cap1] 25))) := Lib.hid ((Below.refl _ w1).alloc (Nat.le_refl _) _)
  refine (HTP.out _ (HT1.out.keeps HAL.out) (HP.out.keeps HAL.out)).mono ?_
  rintro e w2 ⟨⟨c, A2, cap2, us, rfl, hC, hPV2⟩, hb2⟩
  have HX2 : Hid (Sx w1 w1.heap.size (.slice A1 p.length cap1) w2 []) := Lib.hid ((Sx.mk ((Below.refl _ w1).alloc (Nat.le_refl _) _) (heap_alloc_new w1 _) (fun x hx => by simp at hx)).keeps hb2)
  have HB12 := Lib.hid HX2.out.below
  have HC := Lib.hid hC
  have hQ := trim_right HG.out hC
  have HQA := Lib.hid hPV2.at
  obtain ⟨F0, hF0⟩ := first_fn HRP.out
  have hQ0 := trim_first hC HRP.out.ok.l1 hF0
  obtain ⟨t0, ht0⟩ : ∃ t, inSt (trimP p c) a0 a1 ans fuel = t := ⟨_, rfl⟩
  obtain ⟨s0, hs0⟩ : ∃ s, inSt p a0 a1 ans fuel = s := ⟨_, rfl⟩
  obtain ⟨s1, hs1⟩ : ∃ s, walkSt p 400 s0 = s := ⟨_, rfl⟩
  obtain ⟨t1, ht1⟩ : ∃ s, walkSt (trimP p c) 400 t0 = s := ⟨_, rfl⟩
  have hbm := begin_map HRP.out hC a0 a1 ans fuel
  rw [ht0, hs0] at hbm
  have hwm := walk_map HRP.out hC 400 (by rw [← hs0]; exact hi0) hbm.2
  rw [← hbm.1, hs1, ht1] at hwm
  have HIt0 : Hid (StInv (trimP p c) t0) := Lib.hid (ht0 ▸ inSt_inv (right_of hQ) a0 a1 ans fuel)
  have HIt1 : Hid (StInv (trimP p c) t1) := Lib.hid (ht1 ▸ HIt0.out.walk (right_of hQ) 400)
  have HI0 : Hid (StInv p s0) := Lib.hid (hs0 ▸ hi0)
  have HI1 : Hid (StInv p s1) := Lib.hid (hs1 ▸ HI0.out.walk HRP.out 400)
  have HEND := Lib.hid (show s1.status ≠ 0 from by
    rw [← hs1]
    refine walk_ends HRP.out 400 HI0.out ?_
    rw [← hs0]
    have := picked_in fuel 300 (by omega)
    show pickedI fuel 300 < (400 : Nat)
    omega)
  have HEQ := Lib.hid hwm.1
  have HCL := Lib.hid hwm.2
  have HBQ := Lib.hid (fun (W : World) (hb : Below w1.heap.size w1 W) (hq : ProgAt W (.slice A2 (trimP p c).length cap2) (trimP p c)) => kbegin_any hQ a0 a1 fuel ans YA ycap A2 cap2 W (HT1.out.keeps hb) hq ((HIN.out.row.keeps HBW.out).keeps hb) HIN.out.len HIN.out.cap HIN.out.fuel)
  have HWP := Lib.hid (fun (C : List Value) (W : World) (hb : Below w1.heap.size w1 W) (hC : CellsSt C W w1.heap.size s0) => swalk_c HG.out 400 (by omega) (HT1.out.keeps hb) (HP.out.keeps hb) HI0.out hC)
  have HWQ := Lib.hid (fun (C : List Value) (W : World) (hb : Below w1.heap.size w1 W) (hq : ProgAt W (.slice A2 (trimP p c).length cap2) (trimP p c)) (hC : CellsSt C W w1.heap.size t0) => swalk_c hQ 400 (by omega) (HT1.out.keeps hb) hq HIt0.out hC)
  have HWH := Lib.hid (fun (W : World) (h1 : Tab W) (h2 : ProgAt W (.slice A1 p.length cap1) p) (k : Nat) (f : Fnc) (hf : p[k]? = some f) => tWhere_any p A1 cap1 k f W h1 h2 HG.out hf)
  rw [hs0] at HBG
  rw [ht0] at HBQ
  rw [hs1] at HWP
  rw [ht1] at HWQ
  obtain ⟨B0, c0, hB0, hB⟩ := HP.out.slice
  simp only [Value.slice.injEq, true_and] at hB0
  obtain ⟨gp, hAp, hgp, hfp⟩ := hB (by have := HRP.out.ok.l1; omega)
  obtain ⟨B2, c2, hB2, hBQ⟩ := HQA.out.slice
  simp only [Value.slice.injEq, true_and] at hB2
  have hql : 0 < (trimP p c).length := (List.getElem?_eq_some_iff.1 hQ0).1
  obtain ⟨gq, hAq, hgq, hfq⟩ := hBQ hql
  obtain ⟨-, -, d0, -, -⟩ := hfp 0 F0 hF0
  obtain ⟨-, -, e0, -, -⟩ := hfq 0 _ hQ0
  have hppl : 0 < p.length := by have := HRP.out.ok.l1; omega
  rw [← hB0.1] at hAp
  rw [← hB2.1] at hAq
  subst hAp hAq
  have hpar : (trimF F0 c).params = F0.params := rfl
  rw [hpar] at e0
  clear hs0 ht0 hs1 ht1 hbm hwm hi0 hC hPV2 hb2 hB0 hB2 hB hBQ hfp hfq hQ0 hF0 hpar HAL HTP i0 i1 i2 i3 zi
  obtain ⟨q, hq⟩ : ∃ q, trimP p c = q := ⟨_, rfl⟩
  rw [hq] at HQA HBQ HWQ HIt0 HIt1 hQ hql ⊢
  have HQR := Lib.hid (right_of hQ)
  clear hQ hq
  have hz := zero_st
  have HYB := Lib.hid (heap_alloc_new w2 (.cells #[.slice (some ⟨gq, 0, none⟩) q.length cap2] 25))
  have HYA := Lib.hid ((Below.refl w2.heap.size w2).alloc (Nat.le_refl _) (.cells #[.slice (some ⟨gq, 0, none⟩) q.length cap2] 25))
  have pc2 := HX2.out.pcell
  have zp2 := block_lt HX2.out.pblk
  go_wp2_with fail
  obtain ⟨w3, hw3⟩ : ∃ W, w2.alloc (.cells #[.slice (some ⟨gq, 0, none⟩) q.length cap2] 25) = W := ⟨_, rfl⟩
  rw [hw3] at HYB HYA
  rw [hw3]
  have HX3 := Lib.hid (HX2.out.keeps HYA.out)
  have HQ3 := Lib.hid (HQA.out.keeps HYA.out)
  have pc3 := HX3.out.pcell
  have zp3 := block_lt HX3.out.pblk
  have y3 := cell_block HYB.out
  have zy3 := block_lt HYB.out
  have d3 := (HX3.out.below.cell (p := ⟨gp, _, none⟩) hgp).trans d0
  have e3 := (HYA.out.cell (p := ⟨gq, _, none⟩) hgq).trans e0
  have zgp := Nat.lt_of_lt_of_le hgp HX3.out.below.size
  have zgq := Nat.lt_of_lt_of_le hgq HYA.out.size
  have hq0 : ((q.length : Int) == 0) = false := beq_eq_false_iff_ne.2 (by omega)
  clear hw3 pc2 zp2 d0 e0
  go_quiet (fail)
  clear pc3 zp3 y3 zy3 d3 e3 zgp zgq
  obtain ⟨w3', hw3'⟩ : ∃ W, w3.drewN nq = W := ⟨_, rfl⟩
  have HD3 : Hid (Below w3.heap.size w3 w3') := Lib.hid (hw3' ▸ below_drewN (Below.refl _ _) _)
  rw [hw3']
  clear hw3'
  have HX3' := Lib.hid (HX3.out.keeps HD3.out)
  have HI3 := Lib.hid (cell_block ((HX3'.out.below.block _ (block_lt HIB1.out)).trans HIB1.out))
  have HZI := Lib.hid (Nat.lt_of_lt_of_le (block_lt HIB1.out) HX3'.out.below.size)
  have i0 := (HI3.out 0).trans rfl
  have i1 := (HI3.out 1).trans rfl
  have i2 := (HI3.out 2).trans rfl
  have i3 := (HI3.out 3).trans rfl
  have zi := HZI.out
  have pc3 := HX3'.out.pcell
  have zp3 := block_lt HX3'.out.pblk
  go_wp2_with fail
  refine (HBG.out _ HX3'.out.below).mono ?_
  rintro e w4 ⟨⟨C0, rfl, hC0⟩, hb4⟩
  have HB34 := Lib.hid (HD3.out.trans (hb4.mono HD3.out.size))
  have HX4 := Lib.hid (HX3'.out.keeps hb4)
  have HC0 := Lib.hid (hC0.base HX3'.out.below.size)
  have HJ0 := Lib.hid (info_st (HC0.out.len HI0.out.mem))
  clear hC0 hb4 i0 i1 i2 i3 zi pc3 zp3
  go_wp2_with (refine wpList_store_mid (by rfl) 50 _ _ (by rfl) w4.heap.size 0 C0.toArray (by rfl) (by rfl) (there_new w4 zeroV _ (by simp [HC0.out.len HI0.out.mem, zeroV_length])) (by simpa using HJ0.out) HC0.out.one ?_; obtain ⟨w5, hw5⟩ : ∃ w5, (w4.alloc (.cells zeroV.toArray 50)).setCells w4.heap.size 0 C0.toArray.toList = w5 := ⟨_, rfl⟩; rw [hw5]; have HX5 : Hid (Sx w1 w1.heap.size (.slice (some ⟨gp, 0, none⟩) p.length cap1) w5 [(w4.heap.size, C0, s0)]) := Lib.hid (hw5 ▸ HX4.out.add HC0.out HI0.out.mem); have pc5 := HX5.out.pcell; have HBN5 : Hid (Below w4.heap.size w4 w5) := Lib.hid (hw5 ▸ below_setCells (Nat.le_refl _) _ _ _ ((Below.refl _ _).alloc (Nat.le_refl _) _)); clear hw5; have HB35 := Lib.hid (HB34.out.trans (HBN5.out.mono HB34.out.size)); have y5 := cell_block ((HB35.out.block _ (block_lt HYB.out)).trans HYB.out); have zy5 := Nat.lt_of_lt_of_le (block_lt HYB.out) HB35.out.size; have hib5 := cell_block ((HX5.out.below.block _ (block_lt HIB1.out)).trans HIB1.out); have i0 := (hib5 0).trans rfl; have i1 := (hib5 1).trans rfl; have i2 := (hib5 2).trans rfl; have i3 := (hib5 3).trans rfl; have zi := Nat.lt_of_lt_of_le (block_lt HIB1.out) HX5.out.below.size; clear hib5)
  refine (HBQ.out _ HX5.out.below (HQ3.out.keeps HB35.out)).mono ?_
  rintro e w6 ⟨⟨D0, rfl, hD0⟩, hb6⟩
  have HB36 := Lib.hid (HB35.out.trans (hb6.mono HB35.out.size))
  have HX6 := Lib.hid (HX5.out.keeps hb6)
  have HCt0 := Lib.hid (hD0.base HX5.out.below.size)
  have HJt0 := Lib.hid (info_st (HCt0.out.len HIt0.out.mem))
  clear hD0 hb6 i0 i1 i2 i3 zi y5 zy5 pc5
  go_wp2_with (first | (refine wpList_store_mid (by rfl) 50 _ _ (by rfl) w6.heap.size 0 D0.toArray (by rfl) (by rfl) (there_new w6 zeroV _ (by simp [HCt0.out.len HIt0.out.mem, zeroV_length])) (by simpa using HJt0.out) HCt0.out.one ?_; obtain ⟨w7, hw7⟩ : ∃ w7, (w6.alloc (.cells zeroV.toArray 50)).setCells w6.heap.size 0 D0.toArray.toList = w7 := ⟨_, rfl⟩; rw [hw7]; have HX7 : Hid (Sx w1 w1.heap.size (.slice (some ⟨gp, 0, none⟩) p.length cap1) w7 [(w6.heap.size, D0, t0), (w4.heap.size, C0, s0)]) := Lib.hid (hw7 ▸ HX6.out.add HCt0.out HIt0.out.mem); have pc7 := HX7.out.pcell; have HBN7 : Hid (Below w6.heap.size w6 w7) := Lib.hid (hw7 ▸ below_setCells (Nat.le_refl _) _ _ _ ((Below.refl _ _).alloc (Nat.le_refl _) _)); clear hw7) | (refine wpList_load_mid (by rfl) 50 _ (by rfl) w4.heap.size 0 (by rfl) C0 _ (HX7.out.range (.tail _ (.head _))) Tryd.underlying50 (by rfl) HJ0.out ?_))
  refine (HWP.out C0 _ HX7.out.below (HX7.out.sts _ (.tail _ (.head _))).2).mono ?_
  rintro e w8 ⟨⟨C1, rfl, hC1⟩, hb8⟩
  have HB37 := Lib.hid (HB36.out.trans (HBN7.out.mono HB36.out.size))
  have HB38 := Lib.hid (HB37.out.trans (hb8.mono HB37.out.size))
  have HX8 := Lib.hid (HX7.out.keeps hb8)
  have HC1 := Lib.hid (hC1.base HX7.out.below.size)
  have HJ1 := Lib.hid (info_st (HC1.out.len HI1.out.mem))
  clear hC1 hb8 pc7
  go_wp2_with (first | (refine wpList_store_mid (by rfl) 50 _ _ (by rfl) w8.heap.size 0 C1.toArray (by rfl) (by rfl) (there_new w8 zeroV _ (by simp [HC1.out.len HI1.out.mem, zeroV_length])) (by simpa using HJ1.out) HC1.out.one ?_; obtain ⟨w9, hw9⟩ : ∃ w9, (w8.alloc (.cells zeroV.toArray 50)).setCells w8.heap.size 0 C1.toArray.toList = w9 := ⟨_, rfl⟩; rw [hw9]; have HX9 : Hid (Sx w1 w1.heap.size (.slice (some ⟨gp, 0, none⟩) p.length cap1) w9 [(w8.heap.size, C1, s1), (w6.heap.size, D0, t0), (w4.heap.size, C0, s0)]) := Lib.hid (hw9 ▸ HX8.out.add HC1.out HI1.out.mem); have pc9 := HX9.out.pcell; have HBN9 : Hid (Below w8.heap.size w8 w9) := Lib.hid (hw9 ▸ below_setCells (Nat.le_refl _) _ _ _ ((Below.refl _ _).alloc (Nat.le_refl _) _)); clear hw9; have HB39 := Lib.hid (HB38.out.trans (HBN9.out.mono HB38.out.size)); have y9 := cell_block ((HB39.out.block _ (block_lt HYB.out)).trans HYB.out); have zy9 := Nat.lt_of_lt_of_le (block_lt HYB.out) HB39.out.size) | (refine wpList_load_mid (by rfl) 50 _ (by rfl) w6.heap.size 0 (by rfl) D0 _ (HX9.out.range (.tail _ (.head _))) Tryd.underlying50 (by rfl) HJt0.out ?_))
  refine (HWQ.out D0 _ HX9.out.below (HQ3.out.keeps HB39.out) (HX9.out.sts _ (.tail _ (.head _))).2).mono ?_
  rintro e w10 ⟨⟨D1, rfl, hD1⟩, hb10⟩
  have HX10 := Lib.hid (HX9.out.keeps hb10)
  have HCt1 := Lib.hid (hD1.base HX9.out.below.size)
  have HJt1 := Lib.hid (info_st (HCt1.out.len HIt1.out.mem))
  clear hD1 hb10 pc9 y9 zy9
  have HX10b := HX10
  go_wp2_with (first | (refine wpList_store_mid (by rfl) 50 _ _ (by rfl) w10.heap.size 0 D1.toArray (by rfl) (by rfl) (there_new w10 zeroV _ (by simp [HCt1.out.len HIt1.out.mem, zeroV_length])) (by simpa using HJt1.out) HCt1.out.one ?_; obtain ⟨w11, hw11⟩ : ∃ w11, (w10.alloc (.cells zeroV.toArray 50)).setCells w10.heap.size 0 D1.toArray.toList = w11 := ⟨_, rfl⟩; rw [hw11]; have HX11 : Hid (Sx w1 w1.heap.size (.slice (some ⟨gp, 0, none⟩) p.length cap1) w11 [(w10.heap.size, D1, t1), (w8.heap.size, C1, s1), (w6.heap.size, D0, t0), (w4.heap.size, C0, s0)]) := Lib.hid (hw11 ▸ HX10.out.add HCt1.out HIt1.out.mem); have pc11 := HX11.out.pcell; have HBN11 : Hid (Below w10.heap.size w10 w11) := Lib.hid (hw11 ▸ below_setCells (Nat.le_refl _) _ _ _ ((Below.refl _ _).alloc (Nat.le_refl _) _)); clear hw11; go_must (obtain ⟨FA, fa, EA, ea, AA, aa, hA⟩ := HX11.out.cin (.tail _ (.head _)) HI1.out); go_must (obtain ⟨FB, fb, EB, eb, AB, ab, hB⟩ := HX11.out.cin (.head _) HIt1.out); go_must (have x1 := HX11.out.lt (.tail _ (.head _))); go_must (have x2 := HX11.out.lt (.head _)); go_must (have a0' := (HX11.out.cell (.tail _ (.head _)) 0).trans hA.c0); go_must (have a1' := (HX11.out.cell (.tail _ (.head _)) 1).trans hA.c1); go_must (have a2' := (HX11.out.cell (.tail _ (.head _)) 2).trans hA.c2); go_must (have a19 := (HX11.out.cell (.tail _ (.head _)) 19).trans hA.c19); go_must (have a20 := (HX11.out.cell (.tail _ (.head _)) 20).trans hA.c20); go_must (have b0' := (HX11.out.cell (.head _) 0).trans hB.c0); go_must (have b1' := (HX11.out.cell (.head _) 1).trans hB.c1); go_must (have b2' := (HX11.out.cell (.head _) 2).trans hB.c2); go_must (have b19 := (HX11.out.cell (.head _) 19).trans hB.c19); go_must (have b20 := (HX11.out.cell (.head _) 20).trans hB.c20); go_must (have heqt := HEQ.out); go_must (have hss : t1.status = s1.status := (by rw [heqt]; rfl)); go_must (have hsv : t1.value = s1.value := (by rw [heqt]; rfl)); go_must (have hsf : t1.fuel = s1.fuel := (by rw [heqt]; rfl)); go_must (have hse : t1.events = s1.events := (by rw [heqt]; rfl)); go_must (have hsm : t1.mem = s1.mem := (by rw [heqt]; rfl)); go_must (have hsl : t1.frames.length = s1.frames.length := (by rw [heqt]; exact List.length_map _)); go_must (rw [hss] at b0'); go_must (rw [hsv] at b1'); go_must (rw [hsf] at b19); go_must (rw [hse] at b20); go_must (rw [hsl] at b2'); go_must (have HEA := Lib.hid hA.ev); go_must (have HEB : Hid (IntsAt w11 EB s1.events) := Lib.hid (hse ▸ hB.ev)); go_must (have HSE := Lib.hid (fun (W : World) (h1 : IntsAt W EA s1.events) (h2 : IntsAt W EB s1.events) => sameInts_any EA EB s1.events ea eb W h1 h2 (stinv_sm HI1.out).1)); go_must (have heq := fun W => eq_mem s1.mem HI1.out.mem W); go_must (have HIM := Lib.hid (info_mem (C := intsV s1.mem) (by simp [intsV, HI1.out.mem]))); go_must (have HR := Lib.hid (⟨range_mem (HX11.out.sts _ (.tail _ (.head _))).1 HI1.out.mem hA, by rw [← hsm]; exact range_mem (HX11.out.sts _ (.head _)).1 HIt1.out.mem hB⟩ : w11.rangeAt w8.heap.size 3 (intsV s1.mem) ∧ w11.rangeAt w10.heap.size 3 (intsV s1.mem))); go_must (have HFA := Lib.hid hA.fr); go_must (have HFB := Lib.hid hB.fr); go_must (obtain ⟨MM, hMM⟩ : ∃ M, intsV s1.mem = M := ⟨_, rfl⟩); go_must (rw [hMM] at HR HIM heq); go_must (have hst := HEND.out); go_must (obtain ⟨st, hst'⟩ : ∃ x, s1.status = x := ⟨_, rfl⟩); go_must (have HST := Lib.hid hst'); go_must (rw [hst'] at a0' b0' hst); go_must (obtain ⟨nf, hnf⟩ : ∃ x, s1.frames.length = x := ⟨_, rfl⟩); go_must (have HNF := Lib.hid hnf); go_must (rw [hnf] at a2' b2'); go_must (have hnf8 : nf ≤ 8 := (by have h := HI1.out.deep; omega)); go_must (obtain ⟨va, hva⟩ : ∃ x, s1.value = x := ⟨_, rfl⟩); go_must (rw [hva] at a1' b1'); go_must (obtain ⟨fu, hfu⟩ : ∃ x, s1.fuel = x := ⟨_, rfl⟩); go_must (rw [hfu] at a19 b19); go_must (have HC11 := Lib.hid (And.intro a2' b2')); go_must (have HS11 := Lib.hid a0'); go_must (have HSTN := Lib.hid hst); go_must (clear hA hB heqt hss hsv hsf hse hsm hsl hMM hst' hnf hva hfu hst)) | (refine wpList_load_midg (by rfl) 48 _ (by rfl) w8.heap.size 3 (by rfl) MM _ HR.out.1 Tryd.underlying48 (by rfl) HIM.out ?_) | (refine wpList_load_midg (by rfl) 48 _ (by rfl) w10.heap.size 3 (by rfl) MM _ HR.out.2 Tryd.underlying48 (by rfl) HIM.out ?_) | (go_at_call 34; go_must (refine (HSE.out _ HEA.out HEB.out).mono ?_; rintro e w12 ⟨rfl, hb12⟩; have HB12' := Lib.hid hb12; have a2 := (hb12.cell (p := ⟨w8.heap.size, 2, none⟩) x1).trans HC11.out.1; have b2 := (hb12.cell (p := ⟨w10.heap.size, 2, none⟩) x2).trans HC11.out.2; have y1 := Nat.lt_of_lt_of_le x1 hb12.size; have y2 := Nat.lt_of_lt_of_le x2 hb12.size; clear hb12 a0' a1' a2' a19 a20 b0' b1' b2' b19 b20 x1 x2)))
  clear a2 b2 y1 y2 heq
  have hq2 : (st != 0) = true := by have h := HSTN.out; simpa using h
  have HQ2 := Lib.hid hq2
  clear hq2
  have HZ1 := Lib.hid (HX11.out.lt (.tail _ (.head _)))
  have HZ2 := Lib.hid (HX11.out.lt (.head _))
  go_loopw [16] (fun vi wr => ∃ i : Nat, i ≤ nf ∧ vi = .int .i64 (i : Int) ∧ Below w12.heap.size w12 wr) (fun vi _ => nf - (intOf vi).toNat)
  case atStart => exact ⟨0, by omega, rfl, Below.refl _ _⟩
  case round =>
    obtain ⟨i, hi, rfl, hbr⟩ := hrel
    have HBR := Lib.hid hbr
    have HBL := Lib.hid (HB12'.out.trans (hbr.mono HB12'.out.size))
    have HXR := Lib.hid (HX11.out.keeps HBL.out)
    have a2 := (HBL.out.cell (p := ⟨w8.heap.size, 2, none⟩) HZ1.out).trans HC11.out.1
    have k1 := Nat.lt_of_lt_of_le HZ1.out HBL.out.size
    clear hbr
    by_cases hin : i = nf
    · obtain rfl : nf = i := hin.symm
      have a0' := (HBL.out.cell (p := ⟨w8.heap.size, 0, none⟩) HZ1.out).trans HS11.out
      have hq2 := HQ2.out
      go_wp2_with fail
      go_ret
      exact ⟨rfl, HBW.out.trans (HXR.out.below.mono HBW.out.size)⟩
    · have hi1 : (i : Int) < nf := by omega
      have hi2 : (0 : Int) ≤ i := by omega
      obtain ⟨f, hf⟩ : ∃ f, s1.frames[i]? = some f := ⟨s1.frames[i]'(by rw [HNF.out]; omega), List.getElem?_eq_getElem _⟩
      have hfo : FrOk p f := HI1.out.fr f (List.mem_of_getElem? hf)
      have hfc := HCL.out f (List.mem_of_getElem? hf)
      have hft : t1.frames[i]? = some (mapFr p c f) := by rw [HEQ.out]; show (s1.frames.map (mapFr p c))[i]? = _; rw [List.getElem?_map, hf]; rfl
      have htn : 0 < t1.frames.length := by have := (List.getElem?_eq_some_iff.1 hft).1; omega
      obtain ⟨F, m, f1, f2, f3, f4⟩ := hfo.parts
      obtain ⟨r0, r1, r2, r3, r4, r5, r6, r7, r8, r9, r10, r11, hreg⟩ := regs_12 hfo.regs
      have hregt : (mapFr p c f).regs = [r0, r1, r2, r3, r4, r5, r6, r7, r8, r9, r10, r11] := hreg
      obtain ⟨ga, e1, gaz, hca⟩ := HFA.out (by rw [HNF.out]; omega)
      obtain ⟨gb, e2, gbz, hcb⟩ := HFB.out htn
      subst e1 e2
      obtain ⟨kfn, hkfn⟩ : ∃ n : Nat, f.fn = n := ⟨f.fn.toNat, by have := hfo.fn0; omega⟩
      obtain ⟨kpc, hkpc⟩ : ∃ n : Nat, f.pc = n := ⟨f.pc.toNat, by have := hfo.pc0; omega⟩
      rw [show f.fn.toNat = kfn by omega] at f1
      rw [show f.pc.toNat = kpc by omega] at f3 f4
      have hkM : kpc < F.code.length := (List.getElem?_eq_some_iff.1 f4).1
      have x0 := (hca i f 0 hf (by omega)).trans (show _ = some (Value.int .i64 (kfn : Int)) by rw [← hkfn]; rfl)
      have x1 := (hca i f 1 hf (by omega)).trans (show _ = some (Value.int .i64 (kpc : Int)) by rw [← hkpc]; rfl)
      have x2 := (hca i f 2 hf (by omega)).trans (show _ = some (Value.int .i64 r0) by unfold frCell; rw [hreg]; rfl)
      have x3 := (hca i f 3 hf (by omega)).trans (show _ = some (Value.int .i64 r1) by unfold frCell; rw [hreg]; rfl)
      have x4 := (hca i f 4 hf (by omega)).trans (show _ = some (Value.int .i64 r2) by unfold frCell; rw [hreg]; rfl)
      have x5 := (hca i f 5 hf (by omega)).trans (show _ = some (Value.int .i64 r3) by unfold frCell; rw [hreg]; rfl)
      have x6 := (hca i f 6 hf (by omega)).trans (show _ = some (Value.int .i64 r4) by unfold frCell; rw [hreg]; rfl)
      have x7 := (hca i f 7 hf (by omega)).trans (show _ = some (Value.int .i64 r5) by unfold frCell; rw [hreg]; rfl)
      have x8 := (hca i f 8 hf (by omega)).trans (show _ = some (Value.int .i64 r6) by unfold frCell; rw [hreg]; rfl)
      have x9 := (hca i f 9 hf (by omega)).trans (show _ = some (Value.int .i64 r7) by unfold frCell; rw [hreg]; rfl)
      have x10 := (hca i f 10 hf (by omega)).trans (show _ = some (Value.int .i64 r8) by unfold frCell; rw [hreg]; rfl)
      have x11 := (hca i f 11 hf (by omega)).trans (show _ = some (Value.int .i64 r9) by unfold frCell; rw [hreg]; rfl)
      have x12 := (hca i f 12 hf (by omega)).trans (show _ = some (Value.int .i64 r10) by unfold frCell; rw [hreg]; rfl)
      have x13 := (hca i f 13 hf (by omega)).trans (show _ = some (Value.int .i64 r11) by unfold frCell; rw [hreg]; rfl)
      have y1 := (hcb i (mapFr p c f) 1 hft (by omega)).trans (show _ = some (Value.int .i64 (posF F kpc : Int)) by unfold mapFr; rw [f2, hkpc]; rfl)
      have y2 := (hcb i (mapFr p c f) 2 hft (by omega)).trans (show _ = some (Value.int .i64 r0) by unfold frCell; rw [hregt]; rfl)
      have y3 := (hcb i (mapFr p c f) 3 hft (by omega)).trans (show _ = some (Value.int .i64 r1) by unfold frCell; rw [hregt]; rfl)
      have y4 := (hcb i (mapFr p c f) 4 hft (by omega)).trans (show _ = some (Value.int .i64 r2) by unfold frCell; rw [hregt]; rfl)
      have y5 := (hcb i (mapFr p c f) 5 hft (by omega)).trans (show _ = some (Value.int .i64 r3) by unfold frCell; rw [hregt]; rfl)
      have y6 := (hcb i (mapFr p c f) 6 hft (by omega)).trans (show _ = some (Value.int .i64 r4) by unfold frCell; rw [hregt]; rfl)
      have y7 := (hcb i (mapFr p c f) 7 hft (by omega)).trans (show _ = some (Value.int .i64 r5) by unfold frCell; rw [hregt]; rfl)
      have y8 := (hcb i (mapFr p c f) 8 hft (by omega)).trans (show _ = some (Value.int .i64 r6) by unfold frCell; rw [hregt]; rfl)
      have y9 := (hcb i (mapFr p c f) 9 hft (by omega)).trans (show _ = some (Value.int .i64 r7) by unfold frCell; rw [hregt]; rfl)
      have y10 := (hcb i (mapFr p c f) 10 hft (by omega)).trans (show _ = some (Value.int .i64 r8) by unfold frCell; rw [hregt]; rfl)
      have y11 := (hcb i (mapFr p c f) 11 hft (by omega)).trans (show _ = some (Value.int .i64 r9) by unfold frCell; rw [hregt]; rfl)
      have y12 := (hcb i (mapFr p c f) 12 hft (by omega)).trans (show _ = some (Value.int .i64 r10) by unfold frCell; rw [hregt]; rfl)
      have y13 := (hcb i (mapFr p c f) 13 hft (by omega)).trans (show _ = some (Value.int .i64 r11) by unfold frCell; rw [hregt]; rfl)
      rw [Nat.add_zero] at x0
      rw [← HBL.out.cell (p := ⟨ga, _, none⟩) gaz] at x0 x1 x2 x3 x4 x5 x6 x7 x8 x9 x10 x11 x12 x13
      rw [← HBL.out.cell (p := ⟨gb, _, none⟩) gbz] at y1 y2 y3 y4 y5 y6 y7 y8 y9 y10 y11 y12 y13
      have HXN := Lib.hid (show _ ∧ _ ∧ _ ∧ _ ∧ _ ∧ _ ∧ _ ∧ _ ∧ _ ∧ _ ∧ _ ∧ _ ∧ _ from ⟨x1, x2, x3, x4, x5, x6, x7, x8, x9, x10, x11, x12, x13⟩)
      have HYN := Lib.hid (show _ ∧ _ ∧ _ ∧ _ ∧ _ ∧ _ ∧ _ ∧ _ ∧ _ ∧ _ ∧ _ ∧ _ ∧ _ from ⟨y1, y2, y3, y4, y5, y6, y7, y8, y9, y10, y11, y12, y13⟩)
      have zga : ga < wr.heap.size := Nat.lt_of_lt_of_le gaz HBL.out.size
      have zgb : gb < wr.heap.size := Nat.lt_of_lt_of_le gbz HBL.out.size
      have pcr := HXR.out.pcell
      have zpr := block_lt HXR.out.pblk
      have HWF := Lib.hid (fun W h1 h2 => HWH.out W h1 h2 kfn F f1)
      obtain ⟨M, hM⟩ : ∃ M, F.code.length = M := ⟨_, rfl⟩
      have HM := Lib.hid hM
      rw [hM] at HWF hkM
      have HRC := Lib.hid (of_rch f3)
      have HTW := Lib.hid (fun (W : World) (hb : Below wr.heap.size wr W) => HT1.out.keeps (HXR.out.below.trans (hb.mono HXR.out.below.size)))
      have HPW := Lib.hid (fun (W : World) (hb : Below wr.heap.size wr W) => HP.out.keeps (HXR.out.below.trans (hb.mono HXR.out.below.size)))
      clear hf hft htn f1 f2 f3 f4 hreg hregt hca hcb hkfn hkpc hM hfo hfc gaz gbz x1 y1 x2 y2 x3 y3 x4 y4 x5 y5 x6 y6 x7 y7 x8 y8 x9 y9 x10 y10 x11 y11 x12 y12 x13 y13
      have hkM1 : (kpc : Int) < M := by omega
      have hkM0 : (0 : Int) ≤ kpc := by omega
      go_wp2_with fail
      go_region_held3 (fun w' => w'.cell? ⟨w1.heap.size, 0, none⟩ = some (.slice (some ⟨gp, 0, none⟩) p.length cap1) ∧ w'.cell? ⟨w8.heap.size, 2, none⟩ = some (.slice (some ⟨ga, 0, none⟩) nf fa) ∧ w'.cell? ⟨ga, i * 14, none⟩ = some (.int .i64 (kfn : Int))) (refine ⟨?_, ?_, ?_⟩ <;> first | assumption | exact qz1 | exact qz2 | exact qz3) (first | (go_at_call 22; go_must (refine (HWF.out _ (HTW.out _ (by have hb := Below.refl wr.heap.size wr; repeat (first | exact hb | exact Below.refl _ _ | apply Below.drew | apply below_drewN | refine Below.alloc ?_ (by first | omega | (simp; done) | (simp; omega)) _ | refine Below.setCell ?_ (by first | omega | (simp; done) | (simp; omega)) _))) (HPW.out _ (by have hb := Below.refl wr.heap.size wr; repeat (first | exact hb | exact Below.refl _ _ | apply Below.drew | apply below_drewN | refine Below.alloc ?_ (by first | omega | (simp; done) | (simp; omega)) _ | refine Below.setCell ?_ (by first | omega | (simp; done) | (simp; omega)) _)))).mono ?_; rintro e wz ⟨⟨ab, rfl, hab, hIA⟩, hbz⟩; have hbz' : Below wr.heap.size wr wz := (by refine Below.trans ?_ (hbz.mono (by simp)); have hb := Below.refl wr.heap.size wr; repeat (first | exact hb | exact Below.refl _ _ | apply Below.drew | apply below_drewN | refine Below.alloc ?_ (by first | omega | (simp; done) | (simp; omega)) _ | refine Below.setCell ?_ (by first | omega | (simp; done) | (simp; omega)) _)); have HBZ := Lib.hid hbz'; have HIA := Lib.hid hIA; have qz1 := (hbz'.cell (p := ⟨w1.heap.size, 0, none⟩) zpr).trans pcr; have qz2 := (hbz'.cell (p := ⟨w8.heap.size, 2, none⟩) k1).trans a2; have qz3 := (hbz'.cell (p := ⟨ga, i * 14, none⟩) zga).trans x0; clear hab hIA hbz hbz')))
      all_goals (
        rename_i hHeld
        clear hHeld
        have HBLZ := HBL.out.trans (HBZ.out.mono HBL.out.size)
        obtain ⟨x1, x2, x3, x4, x5, x6, x7, x8, x9, x10, x11, x12, x13⟩ := HXN.out
        obtain ⟨y1, y2, y3, y4, y5, y6, y7, y8, y9, y10, y11, y12, y13⟩ := HYN.out
        rw [← HBZ.out.cell (p := ⟨ga, _, none⟩) zga] at x1 x2 x3 x4 x5 x6 x7 x8 x9 x10 x11 x12 x13
        rw [← HBZ.out.cell (p := ⟨gb, _, none⟩) zgb] at y1 y2 y3 y4 y5 y6 y7 y8 y9 y10 y11 y12 y13
        have a2z := (HBZ.out.cell (p := ⟨w8.heap.size, 2, none⟩) k1).trans a2
        have b2z := (HBLZ.cell (p := ⟨w10.heap.size, 2, none⟩) HZ2.out).trans HC11.out.2
        have k1z := Nat.lt_of_lt_of_le k1 HBZ.out.size
        have k2z := Nat.lt_of_lt_of_le HZ2.out HBLZ.size
        have zgaz := Nat.lt_of_lt_of_le zga HBZ.out.size
        have zgbz := Nat.lt_of_lt_of_le zgb HBZ.out.size
        have ca := HIA.out.cell (outL_get (whF_get F (pc := kpc) (by rw [HM.out]; omega)))
        have hoi : oI (if rchB F kpc = true then some (posF F kpc) else none) = (posF F kpc : Int) := by rw [if_pos HRC.out]; rfl
        rw [hoi] at ca
        have zab := HIA.out.lt
        have her := fun W => eq_regs10 r0 r1 r2 r3 r4 r5 r6 r7 r8 r9 r10 r11 W
        clear hoi qz1 qz2 qz3 a2 k1 x0 zga zgb pcr zpr HBLZ
        go_wp2_with fail
        go_quiet (fail)
        go_wp2_with fail
        go_roundw
        case rel => exact ⟨i + 1, by omega, by go_num, HBR.out.trans (by have hb := HBZ.out; exact (Below.mono (by repeat (first | exact hb | exact Below.refl _ _ | apply Below.drew | apply below_drewN | refine Below.alloc ?_ (by first | omega | (simp; done) | (simp; omega)) _ | refine Below.setCell ?_ (by first | omega | (simp; done) | (simp; omega)) _)) (HBR.out.size)))⟩
        case measure => simp [intOf]; omega)
end Go.Proofs.YtnbopmlemddakaaDoor
