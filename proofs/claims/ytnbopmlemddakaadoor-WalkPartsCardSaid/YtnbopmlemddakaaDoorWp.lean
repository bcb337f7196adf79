/-
  The walk of WalkParts: it returns true.
-/
import Derived.Test.YtnbopmlemddakaaDoorOpI
import Derived.Test.YtnbopmlemddakaaDoorStQ
import Derived.Test.YtnbopmlemddakaaDoorPg
namespace Go.Proofs.YtnbopmlemddakaaDoor
open Go.RowKit Tier
set_option maxRecDepth 100000 in
set_option maxHeartbeats 8000000 in
theorem walkParts_walk (A : Option Addr) (l : List Fnc) (cap : Nat) (a0 a1 : Int) (YA : Option Addr) (ans : List Int) (ycap : Nat) (fuel : Int) (x y : Int) (w : World) (ht : Tab w) (hraw : RawsAt w A l) (hln : (l.length : Int) ≤ 9223372036854775807) (hin : InOk w a0 a1 YA ans ycap fuel) (hx : In x) (hy : In y) :
    Calls Tryd.prog 6 #[.slice A l.length cap, .agg #[.int .i64 a0, .int .i64 a1, .slice YA ans.length ycap, .int .i64 fuel], .int .i64 x, .int .i64 y] w fun e w' => e = .returned (.bool true) ∧ Below w.heap.size w w' := by
  have HT := Lib.hid ht
  have HR := Lib.hid hraw
  have HIN := Lib.hid hin
  have hright := mkP_right l
  clear ht hraw hin
  have px := picked_in x 150 (by omega)
  have py := picked_in y 150 (by omega)
  have HKX := Lib.hid (fun (W : World) => picked_any x 150 W hx (by omega) (by omega))
  have HKY := Lib.hid (fun (W : World) => picked_any y 150 W hy (by omega) (by omega))
  obtain ⟨u, hu⟩ : ∃ u : Nat, pickedI x 150 = u := ⟨(pickedI x 150).toNat, by omega⟩
  obtain ⟨v, hv⟩ : ∃ v : Nat, pickedI y 150 = v := ⟨(pickedI y 150).toNat, by omega⟩
  rw [hu] at px HKX
  rw [hv] at py HKY
  obtain ⟨z, hz⟩ : ∃ z, u + v = z := ⟨_, rfl⟩
  have hw : IntKind.i64.wrap ((u : Int) + (v : Int)) = (z : Int) := by rw [IntKind.wrap_i64]; omega
  go_enter Tryd.func6, Tryd.ntmps6
  go_wp2_with fail
  obtain ⟨wi, hwi⟩ : ∃ wi, w.alloc (.cells #[.int .i64 a0, .int .i64 a1, .slice YA ans.length ycap, .int .i64 fuel] 46) = wi := ⟨_, rfl⟩
  have HBI : Hid (Below w.heap.size w wi) := Lib.hid (hwi ▸ (Below.refl _ w).alloc (Nat.le_refl _) _)
  have HIB : Hid (wi.heap[w.heap.size]? = some (.cells #[.int .i64 a0, .int .i64 a1, .slice YA ans.length ycap, .int .i64 fuel] 46 (0, 0))) := Lib.hid (hwi ▸ heap_alloc_new w _)
  rw [hwi]
  refine (program_any A cap l _ (HT.out.keeps HBI.out) hln (HR.out.keeps HBI.out)).mono ?_
  rintro e w1 ⟨⟨A1, cap1, vs, rfl, hpv⟩, hb1⟩
  have HP := Lib.hid hpv.at
  have HBW := Lib.hid (HBI.out.trans (hb1.mono HBI.out.size))
  have HT1 := Lib.hid (HT.out.keeps HBW.out)
  have hib := (hb1.block _ (block_lt HIB.out)).trans HIB.out
  have i0 := (cell_block hib 0).trans rfl
  have i1 := (cell_block hib 1).trans rfl
  have i2 := (cell_block hib 2).trans rfl
  have i3 := (cell_block hib 3).trans rfl
  have zi := block_lt hib
  clear hpv hb1 hwi HBI HIB hib vs
  generalize mkP l = p at *
  have hp := right_of hright
  have HG := Lib.hid (hright)
  have HRP := Lib.hid hp
  have HBG := Lib.hid (fun (W : World) (hb : Below w1.heap.size w1 W) => kbegin_any hright a0 a1 fuel ans YA ycap A1 cap1 W (HT1.out.keeps hb) (HP.out.keeps hb) ((HIN.out.row.keeps HBW.out).keeps hb) HIN.out.len HIN.out.cap HIN.out.fuel)
  have hi0 := inSt_inv hp a0 a1 ans fuel
  obtain ⟨s0, hs0⟩ : ∃ s0, inSt p a0 a1 ans fuel = s0 := ⟨_, rfl⟩
  rw [hs0] at HBG hi0
  obtain ⟨s1, hs1⟩ : ∃ s1, walkSt p z s0 = s1 := ⟨_, rfl⟩
  obtain ⟨s2, hs2⟩ : ∃ s2, walkSt p u s0 = s2 := ⟨_, rfl⟩
  have h21 : walkSt p v s2 = s1 := by rw [← hs2, ← hs1, ← hz, walkSt_add]
  have HI0 := Lib.hid hi0
  have HI1 : Hid (StInv p s1) := Lib.hid (hs1 ▸ hi0.walk hp z)
  have HI2 : Hid (StInv p s2) := Lib.hid (hs2 ▸ hi0.walk hp u)
  have HWA := Lib.hid (fun (C : List Value) (W : World) (hb : Below w1.heap.size w1 W) (hC : CellsSt C W w1.heap.size s0) => swalk_c hright z (by omega) (HT1.out.keeps hb) (HP.out.keeps hb) HI0.out hC)
  have HWB := Lib.hid (fun (C : List Value) (W : World) (hb : Below w1.heap.size w1 W) (hC : CellsSt C W w1.heap.size s0) => swalk_c hright u (by omega) (HT1.out.keeps hb) (HP.out.keeps hb) HI0.out hC)
  have HWC := Lib.hid (fun (C : List Value) (W : World) (hb : Below w1.heap.size w1 W) (hC : CellsSt C W w1.heap.size s2) => swalk_c hright v (by omega) (HT1.out.keeps hb) (HP.out.keeps hb) HI2.out hC)
  rw [hs1] at HWA
  rw [hs2] at HWB
  rw [h21] at HWC
  clear hs0 hs1 hs2 h21 hi0 hp hu hv hz hx hy
  clear hright
  go_wp2_with fail
  refine (HBG.out _ ((Below.refl _ w1).alloc (Nat.le_refl _) _)).mono ?_
  rintro e w2 ⟨⟨C0, rfl, hC0⟩, hb2⟩
  have HX2 : Hid (Sx w1 w1.heap.size (.slice A1 p.length cap1) w2 []) := Lib.hid ((Sx.mk ((Below.refl _ w1).alloc (Nat.le_refl _) _) (heap_alloc_new w1 _) (fun x hx => by simp at hx)).keeps hb2)
  have HC0 := Lib.hid (hC0.base (by simp : w1.heap.size ≤ _))
  have HJ0 := Lib.hid (info_st (HC0.out.len HI0.out.mem))
  have hz := zero_st
  clear hC0 hb2 HBG i0 i1 i2 i3 zi
  go_wp2_with (refine wpList_store_mid (by rfl) 50 _ _ (by rfl) w2.heap.size 0 C0.toArray (by rfl) (by rfl) (there_new w2 zeroV _ (by simp [HC0.out.len HI0.out.mem, zeroV_length])) (by simpa using HJ0.out) HC0.out.one ?_; obtain ⟨w3, hw3⟩ : ∃ w3, (w2.alloc (.cells zeroV.toArray 50)).setCells w2.heap.size 0 C0.toArray.toList = w3 := ⟨_, rfl⟩; rw [hw3]; have HX3 : Hid (Sx w1 w1.heap.size (.slice A1 p.length cap1) w3 [(w2.heap.size, C0, s0)]) := Lib.hid (hw3 ▸ HX2.out.add HC0.out HI0.out.mem); have pc3 := HX3.out.pcell; clear hw3)
  refine (HKX.out _).mono ?_
  rintro e w' ⟨rfl, rfl⟩
  go_wp2_with fail
  refine (HKY.out _).mono ?_
  rintro e w' ⟨rfl, rfl⟩
  go_wp2_with (refine wpList_load_mid (by rfl) 50 _ (by rfl) w2.heap.size 0 (by rfl) C0 _ (HX3.out.range (.head _)) Tryd.underlying50 (by rfl) HJ0.out ?_)
  refine (HWA.out C0 _ HX3.out.below (HX3.out.sts _ (.head _)).2).mono ?_
  rintro e w4 ⟨⟨C1, rfl, hC1⟩, hb1⟩
  have HX4 := Lib.hid (HX3.out.keeps hb1)
  have HC1 := Lib.hid (hC1.base HX3.out.below.size)
  have HJ1 := Lib.hid (info_st (HC1.out.len HI1.out.mem))
  clear hC1 hb1 pc3
  have pc4 := HX4.out.pcell
  go_wp2_with (first | (refine wpList_store_mid (by rfl) 50 _ _ (by rfl) w4.heap.size 0 C1.toArray (by rfl) (by rfl) (there_new w4 zeroV _ (by simp [HC1.out.len HI1.out.mem, zeroV_length])) (by simpa using HJ1.out) HC1.out.one ?_; obtain ⟨w5, hw5⟩ : ∃ w5, (w4.alloc (.cells zeroV.toArray 50)).setCells w4.heap.size 0 C1.toArray.toList = w5 := ⟨_, rfl⟩; rw [hw5]; have HX5 : Hid (Sx w1 w1.heap.size (.slice A1 p.length cap1) w5 [(w4.heap.size, C1, s1), (w2.heap.size, C0, s0)]) := Lib.hid (hw5 ▸ HX4.out.add HC1.out HI1.out.mem); have pc5 := HX5.out.pcell; clear hw5) | (refine wpList_load_mid (by rfl) 50 _ (by rfl) w2.heap.size 0 (by rfl) C0 _ (HX5.out.range (.tail _ (.head _))) Tryd.underlying50 (by rfl) HJ0.out ?_))
  refine (HWB.out C0 _ HX5.out.below (HX5.out.sts _ (.tail _ (.head _))).2).mono ?_
  rintro e w6 ⟨⟨C2, rfl, hC2⟩, hb2⟩
  have HX6 := Lib.hid (HX5.out.keeps hb2)
  have HC2 := Lib.hid (hC2.base HX5.out.below.size)
  have HJ2 := Lib.hid (info_st (HC2.out.len HI2.out.mem))
  clear hC2 hb2 pc5 pc4
  have pc6 := HX6.out.pcell
  go_wp2_with (first | (refine wpList_store_mid (by rfl) 50 _ _ (by rfl) w6.heap.size 0 C2.toArray (by rfl) (by rfl) (there_new w6 zeroV _ (by simp [HC2.out.len HI2.out.mem, zeroV_length])) (by simpa using HJ2.out) HC2.out.one ?_; obtain ⟨w7, hw7⟩ : ∃ w7, (w6.alloc (.cells zeroV.toArray 50)).setCells w6.heap.size 0 C2.toArray.toList = w7 := ⟨_, rfl⟩; rw [hw7]; have HX7 : Hid (Sx w1 w1.heap.size (.slice A1 p.length cap1) w7 [(w6.heap.size, C2, s2), (w4.heap.size, C1, s1), (w2.heap.size, C0, s0)]) := Lib.hid (hw7 ▸ HX6.out.add HC2.out HI2.out.mem); have pc7 := HX7.out.pcell; clear hw7) | (refine wpList_load_mid (by rfl) 50 _ (by rfl) w6.heap.size 0 (by rfl) C2 _ (HX7.out.range (.head _)) Tryd.underlying50 (by rfl) HJ2.out ?_))
  refine (HWC.out C2 _ HX7.out.below (HX7.out.sts _ (.head _)).2).mono ?_
  rintro e w8 ⟨⟨C3, rfl, hC3⟩, hb3⟩
  have HX8 := Lib.hid (HX7.out.keeps hb3)
  have HC3 := Lib.hid (hC3.base HX7.out.below.size)
  have HJ3 := Lib.hid (info_st (HC3.out.len HI1.out.mem))
  clear hC3 hb3 pc6 pc7
  have HI3 := HI1
  have pc8 := HX8.out.pcell
  obtain ⟨FA, fa, EA, ea, AA, aa, hci⟩ := HC1.out.cin HI1.out.mem (fun f hf => (HI1.out.fr f hf).regs)
  have HC2c := Lib.hid hci.c2
  clear hci
  have hd8 := HI1.out.deep
  obtain ⟨n, hn⟩ : ∃ n, s1.frames.length = n := ⟨_, rfl⟩
  rw [hn] at hd8 HC2c
  have hd8' : (n : Int) ≤ 8 := by omega
  clear hn
  go_wp2_with (first | (refine wpList_store_mid (by rfl) 50 _ _ (by rfl) w8.heap.size 0 C3.toArray (by rfl) (by rfl) (there_new w8 zeroV _ (by simp [HC3.out.len HI3.out.mem, zeroV_length])) (by simpa using HJ3.out) HC3.out.one ?_; obtain ⟨w9, hw9⟩ : ∃ w9, (w8.alloc (.cells zeroV.toArray 50)).setCells w8.heap.size 0 C3.toArray.toList = w9 := ⟨_, rfl⟩; rw [hw9]; have HX9 : Hid (Sx w1 w1.heap.size (.slice A1 p.length cap1) w9 [(w8.heap.size, C3, s1), (w6.heap.size, C2, s2), (w4.heap.size, C1, s1), (w2.heap.size, C0, s0)]) := Lib.hid (hw9 ▸ HX8.out.add HC3.out HI3.out.mem); have pc9 := HX9.out.pcell; clear hw9) | (refine wpList_load_midg (by rfl) 50 _ (by rfl) w4.heap.size 0 (by rfl) C1 _ (HX9.out.range (.tail _ (.tail _ (.head _)))) Tryd.underlying50 (by rfl) HJ1.out ?_) | (refine wpList_load_midg (by rfl) 50 _ (by rfl) w8.heap.size 0 (by rfl) C3 _ (HX9.out.range (.head _)) Tryd.underlying50 (by rfl) HJ3.out ?_) | (go_at_call 30; go_must (refine (sameState_any s1 C1 C3 _ HI1.out (HX9.out.sts _ (.tail _ (.tail _ (.head _)))).2 (HX9.out.sts _ (.head _)).2).mono ?_; rintro e w10 ⟨rfl, hb10⟩; have HX10 := Lib.hid (HX9.out.keeps hb10); have c2 := (HX10.out.cell (.tail _ (.tail _ (.head _))) 2).trans HC2c.out; clear hb10)))
  go_ret
  exact ⟨rfl, HBW.out.trans (HX10.out.below.mono HBW.out.size)⟩
end Go.Proofs.YtnbopmlemddakaaDoor
