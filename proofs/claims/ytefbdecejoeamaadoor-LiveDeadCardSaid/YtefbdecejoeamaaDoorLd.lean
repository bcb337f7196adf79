/-
  The walk of LiveDead: it returns true.
-/
import Derived.Test.YtefbdecejoeamaaDoorOpI
import Derived.Test.YtefbdecejoeamaaDoorLdM
import Derived.Test.YtefbdecejoeamaaDoorLv
namespace Go.Proofs.YtefbdecejoeamaaDoor
open Go.RowKit Tier
theorem ld_start {w4 w5 w6 : World} {C : List Value} {S : Nat → Nat → Nat} {p : List Fnc} {s1 : St} (hi : StInv p s1) (hb : Below w4.heap.size w4 w5) (hC : CellsSt C w5 w4.heap.size s1) (hw : (w5.alloc (.cells zeroV.toArray 46)).setCells w5.heap.size 0 C = w6) (hbox : w6.heap[w5.heap.size]? = some (.cells C.toArray 46 (0, 0))) : LdW w4 w6 w5.heap.size C S s1 s1 := by
  have hb56 : Below w5.heap.size w5 w6 := hw ▸ below_setCells (Nat.le_refl _) _ _ _ ((Below.refl _ _).alloc (Nat.le_refl _) _)
  exact ⟨hbox, hC.below hb56, hb.trans (hb56.mono hb.size), SimS.refl hi⟩
theorem live_nat (v r : Nat) (_hv : v < 4096) : bits .and .i64 ((v / 2 ^ r : Nat) : Int) 1 = ((v / 2 ^ r % 2 : Nat) : Int) := by
  have h := and_mask ((v / 2 ^ r : Nat) : Int) 1 (by omega)
  have e : (2 : Int) ^ 1 - 1 = 1 := by decide
  rw [e] at h
  rw [h]
  omega
set_option maxRecDepth 100000 in
set_option maxHeartbeats 8000000 in
theorem liveDead_walk (A : Option Addr) (l : List Fnc) (cap : Nat) (a0 a1 : Int) (YA : Option Addr) (ans : List Int) (ycap : Nat) (fuel : Int) (n : Int) (junk : Int) (w : World) (ht : Tab w) (hraw : RawsAt w A l) (hln : (l.length : Int) ≤ 9223372036854775807) (hin : InOk w a0 a1 YA ans ycap fuel) (hn : In n) :
    Calls Tryd.prog 16 #[.slice A l.length cap, .agg #[.int .i64 a0, .int .i64 a1, .slice YA ans.length ycap, .int .i64 fuel], .int .i64 n, .int .i64 junk] w fun e w' => e = .returned (.bool true) ∧ Below w.heap.size w w' := by
  have HT := Lib.hid ht
  have HR := Lib.hid hraw
  have HIN := Lib.hid hin
  have hright := mkP_right l
  clear ht hraw hin
  have pn := picked_in n 200 (by omega)
  have HKN := Lib.hid (fun (W : World) => picked_any n 200 W hn (by omega) (by omega))
  obtain ⟨u, hu⟩ : ∃ u : Nat, pickedI n 200 = u := ⟨(pickedI n 200).toNat, by omega⟩
  rw [hu] at pn HKN
  go_enter Tryd.func16, Tryd.ntmps16
  go_wp2_with fail
  obtain ⟨wi, hwi⟩ : ∃ wi, w.alloc (.cells #[.int .i64 a0, .int .i64 a1, .slice YA ans.length ycap, .int .i64 fuel] 42) = wi := ⟨_, rfl⟩
  have HBI : Hid (Below w.heap.size w wi) := Lib.hid (hwi ▸ (Below.refl _ w).alloc (Nat.le_refl _) _)
  have HIB : Hid (wi.heap[w.heap.size]? = some (.cells #[.int .i64 a0, .int .i64 a1, .slice YA ans.length ycap, .int .i64 fuel] 42 (0, 0))) := Lib.hid (hwi ▸ heap_alloc_new w _)
  rw [hwi]
  refine (program_any A cap l _ (HT.out.keeps HBI.out) hln (HR.out.keeps HBI.out)).mono ?_
  rintro e w1 ⟨⟨A1, cap1, vs, rfl, hpv⟩, hb1⟩
  have HP := Lib.hid hpv.at
  have HBW := Lib.hid (HBI.out.trans (hb1.mono HBI.out.size))
  have HT1 := Lib.hid (HT.out.keeps HBW.out)
  have hib := (hb1.block _ (block_lt HIB.out)).trans HIB.out
  have i0 := (cell_block hib 0).trans rfl
  have i1 := (cell_block hib 1).trans rfl
  have i2 := (cell_block hib 2).trans rfl
  have i3 := (cell_block hib 3).trans rfl
  have zi := block_lt hib
  clear hpv hb1 hwi HBI HIB hib vs
  generalize mkP l = p at *
  have hp := right_of hright
  have HG := Lib.hid (hright)
  have HRP := Lib.hid hp
  have HBG := Lib.hid (fun (W : World) (hb : Below w1.heap.size w1 W) => kbegin_any hright a0 a1 fuel ans YA ycap A1 cap1 W (HT1.out.keeps hb) (HP.out.keeps hb) ((HIN.out.row.keeps HBW.out).keeps hb) HIN.out.len HIN.out.cap HIN.out.fuel)
  have hi0 := inSt_inv hp a0 a1 ans fuel
  obtain ⟨s0, hs0⟩ : ∃ s0, inSt p a0 a1 ans fuel = s0 := ⟨_, rfl⟩
  rw [hs0] at HBG hi0
  obtain ⟨s1, hs1⟩ : ∃ s1, walkSt p u s0 = s1 := ⟨_, rfl⟩
  obtain ⟨s3, hs3⟩ : ∃ s3, walkSt p 400 s1 = s3 := ⟨_, rfl⟩
  have HI0 := Lib.hid hi0
  have HI1 : Hid (StInv p s1) := Lib.hid (hs1 ▸ hi0.walk hp u)
  have HI3 : Hid (StInv p s3) := Lib.hid (hs3 ▸ HI1.out.walk hp 400)
  have HWA := Lib.hid (fun (C : List Value) (W : World) (hb : Below w1.heap.size w1 W) (hC : CellsSt C W w1.heap.size s0) => swalk_c hright u (by omega) (HT1.out.keeps hb) (HP.out.keeps hb) HI0.out hC)
  have HWB := Lib.hid (fun (C : List Value) (W : World) (hb : Below w1.heap.size w1 W) (hC : CellsSt C W w1.heap.size s1) => swalk_c hright 0 (by omega) (HT1.out.keeps hb) (HP.out.keeps hb) HI1.out hC)
  have HWC := Lib.hid (fun (C : List Value) (W : World) (hb : Below w1.heap.size w1 W) (hC : CellsSt C W w1.heap.size s1) => swalk_c hright 400 (by omega) (HT1.out.keeps hb) (HP.out.keeps hb) HI1.out hC)
  have HS3 := Lib.hid hs3
  rw [hs1] at HWA
  rw [show walkSt p 0 s1 = s1 from rfl] at HWB
  rw [hs3] at HWC
  have HLV := Lib.hid (fun (W : World) (hb : Below w1.heap.size w1 W) (k : Nat) (F : Fnc) (hF : p[k]? = some F) => live_any p A1 cap1 k F W (HT1.out.keeps hb) (HP.out.keeps hb) hright hF)
  clear hs0 hs1 hs3 hi0 hp hu hn
  clear hright
  go_wp2_with fail
  refine (HBG.out _ ((Below.refl _ w1).alloc (Nat.le_refl _) _)).mono ?_
  rintro e w2 ⟨⟨C0, rfl, hC0⟩, hb2⟩
  have HX2 : Hid (Sx w1 w1.heap.size (.slice A1 p.length cap1) w2 []) := Lib.hid ((Sx.mk ((Below.refl _ w1).alloc (Nat.le_refl _) _) (heap_alloc_new w1 _) (fun x hx => by simp at hx)).keeps hb2)
  have HC0 := Lib.hid (hC0.base (by simp : w1.heap.size ≤ _))
  have HJ0 := Lib.hid (info_st (HC0.out.len HI0.out.mem))
  have hz := zero_st
  clear hC0 hb2 HBG i0 i1 i2 i3 zi
  go_wp2_with (refine wpList_store_mid (by rfl) 46 _ _ (by rfl) w2.heap.size 0 C0.toArray (by rfl) (by rfl) (there_new w2 zeroV _ (by simp [HC0.out.len HI0.out.mem, zeroV_length])) (by simpa using HJ0.out) HC0.out.one ?_; obtain ⟨w3, hw3⟩ : ∃ w3, (w2.alloc (.cells zeroV.toArray 46)).setCells w2.heap.size 0 C0.toArray.toList = w3 := ⟨_, rfl⟩; rw [hw3]; have HX3 : Hid (Sx w1 w1.heap.size (.slice A1 p.length cap1) w3 [(w2.heap.size, C0, s0)]) := Lib.hid (hw3 ▸ HX2.out.add HC0.out HI0.out.mem); have pc3 := HX3.out.pcell; clear hw3)
  have HLC0 := Lib.hid (HC0.out.len HI0.out.mem)
  have HBGC0 := Lib.hid HX2.out.below.size
  apply region_cut1 (α := List Value) (R := fun (C' : List Value) w' => Sx w1 w1.heap.size (.slice A1 p.length cap1) w' ((w2.heap.size, C', s1) :: []))
  case h1 =>
    refine wp_region_held_drew (S := fun w' => w'.cell? ⟨w1.heap.size, 0, none⟩ = some (.slice A1 p.length cap1)) (by kernel_rfl) HX3.out.drew.pcell (fun hHeld => ?_)
    refine wpAnyH_take (i := 0) (v := .agg #[(.slice A1 p.length cap1)]) rfl (by kernel_rfl) (by kernel_rfl) (by kernel_rfl) (fun _ _ _ h => h) (Or.inl ⟨by rfl, ?_⟩) hHeld ?_
    · intro w hSw
      have q0 := hSw
      simp only [List.getElem_toArray, List.getElem_cons_zero]
      go_simp
    simp only [Act.put, List.getElem_toArray, List.getElem_cons_zero, List.setIfInBounds_toArray, List.set_cons_zero, List.set_cons_succ]
    refine wpAnyH_take (i := 2) (v := .int .i64 n) rfl (by kernel_rfl) (by kernel_rfl) (by kernel_rfl) (fun _ _ _ h => h) (Or.inl ⟨by rfl, ?_⟩) hHeld ?_
    · intro w hSw
      simp only [List.getElem_toArray, List.getElem_cons_zero, List.getElem_cons_succ]
      go_simp
    simp only [Act.put, List.getElem_toArray, List.getElem_cons_zero, List.getElem_cons_succ, List.setIfInBounds_toArray, List.set_cons_zero, List.set_cons_succ]
    refine wpAnyH_ready (rs := [1, 3]) (by kernel_rfl) (by simp) ?_
    refine AllReadyH.cons rfl (fun K hK => ?_) (AllReadyH.cons rfl (fun K hK => ?_) AllReadyH.nil)
    · simp only [List.getElem_toArray, List.getElem_cons_zero, List.getElem_cons_succ]
      rw [if_pos (by rfl)]
      refine wp_load_mid 46 _ (by rfl) w2.heap.size 0 (by rfl) C0 _ (HX3.out.drew.range (.head _)) Tryd.underlying46 (by rfl) HJ0.out ?_
      refine hK.out _ _ hHeld (fun hHeld => ?_)
      clear hK K
      simp only [Act.put, List.setIfInBounds_toArray, List.set_cons_zero, List.set_cons_succ]
      refine wpAnyH_ready (rs := [3]) (by kernel_rfl) (by simp) ?_
      refine AllReadyH.cons rfl (fun K hK => ?_) AllReadyH.nil
      simp only [List.getElem_toArray, List.getElem_cons_zero, List.getElem_cons_succ]
      go_simp
      refine (HKN.out _).mono ?_
      rintro e w' ⟨rfl, rfl⟩
      refine hK.out _ _ hHeld (fun hHeld => ?_)
      clear hK K
      refine wpAnyH_ready (rs := [4]) (by kernel_rfl) (by simp) ?_
      refine AllReadyH.cons rfl (fun K hK => ?_) AllReadyH.nil
      simp only [List.getElem_toArray, List.getElem_cons_zero, List.getElem_cons_succ]
      go_simp
      refine (HWA.out C0 _ HX3.out.drew.below (HX3.out.drew.sts _ (.head _)).2).mono ?_
      rintro e wa ⟨⟨C1, rfl, hC⟩, hb⟩
      have HXA := Lib.hid (HX3.out.drew.keeps hb)
      have HC1 := Lib.hid (hC.base HX3.out.below.size)
      have HJ1 := Lib.hid (info_st (HC1.out.len HI1.out.mem))
      refine hK.out _ _ HXA.out.pcell (fun hHeld => ?_)
      clear hK K hC hb
      refine wpAnyH_take (i := 5) (v := .tuple #[.agg C1.toArray, .int .i64 0]) rfl (by kernel_rfl) (by kernel_rfl) (by kernel_rfl) (fun _ _ _ h => h) (Or.inl ⟨by rfl, ?_⟩) hHeld ?_
      · intro w hSw
        simp only [List.getElem_toArray, List.getElem_cons_zero, List.getElem_cons_succ]
        go_simp
      simp only [Act.put, List.getElem_toArray, List.getElem_cons_zero, List.getElem_cons_succ, List.setIfInBounds_toArray, List.set_cons_zero, List.set_cons_succ]
      refine wpAnyH_take (i := 6) (v := .agg C1.toArray) rfl (by kernel_rfl) (by kernel_rfl) (by kernel_rfl) (fun _ _ _ h => h) (Or.inl ⟨by rfl, ?_⟩) hHeld ?_
      · intro w hSw
        simp only [List.getElem_toArray, List.getElem_cons_zero, List.getElem_cons_succ]
        go_simp
      simp only [Act.put, List.getElem_toArray, List.getElem_cons_zero, List.getElem_cons_succ, List.setIfInBounds_toArray, List.set_cons_zero, List.set_cons_succ]
      refine wpAnyH_take (i := 7) (v := .int .i64 0) rfl (by kernel_rfl) (by kernel_rfl) (by kernel_rfl) (fun _ _ _ h => h) (Or.inl ⟨by rfl, ?_⟩) hHeld ?_
      · intro w hSw
        simp only [List.getElem_toArray, List.getElem_cons_zero, List.getElem_cons_succ]
        go_simp
      simp only [Act.put, List.getElem_toArray, List.getElem_cons_zero, List.getElem_cons_succ, List.setIfInBounds_toArray, List.set_cons_zero, List.set_cons_succ]
      refine wpAnyH_ready (rs := [8]) (by kernel_rfl) (by simp) ?_
      refine AllReadyH.cons rfl (fun K hK => ?_) AllReadyH.nil
      simp only [List.getElem_toArray, List.getElem_cons_zero, List.getElem_cons_succ]
      rw [if_pos (by rfl)]
      refine wp_store_mid 46 _ _ (by rfl) w2.heap.size 0 C1.toArray (by rfl) (by rfl) (HXA.out.there (.head _) (by simp [HC1.out.len HI1.out.mem, HLC0.out])) (by simpa using HJ1.out) HC1.out.one ?_
      obtain ⟨wb, hwb⟩ : ∃ wb, wa.setCells w2.heap.size 0 C1.toArray.toList = wb := ⟨_, rfl⟩
      rw [hwb]
      have HXB : Hid (Sx w1 w1.heap.size (.slice A1 p.length cap1) wb ((w2.heap.size, C1, s1) :: [])) := Lib.hid (hwb ▸ HXA.out.put (HXA.out.sts _ (.head _)).1 HLC0.out HBGC0.out HC1.out (HC1.out.len HI1.out.mem) (fun x hx => by simp at hx))
      refine hK.out _ _ HXB.out.pcell (fun hHeld => ?_)
      clear hK K hwb
      refine wpAnyH_ready (rs := [9]) (by kernel_rfl) (by simp) ?_
      refine AllReadyH.cons rfl (fun K hK => ?_) AllReadyH.nil
      simp only [List.getElem_toArray, List.getElem_cons_zero, List.getElem_cons_succ]
      go_simp
      refine hK.out _ _ hHeld (fun hHeld => ?_)
      clear hK K hHeld
      refine wpAnyH_done (by kernel_rfl) ?_ _
      exact ⟨C1, rfl, HXB.out⟩
    · simp only [List.getElem_toArray, List.getElem_cons_zero, List.getElem_cons_succ]
      go_simp
      refine (HKN.out _).mono ?_
      rintro e w' ⟨rfl, rfl⟩
      refine hK.out _ _ hHeld (fun hHeld => ?_)
      clear hK K
      refine wpAnyH_ready (rs := [1]) (by kernel_rfl) (by simp) ?_
      refine AllReadyH.cons rfl (fun K hK => ?_) AllReadyH.nil
      simp only [List.getElem_toArray, List.getElem_cons_zero, List.getElem_cons_succ]
      rw [if_pos (by rfl)]
      refine wp_load_mid 46 _ (by rfl) w2.heap.size 0 (by rfl) C0 _ (HX3.out.drew.range (.head _)) Tryd.underlying46 (by rfl) HJ0.out ?_
      refine hK.out _ _ hHeld (fun hHeld => ?_)
      clear hK K
      simp only [Act.put, List.setIfInBounds_toArray, List.set_cons_zero, List.set_cons_succ]
      refine wpAnyH_ready (rs := [4]) (by kernel_rfl) (by simp) ?_
      refine AllReadyH.cons rfl (fun K hK => ?_) AllReadyH.nil
      simp only [List.getElem_toArray, List.getElem_cons_zero, List.getElem_cons_succ]
      go_simp
      refine (HWA.out C0 _ HX3.out.drew.below (HX3.out.drew.sts _ (.head _)).2).mono ?_
      rintro e wa ⟨⟨C1, rfl, hC⟩, hb⟩
      have HXA := Lib.hid (HX3.out.drew.keeps hb)
      have HC1 := Lib.hid (hC.base HX3.out.below.size)
      have HJ1 := Lib.hid (info_st (HC1.out.len HI1.out.mem))
      refine hK.out _ _ HXA.out.pcell (fun hHeld => ?_)
      clear hK K hC hb
      refine wpAnyH_take (i := 5) (v := .tuple #[.agg C1.toArray, .int .i64 0]) rfl (by kernel_rfl) (by kernel_rfl) (by kernel_rfl) (fun _ _ _ h => h) (Or.inl ⟨by rfl, ?_⟩) hHeld ?_
      · intro w hSw
        simp only [List.getElem_toArray, List.getElem_cons_zero, List.getElem_cons_succ]
        go_simp
      simp only [Act.put, List.getElem_toArray, List.getElem_cons_zero, List.getElem_cons_succ, List.setIfInBounds_toArray, List.set_cons_zero, List.set_cons_succ]
      refine wpAnyH_take (i := 6) (v := .agg C1.toArray) rfl (by kernel_rfl) (by kernel_rfl) (by kernel_rfl) (fun _ _ _ h => h) (Or.inl ⟨by rfl, ?_⟩) hHeld ?_
      · intro w hSw
        simp only [List.getElem_toArray, List.getElem_cons_zero, List.getElem_cons_succ]
        go_simp
      simp only [Act.put, List.getElem_toArray, List.getElem_cons_zero, List.getElem_cons_succ, List.setIfInBounds_toArray, List.set_cons_zero, List.set_cons_succ]
      refine wpAnyH_take (i := 7) (v := .int .i64 0) rfl (by kernel_rfl) (by kernel_rfl) (by kernel_rfl) (fun _ _ _ h => h) (Or.inl ⟨by rfl, ?_⟩) hHeld ?_
      · intro w hSw
        simp only [List.getElem_toArray, List.getElem_cons_zero, List.getElem_cons_succ]
        go_simp
      simp only [Act.put, List.getElem_toArray, List.getElem_cons_zero, List.getElem_cons_succ, List.setIfInBounds_toArray, List.set_cons_zero, List.set_cons_succ]
      refine wpAnyH_ready (rs := [8]) (by kernel_rfl) (by simp) ?_
      refine AllReadyH.cons rfl (fun K hK => ?_) AllReadyH.nil
      simp only [List.getElem_toArray, List.getElem_cons_zero, List.getElem_cons_succ]
      rw [if_pos (by rfl)]
      refine wp_store_mid 46 _ _ (by rfl) w2.heap.size 0 C1.toArray (by rfl) (by rfl) (HXA.out.there (.head _) (by simp [HC1.out.len HI1.out.mem, HLC0.out])) (by simpa using HJ1.out) HC1.out.one ?_
      obtain ⟨wb, hwb⟩ : ∃ wb, wa.setCells w2.heap.size 0 C1.toArray.toList = wb := ⟨_, rfl⟩
      rw [hwb]
      have HXB : Hid (Sx w1 w1.heap.size (.slice A1 p.length cap1) wb ((w2.heap.size, C1, s1) :: [])) := Lib.hid (hwb ▸ HXA.out.put (HXA.out.sts _ (.head _)).1 HLC0.out HBGC0.out HC1.out (HC1.out.len HI1.out.mem) (fun x hx => by simp at hx))
      refine hK.out _ _ HXB.out.pcell (fun hHeld => ?_)
      clear hK K hwb
      refine wpAnyH_ready (rs := [9]) (by kernel_rfl) (by simp) ?_
      refine AllReadyH.cons rfl (fun K hK => ?_) AllReadyH.nil
      simp only [List.getElem_toArray, List.getElem_cons_zero, List.getElem_cons_succ]
      go_simp
      refine hK.out _ _ hHeld (fun hHeld => ?_)
      clear hK K hHeld
      refine wpAnyH_done (by kernel_rfl) ?_ _
      exact ⟨C1, rfl, HXB.out⟩
  case h2 =>
    intro C1 w4 hX
    have HX4 := Lib.hid hX
    have HC1 := Lib.hid (hX.sts _ (.head _)).2
    have HJ1 := Lib.hid (info_st (HC1.out.len HI1.out.mem))
    have pc4 := hX.pcell
    clear hX
    go_wp2_with (refine wpList_load_mid (by rfl) 46 _ (by rfl) w2.heap.size 0 (by rfl) C1 _ (HX4.out.range (.head _)) Tryd.underlying46 (by rfl) HJ1.out ?_)
    refine (HWB.out C1 _ HX4.out.below (HX4.out.sts _ (.head _)).2).mono ?_
    rintro e w5 ⟨⟨C2, rfl, hC2⟩, hb5⟩
    have HX5 := Lib.hid (HX4.out.keeps hb5)
    have HC2 := Lib.hid hC2
    have HL2 := Lib.hid (HC2.out.len HI1.out.mem)
    have HJ2 := Lib.hid (info_st HL2.out)
    have HB45 := Lib.hid hb5
    have HC2b := Lib.hid (hC2.base HX4.out.below.size)
    clear hC2 hb5 pc4
    go_wp2_with (refine wpList_store_mid (by rfl) 46 _ _ (by rfl) w5.heap.size 0 C2.toArray (by rfl) (by rfl) (there_new w5 zeroV _ (by simp [HL2.out, zeroV_length])) (by simpa using HJ2.out) HC2.out.one ?_; obtain ⟨w6, hw6⟩ : ∃ w6, (w5.alloc (.cells zeroV.toArray 46)).setCells w5.heap.size 0 C2.toArray.toList = w6 := ⟨_, rfl⟩; rw [hw6]; have HX6 : Hid (Sx w1 w1.heap.size (.slice A1 p.length cap1) w6 [(w5.heap.size, C2, s1), (w2.heap.size, C1, s1)]) := Lib.hid (hw6 ▸ HX5.out.add HC2b.out HI1.out.mem); have HLD := Lib.hid (ld_start (S := liveS p) HI1.out HB45.out HC2.out (by simpa using hw6) (HX6.out.sts _ (.head _)).1); clear hw6)
    obtain ⟨FA, fcap, EA, ea, AA, aa, hci⟩ := HX6.out.cin (.head _) HI1.out
    obtain ⟨nf, hnf⟩ : ∃ n, s1.frames.length = n := ⟨_, rfl⟩
    have HNF := Lib.hid hnf
    have hc2 := hci.c2
    rw [hnf] at hc2
    have HCF := Lib.hid hc2
    have hdp := HI1.out.deep
    rw [hnf] at hdp
    obtain ⟨bt, hbt⟩ : ∃ b, w5.heap.size = b := ⟨_, rfl⟩
    rw [hbt] at HLD
    rw [hbt]
    clear hci hc2 hnf hbt HX6 HX5 HC2 HC2b HB45
    go_loopw [15] (fun v wr => ∃ (i : Nat) (t : St), i ≤ nf ∧ v = .int .i64 (i : Int) ∧ LdW w4 wr bt C2 (liveS p) s1 t) (fun v _ => nf - (intOf v).toNat)
    case atStart => exact ⟨0, s1, by omega, rfl, HLD.out⟩
    case round =>
      obtain ⟨i, t, hi, rfl, hld⟩ := hrel
      clear HLD
      have HLD := Lib.hid hld
      have HI2 := Lib.hid (hld.sim.inv HI1.out)
      have htl : t.frames.length = nf := by rw [hld.sim.fr.length, HNF.out]
      have HTL := Lib.hid htl
      have zbt := block_lt hld.box
      have cb2 := (cell_block hld.box 2).trans (List.getElem?_toArray.trans HCF.out)
      have HX7 : Hid (Sx w1 w1.heap.size (.slice A1 p.length cap1) wr [(bt, C2, t), (w2.heap.size, C1, s1)]) := Lib.hid ⟨HX4.out.below.trans (hld.below.mono HX4.out.below.size), (hld.below.block _ (block_lt HX4.out.pblk)).trans HX4.out.pblk, fun x hx => by
        rcases List.mem_cons.1 hx with rfl | hx
        · exact ⟨hld.box, hld.st.base HX4.out.below.size⟩
        · exact (HX4.out.keeps hld.below).sts x hx⟩
      by_cases hin : i = nf
      · obtain rfl : nf = i := hin.symm
        clear hld htl
        obtain ⟨w7, hw7⟩ : ∃ W : World, W = wr := ⟨_, rfl⟩
        subst hw7
        have pc7 := HX7.out.pcell
        have hz := zero_st
        have HC2 := Lib.hid (HX7.out.sts _ (.head _)).2
        have HJ2 := Lib.hid (info_st (HC2.out.len HI2.out.mem))
        obtain ⟨s4, hs4⟩ : ∃ s4, walkSt p 400 t = s4 := ⟨_, rfl⟩
        have HS34 := Lib.hid (show SimS (liveS p) s3 s4 by rw [← HS3.out, ← hs4]; exact HLD.out.sim.walk HRP.out (liveS_pre HRP.out) 400 HI1.out)
        have HI4 : Hid (StInv p s4) := Lib.hid (hs4 ▸ HI2.out.walk HRP.out 400)
        have HWD := Lib.hid (fun (C : List Value) (W : World) (hb : Below w1.heap.size w1 W) (hC : CellsSt C W w1.heap.size t) => swalk_c HG.out 400 (by omega) (HT1.out.keeps hb) (HP.out.keeps hb) HI2.out hC)
        rw [hs4] at HWD
        clear hs4
        go_wp2_with (refine wpList_load_mid (by rfl) 46 _ (by rfl) w2.heap.size 0 (by rfl) C1 _ (HX7.out.range (.tail _ (.head _))) Tryd.underlying46 (by rfl) HJ1.out ?_)
        refine (HWC.out C1 _ HX7.out.below (HX7.out.sts _ (.tail _ (.head _))).2).mono ?_
        rintro e w8 ⟨⟨C3, rfl, hC3⟩, hb3⟩
        have HX8 := Lib.hid (HX7.out.keeps hb3)
        have HC3 := Lib.hid (hC3.base HX7.out.below.size)
        have HJ3 := Lib.hid (info_st (HC3.out.len HI3.out.mem))
        clear hC3 hb3 pc7
        have pc8 := HX8.out.pcell
        go_wp2_with (first | (refine wpList_store_mid (by rfl) 46 _ _ (by rfl) w8.heap.size 0 C3.toArray (by rfl) (by rfl) (there_new w8 zeroV _ (by simp [HC3.out.len HI3.out.mem, zeroV_length])) (by simpa using HJ3.out) HC3.out.one ?_; obtain ⟨w9, hw9⟩ : ∃ w9, (w8.alloc (.cells zeroV.toArray 46)).setCells w8.heap.size 0 C3.toArray.toList = w9 := ⟨_, rfl⟩; rw [hw9]; have HX9 : Hid (Sx w1 w1.heap.size (.slice A1 p.length cap1) w9 [(w8.heap.size, C3, s3), (bt, C2, t), (w2.heap.size, C1, s1)]) := Lib.hid (hw9 ▸ HX8.out.add HC3.out HI3.out.mem); have pc9 := HX9.out.pcell; clear hw9) | (refine wpList_load_mid (by rfl) 46 _ (by rfl) bt 0 (by rfl) C2 _ (HX9.out.range (.tail _ (.head _))) Tryd.underlying46 (by rfl) HJ2.out ?_))
        refine (HWD.out C2 _ HX9.out.below (HX9.out.sts _ (.tail _ (.head _))).2).mono ?_
        rintro e wa ⟨⟨C4, rfl, hC4⟩, hb4⟩
        have HX10 := Lib.hid (HX9.out.keeps hb4)
        have HC4 := Lib.hid (hC4.base HX9.out.below.size)
        have HJ4 := Lib.hid (info_st (HC4.out.len HI4.out.mem))
        clear hC4 hb4 pc9 pc8
        have pc10 := HX10.out.pcell
        go_wp2_with (first | (refine wpList_store_mid (by rfl) 46 _ _ (by rfl) wa.heap.size 0 C4.toArray (by rfl) (by rfl) (there_new wa zeroV _ (by simp [HC4.out.len HI4.out.mem, zeroV_length])) (by simpa using HJ4.out) HC4.out.one ?_; obtain ⟨wb, hwb⟩ : ∃ wb, (wa.alloc (.cells zeroV.toArray 46)).setCells wa.heap.size 0 C4.toArray.toList = wb := ⟨_, rfl⟩; rw [hwb]; have HX11 : Hid (Sx w1 w1.heap.size (.slice A1 p.length cap1) wb [(wa.heap.size, C4, s4), (w8.heap.size, C3, s3), (bt, C2, t), (w2.heap.size, C1, s1)]) := Lib.hid (hwb ▸ HX10.out.add HC4.out HI4.out.mem); have pc11 := HX11.out.pcell; clear hwb; have hX := HX11.out; obtain ⟨FA1, fa1, EA1, ea1, AA1, aa1, hA⟩ := hX.cin (.tail _ (.head _)) HI3.out; obtain ⟨FB1, fb1, EB1, eb1, AB1, ab1, hB⟩ := hX.cin (.head _) HI4.out; have x1 := hX.lt (.head _); have x2 := hX.lt (.tail _ (.head _)); have a0' := (hX.cell (.tail _ (.head _)) 0).trans hA.c0; have a1' := (hX.cell (.tail _ (.head _)) 1).trans hA.c1; have a2' := (hX.cell (.tail _ (.head _)) 2).trans hA.c2; have a19 := (hX.cell (.tail _ (.head _)) 19).trans hA.c19; have a20 := (hX.cell (.tail _ (.head _)) 20).trans hA.c20; have b0' := (hX.cell (.head _) 0).trans hB.c0; have b1' := (hX.cell (.head _) 1).trans hB.c1; have b2' := (hX.cell (.head _) 2).trans hB.c2; have b19 := (hX.cell (.head _) 19).trans hB.c19; have b20 := (hX.cell (.head _) 20).trans hB.c20; have hsl := HS34.out.fr.length; rw [HS34.out.st] at b0'; rw [HS34.out.val] at b1'; rw [hsl] at b2'; rw [HS34.out.fuel] at b19; rw [HS34.out.ev] at b20; have HEA := Lib.hid hA.ev; have HEB : Hid (IntsAt wb EB1 s3.events) := Lib.hid (HS34.out.ev ▸ hB.ev); have HSV := Lib.hid (fun (W : World) (h1 : IntsAt W EA1 s3.events) (h2 : IntsAt W EB1 s3.events) => sameInts_any EA1 EB1 s3.events ea1 eb1 W h1 h2 (stinv_sm HI3.out).1); have heq := fun W => eq_mem s3.mem HI3.out.mem W; have HIM := Lib.hid (info_mem (C := intsV s3.mem) (by simp [intsV, HI3.out.mem])); have HRM := Lib.hid (⟨range_mem (hX.sts _ (.tail _ (.head _))).1 HI3.out.mem hA, by rw [← HS34.out.mem]; exact range_mem (hX.sts _ (.head _)).1 HI4.out.mem hB⟩ : wb.rangeAt w8.heap.size 3 (intsV s3.mem) ∧ wb.rangeAt wa.heap.size 3 (intsV s3.mem)); obtain ⟨MM, hMM⟩ : ∃ M, intsV s3.mem = M := ⟨_, rfl⟩; rw [hMM] at HRM HIM heq; have HX12 : Hid (∀ W, Below wb.heap.size wb W → W.cell? ⟨w8.heap.size, 2, none⟩ = some (.slice FA1 s3.frames.length fa1) ∧ W.cell? ⟨wa.heap.size, 2, none⟩ = some (.slice FB1 s3.frames.length fb1) ∧ w8.heap.size < W.heap.size ∧ wa.heap.size < W.heap.size) := Lib.hid (fun W hb => ⟨(hb.cell (p := ⟨w8.heap.size, _, none⟩) x2).trans a2', (hb.cell (p := ⟨wa.heap.size, _, none⟩) x1).trans b2', by have := hb.size; omega, by have := hb.size; omega⟩); clear hA hB hX hsl hMM) | (refine wpList_load_midg (by rfl) 44 _ (by rfl) w8.heap.size 3 (by rfl) MM _ HRM.out.1 Tryd.underlying44 (by rfl) HIM.out ?_) | (refine wpList_load_midg (by rfl) 44 _ (by rfl) wa.heap.size 3 (by rfl) MM _ HRM.out.2 Tryd.underlying44 (by rfl) HIM.out ?_) | (go_at_call 43; go_must (refine (HSV.out _ HEA.out HEB.out).mono ?_; rintro e w11 ⟨rfl, hb11⟩; have HX13 := Lib.hid (HX11.out.keeps hb11); obtain ⟨e21, e20, z11, z12⟩ := HX12.out _ hb11; clear hb11 a2' b2')))
        go_ret
        exact ⟨rfl, HBW.out.trans (HX13.out.below.mono HBW.out.size)⟩
      · have i1 : (i : Int) < nf := by omega
        have i2 : (0 : Int) ≤ i := by omega
        obtain ⟨f, hf⟩ : ∃ f, t.frames[i]? = some f := ⟨_, List.getElem?_eq_getElem (by omega)⟩
        have hfo := HI2.out.fr f (List.mem_of_getElem? hf)
        obtain ⟨F, m, a1, a2, a3, a4⟩ := hfo.parts
        obtain ⟨k, hk⟩ : ∃ k : Nat, f.fn = k := ⟨f.fn.toNat, by have := hfo.fn0; omega⟩
        obtain ⟨q, hq⟩ : ∃ k : Nat, f.pc = k := ⟨f.pc.toNat, by have := hfo.pc0; omega⟩
        have hkn : f.fn.toNat = k := by omega
        have hqn : f.pc.toNat = q := by omega
        rw [hkn] at a1
        rw [hqn] at a3 a4
        obtain ⟨FA', fcap', EA', ea', AA', aa', hci⟩ := HX7.out.cin (.head _) HI2.out
        have hc2' := hci.c2
        rw [HCF.out] at hc2'
        simp only [Option.some.injEq, Value.slice.injEq] at hc2'
        obtain ⟨rfl, -, -⟩ := hc2'
        obtain ⟨g, hg, hgl, hgc⟩ := hci.fr (by omega)
        subst hg
        have HGC := Lib.hid hgc
        have g0 : wr.cell? ⟨g, i * 14, none⟩ = some (.int .i64 (k : Int)) := by rw [← hk]; exact hgc i f 0 hf (by omega)
        have g1 : wr.cell? ⟨g, i * 14 + 1, none⟩ = some (.int .i64 (q : Int)) := by rw [← hq]; exact hgc i f 1 hf (by omega)
        have HFM := Lib.hid (List.mem_of_getElem? a1)
        have HLVK := Lib.hid (fun (W : World) (hb : Below w1.heap.size w1 W) => HLV.out W hb k F a1)
        have hql := (List.getElem?_eq_some_iff.1 a4).1
        have HRQ := Lib.hid (of_rch a3)
        have HSE := Lib.hid (show liveS p k q = (liveO p F).getD q 0 from by unfold liveS; rw [← hk, a2])
        have HFK := Lib.hid (show ∀ f', t.frames[i]? = some f' → f'.fn.toNat = k ∧ f'.pc.toNat = q from fun f' h => by rw [hf] at h; obtain rfl := Option.some.inj h; exact ⟨hkn, hqn⟩)
        obtain ⟨M, hM⟩ : ∃ M, F.code.length = M := ⟨_, rfl⟩
        have HM := Lib.hid hM
        rw [hM] at hql
        have hM40 := (HRP.out.ok.fn F HFM.out).c2
        rw [hM] at hM40
        have KS : Hid (wr.cell? ⟨w1.heap.size, 0, none⟩ = some (.slice A1 p.length cap1) ∧ wr.cell? ⟨bt, 2, none⟩ = some (.slice (some ⟨g, 0, none⟩) nf fcap) ∧ wr.cell? ⟨g, i * 14, none⟩ = some (.int .i64 (k : Int))) := Lib.hid ⟨HX7.out.pcell, cb2, g0⟩
        have hb7 := HX7.out.below
        have HB7 := Lib.hid hb7
        have HZ := Lib.hid (show bt < wr.heap.size ∧ g < wr.heap.size ∧ w1.heap.size < wr.heap.size from ⟨zbt, hgl, block_lt HX7.out.pblk⟩)
        have G1 := Lib.hid g1
        clear hld htl hf hfo a1 a2 a3 a4 hk hq hkn hqn hci hgc hM hb7 hin g1 hgl
        go_wp2_with fail
        clear cb2 g0 zbt
        go_region_held3 (fun w' => w'.cell? ⟨w1.heap.size, 0, none⟩ = some (.slice A1 p.length cap1) ∧ w'.cell? ⟨bt, 2, none⟩ = some (.slice (some ⟨g, 0, none⟩) nf fcap) ∧ w'.cell? ⟨g, i * 14, none⟩ = some (.int .i64 (k : Int))) (first | exact hk2 | exact KS.out) (first | (go_at_call 36; go_must (refine (HLVK.out _ (by refine HB7.out.trans ((?_ : Below wr.heap.size wr _).mono HB7.out.size); have hb := Below.refl wr.heap.size wr; repeat (first | exact hb | exact Below.refl _ _ | apply Below.drew | apply below_drewN | refine Below.alloc ?_ (by first | omega | (simp; done) | (simp; omega)) _ | refine Below.setCell ?_ (by first | omega | (simp; done) | (simp; omega)) _))).mono ?_; rintro e w8 ⟨⟨lb, O, rfl, hlb, hIL, hOK⟩, hb8⟩; rw [HM.out]; have hb78 : Below wr.heap.size wr w8 := (by refine Below.trans ?_ (hb8.mono (by simp)); have hb := Below.refl wr.heap.size wr; repeat (first | exact hb | exact Below.refl _ _ | apply Below.drew | apply below_drewN | refine Below.alloc ?_ (by first | omega | (simp; done) | (simp; omega)) _ | refine Below.setCell ?_ (by first | omega | (simp; done) | (simp; omega)) _)); have hk2 : w8.cell? ⟨w1.heap.size, 0, none⟩ = some (.slice A1 p.length cap1) ∧ w8.cell? ⟨bt, 2, none⟩ = some (.slice (some ⟨g, 0, none⟩) nf fcap) ∧ w8.cell? ⟨g, i * 14, none⟩ = some (.int .i64 (k : Int)) := ⟨(hb78.cell (p := ⟨w1.heap.size, 0, none⟩) HZ.out.2.2).trans KS.out.1, (hb78.cell (p := ⟨bt, 2, none⟩) HZ.out.1).trans KS.out.2.1, (hb78.cell (p := ⟨g, i * 14, none⟩) HZ.out.2.1).trans KS.out.2.2⟩; have HK2 := Lib.hid hk2; have HIL := Lib.hid hIL; have HOK := Lib.hid hOK; have HB78 := Lib.hid hb78; have HLB := Lib.hid (show wr.heap.size ≤ lb from hlb); clear hlb hIL hOK hb8 hb78)))
        all_goals (
          rename_i hHeld
          clear hHeld
          clear hk2
          have HLD8 := Lib.hid (HLD.out.keeps HB78.out)
          obtain ⟨k1, k2, k3⟩ := HK2.out
          have k4 := (HB78.out.cell (p := ⟨g, i * 14 + 1, none⟩) HZ.out.2.1).trans G1.out
          have z8 := HB78.out.size
          have zg : g < w8.heap.size := Nat.lt_of_lt_of_le HZ.out.2.1 z8
          have zbt : bt < w8.heap.size := Nat.lt_of_lt_of_le HZ.out.1 z8
          have hlq := outL_get (liveL_get (F := F) (O := O) (pc := q) (by rw [HM.out]; exact hql))
          rw [HRQ.out] at hlq
          have hOe := liveO_eq HRP.out HFM.out HOK.out
          have hv4 := getD_lt HOK.out.inv.lt q
          have HVE := Lib.hid (show liveS p k q = O.getD q 0 by rw [HSE.out, hOe])
          obtain ⟨v, hv⟩ : ∃ v, O.getD q 0 = v := ⟨_, rfl⟩
          have HLQ := Lib.hid (show (outL (liveL F O))[q]? = some (v : Int) by rw [← hv]; exact hlq)
          rw [hv] at hv4 HVE
          have k5 := HIL.out.cell HLQ.out
          have zlb := HIL.out.lt
          have q1 : (q : Int) < M := by omega
          have q2 : (0 : Int) ≤ q := by omega
          have q3 : decide ((M : Int) ≤ q) = false := by rw [decide_eq_false_iff_not]; omega
          have q4 : decide (M ≤ q) = false := by rw [decide_eq_false_iff_not]; omega
          have q5 : decide ((v : Int) < 0) = false := by rw [decide_eq_false_iff_not]; omega
          have HIL8 := Lib.hid HIL.out
          have HGL := Lib.hid (show g < lb from Nat.lt_of_lt_of_le HZ.out.2.1 HLB.out)
          clear hlq hOe hv
          go_wp2_with fail
          clear k1 k2 k3 k4 k5 zlb z8 zg zbt
          go_loopw [18] (fun v wr => ∃ (r : Nat) (t : St), r ≤ 12 ∧ v = .int .i64 (r : Int) ∧ LdW w4 wr bt C2 (liveS p) s1 t ∧ IntsB wr lb (outL (liveL F O)) ∧ (∀ f', t.frames[i]? = some f' → f'.fn.toNat = k ∧ f'.pc.toNat = q)) (fun v _ => 12 - (intOf v).toNat)
          case atStart => exact ⟨0, t, by omega, rfl, HLD8.out, HIL8.out, HFK.out⟩
          case round =>
            obtain ⟨r, t5, hr, rfl, hld5, hil5, hfk5⟩ := hrel
            have HLD5 := Lib.hid hld5
            by_cases hr12 : r = 12
            · subst hr12
              clear hld5 hil5 hfk5
              go_wp2_with fail
              go_roundw
              case rel => exact ⟨i + 1, t5, by omega, by go_num, HLD5.out⟩
              case measure => simp [intOf]; omega
            · have r1 : (r : Int) < 12 := by omega
              have r2 : (0 : Int) ≤ r := by omega
              have r3 : (r : Int) < 64 := by omega
              have r4 : r < 64 := by omega
              have r5 : r < 12 := by omega
              have HI5 := Lib.hid (hld5.sim.inv HI1.out)
              have htl5 : t5.frames.length = nf := by rw [hld5.sim.fr.length, HNF.out]
              obtain ⟨f5, hf5⟩ : ∃ f, t5.frames[i]? = some f := ⟨_, List.getElem?_eq_getElem (by omega)⟩
              obtain ⟨e1, e2⟩ := hfk5 f5 hf5
              have hfo5 := HI5.out.fr f5 (List.mem_of_getElem? hf5)
              have e3 : f5.pc = (q : Int) := by have := hfo5.pc0; omega
              obtain ⟨FA', fcap', EA', ea', AA', aa', hci⟩ := hld5.st.cin HI5.out.mem (fun f hf => (HI5.out.fr f hf).regs)
              have hc2' := hci.c2
              rw [HCF.out] at hc2'
              simp only [Option.some.injEq, Value.slice.injEq] at hc2'
              obtain ⟨rfl, -, -⟩ := hc2'
              obtain ⟨g', hg', hgl, hgc⟩ := hci.fr (by omega)
              obtain rfl : g = g' := by simpa using hg'
              have cb2 := (cell_block hld5.box 2).trans (List.getElem?_toArray.trans HCF.out)
              have zbt := block_lt hld5.box
              have k4 : wr.cell? ⟨g, i * 14 + 1, none⟩ = some (.int .i64 (q : Int)) := by rw [← e3]; exact hgc i f5 1 hf5 (by omega)
              have k5 := hil5.cell HLQ.out
              have zlb := hil5.lt
              have hdv : (v : Int) / 2 ^ r = ((v / 2 ^ r : Nat) : Int) := by push_cast; rfl
              have hba := live_nat v r hv4
              have htb : v.testBit r = decide (v / 2 ^ r % 2 = 1) := Nat.testBit_eq_decide_div_mod_eq
              have hdl : v / 2 ^ r ≤ v := Nat.div_le_self _ _
              obtain ⟨d, hd⟩ : ∃ d, v / 2 ^ r = d := ⟨_, rfl⟩
              rw [hd] at hdv hba htb hdl
              by_cases hbit : d % 2 = 1
              · have hba1 : bits .and .i64 (d : Int) 1 = 1 := by rw [hba, hbit]; rfl
                have HIL5 := Lib.hid hil5
                have HFK5 := Lib.hid hfk5
                clear hld5 hil5 hfk5 htl5 hf5 e1 e2 hfo5 e3 hci hg' hgc hba htb hd hbit
                go_wp2_with fail
                go_roundw
                case rel => exact ⟨r + 1, t5, by omega, by go_num, HLD5.out, HIL5.out, HFK5.out⟩
                case measure => simp [intOf]; omega
              · have hbit0 : d % 2 = 0 := by omega
                have hba1 : bits .and .i64 (d : Int) 1 = 0 := by rw [hba, hbit0]; rfl
                have hno : (liveS p f5.fn.toNat f5.pc.toNat).testBit r = false := by rw [e1, e2, HVE.out, htb, hbit0]; rfl
                have hput := hld5.put HI1.out HCF.out hf5 r5 junk hno
                have hadr : i * 14 + (2 + r) = i * 14 + 2 + r := by omega
                rw [hadr] at hput
                have HPUT := Lib.hid hput
                have HILP := Lib.hid (show IntsB (wr.setCell ⟨g, i * 14 + 2 + r, none⟩ (.int .i64 junk)) lb (outL (liveL F O)) from (Below.heap_setCell _ _ _ _ (by have := HGL.out; simp; omega)).trans hil5)
                have HFKP := Lib.hid (show ∀ f', (putR t5 i f5 r junk).frames[i]? = some f' → f'.fn.toNat = k ∧ f'.pc.toNat = q from fun f' h => by
                  have h' : (t5.frames.set i { f5 with regs := f5.regs.set r junk })[i]? = some f' := h
                  rw [List.getElem?_set_self (by omega)] at h'
                  obtain rfl := Option.some.inj h'
                  exact ⟨e1, e2⟩)
                have cr := hgc i f5 (2 + r) hf5 (by omega)
                have hrg : (frCell f5)[2 + r]? = some (.int .i64 (f5.reg (r : Int))) := by have := frCell_reg hfo5.regs (r := (r : Int)) (by omega) (by omega); simpa using this
                rw [hrg, hadr] at cr
                have fz : wr.frozen? ⟨g, i * 14 + 2 + r, none⟩ = false := by
                  obtain ⟨FS, ES, AS, hCe, hrow⟩ := hld5.st
                  have hFS : FS = .slice (some ⟨g, 0, none⟩) nf fcap := by
                    have h := HCF.out
                    rw [hCe] at h
                    simpa [stCells] using h
                  rcases hrow.fr.2 with ⟨h8, -⟩ | ⟨g9, cap9, cur9, hv9, hg9, hh9, -⟩
                  · rw [hFS] at h8; simp at h8
                  · rw [hFS] at hv9
                    simp only [Value.slice.injEq, Option.some.injEq, Addr.mk.injEq, and_true] at hv9
                    obtain ⟨rfl, -⟩ := hv9
                    exact frozen_block hh9 _
                obtain ⟨rv, hrv⟩ : ∃ z, f5.reg (r : Int) = z := ⟨_, rfl⟩
                rw [hrv] at cr
                clear hld5 hil5 hfk5 htl5 hf5 e1 e2 hfo5 e3 hci hg' hgc hba htb hd hbit hbit0 hno hput hadr hrg hrv
                go_wp2_with fail
                go_roundw
                case rel => exact ⟨r + 1, _, by omega, by go_num, HPUT.out, HILP.out, HFKP.out⟩
                case measure => simp [intOf]; omega)
end Go.Proofs.YtefbdecejoeamaaDoor
