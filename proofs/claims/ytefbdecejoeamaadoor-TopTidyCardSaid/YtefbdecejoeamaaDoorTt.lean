/-
  The walk of TopTidy: it returns true.
-/
import Derived.Test.YtefbdecejoeamaaDoorOpI
import Derived.Test.YtefbdecejoeamaaDoorTy
namespace Go.Proofs.YtefbdecejoeamaaDoor
open Go.RowKit Tier
theorem upicked_any (n : Int) (m : Int) (w : World) (hn : In n) (h0 : 0 < m) (h1 : m ≤ 1000000) : Calls Tryd.prog 30 #[.int .i64 n, .int .i64 m] w fun e w' => e = .returned (.int .i64 (pickedI n m)) ∧ w = w' := by
  have HK := Lib.hid (fun (W : World) => picked_any n m W hn (by omega) (by omega))
  go_enter Tryd.func30, Tryd.ntmps30
  go_wp2_with (go_at_call 26; go_must (refine (HK.out _).mono ?_; rintro e w' ⟨rfl, rfl⟩))
  go_ret
  exact ⟨rfl, rfl⟩
set_option maxRecDepth 100000 in
set_option maxHeartbeats 8000000 in
theorem usame_any {p : List Fnc} (s : St) (Ca Cb : List Value) {Ba Bb : Nat} (w : World) (hi : StInv p s) (ha : CellsSt Ca w Ba s) (hb : CellsSt Cb w Bb s) :
    Calls Tryd.prog 32 #[.agg Ca.toArray, .agg Cb.toArray] w fun e w' => e = .returned (.bool true) ∧ Below w.heap.size w w' := by
  have hb0 : Below w.heap.size w ((w.alloc (.cells Ca.toArray 46)).alloc (.cells Cb.toArray 46)) := ((Below.refl w.heap.size w).alloc (Nat.le_refl _) _).alloc (by simp) _
  have HS := Lib.hid (sameState_any s Ca Cb ((w.alloc (.cells Ca.toArray 46)).alloc (.cells Cb.toArray 46)) hi (ha.below hb0) (hb.below hb0))
  have HR0 := Lib.hid (range_block (block_alloc (heap_alloc_new w (.cells Ca.toArray 46)) (.cells Cb.toArray 46)))
  have HR1 := Lib.hid (range_block (heap_alloc_new1 w (.cells Ca.toArray 46) (.cells Cb.toArray 46)))
  have HJA := Lib.hid (info_st (ha.len hi.mem))
  have HJB := Lib.hid (info_st (hb.len hi.mem))
  have HB0 := Lib.hid hb0
  clear ha hb hb0
  go_enter Tryd.func32, Tryd.ntmps32
  go_wp2_with (first | (refine wpList_load_mid (by rfl) 46 _ (by rfl) w.heap.size 0 (by rfl) Ca _ HR0.out Tryd.underlying46 (by rfl) HJA.out ?_) | (refine wpList_load_mid (by rfl) 46 _ (by rfl) (w.heap.size + 1) 0 (by rfl) Cb _ HR1.out Tryd.underlying46 (by rfl) HJB.out ?_) | (go_at_call 47; go_must (refine HS.out.mono ?_; rintro e w' ⟨rfl, hb⟩; have HB := Lib.hid (HB0.out.trans (hb.mono HB0.out.size)); clear hb)))
  go_ret
  exact ⟨rfl, HB.out⟩
set_option maxRecDepth 100000 in
set_option maxHeartbeats 8000000 in
theorem topTidy_walk (A : Option Addr) (l : List Fnc) (cap : Nat) (a0 a1 : Int) (YA : Option Addr) (ans : List Int) (ycap : Nat) (fuel : Int) (n : Int) (w : World) (ht : Tab w) (hraw : RawsAt w A l) (hln : (l.length : Int) ≤ 9223372036854775807) (hin : InOk w a0 a1 YA ans ycap fuel) (hn : In n) :
    Calls Tryd.prog 6 #[.slice A l.length cap, .agg #[.int .i64 a0, .int .i64 a1, .slice YA ans.length ycap, .int .i64 fuel], .int .i64 n] w fun e w' => e = .returned (.bool true) ∧ Below w.heap.size w w' := by
  have HT := Lib.hid ht
  have HR := Lib.hid hraw
  have HIN := Lib.hid hin
  have hright := mkP_right l
  clear ht hraw hin
  have pn := picked_in n 200 (by omega)
  have HKN := Lib.hid (fun (W : World) => upicked_any n 200 W hn (by omega) (by omega))
  obtain ⟨u, hu⟩ : ∃ u : Nat, pickedI n 200 = u := ⟨(pickedI n 200).toNat, by omega⟩
  rw [hu] at pn HKN
  go_enter Tryd.func6, Tryd.ntmps6
  go_wp2_with fail
  obtain ⟨wi, hwi⟩ : ∃ wi, w.alloc (.cells #[.int .i64 a0, .int .i64 a1, .slice YA ans.length ycap, .int .i64 fuel] 42) = wi := ⟨_, rfl⟩
  have HBI : Hid (Below w.heap.size w wi) := Lib.hid (hwi ▸ (Below.refl _ w).alloc (Nat.le_refl _) _)
  have HIB : Hid (wi.heap[w.heap.size]? = some (.cells #[.int .i64 a0, .int .i64 a1, .slice YA ans.length ycap, .int .i64 fuel] 42 (0, 0))) := Lib.hid (hwi ▸ heap_alloc_new w _)
  rw [hwi]
  refine (program_any A cap l _ (HT.out.keeps HBI.out) hln (HR.out.keeps HBI.out)).mono ?_
  rintro e w1 ⟨⟨A1, cap1, vs, rfl, hpv⟩, hb1⟩
  have HP := Lib.hid hpv.at
  have HBW := Lib.hid (HBI.out.trans (hb1.mono HBI.out.size))
  have HT1 := Lib.hid (HT.out.keeps HBW.out)
  have hib := (hb1.block _ (block_lt HIB.out)).trans HIB.out
  have i0 := (cell_block hib 0).trans rfl
  have i1 := (cell_block hib 1).trans rfl
  have i2 := (cell_block hib 2).trans rfl
  have i3 := (cell_block hib 3).trans rfl
  have zi := block_lt hib
  clear hpv hb1 hwi HBI HIB hib vs
  generalize mkP l = p at *
  have hp := right_of hright
  have HG := Lib.hid (hright)
  have HRP := Lib.hid hp
  have HBG := Lib.hid (fun (W : World) (hb : Below w1.heap.size w1 W) => kbegin_any hright a0 a1 fuel ans YA ycap A1 cap1 W (HT1.out.keeps hb) (HP.out.keeps hb) ((HIN.out.row.keeps HBW.out).keeps hb) HIN.out.len HIN.out.cap HIN.out.fuel)
  have hi0 := inSt_inv hp a0 a1 ans fuel
  have pf := picked_in fuel 300 (by omega)
  obtain ⟨s0, hs0⟩ : ∃ s0, inSt p a0 a1 ans fuel = s0 := ⟨_, rfl⟩
  have hf0 : s0.fuel = pickedI fuel 300 := by rw [← hs0]; rfl
  rw [hs0] at HBG hi0
  obtain ⟨s1, hs1⟩ : ∃ s1, walkSt p u s0 = s1 := ⟨_, rfl⟩
  obtain ⟨s4, hs4⟩ : ∃ s3, walkSt p 400 s1 = s3 := ⟨_, rfl⟩
  have hst : s4.status ≠ 0 := by
    have he := walk_ends hp 400 hi0 (by omega)
    rw [← hs4, ← hs1, ← walkSt_add, Nat.add_comm, walkSt_add, walkSt_stop he]
    exact he
  have HI0 := Lib.hid hi0
  have HI1 : Hid (StInv p s1) := Lib.hid (hs1 ▸ hi0.walk hp u)
  have HI4 : Hid (StInv p s4) := Lib.hid (hs4 ▸ HI1.out.walk hp 400)
  have HWA := Lib.hid (fun (C : List Value) (W : World) (hb : Below w1.heap.size w1 W) (hC : CellsSt C W w1.heap.size s0) => swalk_c hright u (by omega) (HT1.out.keeps hb) (HP.out.keeps hb) HI0.out hC)
  have HTA := Lib.hid (fun (C : List Value) (W : World) (hb : Below w1.heap.size w1 W) (hC : CellsSt C W w1.heap.size s1) => tidy_any hright s1 C A1 cap1 W (HT1.out.keeps hb) (HP.out.keeps hb) HI1.out hC)
  have HWC := Lib.hid (fun (C : List Value) (W : World) (hb : Below w1.heap.size w1 W) (hC : CellsSt C W w1.heap.size s1) => swalk_c hright 400 (by omega) (HT1.out.keeps hb) (HP.out.keeps hb) HI1.out hC)
  have HS4 := Lib.hid hs4
  have HST := Lib.hid hst
  rw [hs1] at HWA
  rw [hs4] at HWC
  clear hs0 hs1 hs4 hi0 hp hu hn hst hf0 pf
  clear hright
  go_wp2_with fail
  refine (HBG.out _ ((Below.refl _ w1).alloc (Nat.le_refl _) _)).mono ?_
  rintro e w2 ⟨⟨C0, rfl, hC0⟩, hb2⟩
  have HX2 : Hid (Sx w1 w1.heap.size (.slice A1 p.length cap1) w2 []) := Lib.hid ((Sx.mk ((Below.refl _ w1).alloc (Nat.le_refl _) _) (heap_alloc_new w1 _) (fun x hx => by simp at hx)).keeps hb2)
  have HC0 := Lib.hid (hC0.base (by simp : w1.heap.size ≤ _))
  have HJ0 := Lib.hid (info_st (HC0.out.len HI0.out.mem))
  have hz := zero_st
  clear hC0 hb2 HBG i0 i1 i2 i3 zi
  go_wp2_with (refine wpList_store_mid (by rfl) 46 _ _ (by rfl) w2.heap.size 0 C0.toArray (by rfl) (by rfl) (there_new w2 zeroV _ (by simp [HC0.out.len HI0.out.mem, zeroV_length])) (by simpa using HJ0.out) HC0.out.one ?_; obtain ⟨w3, hw3⟩ : ∃ w3, (w2.alloc (.cells zeroV.toArray 46)).setCells w2.heap.size 0 C0.toArray.toList = w3 := ⟨_, rfl⟩; rw [hw3]; have HX3 : Hid (Sx w1 w1.heap.size (.slice A1 p.length cap1) w3 [(w2.heap.size, C0, s0)]) := Lib.hid (hw3 ▸ HX2.out.add HC0.out HI0.out.mem); have pc3 := HX3.out.pcell; clear hw3)
  have HLC0 := Lib.hid (HC0.out.len HI0.out.mem)
  have HBGC0 := Lib.hid HX2.out.below.size
  apply region_cut1 (α := List Value) (R := fun (C' : List Value) w' => Sx w1 w1.heap.size (.slice A1 p.length cap1) w' ((w2.heap.size, C', s1) :: []))
  case h1 =>
    refine wp_region_held_drew (S := fun w' => w'.cell? ⟨w1.heap.size, 0, none⟩ = some (.slice A1 p.length cap1)) (by kernel_rfl) HX3.out.drew.pcell (fun hHeld => ?_)
    refine wpAnyH_take (i := 0) (v := .agg #[(.slice A1 p.length cap1)]) rfl (by kernel_rfl) (by kernel_rfl) (by kernel_rfl) (fun _ _ _ h => h) (Or.inl ⟨by rfl, ?_⟩) hHeld ?_
    · intro w hSw
      have q0 := hSw
      simp only [List.getElem_toArray, List.getElem_cons_zero]
      go_simp
    simp only [Act.put, List.getElem_toArray, List.getElem_cons_zero, List.setIfInBounds_toArray, List.set_cons_zero, List.set_cons_succ]
    refine wpAnyH_take (i := 2) (v := .int .i64 n) rfl (by kernel_rfl) (by kernel_rfl) (by kernel_rfl) (fun _ _ _ h => h) (Or.inl ⟨by rfl, ?_⟩) hHeld ?_
    · intro w hSw
      simp only [List.getElem_toArray, List.getElem_cons_zero, List.getElem_cons_succ]
      go_simp
    simp only [Act.put, List.getElem_toArray, List.getElem_cons_zero, List.getElem_cons_succ, List.setIfInBounds_toArray, List.set_cons_zero, List.set_cons_succ]
    refine wpAnyH_ready (rs := [1, 3]) (by kernel_rfl) (by simp) ?_
    refine AllReadyH.cons rfl (fun K hK => ?_) (AllReadyH.cons rfl (fun K hK => ?_) AllReadyH.nil)
    · simp only [List.getElem_toArray, List.getElem_cons_zero, List.getElem_cons_succ]
      rw [if_pos (by rfl)]
      refine wp_load_mid 46 _ (by rfl) w2.heap.size 0 (by rfl) C0 _ (HX3.out.drew.range (.head _)) Tryd.underlying46 (by rfl) HJ0.out ?_
      refine hK.out _ _ hHeld (fun hHeld => ?_)
      clear hK K
      simp only [Act.put, List.setIfInBounds_toArray, List.set_cons_zero, List.set_cons_succ]
      refine wpAnyH_ready (rs := [3]) (by kernel_rfl) (by simp) ?_
      refine AllReadyH.cons rfl (fun K hK => ?_) AllReadyH.nil
      simp only [List.getElem_toArray, List.getElem_cons_zero, List.getElem_cons_succ]
      go_simp
      refine (HKN.out _).mono ?_
      rintro e w' ⟨rfl, rfl⟩
      refine hK.out _ _ hHeld (fun hHeld => ?_)
      clear hK K
      refine wpAnyH_ready (rs := [4]) (by kernel_rfl) (by simp) ?_
      refine AllReadyH.cons rfl (fun K hK => ?_) AllReadyH.nil
      simp only [List.getElem_toArray, List.getElem_cons_zero, List.getElem_cons_succ]
      go_simp
      refine (HWA.out C0 _ HX3.out.drew.below (HX3.out.drew.sts _ (.head _)).2).mono ?_
      rintro e wa ⟨⟨C1, rfl, hC⟩, hb⟩
      have HXA := Lib.hid (HX3.out.drew.keeps hb)
      have HC1 := Lib.hid (hC.base HX3.out.below.size)
      have HJ1 := Lib.hid (info_st (HC1.out.len HI1.out.mem))
      refine hK.out _ _ HXA.out.pcell (fun hHeld => ?_)
      clear hK K hC hb
      refine wpAnyH_take (i := 5) (v := .tuple #[.agg C1.toArray, .int .i64 0]) rfl (by kernel_rfl) (by kernel_rfl) (by kernel_rfl) (fun _ _ _ h => h) (Or.inl ⟨by rfl, ?_⟩) hHeld ?_
      · intro w hSw
        simp only [List.getElem_toArray, List.getElem_cons_zero, List.getElem_cons_succ]
        go_simp
      simp only [Act.put, List.getElem_toArray, List.getElem_cons_zero, List.getElem_cons_succ, List.setIfInBounds_toArray, List.set_cons_zero, List.set_cons_succ]
      refine wpAnyH_take (i := 6) (v := .agg C1.toArray) rfl (by kernel_rfl) (by kernel_rfl) (by kernel_rfl) (fun _ _ _ h => h) (Or.inl ⟨by rfl, ?_⟩) hHeld ?_
      · intro w hSw
        simp only [List.getElem_toArray, List.getElem_cons_zero, List.getElem_cons_succ]
        go_simp
      simp only [Act.put, List.getElem_toArray, List.getElem_cons_zero, List.getElem_cons_succ, List.setIfInBounds_toArray, List.set_cons_zero, List.set_cons_succ]
      refine wpAnyH_take (i := 7) (v := .int .i64 0) rfl (by kernel_rfl) (by kernel_rfl) (by kernel_rfl) (fun _ _ _ h => h) (Or.inl ⟨by rfl, ?_⟩) hHeld ?_
      · intro w hSw
        simp only [List.getElem_toArray, List.getElem_cons_zero, List.getElem_cons_succ]
        go_simp
      simp only [Act.put, List.getElem_toArray, List.getElem_cons_zero, List.getElem_cons_succ, List.setIfInBounds_toArray, List.set_cons_zero, List.set_cons_succ]
      refine wpAnyH_ready (rs := [8]) (by kernel_rfl) (by simp) ?_
      refine AllReadyH.cons rfl (fun K hK => ?_) AllReadyH.nil
      simp only [List.getElem_toArray, List.getElem_cons_zero, List.getElem_cons_succ]
      rw [if_pos (by rfl)]
      refine wp_store_mid 46 _ _ (by rfl) w2.heap.size 0 C1.toArray (by rfl) (by rfl) (HXA.out.there (.head _) (by simp [HC1.out.len HI1.out.mem, HLC0.out])) (by simpa using HJ1.out) HC1.out.one ?_
      obtain ⟨wb, hwb⟩ : ∃ wb, wa.setCells w2.heap.size 0 C1.toArray.toList = wb := ⟨_, rfl⟩
      rw [hwb]
      have HXB : Hid (Sx w1 w1.heap.size (.slice A1 p.length cap1) wb ((w2.heap.size, C1, s1) :: [])) := Lib.hid (hwb ▸ HXA.out.put (HXA.out.sts _ (.head _)).1 HLC0.out HBGC0.out HC1.out (HC1.out.len HI1.out.mem) (fun x hx => by simp at hx))
      refine hK.out _ _ HXB.out.pcell (fun hHeld => ?_)
      clear hK K hwb
      refine wpAnyH_ready (rs := [9]) (by kernel_rfl) (by simp) ?_
      refine AllReadyH.cons rfl (fun K hK => ?_) AllReadyH.nil
      simp only [List.getElem_toArray, List.getElem_cons_zero, List.getElem_cons_succ]
      go_simp
      refine hK.out _ _ hHeld (fun hHeld => ?_)
      clear hK K hHeld
      refine wpAnyH_done (by kernel_rfl) ?_ _
      exact ⟨C1, rfl, HXB.out⟩
    · simp only [List.getElem_toArray, List.getElem_cons_zero, List.getElem_cons_succ]
      go_simp
      refine (HKN.out _).mono ?_
      rintro e w' ⟨rfl, rfl⟩
      refine hK.out _ _ hHeld (fun hHeld => ?_)
      clear hK K
      refine wpAnyH_ready (rs := [1]) (by kernel_rfl) (by simp) ?_
      refine AllReadyH.cons rfl (fun K hK => ?_) AllReadyH.nil
      simp only [List.getElem_toArray, List.getElem_cons_zero, List.getElem_cons_succ]
      rw [if_pos (by rfl)]
      refine wp_load_mid 46 _ (by rfl) w2.heap.size 0 (by rfl) C0 _ (HX3.out.drew.range (.head _)) Tryd.underlying46 (by rfl) HJ0.out ?_
      refine hK.out _ _ hHeld (fun hHeld => ?_)
      clear hK K
      simp only [Act.put, List.setIfInBounds_toArray, List.set_cons_zero, List.set_cons_succ]
      refine wpAnyH_ready (rs := [4]) (by kernel_rfl) (by simp) ?_
      refine AllReadyH.cons rfl (fun K hK => ?_) AllReadyH.nil
      simp only [List.getElem_toArray, List.getElem_cons_zero, List.getElem_cons_succ]
      go_simp
      refine (HWA.out C0 _ HX3.out.drew.below (HX3.out.drew.sts _ (.head _)).2).mono ?_
      rintro e wa ⟨⟨C1, rfl, hC⟩, hb⟩
      have HXA := Lib.hid (HX3.out.drew.keeps hb)
      have HC1 := Lib.hid (hC.base HX3.out.below.size)
      have HJ1 := Lib.hid (info_st (HC1.out.len HI1.out.mem))
      refine hK.out _ _ HXA.out.pcell (fun hHeld => ?_)
      clear hK K hC hb
      refine wpAnyH_take (i := 5) (v := .tuple #[.agg C1.toArray, .int .i64 0]) rfl (by kernel_rfl) (by kernel_rfl) (by kernel_rfl) (fun _ _ _ h => h) (Or.inl ⟨by rfl, ?_⟩) hHeld ?_
      · intro w hSw
        simp only [List.getElem_toArray, List.getElem_cons_zero, List.getElem_cons_succ]
        go_simp
      simp only [Act.put, List.getElem_toArray, List.getElem_cons_zero, List.getElem_cons_succ, List.setIfInBounds_toArray, List.set_cons_zero, List.set_cons_succ]
      refine wpAnyH_take (i := 6) (v := .agg C1.toArray) rfl (by kernel_rfl) (by kernel_rfl) (by kernel_rfl) (fun _ _ _ h => h) (Or.inl ⟨by rfl, ?_⟩) hHeld ?_
      · intro w hSw
        simp only [List.getElem_toArray, List.getElem_cons_zero, List.getElem_cons_succ]
        go_simp
      simp only [Act.put, List.getElem_toArray, List.getElem_cons_zero, List.getElem_cons_succ, List.setIfInBounds_toArray, List.set_cons_zero, List.set_cons_succ]
      refine wpAnyH_take (i := 7) (v := .int .i64 0) rfl (by kernel_rfl) (by kernel_rfl) (by kernel_rfl) (fun _ _ _ h => h) (Or.inl ⟨by rfl, ?_⟩) hHeld ?_
      · intro w hSw
        simp only [List.getElem_toArray, List.getElem_cons_zero, List.getElem_cons_succ]
        go_simp
      simp only [Act.put, List.getElem_toArray, List.getElem_cons_zero, List.getElem_cons_succ, List.setIfInBounds_toArray, List.set_cons_zero, List.set_cons_succ]
      refine wpAnyH_ready (rs := [8]) (by kernel_rfl) (by simp) ?_
      refine AllReadyH.cons rfl (fun K hK => ?_) AllReadyH.nil
      simp only [List.getElem_toArray, List.getElem_cons_zero, List.getElem_cons_succ]
      rw [if_pos (by rfl)]
      refine wp_store_mid 46 _ _ (by rfl) w2.heap.size 0 C1.toArray (by rfl) (by rfl) (HXA.out.there (.head _) (by simp [HC1.out.len HI1.out.mem, HLC0.out])) (by simpa using HJ1.out) HC1.out.one ?_
      obtain ⟨wb, hwb⟩ : ∃ wb, wa.setCells w2.heap.size 0 C1.toArray.toList = wb := ⟨_, rfl⟩
      rw [hwb]
      have HXB : Hid (Sx w1 w1.heap.size (.slice A1 p.length cap1) wb ((w2.heap.size, C1, s1) :: [])) := Lib.hid (hwb ▸ HXA.out.put (HXA.out.sts _ (.head _)).1 HLC0.out HBGC0.out HC1.out (HC1.out.len HI1.out.mem) (fun x hx => by simp at hx))
      refine hK.out _ _ HXB.out.pcell (fun hHeld => ?_)
      clear hK K hwb
      refine wpAnyH_ready (rs := [9]) (by kernel_rfl) (by simp) ?_
      refine AllReadyH.cons rfl (fun K hK => ?_) AllReadyH.nil
      simp only [List.getElem_toArray, List.getElem_cons_zero, List.getElem_cons_succ]
      go_simp
      refine hK.out _ _ hHeld (fun hHeld => ?_)
      clear hK K hHeld
      refine wpAnyH_done (by kernel_rfl) ?_ _
      exact ⟨C1, rfl, HXB.out⟩
  case h2 =>
    intro C1 w4 hX
    have HX4 := Lib.hid hX
    have HC1 := Lib.hid (hX.sts _ (.head _)).2
    have HJ1 := Lib.hid (info_st (HC1.out.len HI1.out.mem))
    have pc4 := hX.pcell
    clear hX
    go_wp2_with (refine wpList_load_mid (by rfl) 46 _ (by rfl) w2.heap.size 0 (by rfl) C1 _ (HX4.out.range (.head _)) Tryd.underlying46 (by rfl) HJ1.out ?_)
    refine (HTA.out C1 _ HX4.out.below (HX4.out.sts _ (.head _)).2).mono ?_
    rintro e w5 ⟨⟨C2, t, rfl, hC2, hto⟩, hb2⟩
    have HX5 := Lib.hid (HX4.out.keeps hb2)
    have HC2 := Lib.hid (hC2.base HX4.out.below.size)
    have HI2 : Hid (StInv p t) := Lib.hid (hto.sim.inv HI1.out)
    have HJ2 := Lib.hid (info_st (HC2.out.len HI2.out.mem))
    have HTO := Lib.hid hto
    have HTB := Lib.hid (fun (C : List Value) (W : World) (hb : Below w1.heap.size w1 W) (hC : CellsSt C W w1.heap.size t) => tidy_any HG.out t C A1 cap1 W (HT1.out.keeps hb) (HP.out.keeps hb) HI2.out hC)
    obtain ⟨s5, hs5⟩ : ∃ s, walkSt p 400 t = s := ⟨_, rfl⟩
    have HWD := Lib.hid (fun (C : List Value) (W : World) (hb : Below w1.heap.size w1 W) (hC : CellsSt C W w1.heap.size t) => swalk_c HG.out 400 (by omega) (HT1.out.keeps hb) (HP.out.keeps hb) HI2.out hC)
    rw [hs5] at HWD
    have HI5 : Hid (StInv p s5) := Lib.hid (hs5 ▸ HI2.out.walk HRP.out 400)
    have HS34 := Lib.hid (show SimS (liveS p) s4 s5 by rw [← HS4.out, ← hs5]; exact hto.sim.walk HRP.out (liveS_pre HRP.out) 400 HI1.out)
    clear hC2 hb2 hto hs5 pc4
    have pc5 := HX5.out.pcell
    go_wp2_with (first | (refine wpList_store_mid (by rfl) 46 _ _ (by rfl) w5.heap.size 0 C2.toArray (by rfl) (by rfl) (there_new w5 zeroV _ (by simp [HC2.out.len HI2.out.mem, zeroV_length])) (by simpa using HJ2.out) HC2.out.one ?_; obtain ⟨w6, hw6⟩ : ∃ w6, (w5.alloc (.cells zeroV.toArray 46)).setCells w5.heap.size 0 C2.toArray.toList = w6 := ⟨_, rfl⟩; rw [hw6]; have HX6 : Hid (Sx w1 w1.heap.size (.slice A1 p.length cap1) w6 [(w5.heap.size, C2, t), (w2.heap.size, C1, s1)]) := Lib.hid (hw6 ▸ HX5.out.add HC2.out HI2.out.mem); have pc6 := HX6.out.pcell; clear hw6) | (refine wpList_load_mid (by rfl) 46 _ (by rfl) w5.heap.size 0 (by rfl) C2 _ (HX6.out.range (.head _)) Tryd.underlying46 (by rfl) HJ2.out ?_))
    refine (HTB.out C2 _ HX6.out.below (HX6.out.sts _ (.head _)).2).mono ?_
    rintro e w7 ⟨⟨C3, t3, rfl, hC3, hto⟩, hb3⟩
    obtain rfl : t3 = t := tidy_same HTO.out hto
    have HI3 := HI2
    have HX7 := Lib.hid (HX6.out.keeps hb3)
    have HC3 := Lib.hid (hC3.base HX6.out.below.size)
    have HJ3 := Lib.hid (info_st (HC3.out.len HI3.out.mem))
    clear hC3 hb3 hto pc5 pc6
    have pc7 := HX7.out.pcell
    go_wp2_with (first | (refine wpList_store_mid (by rfl) 46 _ _ (by rfl) w7.heap.size 0 C3.toArray (by rfl) (by rfl) (there_new w7 zeroV _ (by simp [HC3.out.len HI3.out.mem, zeroV_length])) (by simpa using HJ3.out) HC3.out.one ?_; obtain ⟨w8, hw8⟩ : ∃ w8, (w7.alloc (.cells zeroV.toArray 46)).setCells w7.heap.size 0 C3.toArray.toList = w8 := ⟨_, rfl⟩; rw [hw8]; have HX8 : Hid (Sx w1 w1.heap.size (.slice A1 p.length cap1) w8 [(w7.heap.size, C3, t3), (w5.heap.size, C2, t3), (w2.heap.size, C1, s1)]) := Lib.hid (hw8 ▸ HX7.out.add HC3.out HI3.out.mem); have pc8 := HX8.out.pcell; clear hw8) | (refine wpList_load_mid (by rfl) 46 _ (by rfl) w2.heap.size 0 (by rfl) C1 _ (HX8.out.range (.tail _ (.tail _ (.head _)))) Tryd.underlying46 (by rfl) HJ1.out ?_))
    refine (HWC.out C1 _ HX8.out.below (HX8.out.sts _ (.tail _ (.tail _ (.head _)))).2).mono ?_
    rintro e w9 ⟨⟨C4, rfl, hC4⟩, hb4⟩
    have HX9 := Lib.hid (HX8.out.keeps hb4)
    have HC4 := Lib.hid (hC4.base HX8.out.below.size)
    have HJ4 := Lib.hid (info_st (HC4.out.len HI4.out.mem))
    clear hC4 hb4 pc7 pc8
    have pc9 := HX9.out.pcell
    go_wp2_with (first | (refine wpList_store_mid (by rfl) 46 _ _ (by rfl) w9.heap.size 0 C4.toArray (by rfl) (by rfl) (there_new w9 zeroV _ (by simp [HC4.out.len HI4.out.mem, zeroV_length])) (by simpa using HJ4.out) HC4.out.one ?_; obtain ⟨wa, hwa⟩ : ∃ wa, (w9.alloc (.cells zeroV.toArray 46)).setCells w9.heap.size 0 C4.toArray.toList = wa := ⟨_, rfl⟩; rw [hwa]; have HX10 : Hid (Sx w1 w1.heap.size (.slice A1 p.length cap1) wa [(w9.heap.size, C4, s4), (w7.heap.size, C3, t3), (w5.heap.size, C2, t3), (w2.heap.size, C1, s1)]) := Lib.hid (hwa ▸ HX9.out.add HC4.out HI4.out.mem); have pc10 := HX10.out.pcell; clear hwa) | (refine wpList_load_mid (by rfl) 46 _ (by rfl) w5.heap.size 0 (by rfl) C2 _ (HX10.out.range (.tail _ (.tail _ (.head _)))) Tryd.underlying46 (by rfl) HJ2.out ?_))
    refine (HWD.out C2 _ HX10.out.below (HX10.out.sts _ (.tail _ (.tail _ (.head _)))).2).mono ?_
    rintro e wb ⟨⟨C5, rfl, hC5⟩, hb5⟩
    have HX11 := Lib.hid (HX10.out.keeps hb5)
    have HC5 := Lib.hid (hC5.base HX10.out.below.size)
    have HJ5 := Lib.hid (info_st (HC5.out.len HI5.out.mem))
    clear hC5 hb5 pc9 pc10
    have pc11 := HX11.out.pcell
    go_wp2_with (first | (refine wpList_store_mid (by rfl) 46 _ _ (by rfl) wb.heap.size 0 C5.toArray (by rfl) (by rfl) (there_new wb zeroV _ (by simp [HC5.out.len HI5.out.mem, zeroV_length])) (by simpa using HJ5.out) HC5.out.one ?_; obtain ⟨wc, hwc⟩ : ∃ wc, (wb.alloc (.cells zeroV.toArray 46)).setCells wb.heap.size 0 C5.toArray.toList = wc := ⟨_, rfl⟩; rw [hwc]; have HX12 : Hid (Sx w1 w1.heap.size (.slice A1 p.length cap1) wc [(wb.heap.size, C5, s5), (w9.heap.size, C4, s4), (w7.heap.size, C3, t3), (w5.heap.size, C2, t3), (w2.heap.size, C1, s1)]) := Lib.hid (hwc ▸ HX11.out.add HC5.out HI5.out.mem); have pc12 := HX12.out.pcell; clear hwc; have hX := HX12.out; obtain ⟨FA1, fa1, EA1, ea1, AA1, aa1, hA⟩ := hX.cin (.tail _ (.head _)) HI4.out; obtain ⟨FB1, fb1, EB1, eb1, AB1, ab1, hB⟩ := hX.cin (.head _) HI5.out; have x1 := hX.lt (.head _); have x2 := hX.lt (.tail _ (.head _)); have a0' := (hX.cell (.tail _ (.head _)) 0).trans hA.c0; have a1' := (hX.cell (.tail _ (.head _)) 1).trans hA.c1; have a19 := (hX.cell (.tail _ (.head _)) 19).trans hA.c19; have b0' := (hX.cell (.head _) 0).trans hB.c0; have b1' := (hX.cell (.head _) 1).trans hB.c1; have b19 := (hX.cell (.head _) 19).trans hB.c19; rw [HS34.out.st] at b0'; rw [HS34.out.val] at b1'; rw [HS34.out.fuel] at b19; have heq := fun W => eq_mem s4.mem HI4.out.mem W; have HIM := Lib.hid (info_mem (C := intsV s4.mem) (by simp [intsV, HI4.out.mem])); have HRM := Lib.hid (⟨range_mem (hX.sts _ (.tail _ (.head _))).1 HI4.out.mem hA, by rw [← HS34.out.mem]; exact range_mem (hX.sts _ (.head _)).1 HI5.out.mem hB⟩ : wc.rangeAt w9.heap.size 3 (intsV s4.mem) ∧ wc.rangeAt wb.heap.size 3 (intsV s4.mem)); obtain ⟨MM, hMM⟩ : ∃ M, intsV s4.mem = M := ⟨_, rfl⟩; rw [hMM] at HRM HIM heq; have HX14 : Hid (∀ W, Below wc.heap.size wc W → (W.cell? ⟨w9.heap.size, 0, none⟩ = some (.int .i64 s4.status) ∧ W.cell? ⟨w9.heap.size, 1, none⟩ = some (.int .i64 s4.value) ∧ W.cell? ⟨w9.heap.size, 19, none⟩ = some (.int .i64 s4.fuel)) ∧ (W.cell? ⟨wb.heap.size, 0, none⟩ = some (.int .i64 s4.status) ∧ W.cell? ⟨wb.heap.size, 1, none⟩ = some (.int .i64 s4.value) ∧ W.cell? ⟨wb.heap.size, 19, none⟩ = some (.int .i64 s4.fuel)) ∧ (W.rangeAt w9.heap.size 3 MM ∧ W.rangeAt wb.heap.size 3 MM) ∧ w9.heap.size < W.heap.size ∧ wb.heap.size < W.heap.size) := Lib.hid (fun W hb => ⟨⟨(hb.cell (p := ⟨w9.heap.size, _, none⟩) x2).trans a0', (hb.cell (p := ⟨w9.heap.size, _, none⟩) x2).trans a1', (hb.cell (p := ⟨w9.heap.size, _, none⟩) x2).trans a19⟩, ⟨(hb.cell (p := ⟨wb.heap.size, _, none⟩) x1).trans b0', (hb.cell (p := ⟨wb.heap.size, _, none⟩) x1).trans b1', (hb.cell (p := ⟨wb.heap.size, _, none⟩) x1).trans b19⟩, ⟨range_below HRM.out.1 x2 hb, range_below HRM.out.2 x1 hb⟩, by have := hb.size; omega, by have := hb.size; omega⟩); clear hA hB hX hMM a0' a1' a19 b0' b1' b19 x1 x2) | (refine wpList_load_midg (by rfl) 46 _ (by rfl) w5.heap.size 0 (by rfl) C2 _ (HX12.out.range (.tail _ (.tail _ (.tail _ (.head _))))) Tryd.underlying46 (by rfl) HJ2.out ?_) | (refine wpList_load_midg (by rfl) 46 _ (by rfl) w7.heap.size 0 (by rfl) C3 _ (HX12.out.range (.tail _ (.tail _ (.head _)))) Tryd.underlying46 (by rfl) HJ3.out ?_) | (go_at_call 32; go_must (refine (usame_any t3 C2 C3 _ HI2.out (HX12.out.sts _ (.tail _ (.tail _ (.tail _ (.head _))))).2 (HX12.out.sts _ (.tail _ (.tail _ (.head _)))).2).mono ?_; rintro e wd ⟨rfl, hbd⟩; have HX13 := Lib.hid (HX12.out.keeps hbd); obtain ⟨⟨d0, d1, d2⟩, ⟨d3, d4, d5⟩, hrm, z1, z2⟩ := HX14.out _ hbd; have HRM3 := Lib.hid hrm; have hq := HST.out; obtain ⟨st, hst'⟩ : ∃ x, s4.status = x := ⟨_, rfl⟩; rw [hst'] at d0 d3 hq; have hq2 : (st != 0) = true := (by simpa using hq); generalize s4.value = va at *; generalize s4.fuel = fu at *; clear hbd hrm hst' hq)) | (refine wpList_load_midg (by rfl) 44 _ (by rfl) w9.heap.size 3 (by rfl) MM _ HRM3.out.1 Tryd.underlying44 (by rfl) HIM.out ?_) | (refine wpList_load_midg (by rfl) 44 _ (by rfl) wb.heap.size 3 (by rfl) MM _ HRM3.out.2 Tryd.underlying44 (by rfl) HIM.out ?_))
    go_ret
    exact ⟨rfl, HBW.out.trans (HX13.out.below.mono HBW.out.size)⟩
end Go.Proofs.YtefbdecejoeamaaDoor
