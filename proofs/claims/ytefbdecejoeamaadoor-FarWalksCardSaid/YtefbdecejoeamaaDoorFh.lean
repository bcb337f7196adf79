/-
  emit.Far at a state that does not run.
-/
import Derived.Test.YtefbdecejoeamaaDoorEr
import Derived.Test.YtefbdecejoeamaaDoorKu
namespace Go.Proofs.YtefbdecejoeamaaDoor
open Go.RowKit Tier
set_option maxRecDepth 100000 in
set_option maxHeartbeats 8000000 in
theorem far_halt {p : List Fnc} (hc : checkP p = 0) {B : Nat} (s : St) (C : List Value) (A1 : Option Addr) (cap1 : Nat) (w : World) (ht : Tab w) (hP : ProgAt w (.slice A1 p.length cap1) p) (hi : StInv p s) (hC : CellsSt C w B s) (hst : s.status ≠ 0) :
    Calls Tryd.prog 49 #[.agg #[.slice A1 p.length cap1], .agg C.toArray] w fun e w' => e = .returned (.tuple #[.agg zeroV.toArray, .int .i64 0, .int .i64 9]) ∧ Below w.heap.size w w' := by
  have HER := Lib.hid (fun (W : World) (hb : Below w.heap.size w W) => erunning_any hc s C A1 cap1 W (ht.keeps hb) (hP.keeps hb) hi (hC.below hb))
  have HSI := Lib.hid (info_st (hC.len hi.mem))
  have HST := Lib.hid hst
  have hz := zero_st
  have HZI : Hid ((Tryd.prog.info? 78).map (·.size) = some zeroF.length) := Lib.hid info_fr
  have HZO := Lib.hid (show zeroF.toArray.all (·.oneCell') = true from all_oneCell_toArray (fun v hv => by simp [zeroF] at hv; rw [hv]; rfl))
  have HZS := Lib.hid (info_st zeroV_length)
  have hb0 := Lib.hid ((((Below.refl w.heap.size w).alloc (Nat.le_refl _) (.cells #[(.slice A1 p.length cap1)] 25)).alloc (by simp) (.cells C.toArray 46)).alloc (by simp; omega) (.cells zeroV.toArray 46))
  have HBB := Lib.hid (fun (w1 : World) (hb : Below (w.heap.size + 3) (((w.alloc (.cells #[(.slice A1 p.length cap1)] 25)).alloc (.cells C.toArray 46)).alloc (.cells zeroV.toArray 46)) w1) => (⟨(hb.block (w.heap.size + 2) (by omega)).trans (by have := heap_alloc_new ((w.alloc (.cells #[(.slice A1 p.length cap1)] 25)).alloc (.cells C.toArray 46)) (.cells zeroV.toArray 46); simpa using this), hb0.out.trans (hb.mono (by omega)), by have := hb.size; simp at this; omega⟩ :
    w1.heap[w.heap.size + 2]? = some (.cells zeroV.toArray 46 (0, 0)) ∧ Below w.heap.size w w1 ∧ w.heap.size + 3 ≤ w1.heap.size))
  have HR0 := Lib.hid (range_block (block_alloc (heap_alloc_new1 w (.cells #[(.slice A1 p.length cap1)] 25) (.cells C.toArray 46)) (.cells zeroV.toArray 46)))
  clear ht hP hi hC hst hc
  go_enter Tryd.func49, Tryd.ntmps49
  go_wp2_with (refine wpList_load_mid (by rfl) 46 _ (by rfl) (w.heap.size + 1) 0 (by rfl) C _ HR0.out Tryd.underlying46 (by rfl) HSI.out ?_)
  refine (HER.out _ hb0.out).mono ?_
  rintro e w1 ⟨⟨-, h1⟩, hb⟩
  obtain rfl := h1 HST.out
  have HB1 := Lib.hid (HBB.out w1 (hb.mono (by simp)))
  clear hb h1 HER
  go_wp2_with (first | (refine wpList_store_mid (by rfl) 78 _ _ (by rfl) w1.heap.size 0 zeroF.toArray (by rfl) (by rfl) (there_new w1 [.int .i64 0, .int .i64 0, .int .i64 0, .int .i64 0, .int .i64 0, .int .i64 0, .int .i64 0, .int .i64 0, .int .i64 0, .int .i64 0, .int .i64 0, .int .i64 0, .int .i64 0, .int .i64 0] _ (by simp [zeroF])) (by simpa using HZI.out) HZO.out ?_; obtain ⟨w2, hw2⟩ : ∃ w2, (w1.alloc (.cells (List.toArray [.int .i64 0, .int .i64 0, .int .i64 0, .int .i64 0, .int .i64 0, .int .i64 0, .int .i64 0, .int .i64 0, .int .i64 0, .int .i64 0, .int .i64 0, .int .i64 0, .int .i64 0, .int .i64 0]) 78)).setCells w1.heap.size 0 zeroF.toArray.toList = w2 := ⟨_, rfl⟩; rw [hw2]; have HBT : Hid (Below w1.heap.size w1 w2) := Lib.hid (hw2 ▸ below_setCells (Nat.le_refl _) _ _ _ ((Below.refl _ _).alloc (Nat.le_refl _) _)); have HRZ : Hid (w2.heap[(w.heap.size + 1 + 1)]? = some (.cells zeroV.toArray 46 (0, 0))) := Lib.hid ((HBT.out.block _ (block_lt HB1.out.1)).trans HB1.out.1); clear hw2) | (refine wpList_store_mid (by rfl) 46 _ _ (by rfl) (w.heap.size + 1 + 1) 0 zeroV.toArray (by rfl) (by rfl) (there_block HRZ.out (by simp [zeroV_length])) (by simpa using HZS.out) zeroV_one ?_))
  have hrd := run_loadVar_mid (P := Tryd.prog) _ _ _ 46 zeroV _ (World.rangeAt_setCells_same w2 (w.heap.size + 1 + 1) 0 zeroV (there_block HRZ.out (by simp [zeroV_length]))) Tryd.underlying46 (by rfl) HZS.out
  refine bodyPost_ret (v := .tuple #[.agg zeroV.toArray, .int .i64 0, .int .i64 9]) (results_cell3 Tryd.results49 _ _ _ _ _ ?_ hrd) rfl ⟨rfl, ?_⟩
  · rfl
  · exact below_setCells (by omega) _ _ _ (HB1.out.2.1.trans (HBT.out.mono (by have := HB1.out.2.2; omega)))
end Go.Proofs.YtefbdecejoeamaaDoor
