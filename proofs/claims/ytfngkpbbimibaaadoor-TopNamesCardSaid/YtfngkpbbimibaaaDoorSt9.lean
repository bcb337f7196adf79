/-
  The contracts of step.Next, step.Walk.
-/
import Derived.Test.YtfngkpbbimibaaaDoorSt7
import Derived.Test.YtfngkpbbimibaaaDoorSt8
import Derived.Test.YtfngkpbbimibaaaDoorStL
namespace Go.Proofs.YtfngkpbbimibaaaDoor
open Go.RowKit Tier
theorem st_22 {l : List Value} (h : l.length = 22) : ∃ d0 d1 d2 d3 d4 d5 d6 d7 d8 d9 d10 d11 d12 d13 d14 d15 d16 d17 d18 d19 d20 d21 : Value, l = [d0, d1, d2, d3, d4, d5, d6, d7, d8, d9, d10, d11, d12, d13, d14, d15, d16, d17, d18, d19, d20, d21] := by
  match l, h with
  | [d0, d1, d2, d3, d4, d5, d6, d7, d8, d9, d10, d11, d12, d13, d14, d15, d16, d17, d18, d19, d20, d21], _ => exact ⟨d0, d1, d2, d3, d4, d5, d6, d7, d8, d9, d10, d11, d12, d13, d14, d15, d16, d17, d18, d19, d20, d21, rfl⟩
theorem range_pre {W : World} {b : Nat} {cs : List Value} {v : Value} {t : TypeId} {fr : Nat × Nat} (h : W.heap[b]? = some (.cells (cs ++ [v]).toArray t fr)) : W.rangeAt b 0 cs := fun j u hu => by
  rw [Nat.zero_add, cell_block h, List.getElem?_toArray, List.getElem?_append_left (List.getElem?_eq_some_iff.1 hu).1]; exact hu
theorem strows_setCells {B b : Nat} {s : St} {FS ES AS : Value} {t : TypeId} (h1 : 68 ≠ t) (h2 : 3 ≠ t) : ∀ (vs : List Value) (o : Nat) {w : World} {c : Array Value}, StRows w B s FS ES AS → w.heap[b]? = some (.cells c t (0, 0)) → StRows (w.setCells b o vs) B s FS ES AS
  | [], _, _, _, h, _ => h
  | v :: vs, o, _, _, h, hb => strows_setCells h1 h2 vs (o + 1) (h.set hb h1 h2 o v) (block_set hb o v)
theorem stinv_small {p : List Fnc} {s : St} (h : StInv p s) : s.events.length ≤ 1000000 ∧ s.answers.length ≤ 1000000 := by
  have := h.ev; have := h.fuel0; have := h.ans
  omega
set_option maxRecDepth 100000 in
set_option maxHeartbeats 8000000 in
theorem swalk_any {p : List Fnc} (hc : checkP p = 0) {B : Nat} (s : St) (FS ES AS : Value) (A : Option Addr) (cap : Nat) (n : Nat) (hn : n ≤ 1000000) (w : World) (ht : Tab w) (hP : ProgAt w (.slice A p.length cap) p) (hi : StInv p s) (hr : StRows w B s FS ES AS) :
    Calls Tryd.prog 35 #[.agg #[.slice A p.length cap], .agg (stCells s FS ES AS).toArray, .int .i64 (n : Int)] w fun e w' => (∃ v, e = .returned (.tuple #[v, .int .i64 0]) ∧ StVal w' w.heap.size v (walkSt p n s)) ∧ Below w.heap.size w w' := by
  have hp := right_of hc
  have HCK := Lib.hid (fun (W : World) (h1 : Tab W) (h2 : ProgAt W (.slice A p.length cap) p) (h3 : StRows W B s FS ES AS) => scheck_any hc s FS ES AS A cap W h1 h2 hi h3)
  have HOWN := Lib.hid (fun (W : World) (h3 : StRows W B s FS ES AS) => own_any s FS ES AS W h3 hi.mem hi.deep (stinv_small hi).1 (stinv_small hi).2)
  have HSI := Lib.hid (info_st (stCells_length hi.mem FS ES AS))
  have HT := Lib.hid ht
  have HP := Lib.hid hP
  have HR := Lib.hid hr
  have HI := Lib.hid hi
  clear ht hP hr hi
  generalize stCells s FS ES AS = C at *
  have hz := zero_st
  obtain ⟨s4, hs4⟩ : ∃ s4, walkSt p n s = s4 := ⟨_, rfl⟩
  rw [hs4]
  have HI4 : Hid (StInv p s4) := Lib.hid (by rw [← hs4]; exact HI.out.walk hp n)
  have HS4 := Lib.hid hs4
  have hn0 : (0 : Int) ≤ n := by omega
  clear hs4
  have hb0 := Lib.hid ((((Below.refl w.heap.size w).alloc (Nat.le_refl _) (.cells #[.slice A p.length cap] 25)).alloc (by simp) (.cells C.toArray 49)).alloc (by simp; omega) (.cells zeroV.toArray 49))
  have HBB := Lib.hid (fun (w1 : World) (hb : Below (w.heap.size + 3) (((w.alloc (.cells #[.slice A p.length cap] 25)).alloc (.cells C.toArray 49)).alloc (.cells zeroV.toArray 49)) w1) => (⟨(hb.block w.heap.size (by omega)).trans (block_alloc (block_alloc (heap_alloc_new w _) _) _), (hb.block (w.heap.size + 1) (by omega)).trans (block_alloc (heap_alloc_new1 w _ _) _), (hb.block (w.heap.size + 2) (by omega)).trans (by have := heap_alloc_new ((w.alloc (.cells #[.slice A p.length cap] 25)).alloc (.cells C.toArray 49)) (.cells zeroV.toArray 49); simpa using this), hb0.out.trans (hb.mono (by omega)), by have := hb.size; simp at this; omega⟩ :
    w1.heap[w.heap.size]? = some (.cells #[.slice A p.length cap] 25 (0, 0)) ∧ w1.heap[w.heap.size + 1]? = some (.cells C.toArray 49 (0, 0)) ∧ w1.heap[w.heap.size + 2]? = some (.cells zeroV.toArray 49 (0, 0)) ∧ Below w.heap.size w w1 ∧ w.heap.size + 3 ≤ w1.heap.size))
  have HR0 := Lib.hid (range_block (block_alloc (heap_alloc_new1 w (.cells #[.slice A p.length cap] 25) (.cells C.toArray 49)) (.cells zeroV.toArray 49)))
  go_enter Tryd.func35, Tryd.ntmps35
  go_wp2_with (first | (refine wpList_load_mid (by rfl) 49 _ (by rfl) (w.heap.size + 1) 0 (by rfl) C _ HR0.out Tryd.underlying49 (by rfl) HSI.out ?_) | (go_at_call 46; go_must (refine (HCK.out _ (HT.out.keeps hb0.out) (HP.out.keeps hb0.out) (HR.out.below hb0.out)).mono ?_; rintro e w1 ⟨rfl, hb⟩; have hbb := HBB.out w1 (hb.mono (by simp)); have HB := Lib.hid hbb; have hz1 := hbb.2.2.2.2; clear hb hbb)))
  have c0p : w1.cell? ⟨w.heap.size, 0, none⟩ = some (.slice A p.length cap) := (cell_block HB.out.1 0).trans rfl
  have r1 : w1.rangeAt (w.heap.size + 1) 0 C := range_block HB.out.2.1
  refine wp_region_held_drew (S := fun w' => w'.cell? ⟨w.heap.size, 0, none⟩ = some (.slice A p.length cap) ∧ w'.rangeAt (w.heap.size + 1) 0 C) (by kernel_rfl) ⟨c0p, (World.rangeAt_drew _ _ _ _).2 r1⟩ (fun hHeld => ?_)
  refine' wpAnyH_take (i := 0) rfl (by kernel_rfl) (by kernel_rfl) (by kernel_rfl) (fun _ _ _ h => h) (yieldsIf_load_mid (by rfl) 49 _ rfl (w.heap.size + 1) 0 rfl C _ (fun w hSw => hSw.2) Tryd.underlying49 (by rfl) HSI.out) hHeld ?_
  simp only [Act.put, List.getElem_toArray, List.getElem_cons_zero, List.setIfInBounds_toArray, List.set_cons_zero, List.set_cons_succ]
  refine wpAnyH_take (i := 2) (v := .agg #[.slice A p.length cap]) rfl (by kernel_rfl) (by kernel_rfl) (by kernel_rfl) (fun _ _ _ h => h) (Or.inl ⟨by rfl, ?_⟩) hHeld ?_
  · intro w hSw
    have hq := hSw.1
    simp only [List.getElem_toArray, List.getElem_cons_zero, List.getElem_cons_succ]
    go_simp
  simp only [Act.put, List.getElem_toArray, List.getElem_cons_zero, List.getElem_cons_succ, List.setIfInBounds_toArray, List.set_cons_zero, List.set_cons_succ]
  refine wpAnyH_ready (rs := [1]) (by kernel_rfl) (by simp) ?_
  refine AllReadyH.cons rfl (fun K hK => ?_) AllReadyH.nil
  simp only [List.getElem_toArray, List.getElem_cons_zero, List.getElem_cons_succ]
  go_simp
  refine (HOWN.out _ (HR.out.below (HB.out.2.2.2.1.drew))).mono ?_
  rintro e w2 ⟨⟨v2, rfl, hv2⟩, hb2'⟩
  have hb2 : Below w1.heap.size w1 w2 := (Below.refl w1.heap.size w1).drew.trans hb2'
  obtain ⟨FS2, ES2, AS2, rfl, hr2'⟩ := hv2
  have HR2 : Hid (StRows w2 w1.heap.size s FS2 ES2 AS2) := Lib.hid hr2'
  obtain ⟨d0, d1, d2, d3, d4, d5, d6, d7, d8, d9, d10, d11, d12, d13, d14, d15, d16, d17, d18, d19, d20, d21, hD⟩ := st_22 (stCells_length HI.out.mem FS2 ES2 AS2)
  rw [hD]
  have HD := Lib.hid hD
  have HB2 := Lib.hid hb2
  have hz2 := hb2.size
  have KS := Lib.hid (fun (w' : World) (hb : Below w1.heap.size w1 w') => (⟨(hb.cell (p := ⟨w.heap.size, 0, none⟩) (by show w.heap.size < _; omega)).trans c0p, range_block ((hb.block (w.heap.size + 1) (by omega)).trans HB.out.2.1)⟩ : w'.cell? ⟨w.heap.size, 0, none⟩ = some (.slice A p.length cap) ∧ w'.rangeAt (w.heap.size + 1) 0 C))
  clear hb2' hr2' hD hHeld hb2
  refine hK.out _ _ (KS.out _ HB2.out) (fun hHeld => ?_)
  clear hK K
  refine wpAnyH_ready (rs := [3]) (by kernel_rfl) (by simp) ?_
  refine AllReadyH.cons rfl (fun K hK => ?_) AllReadyH.nil
  simp only [List.getElem_toArray, List.getElem_cons_zero, List.getElem_cons_succ]
  go_simp
  refine hK.out _ _ (KS.out _ HB2.out) (fun hHeld => ?_)
  clear hK K
  refine wpAnyH_ready (rs := [4]) (by kernel_rfl) (by simp) ?_
  refine AllReadyH.cons rfl (fun K hK => ?_) AllReadyH.nil
  simp only [List.getElem_toArray, List.getElem_cons_zero, List.getElem_cons_succ]
  go_simp
  refine hK.out _ _ (KS.out _ (HB2.out.alloc HB2.out.size _)) (fun hHeld => ?_)
  clear hK K
  refine wpAnyH_ready (rs := [5]) (by kernel_rfl) (by simp) ?_
  refine AllReadyH.cons rfl (fun K hK => ?_) AllReadyH.nil
  simp only [List.getElem_toArray, List.getElem_cons_zero, List.getElem_cons_succ]
  go_simp
  refine hK.out _ _ (KS.out _ (HB2.out.alloc HB2.out.size _)) (fun hHeld => ?_)
  clear hK K hHeld KS
  refine wpAnyH_done (by kernel_rfl) ?_ _
  obtain ⟨w3, hw3⟩ : ∃ w3, w2.alloc (.cells #[d0, d1, d2, d3, d4, d5, d6, d7, d8, d9, d10, d11, d12, d13, d14, d15, d16, d17, d18, d19, d20, d21, .slice A p.length cap] 109) = w3 := ⟨_, rfl⟩
  rw [hw3]
  have HE3 : Hid (EngAt w1 w3 w2.heap.size (.slice A p.length cap) s FS2 ES2 AS2) := Lib.hid (by
    rw [← hw3]
    refine ⟨by rw [HD.out]; exact heap_alloc_new w2 _, ?_, HB2.out.size, HB2.out.alloc HB2.out.size _⟩
    exact HR2.out.below ((Below.refl _ _).alloc (Nat.le_refl _) _))
  have HP1 := Lib.hid (HP.out.keeps HB.out.2.2.2.1)
  obtain ⟨E, hE⟩ : ∃ E, w2.heap.size = E := ⟨_, rfl⟩
  rw [hE] at HE3 ⊢
  clear hw3 hE HR2 HD HB2 hz2 c0p r1 HOWN HCK HBB hb0 HT HR0 HSI
  go_wp2_with fail
  go_loopw [2] (fun v wr => ∃ (r : Nat) (s' : St) (FS' ES' AS' : Value), r ≤ n ∧ v = .int .i64 (r : Int) ∧ EngAt w1 wr E (.slice A p.length cap) s' FS' ES' AS' ∧ StInv p s' ∧ walkSt p r s' = s4) (fun v _ => (intOf v).toNat)
  case atStart => exact ⟨n, s, FS2, ES2, AS2, Nat.le_refl _, rfl, HE3.out, HI.out, HS4.out⟩
  case round =>
    obtain ⟨r, s', FS', ES', AS', hr, rfl, he, hi', hw⟩ := hrel
    have H4' := Lib.hid he
    have HI' := Lib.hid hi'
    have HW := Lib.hid hw
    have q0 := (he.cellC hi'.mem (i := 0) (by omega)).trans (stC_0 _ _ _ _)
    clear he hi' hw
    by_cases hr0 : r = 0
    · subst hr0
      have hss : s' = s4 := HW.out
      subst hss
      have H4 := H4'
      have HR4 := Lib.hid (range_pre H4.out.blk)
      have HSI4 := Lib.hid (info_st (stCells_length HI'.out.mem FS' ES' AS'))
      have HOWN := Lib.hid (own_any s' FS' ES' AS' wr H4.out.rows HI'.out.mem HI'.out.deep (stinv_small HI'.out).1 (stinv_small HI'.out).2)
      generalize stCells s' FS' ES' AS' = C4 at *
      go_wp2_with (first
    | (refine wpList_load_mid (by rfl) 49 _ (by rfl) E 0 (by rfl) C4 _ HR4.out Tryd.underlying49 (by rfl) HSI4.out ?_)
    | (go_at_call 49; go_must (refine HOWN.out.mono ?_; rintro e w5 ⟨⟨v5, rfl, FS5, ES5, AS5, rfl, hr5⟩, hb5⟩; have HB5 : Hid (Below w1.heap.size w1 w5) := Lib.hid (H4.out.below.trans (hb5.mono H4.out.below.size)); have HR5 : Hid (StRows w5 w.heap.size s' FS5 ES5 AS5) := Lib.hid (hr5.base (by have := H4.out.below.size; have := HB.out.2.2.2.2; omega)); have HL5 : Hid ((stCells s' FS5 ES5 AS5).length = 22) := Lib.hid (stCells_length HI4.out.mem FS5 ES5 AS5); have HSI5 := Lib.hid (info_st HL5.out); have HO5 := Lib.hid (stC_one HR5.out); have HTH := Lib.hid (there_block (n := (stCells s' FS5 ES5 AS5).length) ((HB5.out.block (w.heap.size + 2) (by omega)).trans HB.out.2.2.1) (by rw [HL5.out]; exact Nat.le_refl _)); clear hr5 hb5))
    | (refine wpList_store_mid (by rfl) 49 _ _ (by rfl) (w.heap.size + 2) 0 (stCells s' FS5 ES5 AS5).toArray (by rfl) (by rfl) HTH.out (by simpa using HSI5.out) HO5.out ?_))
      have hrd := run_loadVar_mid (P := Tryd.prog) _ _ _ 49 (stCells s' FS5 ES5 AS5) _ (World.rangeAt_setCells_same w5 (w.heap.size + 2) 0 (stCells s' FS5 ES5 AS5) HTH.out) Tryd.underlying49 (by rfl) HSI5.out
      refine bodyPost_ret (v := .tuple #[.agg (stCells s' FS5 ES5 AS5).toArray, .int .i64 0]) (results_cell2 Tryd.results35 _ _ _ _ _ ?_ hrd) rfl ⟨⟨_, rfl, FS5, ES5, AS5, rfl, ?_⟩, ?_⟩
      · rfl
      · exact strows_setCells (by decide) (by decide) _ _ HR5.out ((HB5.out.block (w.heap.size + 2) (by omega)).trans HB.out.2.2.1)
      · exact below_setCells (by simp) _ _ _ (HB.out.2.2.2.1.trans (HB5.out.mono HB.out.2.2.2.1.size))
    · have hr1 : (0 : Int) < r := by omega
      have hrw : IntKind.i64.wrap ((r : Int) - 1) = r - 1 := by rw [IntKind.wrap_i64]; omega
      by_cases hs : s'.status = 0
      · rw [hs] at q0
        have HNX := Lib.hid (enext_any hp H4'.out HP1.out HI'.out hs)
        go_wp2_with (go_at_call 50; go_must (refine HNX.out.mono ?_; rintro e w4 ⟨rfl, FS4, ES4, AS4, h4⟩))
        go_roundw
        case rel => exact ⟨r - 1, stepSt p s', FS4, ES4, AS4, by omega, by go_num, h4, HI'.out.step hp hs, by rw [← HW.out, show r = r - 1 + 1 by omega, walkSt_run hs, Nat.add_sub_cancel]⟩
        case measure => simp [intOf]; omega
      · have hss : s' = s4 := by rw [← HW.out, walkSt_stop hs]
        subst hss
        have hq : (s'.status == 0) = false := by simpa using hs
        obtain ⟨st, hst'⟩ : ∃ x, s'.status = x := ⟨_, rfl⟩
        rw [hst'] at q0 hq
        clear hst' hs
        have H4 := H4'
        have HR4 := Lib.hid (range_pre H4.out.blk)
        have HSI4 := Lib.hid (info_st (stCells_length HI'.out.mem FS' ES' AS'))
        have HOWN := Lib.hid (own_any s' FS' ES' AS' wr H4.out.rows HI'.out.mem HI'.out.deep (stinv_small HI'.out).1 (stinv_small HI'.out).2)
        generalize stCells s' FS' ES' AS' = C4 at *
        go_wp2_with (first
    | (refine wpList_load_mid (by rfl) 49 _ (by rfl) E 0 (by rfl) C4 _ HR4.out Tryd.underlying49 (by rfl) HSI4.out ?_)
    | (go_at_call 49; go_must (refine HOWN.out.mono ?_; rintro e w5 ⟨⟨v5, rfl, FS5, ES5, AS5, rfl, hr5⟩, hb5⟩; have HB5 : Hid (Below w1.heap.size w1 w5) := Lib.hid (H4.out.below.trans (hb5.mono H4.out.below.size)); have HR5 : Hid (StRows w5 w.heap.size s' FS5 ES5 AS5) := Lib.hid (hr5.base (by have := H4.out.below.size; have := HB.out.2.2.2.2; omega)); have HL5 : Hid ((stCells s' FS5 ES5 AS5).length = 22) := Lib.hid (stCells_length HI4.out.mem FS5 ES5 AS5); have HSI5 := Lib.hid (info_st HL5.out); have HO5 := Lib.hid (stC_one HR5.out); have HTH := Lib.hid (there_block (n := (stCells s' FS5 ES5 AS5).length) ((HB5.out.block (w.heap.size + 2) (by omega)).trans HB.out.2.2.1) (by rw [HL5.out]; exact Nat.le_refl _)); clear hr5 hb5))
    | (refine wpList_store_mid (by rfl) 49 _ _ (by rfl) (w.heap.size + 2) 0 (stCells s' FS5 ES5 AS5).toArray (by rfl) (by rfl) HTH.out (by simpa using HSI5.out) HO5.out ?_))
        have hrd := run_loadVar_mid (P := Tryd.prog) _ _ _ 49 (stCells s' FS5 ES5 AS5) _ (World.rangeAt_setCells_same w5 (w.heap.size + 2) 0 (stCells s' FS5 ES5 AS5) HTH.out) Tryd.underlying49 (by rfl) HSI5.out
        refine bodyPost_ret (v := .tuple #[.agg (stCells s' FS5 ES5 AS5).toArray, .int .i64 0]) (results_cell2 Tryd.results35 _ _ _ _ _ ?_ hrd) rfl ⟨⟨_, rfl, FS5, ES5, AS5, rfl, ?_⟩, ?_⟩
        · rfl
        · exact strows_setCells (by decide) (by decide) _ _ HR5.out ((HB5.out.block (w.heap.size + 2) (by omega)).trans HB.out.2.2.1)
        · exact below_setCells (by simp) _ _ _ (HB.out.2.2.2.1.trans (HB5.out.mono HB.out.2.2.2.1.size))
set_option maxRecDepth 100000 in
set_option maxHeartbeats 8000000 in
theorem swalk_neg {p : List Fnc} (hc : checkP p = 0) {B : Nat} (s : St) (FS ES AS : Value) (A : Option Addr) (cap : Nat) (n : Int) (hn : n < 0) (w : World) (ht : Tab w) (hP : ProgAt w (.slice A p.length cap) p) (hi : StInv p s) (hr : StRows w B s FS ES AS) :
    Calls Tryd.prog 35 #[.agg #[.slice A p.length cap], .agg (stCells s FS ES AS).toArray, .int .i64 n] w fun e w' => e = .returned (.tuple #[.agg zeroV.toArray, .int .i64 2]) ∧ Below w.heap.size w w' := by
  have HCK := Lib.hid (fun (W : World) (h1 : Tab W) (h2 : ProgAt W (.slice A p.length cap) p) (h3 : StRows W B s FS ES AS) => scheck_any hc s FS ES AS A cap W h1 h2 hi h3)
  have HSI := Lib.hid (info_st (stCells_length hi.mem FS ES AS))
  have HT := Lib.hid ht
  have HP := Lib.hid hP
  have HR := Lib.hid hr
  have HI := Lib.hid hi
  clear ht hP hr hi
  generalize stCells s FS ES AS = C at *
  have hz := zero_st
  have hb0 := Lib.hid ((((Below.refl w.heap.size w).alloc (Nat.le_refl _) (.cells #[.slice A p.length cap] 25)).alloc (by simp) (.cells C.toArray 49)).alloc (by simp; omega) (.cells zeroV.toArray 49))
  have HBB := Lib.hid (fun (w1 : World) (hb : Below (w.heap.size + 3) (((w.alloc (.cells #[.slice A p.length cap] 25)).alloc (.cells C.toArray 49)).alloc (.cells zeroV.toArray 49)) w1) => (⟨(hb.block w.heap.size (by omega)).trans (block_alloc (block_alloc (heap_alloc_new w _) _) _), (hb.block (w.heap.size + 1) (by omega)).trans (block_alloc (heap_alloc_new1 w _ _) _), (hb.block (w.heap.size + 2) (by omega)).trans (by have := heap_alloc_new ((w.alloc (.cells #[.slice A p.length cap] 25)).alloc (.cells C.toArray 49)) (.cells zeroV.toArray 49); simpa using this), hb0.out.trans (hb.mono (by omega)), by have := hb.size; simp at this; omega⟩ :
    w1.heap[w.heap.size]? = some (.cells #[.slice A p.length cap] 25 (0, 0)) ∧ w1.heap[w.heap.size + 1]? = some (.cells C.toArray 49 (0, 0)) ∧ w1.heap[w.heap.size + 2]? = some (.cells zeroV.toArray 49 (0, 0)) ∧ Below w.heap.size w w1 ∧ w.heap.size + 3 ≤ w1.heap.size))
  have HR0 := Lib.hid (range_block (block_alloc (heap_alloc_new1 w (.cells #[.slice A p.length cap] 25) (.cells C.toArray 49)) (.cells zeroV.toArray 49)))
  go_enter Tryd.func35, Tryd.ntmps35
  have HZI : Hid ((Tryd.prog.info? 49).map (·.size) = some zeroV.length) := Lib.hid (info_st zeroV_length)
  have HZ1 := Lib.hid zeroV_one
  go_wp2_with (first | (refine wpList_store_mid (by rfl) 49 _ _ (by rfl) (w.heap.size + 2) 0 zeroV.toArray (by rfl) (by rfl) (there_block (n := zeroV.length) HB.out.2.2.1 (Nat.le_refl _)) (by simpa using HZI.out) HZ1.out ?_) | (refine wpList_load_mid (by rfl) 49 _ (by rfl) (w.heap.size + 1) 0 (by rfl) C _ HR0.out Tryd.underlying49 (by rfl) HSI.out ?_) | (go_at_call 46; go_must (refine (HCK.out _ (HT.out.keeps hb0.out) (HP.out.keeps hb0.out) (HR.out.below hb0.out)).mono ?_; rintro e w1 ⟨rfl, hb⟩; have hbb := HBB.out w1 (hb.mono (by simp)); have HB := Lib.hid hbb; have hz1 := hbb.2.2.2.2; clear hb hbb)))
  have hrd := run_loadVar_mid (P := Tryd.prog) _ _ _ 49 zeroV _ (World.rangeAt_setCells_same w1 (w.heap.size + 2) 0 zeroV (there_block (n := zeroV.length) HB.out.2.2.1 (Nat.le_refl _))) Tryd.underlying49 (by rfl) HZI.out
  refine bodyPost_ret (v := .tuple #[.agg zeroV.toArray, .int .i64 2]) (results_cell2 Tryd.results35 _ _ _ _ _ ?_ hrd) rfl ⟨rfl, ?_⟩
  · rfl
  · exact below_setCells (by simp) _ _ _ HB.out.2.2.2.1
end Go.Proofs.YtfngkpbbimibaaaDoor
