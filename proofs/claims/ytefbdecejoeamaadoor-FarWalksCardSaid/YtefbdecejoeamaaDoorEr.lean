/-
  The contract of emit.running: the last frame of a state that runs.
-/
import Derived.Test.YtefbdecejoeamaaDoorOpI
namespace Go.Proofs.YtefbdecejoeamaaDoor
open Go.RowKit Tier
def zeroF : List Value := [.int .i64 0, .int .i64 0, .int .i64 0, .int .i64 0, .int .i64 0, .int .i64 0, .int .i64 0, .int .i64 0, .int .i64 0, .int .i64 0, .int .i64 0, .int .i64 0, .int .i64 0, .int .i64 0]
set_option maxRecDepth 100000 in
set_option maxHeartbeats 8000000 in
theorem erunning_any {p : List Fnc} (hc : checkP p = 0) {B : Nat} (s : St) (C : List Value) (A : Option Addr) (cap : Nat) (w : World) (ht : Tab w) (hP : ProgAt w (.slice A p.length cap) p) (hi : StInv p s) (hC : CellsSt C w B s) :
    Calls Tryd.prog 74 #[.agg #[.slice A p.length cap], .agg C.toArray] w fun e w' => ((s.status = 0 → ∃ fs f, s.frames = fs ++ [f] ∧ e = .returned (.tuple #[.agg (frCell f).toArray, .int .i64 0])) ∧ (s.status ≠ 0 → e = .returned (.tuple #[.agg zeroF.toArray, .int .i64 9]))) ∧ Below w.heap.size w w' := by
  have HCK := Lib.hid (fun (W : World) (hb : Below w.heap.size w W) => scheck_c hc (ht.keeps hb) (hP.keeps hb) hi (hC.below hb))
  have HSI := Lib.hid (info_st (hC.len hi.mem))
  have HI := Lib.hid hi
  have HC := Lib.hid hC
  have hb0 := Lib.hid ((((Below.refl w.heap.size w).alloc (Nat.le_refl _) (.cells #[.slice A p.length cap] 25)).alloc (by simp) (.cells C.toArray 46)).alloc (by simp; omega) (.cells (List.toArray [.int .i64 0, .int .i64 0, .int .i64 0, .int .i64 0, .int .i64 0, .int .i64 0, .int .i64 0, .int .i64 0, .int .i64 0, .int .i64 0, .int .i64 0, .int .i64 0, .int .i64 0, .int .i64 0]) 78))
  have HBB := Lib.hid (fun (w1 : World) (hb : Below (w.heap.size + 3) (((w.alloc (.cells #[.slice A p.length cap] 25)).alloc (.cells C.toArray 46)).alloc (.cells (List.toArray [.int .i64 0, .int .i64 0, .int .i64 0, .int .i64 0, .int .i64 0, .int .i64 0, .int .i64 0, .int .i64 0, .int .i64 0, .int .i64 0, .int .i64 0, .int .i64 0, .int .i64 0, .int .i64 0]) 78)) w1) => (⟨(hb.block w.heap.size (by omega)).trans (block_alloc (block_alloc (heap_alloc_new w _) _) _), (hb.block (w.heap.size + 1) (by omega)).trans (block_alloc (heap_alloc_new1 w _ _) _), (hb.block (w.heap.size + 2) (by omega)).trans (by have := heap_alloc_new ((w.alloc (.cells #[.slice A p.length cap] 25)).alloc (.cells C.toArray 46)) (.cells (List.toArray [.int .i64 0, .int .i64 0, .int .i64 0, .int .i64 0, .int .i64 0, .int .i64 0, .int .i64 0, .int .i64 0, .int .i64 0, .int .i64 0, .int .i64 0, .int .i64 0, .int .i64 0, .int .i64 0]) 78); simpa using this), hb0.out.trans (hb.mono (by omega)), by have := hb.size; simp at this; omega⟩ :
    w1.heap[w.heap.size]? = some (.cells #[.slice A p.length cap] 25 (0, 0)) ∧ w1.heap[w.heap.size + 1]? = some (.cells C.toArray 46 (0, 0)) ∧ w1.heap[w.heap.size + 2]? = some (.cells (List.toArray [.int .i64 0, .int .i64 0, .int .i64 0, .int .i64 0, .int .i64 0, .int .i64 0, .int .i64 0, .int .i64 0, .int .i64 0, .int .i64 0, .int .i64 0, .int .i64 0, .int .i64 0, .int .i64 0]) 78 (0, 0)) ∧ Below w.heap.size w w1 ∧ w.heap.size + 3 ≤ w1.heap.size))
  have HR0 := Lib.hid (range_block (block_alloc (heap_alloc_new1 w (.cells #[.slice A p.length cap] 25) (.cells C.toArray 46)) (.cells (List.toArray [.int .i64 0, .int .i64 0, .int .i64 0, .int .i64 0, .int .i64 0, .int .i64 0, .int .i64 0, .int .i64 0, .int .i64 0, .int .i64 0, .int .i64 0, .int .i64 0, .int .i64 0, .int .i64 0]) 78)))
  obtain ⟨FA, fcap, EA, ea, AA, aa, hci⟩ := hC.cin hi.mem (fun f hf => (hi.fr f hf).regs)
  have HC0 := Lib.hid hci.c0
  have HC2 := Lib.hid hci.c2
  have HCI := Lib.hid hci
  clear ht hP hi hC hc hci
  go_enter Tryd.func74, Tryd.ntmps74
  by_cases hst : s.status = 0
  · obtain ⟨fs, f, hf⟩ := HI.out.running hst
    have hfo := HI.out.fr f (by rw [hf]; simp)
    obtain ⟨g, hFA, gz, rF⟩ := top_range HCI.out hf hfo.regs
    obtain ⟨kf, hkf⟩ : ∃ kf, fs.length = kf := ⟨_, rfl⟩
    obtain ⟨nf, hn⟩ : ∃ nf, s.frames.length = nf := ⟨_, rfl⟩
    have hnl : nf = kf + 1 := by rw [← hn, hf, ← hkf]; simp
    have hdp := HI.out.deep
    rw [hn] at hdp
    have c0 := HC0.out
    have c2 := HC2.out
    rw [hst] at c0
    rw [hn, hFA] at c2
    rw [hkf] at rF
    have H0 := Lib.hid c0
    have H2 := Lib.hid c2
    have hk0 : (0 : Int) ≤ kf := by omega
    have hk1 : (kf : Int) < nf := by omega
    have hk2 : (nf : Int) ≤ 8 := by omega
    have hwn : (nf : Int) - 1 = (kf : Int) := by omega
    have hwn2 : IntKind.i64.wrap ((nf : Int) - 1) = (kf : Int) := by rw [IntKind.wrap_i64]; omega
    have hFl : (frCell f).length = 14 := frCell_length hfo.regs
    have HFL := Lib.hid hFl
    have HFI : Hid ((Tryd.prog.info? 78).map (·.size) = some (frCell f).length) := Lib.hid (by rw [hFl]; exact info_fr)
    have HFO1 : Hid ((frCell f).toArray.all (·.oneCell') = true) := Lib.hid (all_oneCell_toArray (fun v hv => frCells_cell (l := [f]) v (by rw [frCells_one]; exact hv)))
    have HRF := Lib.hid (fun (W : World) (hb : Below w.heap.size w W) => range_below rF gz hb)
    have HFF := Lib.hid hf
    have HG := Lib.hid gz
    clear hf hfo hFA hkf hn c0 c2 rF hFl gz hnl
    go_wp2_with (first | (refine wpList_load_mid (by rfl) 46 _ (by rfl) (w.heap.size + 1) 0 (by rfl) C _ HR0.out Tryd.underlying46 (by rfl) HSI.out ?_) | (go_at_call 56; go_must (refine (HCK.out _ hb0.out).mono ?_; rintro e w1 ⟨rfl, hb⟩; have HB := Lib.hid (HBB.out w1 (hb.mono (by simp))); have z1 := block_lt HB.out.2.1; have k0 := (cell_block HB.out.2.1 0).trans (List.getElem?_toArray.trans H0.out); have k2 := (cell_block HB.out.2.1 2).trans (List.getElem?_toArray.trans H2.out); have rF := HRF.out w1 HB.out.2.2.2.1; have gz : g < w1.heap.size := Nat.lt_of_lt_of_le HG.out HB.out.2.2.2.1.size; clear hb)) | (refine wpList_load_mid (by rfl) 78 _ (by rfl) g (kf * 14) (by rfl) (frCell f) _ rF Tryd.underlying78 (by rfl) HFI.out ?_) | (refine wpList_store_mid (by rfl) 78 _ _ (by rfl) (w.heap.size + 2) 0 (frCell f).toArray (by rfl) (by rfl) (there_block HB.out.2.2.1 (by simp [HFL.out])) (by simpa using HFI.out) HFO1.out ?_))
    have hrd := run_loadVar_mid (P := Tryd.prog) _ _ _ 78 (frCell f) _ (World.rangeAt_setCells_same w1 (w.heap.size + 2) 0 (frCell f) (there_block HB.out.2.2.1 (by simp [HFL.out]))) Tryd.underlying78 (by rfl) HFI.out
    refine bodyPost_ret (v := .tuple #[.agg (frCell f).toArray, .int .i64 0]) (results_cell2 Tryd.results74 _ _ _ _ _ ?_ hrd) rfl ⟨⟨fun _ => ⟨fs, f, HFF.out, rfl⟩, fun h => absurd hst h⟩, ?_⟩
    · rfl
    · exact below_setCells (by simp) _ _ _ HB.out.2.2.2.1
  · obtain ⟨st, hs⟩ : ∃ x, s.status = x := ⟨_, rfl⟩
    have hq : (st != 0) = true := by rw [hs] at hst; simpa using hst
    have c0 := HC0.out
    rw [hs] at c0
    have H0 := Lib.hid c0
    clear c0 hs
    have hZI : (Tryd.prog.info? 78).map (·.size) = some zeroF.length := info_fr
    have HZO := Lib.hid (show zeroF.toArray.all (·.oneCell') = true from all_oneCell_toArray (fun v hv => by simp [zeroF] at hv; rw [hv]; rfl))
    go_wp2_with (first | (refine wpList_load_mid (by rfl) 46 _ (by rfl) (w.heap.size + 1) 0 (by rfl) C _ HR0.out Tryd.underlying46 (by rfl) HSI.out ?_) | (go_at_call 56; go_must (refine (HCK.out _ hb0.out).mono ?_; rintro e w1 ⟨rfl, hb⟩; have HB := Lib.hid (HBB.out w1 (hb.mono (by simp))); have z1 := block_lt HB.out.2.1; have k0 := (cell_block HB.out.2.1 0).trans (List.getElem?_toArray.trans H0.out); clear hb)) | (refine wpList_store_mid (by rfl) 78 _ _ (by rfl) (w.heap.size + 2) 0 zeroF.toArray (by rfl) (by rfl) (there_block HB.out.2.2.1 (by simp [zeroF])) (by simpa using hZI) HZO.out ?_))
    have hrd := run_loadVar_mid (P := Tryd.prog) _ _ _ 78 zeroF _ (World.rangeAt_setCells_same w1 (w.heap.size + 2) 0 zeroF (there_block HB.out.2.2.1 (by simp [zeroF]))) Tryd.underlying78 (by rfl) hZI
    refine bodyPost_ret (v := .tuple #[.agg zeroF.toArray, .int .i64 9]) (results_cell2 Tryd.results74 _ _ _ _ _ ?_ hrd) rfl ⟨⟨fun h => absurd h hst, fun _ => rfl⟩, ?_⟩
    · rfl
    · exact below_setCells (by simp) _ _ _ HB.out.2.2.2.1
end Go.Proofs.YtefbdecejoeamaaDoor
