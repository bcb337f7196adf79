/-
  The contract of emit.running: the last frame of a state that runs.
-/
import Derived.Test.YtfngkpbbimibaaaDoorOpI
namespace Go.Proofs.YtfngkpbbimibaaaDoor
open Go.RowKit Tier
def zeroF : List Value := [.int .i64 0, .int .i64 0, .int .i64 0, .int .i64 0, .int .i64 0, .int .i64 0, .int .i64 0, .int .i64 0, .int .i64 0, .int .i64 0, .int .i64 0, .int .i64 0, .int .i64 0, .int .i64 0]
set_option maxRecDepth 100000 in
set_option maxHeartbeats 8000000 in
theorem erunning_any {p : List Fnc} (hc : checkP p = 0) {B : Nat} (s : St) (C : List Value) (A : Option Addr) (cap : Nat) (w : World) (ht : Tab w) (hP : ProgAt w (.slice A p.length cap) p) (hi : StInv p s) (hC : CellsSt C w B s) :
    Calls Tryd.prog 36 #[.agg #[.slice A p.length cap], .agg C.toArray] w fun e w' => ((s.status = 0 → ∃ fs f, s.frames = fs ++ [f] ∧ e = .returned (.tuple #[.agg (frCell f).toArray, .int .i64 0])) ∧ (s.status ≠ 0 → e = .returned (.tuple #[.agg zeroF.toArray, .int .i64 9]))) ∧ Below w.heap.size w w' := by
  have HCK := Lib.hid (fun (W : World) (hb : Below w.heap.size w W) => scheck_c hc (ht.keeps hb) (hP.keeps hb) hi (hC.below hb))
  have HSI := Lib.hid (info_st (hC.len hi.mem))
  have HI := Lib.hid hi
  have HC := Lib.hid hC
  have hb0 := Lib.hid ((((Below.refl w.heap.size w).alloc (Nat.le_refl _) (.cells #[.slice A p.length cap] 25)).alloc (by simp) (.cells C.toArray 49)).alloc (by simp; omega) (.cells (List.toArray [.int .i64 0, .int .i64 0, .int .i64 0, .int .i64 0, .int .i64 0, .int .i64 0, .int .i64 0, .int .i64 0, .int .i64 0, .int .i64 0, .int .i64 0, .int .i64 0, .int .i64 0, .int .i64 0]) 68))
  have HBB := Lib.hid (fun (w1 : World) (hb : Below (w.heap.size + 3) (((w.alloc (.cells #[.slice A p.length cap] 25)).alloc (.cells C.toArray 49)).alloc (.cells (List.toArray [.int .i64 0, .int .i64 0, .int .i64 0, .int .i64 0, .int .i64 0, .int .i64 0, .int .i64 0, .int .i64 0, .int .i64 0, .int .i64 0, .int .i64 0, .int .i64 0, .int .i64 0, .int .i64 0]) 68)) w1) => (⟨(hb.block w.heap.size (by omega)).trans (block_alloc (block_alloc (heap_alloc_new w _) _) _), (hb.block (w.heap.size + 1) (by omega)).trans (block_alloc (heap_alloc_new1 w _ _) _), (hb.block (w.heap.size + 2) (by omega)).trans (by have := heap_alloc_new ((w.alloc (.cells #[.slice A p.length cap] 25)).alloc (.cells C.toArray 49)) (.cells (List.toArray [.int .i64 0, .int .i64 0, .int .i64 0, .int .i64 0, .int .i64 0, .int .i64 0, .int .i64 0, .int .i64 0, .int .i64 0, .int .i64 0, .int .i64 0, .int .i64 0, .int .i64 0, .int .i64 0]) 68); simpa using this), hb0.out.trans (hb.mono (by omega)), by have := hb.size; simp at this; omega⟩ :
    w1.heap[w.heap.size]? = some (.cells #[.slice A p.length cap] 25 (0, 0)) ∧ w1.heap[w.heap.size + 1]? = some (.cells C.toArray 49 (0, 0)) ∧ w1.heap[w.heap.size + 2]? = some (.cells (List.toArray [.int .i64 0, .int .i64 0, .int .i64 0, .int .i64 0, .int .i64 0, .int .i64 0, .int .i64 0, .int .i64 0, .int .i64 0, .int .i64 0, .int .i64 0, .int .i64 0, .int .i64 0, .int .i64 0]) 68 (0, 0)) ∧ Below w.heap.size w w1 ∧ w.heap.size + 3 ≤ w1.heap.size))
  have HR0 := Lib.hid (range_block (block_alloc (heap_alloc_new1 w (.cells #[.slice A p.length cap] 25) (.cells C.toArray 49)) (.cells (List.toArray [.int .i64 0, .int .i64 0, .int .i64 0, .int .i64 0, .int .i64 0, .int .i64 0, .int .i64 0, .int .i64 0, .int .i64 0, .int .i64 0, .int .i64 0, .int .i64 0, .int .i64 0, .int .i64 0]) 68)))
  obtain ⟨FA, fcap, EA, ea, AA, aa, hci⟩ := hC.cin hi.mem (fun f hf => (hi.fr f hf).regs)
  have HC0 := Lib.hid hci.c0
  have HC2 := Lib.hid hci.c2
  have HCI := Lib.hid hci
  clear ht hP hi hC hc hci
  go_enter Tryd.func36, Tryd.ntmps36
  by_cases hst : s.status = 0
  · obtain ⟨fs, f, hf⟩ := HI.out.running hst
    have hfo := HI.out.fr f (by rw [hf]; simp)
    obtain ⟨g, hFA, gz, rF⟩ := top_range HCI.out hf hfo.regs
    obtain ⟨kf, hkf⟩ : ∃ kf, fs.length = kf := ⟨_, rfl⟩
    obtain ⟨nf, hn⟩ : ∃ nf, s.frames.length = nf := ⟨_, rfl⟩
    have hnl : nf = kf + 1 := by rw [← hn, hf, ← hkf]; simp
    have hdp := HI.out.deep
    rw [hn] at hdp
    have c0 := HC0.out
    have c2 := HC2.out
    rw [hst] at c0
    rw [hn, hFA] at c2
    rw [hkf] at rF
    have H0 := Lib.hid c0
    have H2 := Lib.hid c2
    have hk0 : (0 : Int) ≤ kf := by omega
    have hk1 : (kf : Int) < nf := by omega
    have hk2 : (nf : Int) ≤ 8 := by omega
    have hwn : (nf : Int) - 1 = (kf : Int) := by omega
    have hwn2 : IntKind.i64.wrap ((nf : Int) - 1) = (kf : Int) := by rw [IntKind.wrap_i64]; omega
    have hFl : (frCell f).length = 14 := frCell_length hfo.regs
    have HFL := Lib.hid hFl
    have HFI : Hid ((Tryd.prog.info? 68).map (·.size) = some (frCell f).length) := Lib.hid (by rw [hFl]; exact info_fr)
    have HFO1 : Hid ((frCell f).toArray.all (·.oneCell') = true) := Lib.hid (all_oneCell_toArray (fun v hv => frCells_cell (l := [f]) v (by rw [frCells_one]; exact hv)))
    have HRF := Lib.hid (fun (W : World) (hb : Below w.heap.size w W) => range_below rF gz hb)
    have HFF := Lib.hid hf
    have HG := Lib.hid gz
    clear hf hfo hFA hkf hn c0 c2 rF hFl gz hnl
    go_wp2_with (first | (refine wpList_load_mid (by rfl) 49 _ (by rfl) (w.heap.size + 1) 0 (by rfl) C _ HR0.out Tryd.underlying49 (by rfl) HSI.out ?_) | (go_at_call 46; go_must (refine (HCK.out _ hb0.out).mono ?_; rintro e w1 ⟨rfl, hb⟩; have HB := Lib.hid (HBB.out w1 (hb.mono (by simp))); have z1 := block_lt HB.out.2.1; have k0 := (cell_block HB.out.2.1 0).trans (List.getElem?_toArray.trans H0.out); have k2 := (cell_block HB.out.2.1 2).trans (List.getElem?_toArray.trans H2.out); have rF := HRF.out w1 HB.out.2.2.2.1; have gz : g < w1.heap.size := Nat.lt_of_lt_of_le HG.out HB.out.2.2.2.1.size; clear hb)) | (refine wpList_load_mid (by rfl) 68 _ (by rfl) g (kf * 14) (by rfl) (frCell f) _ rF Tryd.underlying68 (by rfl) HFI.out ?_) | (refine wpList_store_mid (by rfl) 68 _ _ (by rfl) (w.heap.size + 2) 0 (frCell f).toArray (by rfl) (by rfl) (there_block HB.out.2.2.1 (by simp [HFL.out])) (by simpa using HFI.out) HFO1.out ?_))
    have hrd := run_loadVar_mid (P := Tryd.prog) _ _ _ 68 (frCell f) _ (World.rangeAt_setCells_same w1 (w.heap.size + 2) 0 (frCell f) (there_block HB.out.2.2.1 (by simp [HFL.out]))) Tryd.underlying68 (by rfl) HFI.out
    refine bodyPost_ret (v := .tuple #[.agg (frCell f).toArray, .int .i64 0]) (results_cell2 Tryd.results36 _ _ _ _ _ ?_ hrd) rfl ⟨⟨fun _ => ⟨fs, f, HFF.out, rfl⟩, fun h => absurd hst h⟩, ?_⟩
    · rfl
    · exact below_setCells (by simp) _ _ _ HB.out.2.2.2.1
  · obtain ⟨st, hs⟩ : ∃ x, s.status = x := ⟨_, rfl⟩
    have hq : (st != 0) = true := by rw [hs] at hst; simpa using hst
    have c0 := HC0.out
    rw [hs] at c0
    have H0 := Lib.hid c0
    clear c0 hs
    have hZI : (Tryd.prog.info? 68).map (·.size) = some zeroF.length := info_fr
    have HZO := Lib.hid (show zeroF.toArray.all (·.oneCell') = true from all_oneCell_toArray (fun v hv => by simp [zeroF] at hv; rw [hv]; rfl))
    go_wp2_with (first | (refine wpList_load_mid (by rfl) 49 _ (by rfl) (w.heap.size + 1) 0 (by rfl) C _ HR0.out Tryd.underlying49 (by rfl) HSI.out ?_) | (go_at_call 46; go_must (refine (HCK.out _ hb0.out).mono ?_; rintro e w1 ⟨rfl, hb⟩; have HB := Lib.hid (HBB.out w1 (hb.mono (by simp))); have z1 := block_lt HB.out.2.1; have k0 := (cell_block HB.out.2.1 0).trans (List.getElem?_toArray.trans H0.out); clear hb)) | (refine wpList_store_mid (by rfl) 68 _ _ (by rfl) (w.heap.size + 2) 0 zeroF.toArray (by rfl) (by rfl) (there_block HB.out.2.2.1 (by simp [zeroF])) (by simpa using hZI) HZO.out ?_))
    have hrd := run_loadVar_mid (P := Tryd.prog) _ _ _ 68 zeroF _ (World.rangeAt_setCells_same w1 (w.heap.size + 2) 0 zeroF (there_block HB.out.2.2.1 (by simp [zeroF]))) Tryd.underlying68 (by rfl) hZI
    refine bodyPost_ret (v := .tuple #[.agg zeroF.toArray, .int .i64 9]) (results_cell2 Tryd.results36 _ _ _ _ _ ?_ hrd) rfl ⟨⟨fun h => absurd h hst, fun _ => rfl⟩, ?_⟩
    · rfl
    · exact below_setCells (by simp) _ _ _ HB.out.2.2.2.1
end Go.Proofs.YtfngkpbbimibaaaDoor
/-
  The contract of tierlinekeep.running: a state on its way.
-/
namespace Go.Proofs.YtfngkpbbimibaaaDoor
open Go.RowKit Tier
theorem results_cell3 {fn : Func} {a t2 t3 : Tmp} {ty : TypeId} (h : fn.results = #[.cell a ty, .tmp t2, .tmp t3]) (tmps : Array Value) (P : Program) (w : World) (ad : Addr) (v : Value) (ha : tmps[a]?.getD undef = .pointer (some ad))
    (hl : (loadVar ty ad).run P w = .ok v w) : (results fn tmps).run P w = .ok (.tuple #[v, tmps[t2]?.getD undef, tmps[t3]?.getD undef]) w := by
  simp [results, h, ha, hl, asAddr]
set_option maxRecDepth 100000 in
set_option maxHeartbeats 8000000 in
theorem krun_any {p : List Fnc} (hright : checkP p = 0) (a0 a1 fuel : Int) (ans : List Int) (YA : Option Addr) (ycap : Nat) (A1 : Option Addr) (cap1 : Nat) (n : Int) (hn : In n) (w : World) (ht : Tab w) (hP : ProgAt w (.slice A1 p.length cap1) p)
    (hy : IntsAt w YA ans) (hly : (ans.length : Int) ≤ 9223372036854775807) (hcy : ans.length ≤ ycap) (hf : In fuel) :
    Calls Tryd.prog 19 #[.agg #[.slice A1 p.length cap1], .agg #[.int .i64 a0, .int .i64 a1, .slice YA ans.length ycap, .int .i64 fuel], .int .i64 n] w fun e w' => (∃ C : List Value, e = .returned (.tuple #[.agg C.toArray, .bool true, .bool ((walkSt p (pickedI n 200).toNat (inSt p a0 a1 ans fuel)).status == 0)]) ∧ CellsSt C w' w.heap.size (walkSt p (pickedI n 200).toNat (inSt p a0 a1 ans fuel))) ∧ Below w.heap.size w w' := by
  have hp := right_of hright
  have hbx : Below w.heap.size w (((w.alloc (.cells #[(.slice A1 p.length cap1)] 25)).alloc (.cells #[.int .i64 a0, .int .i64 a1, .slice YA ans.length ycap, .int .i64 fuel] 42)).alloc (.cells zeroV.toArray 49)) := (((Below.refl w.heap.size w).alloc (Nat.le_refl _) (.cells #[(.slice A1 p.length cap1)] 25)).alloc (by simp) (.cells #[.int .i64 a0, .int .i64 a1, .slice YA ans.length ycap, .int .i64 fuel] 42)).alloc (by simp; omega) (.cells zeroV.toArray 49)
  have q0 : (((w.alloc (.cells #[(.slice A1 p.length cap1)] 25)).alloc (.cells #[.int .i64 a0, .int .i64 a1, .slice YA ans.length ycap, .int .i64 fuel] 42)).alloc (.cells zeroV.toArray 49)).heap[w.heap.size]? = some (.cells #[(.slice A1 p.length cap1)] 25 (0, 0)) := block_alloc (block_alloc (heap_alloc_new w _) _) _
  have q2 : (((w.alloc (.cells #[(.slice A1 p.length cap1)] 25)).alloc (.cells #[.int .i64 a0, .int .i64 a1, .slice YA ans.length ycap, .int .i64 fuel] 42)).alloc (.cells zeroV.toArray 49)).heap[w.heap.size + 2]? = some (.cells zeroV.toArray 49 (0, 0)) := by have := heap_alloc_new ((w.alloc (.cells #[(.slice A1 p.length cap1)] 25)).alloc (.cells #[.int .i64 a0, .int .i64 a1, .slice YA ans.length ycap, .int .i64 fuel] 42)) (.cells zeroV.toArray 49); simpa using this
  have q3 : (((w.alloc (.cells #[(.slice A1 p.length cap1)] 25)).alloc (.cells #[.int .i64 a0, .int .i64 a1, .slice YA ans.length ycap, .int .i64 fuel] 42)).alloc (.cells zeroV.toArray 49)).heap.size = w.heap.size + 3 := by simp
  have pn := picked_in n 200 (by omega)
  have HKN := Lib.hid (fun (W : World) => picked_any n 200 W hn (by omega) (by omega))
  obtain ⟨u, hu⟩ : ∃ u : Nat, pickedI n 200 = u := ⟨(pickedI n 200).toNat, by omega⟩
  rw [hu] at pn HKN
  obtain ⟨s0, hs0⟩ : ∃ s0, inSt p a0 a1 ans fuel = s0 := ⟨_, rfl⟩
  have hi0 := inSt_inv hp a0 a1 ans fuel
  have hfr0 : s0.frames.length = 1 := by rw [← hs0]; rfl
  have HBG := Lib.hid (fun (W : World) (h1 : Tab W) (h2 : ProgAt W (.slice A1 p.length cap1) p) (h3 : IntsAt W YA ans) => kbegin_any hright a0 a1 fuel ans YA ycap A1 cap1 W h1 h2 h3 hly hcy hf)
  rw [hs0] at HBG hi0 ⊢
  obtain ⟨s1, hs1⟩ : ∃ s1, walkSt p (pickedI n 200).toNat s0 = s1 := ⟨_, rfl⟩
  rw [hs1]
  rw [hu, show ((u : Int)).toNat = u by omega] at hs1
  have HI0 := Lib.hid hi0
  have HI1 : Hid (StInv p s1) := Lib.hid (hs1 ▸ hi0.walk hp u)
  have HWA0 := Lib.hid (fun (C : List Value) (W : World) (B : Nat) (h1 : Tab W) (h2 : ProgAt W (.slice A1 p.length cap1) p) (hC : CellsSt C W B s0) => swalk_c hright u (by omega) h1 h2 HI0.out hC)
  rw [hs1] at HWA0
  have HFR0 := Lib.hid hfr0
  have HT := Lib.hid ht
  have HP0 := Lib.hid hP
  have HY := Lib.hid hy
  have HBX := Lib.hid hbx
  have HQ := Lib.hid (show _ ∧ _ ∧ _ from ⟨q0, q2, q3⟩)
  have hz := zero_st
  clear ht hP hy hn hly hcy hf hu hs0 hs1 hi0 hfr0 hright hp hbx q0 q2 q3 pn
  go_enter Tryd.func19, Tryd.ntmps19
  go_wp2_with fail
  obtain ⟨w1, hw1⟩ : ∃ w1, (((w.alloc (.cells #[(.slice A1 p.length cap1)] 25)).alloc (.cells #[.int .i64 a0, .int .i64 a1, .slice YA ans.length ycap, .int .i64 fuel] 42)).alloc (.cells zeroV.toArray 49)) = w1 := ⟨_, rfl⟩
  obtain ⟨pb, hpb⟩ : ∃ b, w.heap.size = b := ⟨_, rfl⟩
  rw [hw1] at HBX HQ ⊢
  rw [hpb] at HBX HQ ⊢
  have HT1 := Lib.hid (HT.out.keeps (hpb ▸ HBX.out))
  have HP := Lib.hid (HP0.out.keeps (hpb ▸ HBX.out))
  refine (HBG.out w1 HT1.out HP.out (HY.out.keeps (hpb ▸ HBX.out))).mono ?_
  rintro e w2 ⟨⟨C0, rfl, hC0⟩, hb2⟩
  have HWA := Lib.hid (fun (C : List Value) (W : World) (hb : Below w1.heap.size w1 W) (hC : CellsSt C W w1.heap.size s0) => HWA0.out C W _ (HT1.out.keeps hb) (HP.out.keeps hb) hC)
  have HX2 : Hid (Sx w1 pb (.slice A1 p.length cap1) w2 []) := Lib.hid ⟨hb2, (hb2.block _ (block_lt HQ.out.1)).trans HQ.out.1, fun x hx => by simp at hx⟩
  have HC0 := Lib.hid hC0
  have HJ0 := Lib.hid (info_st (HC0.out.len HI0.out.mem))
  clear hC0 hb2 HBG hw1
  go_wp2_with (refine wpList_store_mid (by rfl) 49 _ _ (by rfl) w2.heap.size 0 C0.toArray (by rfl) (by rfl) (there_new w2 zeroV _ (by simp [HC0.out.len HI0.out.mem, zeroV_length])) (by simpa using HJ0.out) HC0.out.one ?_; obtain ⟨w3, hw3⟩ : ∃ w3, (w2.alloc (.cells zeroV.toArray 49)).setCells w2.heap.size 0 C0.toArray.toList = w3 := ⟨_, rfl⟩; rw [hw3]; have HX3 : Hid (Sx w1 pb (.slice A1 p.length cap1) w3 [(w2.heap.size, C0, s0)]) := Lib.hid (hw3 ▸ HX2.out.add HC0.out HI0.out.mem); have pc3 := HX3.out.pcell; clear hw3)
  apply region_cut2 (α := Nat) (β := List Value) (R := fun (b' : Nat) (C' : List Value) w' => Sx w1 pb (.slice A1 p.length cap1) w' ((b', C', s1) :: [(w2.heap.size, C0, s0)]))
  case h1 =>
    have HNB : ∀ x ∈ [(w2.heap.size, C0, s0)], x.1 ≠ w3.heap.size := fun x hx => by have := block_lt (HX3.out.sts x hx).1; omega
    refine wp_region_held_drew (S := fun w' => w'.cell? ⟨pb, 0, none⟩ = some (.slice A1 p.length cap1) ∧ w'.rangeAt w2.heap.size 0 C0) (by kernel_rfl) ⟨HX3.out.drew.pcell, HX3.out.drew.range (.head _)⟩ (fun hHeld => ?_)
    refine wpAnyH_take (i := 0) (v := .agg #[(.slice A1 p.length cap1)]) rfl (by kernel_rfl) (by kernel_rfl) (by kernel_rfl) (fun _ _ _ h => h) (Or.inl ⟨by rfl, ?_⟩) hHeld ?_
    · intro w hSw
      have q0 := hSw.1
      simp only [List.getElem_toArray, List.getElem_cons_zero]
      go_simp
    simp only [Act.put, List.getElem_toArray, List.getElem_cons_zero, List.setIfInBounds_toArray, List.set_cons_zero, List.set_cons_succ]
    refine' wpAnyH_take (i := 1) rfl (by kernel_rfl) (by kernel_rfl) (by kernel_rfl) (fun _ _ _ h => h) (yieldsIf_load_mid (by rfl) 49 _ rfl w2.heap.size 0 rfl C0 _ (fun w hSw => hSw.2) Tryd.underlying49 (by rfl) HJ0.out) hHeld ?_
    simp only [Act.put, List.getElem_toArray, List.getElem_cons_zero, List.getElem_cons_succ, List.setIfInBounds_toArray, List.set_cons_zero, List.set_cons_succ]
    refine wpAnyH_take (i := 2) (v := .int .i64 n) rfl (by kernel_rfl) (by kernel_rfl) (by kernel_rfl) (fun _ _ _ h => h) (Or.inl ⟨by rfl, ?_⟩) hHeld ?_
    · intro w hSw
      simp only [List.getElem_toArray, List.getElem_cons_zero, List.getElem_cons_succ]
      go_simp
    simp only [Act.put, List.getElem_toArray, List.getElem_cons_zero, List.getElem_cons_succ, List.setIfInBounds_toArray, List.set_cons_zero, List.set_cons_succ]
    refine wpAnyH_ready (rs := [3, 8]) (by kernel_rfl) (by simp) ?_
    refine AllReadyH.cons rfl (fun K hK => ?_) (AllReadyH.cons rfl (fun K hK => ?_) AllReadyH.nil)
    · simp only [List.getElem_toArray, List.getElem_cons_zero, List.getElem_cons_succ]
      go_simp
      refine (HKN.out _).mono ?_
      rintro e w' ⟨rfl, rfl⟩
      refine hK.out _ _ hHeld (fun hHeld => ?_)
      clear hK K
      refine wpAnyH_ready (rs := [4, 8]) (by kernel_rfl) (by simp) ?_
      refine AllReadyH.cons rfl (fun K hK => ?_) (AllReadyH.cons rfl (fun K hK => ?_) AllReadyH.nil)
      · simp only [List.getElem_toArray, List.getElem_cons_zero, List.getElem_cons_succ]
        go_simp
        refine (HWA.out C0 _ HX3.out.drew.below (HX3.out.drew.sts _ (.head _)).2).mono ?_
        rintro e wa ⟨⟨C1, rfl, hC⟩, hb⟩
        have HXA := Lib.hid (HX3.out.drew.keeps hb)
        have HC1 := Lib.hid (hC.base HX3.out.drew.below.size)
        have HJ1 := Lib.hid (info_st (HC1.out.len HI1.out.mem))
        refine hK.out _ _ ⟨HXA.out.pcell, HXA.out.range (.head _)⟩ (fun hHeld => ?_)
        clear hK K hC hb
        refine wpAnyH_take (i := 5) (v := .tuple #[.agg C1.toArray, .int .i64 0]) rfl (by kernel_rfl) (by kernel_rfl) (by kernel_rfl) (fun _ _ _ h => h) (Or.inl ⟨by rfl, ?_⟩) hHeld ?_
        · intro w hSw
          simp only [List.getElem_toArray, List.getElem_cons_zero, List.getElem_cons_succ]
          go_simp
        simp only [Act.put, List.getElem_toArray, List.getElem_cons_zero, List.getElem_cons_succ, List.setIfInBounds_toArray, List.set_cons_zero, List.set_cons_succ]
        refine wpAnyH_take (i := 6) (v := .agg C1.toArray) rfl (by kernel_rfl) (by kernel_rfl) (by kernel_rfl) (fun _ _ _ h => h) (Or.inl ⟨by rfl, ?_⟩) hHeld ?_
        · intro w hSw
          simp only [List.getElem_toArray, List.getElem_cons_zero, List.getElem_cons_succ]
          go_simp
        simp only [Act.put, List.getElem_toArray, List.getElem_cons_zero, List.getElem_cons_succ, List.setIfInBounds_toArray, List.set_cons_zero, List.set_cons_succ]
        refine wpAnyH_take (i := 7) (v := .int .i64 0) rfl (by kernel_rfl) (by kernel_rfl) (by kernel_rfl) (fun _ _ _ h => h) (Or.inl ⟨by rfl, ?_⟩) hHeld ?_
        · intro w hSw
          simp only [List.getElem_toArray, List.getElem_cons_zero, List.getElem_cons_succ]
          go_simp
        simp only [Act.put, List.getElem_toArray, List.getElem_cons_zero, List.getElem_cons_succ, List.setIfInBounds_toArray, List.set_cons_zero, List.set_cons_succ]
        refine wpAnyH_ready (rs := [8]) (by kernel_rfl) (by simp) ?_
        refine AllReadyH.cons rfl (fun K hK => ?_) AllReadyH.nil
        simp only [List.getElem_toArray, List.getElem_cons_zero, List.getElem_cons_succ]
        go_simp
        refine hK.out _ _ ⟨(HXA.out.alloc (.cells zeroV.toArray 49)).pcell, (HXA.out.alloc (.cells zeroV.toArray 49)).range (.head _)⟩ (fun hHeld => ?_)
        clear hK K
        refine wpAnyH_ready (rs := [9]) (by kernel_rfl) (by simp) ?_
        refine AllReadyH.cons rfl (fun K hK => ?_) AllReadyH.nil
        simp only [List.getElem_toArray, List.getElem_cons_zero, List.getElem_cons_succ]
        rw [if_pos (by rfl)]
        refine wp_store_mid 49 _ _ (by rfl) wa.heap.size 0 C1.toArray (by rfl) (by rfl) (there_new wa zeroV _ (by simp [HC1.out.len HI1.out.mem, zeroV_length])) (by simpa using HJ1.out) HC1.out.one ?_
        obtain ⟨wb, hwb⟩ : ∃ wb, (wa.alloc (.cells zeroV.toArray 49)).setCells wa.heap.size 0 C1.toArray.toList = wb := ⟨_, rfl⟩
        rw [hwb]
        obtain ⟨b1, hb1⟩ : ∃ b, wa.heap.size = b := ⟨_, rfl⟩
        have HXB : Hid (Sx w1 pb (.slice A1 p.length cap1) wb ((b1, C1, s1) :: [(w2.heap.size, C0, s0)])) := Lib.hid (by rw [← hwb, ← hb1]; exact HXA.out.add HC1.out HI1.out.mem)
        rw [hb1]
        refine hK.out _ _ ⟨HXB.out.pcell, HXB.out.range (.tail _ (.head _))⟩ (fun hHeld => ?_)
        clear hK K hwb hb1
        refine wpAnyH_ready (rs := [10]) (by kernel_rfl) (by simp) ?_
        refine AllReadyH.cons rfl (fun K hK => ?_) AllReadyH.nil
        simp only [List.getElem_toArray, List.getElem_cons_zero, List.getElem_cons_succ]
        go_simp
        refine hK.out _ _ hHeld (fun hHeld => ?_)
        clear hK K hHeld
        refine wpAnyH_done (by kernel_rfl) ?_ _
        exact ⟨b1, C1, rfl, HXB.out⟩
      · simp only [List.getElem_toArray, List.getElem_cons_zero, List.getElem_cons_succ]
        go_simp
        refine hK.out _ _ ⟨(HX3.out.drew.alloc (.cells zeroV.toArray 49)).pcell, (HX3.out.drew.alloc (.cells zeroV.toArray 49)).range (.head _)⟩ (fun hHeld => ?_)
        clear hK K
        refine wpAnyH_ready (rs := [4]) (by kernel_rfl) (by simp) ?_
        refine AllReadyH.cons rfl (fun K hK => ?_) AllReadyH.nil
        simp only [List.getElem_toArray, List.getElem_cons_zero, List.getElem_cons_succ]
        go_simp
        refine (HWA.out C0 _ (HX3.out.drew.alloc (.cells zeroV.toArray 49)).below ((HX3.out.drew.alloc (.cells zeroV.toArray 49)).sts _ (.head _)).2).mono ?_
        rintro e wa ⟨⟨C1, rfl, hC⟩, hb⟩
        have HXA := Lib.hid ((HX3.out.drew.alloc (.cells zeroV.toArray 49)).keeps hb)
        have HC1 := Lib.hid (hC.base (HX3.out.drew.alloc (.cells zeroV.toArray 49)).below.size)
        have HJ1 := Lib.hid (info_st (HC1.out.len HI1.out.mem))
        have HZB := Lib.hid ((hb.block w3.heap.size (by simp)).trans (heap_alloc_new w3.drew (.cells zeroV.toArray 49)))
        refine hK.out _ _ ⟨HXA.out.pcell, HXA.out.range (.head _)⟩ (fun hHeld => ?_)
        clear hK K hC hb
        refine wpAnyH_take (i := 5) (v := .tuple #[.agg C1.toArray, .int .i64 0]) rfl (by kernel_rfl) (by kernel_rfl) (by kernel_rfl) (fun _ _ _ h => h) (Or.inl ⟨by rfl, ?_⟩) hHeld ?_
        · intro w hSw
          simp only [List.getElem_toArray, List.getElem_cons_zero, List.getElem_cons_succ]
          go_simp
        simp only [Act.put, List.getElem_toArray, List.getElem_cons_zero, List.getElem_cons_succ, List.setIfInBounds_toArray, List.set_cons_zero, List.set_cons_succ]
        refine wpAnyH_take (i := 6) (v := .agg C1.toArray) rfl (by kernel_rfl) (by kernel_rfl) (by kernel_rfl) (fun _ _ _ h => h) (Or.inl ⟨by rfl, ?_⟩) hHeld ?_
        · intro w hSw
          simp only [List.getElem_toArray, List.getElem_cons_zero, List.getElem_cons_succ]
          go_simp
        simp only [Act.put, List.getElem_toArray, List.getElem_cons_zero, List.getElem_cons_succ, List.setIfInBounds_toArray, List.set_cons_zero, List.set_cons_succ]
        refine wpAnyH_take (i := 7) (v := .int .i64 0) rfl (by kernel_rfl) (by kernel_rfl) (by kernel_rfl) (fun _ _ _ h => h) (Or.inl ⟨by rfl, ?_⟩) hHeld ?_
        · intro w hSw
          simp only [List.getElem_toArray, List.getElem_cons_zero, List.getElem_cons_succ]
          go_simp
        simp only [Act.put, List.getElem_toArray, List.getElem_cons_zero, List.getElem_cons_succ, List.setIfInBounds_toArray, List.set_cons_zero, List.set_cons_succ]
        refine wpAnyH_ready (rs := [9]) (by kernel_rfl) (by simp) ?_
        refine AllReadyH.cons rfl (fun K hK => ?_) AllReadyH.nil
        simp only [List.getElem_toArray, List.getElem_cons_zero, List.getElem_cons_succ]
        rw [if_pos (by rfl)]
        refine wp_store_mid 49 _ _ (by rfl) w3.heap.size 0 C1.toArray (by rfl) (by rfl) (there_block HZB.out (by simp [HC1.out.len HI1.out.mem, zeroV_length])) (by simpa using HJ1.out) HC1.out.one ?_
        obtain ⟨wb, hwb⟩ : ∃ wb, wa.setCells w3.heap.size 0 C1.toArray.toList = wb := ⟨_, rfl⟩
        rw [hwb]
        obtain ⟨b1, hb1⟩ : ∃ b, w3.heap.size = b := ⟨_, rfl⟩
        have HXB : Hid (Sx w1 pb (.slice A1 p.length cap1) wb ((b1, C1, s1) :: [(w2.heap.size, C0, s0)])) := Lib.hid (by rw [← hwb, ← hb1]; exact HXA.out.put HZB.out zeroV_length HX3.out.below.size HC1.out (HC1.out.len HI1.out.mem) (fun x hx => ⟨hx, HNB x hx⟩))
        rw [hb1]
        refine hK.out _ _ ⟨HXB.out.pcell, HXB.out.range (.tail _ (.head _))⟩ (fun hHeld => ?_)
        clear hK K hwb hb1
        refine wpAnyH_ready (rs := [10]) (by kernel_rfl) (by simp) ?_
        refine AllReadyH.cons rfl (fun K hK => ?_) AllReadyH.nil
        simp only [List.getElem_toArray, List.getElem_cons_zero, List.getElem_cons_succ]
        go_simp
        refine hK.out _ _ hHeld (fun hHeld => ?_)
        clear hK K hHeld
        refine wpAnyH_done (by kernel_rfl) ?_ _
        exact ⟨b1, C1, rfl, HXB.out⟩
    · simp only [List.getElem_toArray, List.getElem_cons_zero, List.getElem_cons_succ]
      go_simp
      refine hK.out _ _ ⟨(HX3.out.drew.alloc (.cells zeroV.toArray 49)).pcell, (HX3.out.drew.alloc (.cells zeroV.toArray 49)).range (.head _)⟩ (fun hHeld => ?_)
      clear hK K
      refine wpAnyH_ready (rs := [3]) (by kernel_rfl) (by simp) ?_
      refine AllReadyH.cons rfl (fun K hK => ?_) AllReadyH.nil
      simp only [List.getElem_toArray, List.getElem_cons_zero, List.getElem_cons_succ]
      go_simp
      refine (HKN.out _).mono ?_
      rintro e w' ⟨rfl, rfl⟩
      refine hK.out _ _ hHeld (fun hHeld => ?_)
      clear hK K
      refine wpAnyH_ready (rs := [4]) (by kernel_rfl) (by simp) ?_
      refine AllReadyH.cons rfl (fun K hK => ?_) AllReadyH.nil
      simp only [List.getElem_toArray, List.getElem_cons_zero, List.getElem_cons_succ]
      go_simp
      refine (HWA.out C0 _ (HX3.out.drew.alloc (.cells zeroV.toArray 49)).below ((HX3.out.drew.alloc (.cells zeroV.toArray 49)).sts _ (.head _)).2).mono ?_
      rintro e wa ⟨⟨C1, rfl, hC⟩, hb⟩
      have HXA := Lib.hid ((HX3.out.drew.alloc (.cells zeroV.toArray 49)).keeps hb)
      have HC1 := Lib.hid (hC.base (HX3.out.drew.alloc (.cells zeroV.toArray 49)).below.size)
      have HJ1 := Lib.hid (info_st (HC1.out.len HI1.out.mem))
      have HZB := Lib.hid ((hb.block w3.heap.size (by simp)).trans (heap_alloc_new w3.drew (.cells zeroV.toArray 49)))
      refine hK.out _ _ ⟨HXA.out.pcell, HXA.out.range (.head _)⟩ (fun hHeld => ?_)
      clear hK K hC hb
      refine wpAnyH_take (i := 5) (v := .tuple #[.agg C1.toArray, .int .i64 0]) rfl (by kernel_rfl) (by kernel_rfl) (by kernel_rfl) (fun _ _ _ h => h) (Or.inl ⟨by rfl, ?_⟩) hHeld ?_
      · intro w hSw
        simp only [List.getElem_toArray, List.getElem_cons_zero, List.getElem_cons_succ]
        go_simp
      simp only [Act.put, List.getElem_toArray, List.getElem_cons_zero, List.getElem_cons_succ, List.setIfInBounds_toArray, List.set_cons_zero, List.set_cons_succ]
      refine wpAnyH_take (i := 6) (v := .agg C1.toArray) rfl (by kernel_rfl) (by kernel_rfl) (by kernel_rfl) (fun _ _ _ h => h) (Or.inl ⟨by rfl, ?_⟩) hHeld ?_
      · intro w hSw
        simp only [List.getElem_toArray, List.getElem_cons_zero, List.getElem_cons_succ]
        go_simp
      simp only [Act.put, List.getElem_toArray, List.getElem_cons_zero, List.getElem_cons_succ, List.setIfInBounds_toArray, List.set_cons_zero, List.set_cons_succ]
      refine wpAnyH_take (i := 7) (v := .int .i64 0) rfl (by kernel_rfl) (by kernel_rfl) (by kernel_rfl) (fun _ _ _ h => h) (Or.inl ⟨by rfl, ?_⟩) hHeld ?_
      · intro w hSw
        simp only [List.getElem_toArray, List.getElem_cons_zero, List.getElem_cons_succ]
        go_simp
      simp only [Act.put, List.getElem_toArray, List.getElem_cons_zero, List.getElem_cons_succ, List.setIfInBounds_toArray, List.set_cons_zero, List.set_cons_succ]
      refine wpAnyH_ready (rs := [9]) (by kernel_rfl) (by simp) ?_
      refine AllReadyH.cons rfl (fun K hK => ?_) AllReadyH.nil
      simp only [List.getElem_toArray, List.getElem_cons_zero, List.getElem_cons_succ]
      rw [if_pos (by rfl)]
      refine wp_store_mid 49 _ _ (by rfl) w3.heap.size 0 C1.toArray (by rfl) (by rfl) (there_block HZB.out (by simp [HC1.out.len HI1.out.mem, zeroV_length])) (by simpa using HJ1.out) HC1.out.one ?_
      obtain ⟨wb, hwb⟩ : ∃ wb, wa.setCells w3.heap.size 0 C1.toArray.toList = wb := ⟨_, rfl⟩
      rw [hwb]
      obtain ⟨b1, hb1⟩ : ∃ b, w3.heap.size = b := ⟨_, rfl⟩
      have HXB : Hid (Sx w1 pb (.slice A1 p.length cap1) wb ((b1, C1, s1) :: [(w2.heap.size, C0, s0)])) := Lib.hid (by rw [← hwb, ← hb1]; exact HXA.out.put HZB.out zeroV_length HX3.out.below.size HC1.out (HC1.out.len HI1.out.mem) (fun x hx => ⟨hx, HNB x hx⟩))
      rw [hb1]
      refine hK.out _ _ ⟨HXB.out.pcell, HXB.out.range (.tail _ (.head _))⟩ (fun hHeld => ?_)
      clear hK K hwb hb1
      refine wpAnyH_ready (rs := [10]) (by kernel_rfl) (by simp) ?_
      refine AllReadyH.cons rfl (fun K hK => ?_) AllReadyH.nil
      simp only [List.getElem_toArray, List.getElem_cons_zero, List.getElem_cons_succ]
      go_simp
      refine hK.out _ _ hHeld (fun hHeld => ?_)
      clear hK K hHeld
      refine wpAnyH_done (by kernel_rfl) ?_ _
      exact ⟨b1, C1, rfl, HXB.out⟩
  case h2 =>
  intro b1 C1 w4 hX
  have HX4 := Lib.hid hX
  have HC1 := Lib.hid (hX.sts _ (.head _)).2
  have HJ1 := Lib.hid (info_st (HC1.out.len HI1.out.mem))
  have pc4 := hX.pcell
  clear hX
  obtain ⟨FA, fa, EA, ea, AA, aa, hA⟩ := HX4.out.cin (.tail _ (.head _)) HI0.out
  have c0 := (HX4.out.cell (.tail _ (.head _)) 2).trans hA.c2
  rw [HFR0.out] at c0
  have d0 := hA.c2
  rw [HFR0.out] at d0
  obtain ⟨FB, fb, EB, eb, AB, ab, hB⟩ := HX4.out.cin (.head _) HI1.out
  have c1 := (HX4.out.cell (.head _) 0).trans hB.c0
  obtain ⟨st, hst⟩ : ∃ x, s1.status = x := ⟨_, rfl⟩
  rw [hst] at c1
  have HST := Lib.hid hst
  have d1 := hB.c0
  rw [hst] at d1
  have hzb := (HX4.out.below.block _ (block_lt HQ.out.2.1)).trans HQ.out.2.1
  have HZB := Lib.hid hzb
  have HL1 := Lib.hid (HC1.out.len HI1.out.mem)
  have hne : pb + 1 + 1 ≠ b1 := fun e => by
    have h1 := (cell_block HZB.out 0).trans (List.getElem?_toArray.trans (show zeroV[0]? = some (.int .i64 0) from rfl))
    have h2 := (cell_block HZB.out 2).trans (List.getElem?_toArray.trans (show zeroV[2]? = some (.slice none 0 0) from rfl))
    have h3 := (HX4.out.cell (.head _) 2).trans hB.c2
    rw [show pb + 2 = b1 from e] at h1 h2
    by_cases h0 : s1.status = 0
    · obtain ⟨fs, f, hf⟩ := HI1.out.running h0
      rw [h2, hf] at h3
      simp at h3
    · rw [h1] at c1
      simp at c1
      omega
  have HNE := Lib.hid (show pb + 1 + 1 ≠ b1 ∧ pb + 1 + 1 ≠ w2.heap.size from ⟨hne, by have := HX2.out.below.size; have := HQ.out.2.2; omega⟩)
  have KS := Lib.hid (fun (W : World) (h2 : W.heap[w2.heap.size]? = some (.cells C0.toArray 49 (0, 0))) (h1 : W.heap[b1]? = some (.cells C1.toArray 49 (0, 0))) => (⟨(cell_block h2 2).trans (List.getElem?_toArray.trans d0), (cell_block h1 0).trans (List.getElem?_toArray.trans d1), range_block h1⟩ : W.cell? ⟨w2.heap.size, 2, none⟩ = some (.slice FA 1 fa) ∧ W.cell? ⟨b1, 0, none⟩ = some (.int .i64 st) ∧ W.rangeAt b1 0 C1))
  have HS0 := Lib.hid (HX4.out.drew.sts _ (.tail _ (.head _))).1
  have HS1 := Lib.hid (HX4.out.drew.sts _ (.head _)).1
  clear hA hB hzb hne hst c0 c1 d0 d1
  go_wp2_with fail
  refine wp_region_held_drew (S := fun w' => w'.cell? ⟨w2.heap.size, 2, none⟩ = some (.slice FA 1 fa) ∧ w'.cell? ⟨b1, 0, none⟩ = some (.int .i64 st) ∧ w'.rangeAt b1 0 C1) (by kernel_rfl) (KS.out _ HS0.out HS1.out) (fun hHeld => ?_)
  refine' wpAnyH_take (i := 0) rfl (by kernel_rfl) (by kernel_rfl) (by kernel_rfl) (fun _ _ _ h => h) (yieldsIf_load_mid (by rfl) 49 _ rfl b1 0 rfl C1 _ (fun w hSw => hSw.2.2) Tryd.underlying49 (by rfl) HJ1.out) hHeld ?_
  simp only [Act.put, List.getElem_toArray, List.getElem_cons_zero, List.setIfInBounds_toArray, List.set_cons_zero, List.set_cons_succ]
  refine wpAnyH_take (i := 1) (v := .bool true) rfl (by kernel_rfl) (by kernel_rfl) (by kernel_rfl) (fun _ _ _ h => h) (Or.inl ⟨by rfl, ?_⟩) hHeld ?_
  · intro w hSw
    simp only [List.getElem_toArray, List.getElem_cons_zero, List.getElem_cons_succ]
    go_simp
  simp only [Act.put, List.getElem_toArray, List.getElem_cons_zero, List.getElem_cons_succ, List.setIfInBounds_toArray, List.set_cons_zero, List.set_cons_succ]
  refine wpAnyH_take (i := 2) (v := .bool true) rfl (by kernel_rfl) (by kernel_rfl) (by kernel_rfl) (fun _ _ _ h => h) (Or.inl ⟨by rfl, ?_⟩) hHeld ?_
  · intro w hSw
    simp only [List.getElem_toArray, List.getElem_cons_zero, List.getElem_cons_succ]
    go_simp
  simp only [Act.put, List.getElem_toArray, List.getElem_cons_zero, List.getElem_cons_succ, List.setIfInBounds_toArray, List.set_cons_zero, List.set_cons_succ]
  refine wpAnyH_take (i := 3) (v := .int .i64 0) rfl (by kernel_rfl) (by kernel_rfl) (by kernel_rfl) (fun _ _ _ h => h) (Or.inl ⟨by rfl, ?_⟩) hHeld ?_
  · intro w hSw
    simp only [List.getElem_toArray, List.getElem_cons_zero, List.getElem_cons_succ]
    go_simp
  simp only [Act.put, List.getElem_toArray, List.getElem_cons_zero, List.getElem_cons_succ, List.setIfInBounds_toArray, List.set_cons_zero, List.set_cons_succ]
  refine wpAnyH_take (i := 4) (v := .bool true) rfl (by kernel_rfl) (by kernel_rfl) (by kernel_rfl) (fun _ _ _ h => h) (Or.inl ⟨by rfl, ?_⟩) hHeld ?_
  · intro w hSw
    simp only [List.getElem_toArray, List.getElem_cons_zero, List.getElem_cons_succ]
    go_simp
  simp only [Act.put, List.getElem_toArray, List.getElem_cons_zero, List.getElem_cons_succ, List.setIfInBounds_toArray, List.set_cons_zero, List.set_cons_succ]
  refine wpAnyH_take (i := 5) (v := .bool true) rfl (by kernel_rfl) (by kernel_rfl) (by kernel_rfl) (fun _ _ _ h => h) (Or.inl ⟨by rfl, ?_⟩) hHeld ?_
  · intro w hSw
    simp only [List.getElem_toArray, List.getElem_cons_zero, List.getElem_cons_succ]
    go_simp
  simp only [Act.put, List.getElem_toArray, List.getElem_cons_zero, List.getElem_cons_succ, List.setIfInBounds_toArray, List.set_cons_zero, List.set_cons_succ]
  refine wpAnyH_take (i := 6) (v := .bool true) rfl (by kernel_rfl) (by kernel_rfl) (by kernel_rfl) (fun _ _ _ h => h) (Or.inl ⟨by rfl, ?_⟩) hHeld ?_
  · intro w hSw
    simp only [List.getElem_toArray, List.getElem_cons_zero, List.getElem_cons_succ]
    go_simp
  simp only [Act.put, List.getElem_toArray, List.getElem_cons_zero, List.getElem_cons_succ, List.setIfInBounds_toArray, List.set_cons_zero, List.set_cons_succ]
  refine wpAnyH_take (i := 7) (v := .pointer (some ⟨w2.heap.size, 2, none⟩)) rfl (by kernel_rfl) (by kernel_rfl) (by kernel_rfl) (fun _ _ _ h => h) (Or.inl ⟨by rfl, ?_⟩) hHeld ?_
  · intro w hSw
    simp only [List.getElem_toArray, List.getElem_cons_zero, List.getElem_cons_succ]
    go_simp
  simp only [Act.put, List.getElem_toArray, List.getElem_cons_zero, List.getElem_cons_succ, List.setIfInBounds_toArray, List.set_cons_zero, List.set_cons_succ]
  refine wpAnyH_take (i := 8) (v := .slice FA 1 fa) rfl (by kernel_rfl) (by kernel_rfl) (by kernel_rfl) (fun _ _ _ h => h) (Or.inl ⟨by rfl, ?_⟩) hHeld ?_
  · intro w hSw
    have q0 := hSw.1; have q1 := hSw.2.1
    simp only [List.getElem_toArray, List.getElem_cons_zero, List.getElem_cons_succ]
    go_simp
  simp only [Act.put, List.getElem_toArray, List.getElem_cons_zero, List.getElem_cons_succ, List.setIfInBounds_toArray, List.set_cons_zero, List.set_cons_succ]
  refine wpAnyH_take (i := 9) (v := .int .i64 1) rfl (by kernel_rfl) (by kernel_rfl) (by kernel_rfl) (fun _ _ _ h => h) (Or.inl ⟨by rfl, ?_⟩) hHeld ?_
  · intro w hSw
    simp only [List.getElem_toArray, List.getElem_cons_zero, List.getElem_cons_succ]
    go_simp
  simp only [Act.put, List.getElem_toArray, List.getElem_cons_zero, List.getElem_cons_succ, List.setIfInBounds_toArray, List.set_cons_zero, List.set_cons_succ]
  refine wpAnyH_take (i := 10) (v := .bool true) rfl (by kernel_rfl) (by kernel_rfl) (by kernel_rfl) (fun _ _ _ h => h) (Or.inl ⟨by rfl, ?_⟩) hHeld ?_
  · intro w hSw
    simp only [List.getElem_toArray, List.getElem_cons_zero, List.getElem_cons_succ]
    go_simp
  simp only [Act.put, List.getElem_toArray, List.getElem_cons_zero, List.getElem_cons_succ, List.setIfInBounds_toArray, List.set_cons_zero, List.set_cons_succ]
  refine wpAnyH_take (i := 11) (v := .bool true) rfl (by kernel_rfl) (by kernel_rfl) (by kernel_rfl) (fun _ _ _ h => h) (Or.inl ⟨by rfl, ?_⟩) hHeld ?_
  · intro w hSw
    simp only [List.getElem_toArray, List.getElem_cons_zero, List.getElem_cons_succ]
    go_simp
  simp only [Act.put, List.getElem_toArray, List.getElem_cons_zero, List.getElem_cons_succ, List.setIfInBounds_toArray, List.set_cons_zero, List.set_cons_succ]
  refine wpAnyH_take (i := 12) (v := .pointer (some ⟨b1, 0, none⟩)) rfl (by kernel_rfl) (by kernel_rfl) (by kernel_rfl) (fun _ _ _ h => h) (Or.inl ⟨by rfl, ?_⟩) hHeld ?_
  · intro w hSw
    simp only [List.getElem_toArray, List.getElem_cons_zero, List.getElem_cons_succ]
    go_simp
  simp only [Act.put, List.getElem_toArray, List.getElem_cons_zero, List.getElem_cons_succ, List.setIfInBounds_toArray, List.set_cons_zero, List.set_cons_succ]
  refine wpAnyH_take (i := 13) (v := .int .i64 st) rfl (by kernel_rfl) (by kernel_rfl) (by kernel_rfl) (fun _ _ _ h => h) (Or.inl ⟨by rfl, ?_⟩) hHeld ?_
  · intro w hSw
    have q0 := hSw.1; have q1 := hSw.2.1
    simp only [List.getElem_toArray, List.getElem_cons_zero, List.getElem_cons_succ]
    go_simp
  simp only [Act.put, List.getElem_toArray, List.getElem_cons_zero, List.getElem_cons_succ, List.setIfInBounds_toArray, List.set_cons_zero, List.set_cons_succ]
  refine wpAnyH_take (i := 14) (v := .bool (st == 0)) rfl (by kernel_rfl) (by kernel_rfl) (by kernel_rfl) (fun _ _ _ h => h) (Or.inl ⟨by rfl, ?_⟩) hHeld ?_
  · intro w hSw
    simp only [List.getElem_toArray, List.getElem_cons_zero, List.getElem_cons_succ]
    go_simp
  simp only [Act.put, List.getElem_toArray, List.getElem_cons_zero, List.getElem_cons_succ, List.setIfInBounds_toArray, List.set_cons_zero, List.set_cons_succ]
  refine wpAnyH_ready (rs := [15]) (by kernel_rfl) (by simp) ?_
  refine AllReadyH.cons rfl (fun K hK => ?_) AllReadyH.nil
  simp only [List.getElem_toArray, List.getElem_cons_zero, List.getElem_cons_succ]
  rw [if_pos (by rfl)]
  refine wp_store_mid 49 _ _ (by rfl) (pb + 1 + 1) 0 C1.toArray (by rfl) (by rfl) (there_block (show w4.drew.heap[pb + 1 + 1]? = _ from HZB.out) (by simp [HL1.out, zeroV_length])) (by simpa using HJ1.out) HC1.out.one ?_
  obtain ⟨wb, hwb⟩ : ∃ wb, w4.drew.setCells (pb + 1 + 1) 0 C1.toArray.toList = wb := ⟨_, rfl⟩
  rw [hwb]
  have HWBB := Lib.hid hwb
  refine hK.out _ _ (by rw [← HWBB.out]; exact KS.out _ (block_setCells_ne _ HS0.out HNE.out.2 _) (block_setCells_ne _ HS1.out HNE.out.1 _)) (fun hHeld => ?_)
  clear hK K hwb
  refine wpAnyH_ready (rs := [16]) (by kernel_rfl) (by simp) ?_
  refine AllReadyH.cons rfl (fun K hK => ?_) AllReadyH.nil
  simp only [List.getElem_toArray, List.getElem_cons_zero, List.getElem_cons_succ]
  go_simp
  refine hK.out _ _ hHeld (fun hHeld => ?_)
  clear hK K
  refine wpAnyH_ready (rs := [17]) (by kernel_rfl) (by simp) ?_
  refine AllReadyH.cons rfl (fun K hK => ?_) AllReadyH.nil
  simp only [List.getElem_toArray, List.getElem_cons_zero, List.getElem_cons_succ]
  go_simp
  refine hK.out _ _ hHeld (fun hHeld => ?_)
  clear hK K hHeld
  refine wpAnyH_done (by kernel_rfl) ?_ _
  have hrd := run_loadVar_mid (P := Tryd.prog) _ _ _ 49 C1 _ (World.rangeAt_setCells_same w4.drew (pb + 1 + 1) 0 C1 (there_block (show w4.drew.heap[pb + 1 + 1]? = _ from HZB.out) (by simp [HL1.out, zeroV_length]))) Tryd.underlying49 (by rfl) HJ1.out
  have hC : CellsSt C1 wb w1.heap.size s1 := by
    obtain ⟨FS, ES, AS, h1, h2⟩ := (HX4.out.drew.sts _ (.head _)).2
    exact ⟨FS, ES, AS, h1, HWBB.out ▸ strows_setCells (by decide) (by decide) _ _ h2 (show w4.drew.heap[pb + 1 + 1]? = _ from HZB.out)⟩
  have hbb : Below pb w wb := HWBB.out ▸ below_setCells (by omega) _ _ _ (HBX.out.trans (HX4.out.drew.below.mono (by have := HQ.out.2.2; omega)))
  rw [show w4.drew.setCells (pb + 1 + 1) 0 C1 = wb from HWBB.out] at hrd
  go_wp2_with fail

  refine bodyPost_ret (v := .tuple #[.agg C1.toArray, .bool true, .bool (st == 0)]) (results_cell3 Tryd.results19 _ _ _ _ _ ?_ hrd) rfl ⟨⟨C1, by rw [HST.out], hC.base (by have := HQ.out.2.2; omega)⟩, hbb⟩
  rfl
end Go.Proofs.YtfngkpbbimibaaaDoor
