/-
  The contract of cpu.Run.
-/
import Derived.Test.YtjjpgkjjiooieaaDoorCp4
namespace Go.Proofs.YtjjpgkjjiooieaaDoor
open Go.RowKit Tier
/-- A run from a machine that has done n steps: at most k more. -/
def runM (xs : List Rv5) : Nat → Nat → Cpu → Cpu × Int × Int
  | 0, n, c => if c.halted = true then (c, (n : Int), 0) else (zeroC, 0, 10)
  | k + 1, n, c => if c.halted = true then (c, (n : Int), 0) else if (stepM xs c).2 = 0 then runM xs k (n + 1) (stepM xs c).1 else (zeroC, 0, (stepM xs c).2)
theorem runM_halted {xs : List Rv5} {k n : Nat} {c : Cpu} (h : c.halted = true) : runM xs k n c = (c, (n : Int), 0) := by
  cases k <;> simp [runM, h]
theorem runM_out {xs : List Rv5} {n : Nat} {c : Cpu} (h : c.halted = false) : runM xs 0 n c = (zeroC, 0, 10) := by simp [runM, h]
theorem runM_step {xs : List Rv5} {k n : Nat} {c : Cpu} (h : c.halted = false) (he : (stepM xs c).2 = 0) : runM xs (k + 1) n c = runM xs k (n + 1) (stepM xs c).1 := by simp [runM, h, he]
theorem runM_err {xs : List Rv5} {k n : Nat} {c : Cpu} (h : c.halted = false) (he : ¬ (stepM xs c).2 = 0) : runM xs (k + 1) n c = (zeroC, 0, (stepM xs c).2) := by simp [runM, h, he]
theorem results_cell3 {fn : Func} {a t2 t3 : Tmp} {ty : TypeId} (h : fn.results = #[.cell a ty, .tmp t2, .tmp t3]) (tmps : Array Value) (P : Program) (w : World) (ad : Addr) (v : Value) (ha : tmps[a]?.getD undef = .pointer (some ad))
    (hl : (loadVar ty ad).run P w = .ok v w) : (results fn tmps).run P w = .ok (.tuple #[v, tmps[t2]?.getD undef, tmps[t3]?.getD undef]) w := by
  simp [results, h, ha, hl, asAddr]
/-- Between two steps: the machine, the result's box. -/
structure RS (w wr : World) (Z : List Value) (ck : Cpu) : Prop where
  mach : MachAt wr (w.heap.size + 1 + 1) 56 ck
  res : wr.heap[w.heap.size + 1]? = some (.cells Z.toArray 31 (0, 0))
  below : Below w.heap.size w wr
set_option maxRecDepth 100000 in
set_option maxHeartbeats 4000000 in
theorem crun_any (c : Cpu) (hc : c.Ok) (xs : List Rv5) (A : Option Addr) (cap most : Nat) (w : World) (ht : Tab w) (hxs : ∀ x ∈ xs, x.ok) (hl : xs.length ≤ 32768) (hw : WordsAt w A xs) (hm : most ≤ 4000000) :
    Calls Tryd.prog 14 #[.slice A xs.length cap, .agg c.cells.toArray, .int .i64 (most : Int)] w fun e w' =>
      e = .returned (.tuple #[.agg (runM xs most 0 (regs0 c)).1.cells.toArray, .int .i64 (runM xs most 0 (regs0 c)).2.1, .int .i64 (runM xs most 0 (regs0 c)).2.2]) ∧ (runM xs most 0 (regs0 c)).1.Ok ∧ Below w.heap.size w w' := by
  have HCK := Lib.hid (fun (W : World) => cpu_check xs A cap W hl)
  have HT := Lib.hid ht
  have HW := Lib.hid hw
  clear ht hw
  have hz := zero_cpu
  have hzm := zero_mach
  have hc0 := cells_reg hc (i := 0) (by omega)
  have he : c.cells.set 0 (.int .i64 0) = (regs0 c).cells := set_reg hc (r := 0) (by omega) 0
  have HOK := Lib.hid (show (regs0 c).Ok from ⟨by simp [regs0, hc.regs], hc.data⟩)
  generalize regs0 c = c0 at *
  have HSA := Lib.hid (fun (b : Nat) (ck : Cpu) (W : World) (h1 : Tab W) (h2 : MachAt W b 56 ck) (h3 : WordsAt W A xs) (h4 : 1 < b) => step_any b 56 ck xs A cap W h1 h2 hxs hl h3 h4)
  have HZL := Lib.hid (cells_length zeroC_ok)
  have hlz := cells_length zeroC_ok
  have hlc := cells_length HOK.out
  have HIZ := Lib.hid (info_cpu zeroC_ok)
  have HOZ := Lib.hid (cells_one zeroC)
  obtain ⟨Rn, hR⟩ : ∃ Rn, runM xs most 0 c0 = Rn := ⟨_, rfl⟩
  have HR := Lib.hid hR
  rw [hR]
  clear hR
  generalize hZ : zeroC.cells = Z at *
  have HZE := Lib.hid hZ
  clear hZ
  have hfold := fold_set c0.cells Z.toArray (by simp [hlz, hlc])
  have hm0 : ((most : Int) < 0) = False := by simp
  have hm1 : ((4000000 : Int) < (most : Int)) = False := by simp; omega
  have hm2 : (4000000 < most) = False := by simp; omega
  go_enter Tryd.func14, Tryd.ntmps14
  go_wp2_with (first | (go_at_call 19; go_must (refine (HCK.out _).mono ?_; rintro e w' ⟨rfl, rfl⟩)) | (refine wpList_load_mid (by rfl) 31 _ (by rfl) w.heap.size 0 (by rfl) c0.cells _ (range_block (t := 31) (fr := (0, 0)) (by rw [Below.heap_alloc _ _ _ (by simp)]; exact heap_alloc_new _ _)) Tryd.underlying31 (by rfl) (info_cpu HOK.out) ?_))
  go_loopw [11] (fun v wr => ∃ (n : Nat) (ck : Cpu), n ≤ most ∧ v = .int .i64 (n : Int) ∧ runM xs (most - n) n ck = Rn ∧ RS w wr Z ck) (fun v _ => most - (intOf v).toNat)
  case atStart =>
    refine ⟨0, c0, by omega, rfl, HR.out, ⟨HOK.out, by simpa using heap_alloc_new ((w.alloc (.cells c0.cells.toArray 31)).alloc (.cells Z.toArray 31)) (.cells c0.cells.toArray 56)⟩, ?_, ?_⟩
    · exact (Below.heap_alloc _ _ _ (by simp)).trans (heap_alloc_new1 _ _ _)
    · exact (((Below.refl _ _).alloc (Nat.le_refl _) _).alloc (by simp) _).alloc (by simp; omega) _
  case round =>
    obtain ⟨n, ck, hn, rfl, hrn, hS⟩ := hrel
    have HS := Lib.hid hS
    have HRN := Lib.hid hrn
    have qh := hS.mach.halted
    have hbl := hS.mach.lt
    clear hS hrn hz hzm hfold hlz hlc hc0 he
    cases hh : ck.halted
    · rw [hh] at qh
      by_cases hnm : n = most
      · subst hnm
        have HFIN := Lib.hid (show Rn = (zeroC, 0, 10) by rw [← HRN.out, Nat.sub_self, runM_out hh])
        have HTH := Lib.hid (there_block (n := Z.length) HS.out.res (by simp))
        have hz := zero_cpu
        rw [HZE.out] at hz
        go_wp2_with (refine wpList_store_mid (by rfl) 31 _ _ (by rfl) (w.heap.size + 1) 0 Z.toArray (by rfl) (by rfl) HTH.out (by simpa using HIZ.out) HOZ.out ?_)
        have hrd := run_loadVar_mid (P := Tryd.prog) _ _ _ 31 Z _ (World.rangeAt_setCells_same _ _ 0 Z HTH.out) Tryd.underlying31 (by rfl) HIZ.out
        refine bodyPost_ret (v := .tuple #[.agg Z.toArray, .int .i64 0, .int .i64 10]) (results_cell3 Tryd.results14 _ _ _ _ _ ?_ hrd) rfl ⟨by rw [HFIN.out, HZE.out], by rw [HFIN.out]; exact zeroC_ok, ?_⟩
        · rfl
        · exact below_setCells (by simp) _ _ _ HS.out.below
      · have hnm2 : ((n : Int) == (most : Int)) = false := by simp; omega
        have hnm3 : (n == most) = false := by simp; omega
        obtain ⟨r, hr⟩ : ∃ r, stepM xs ck = r := ⟨_, rfl⟩
        have HST := Lib.hid (HSA.out (w.heap.size + 1 + 1) ck wr (HT.out.keeps HS.out.below) HS.out.mach (HW.out.keeps HS.out.below) (by omega))
        rw [hr] at HST
        by_cases her : r.2 = 0
        · have HNX := Lib.hid (show runM xs (most - (n + 1)) (n + 1) r.1 = Rn by
            rw [← HRN.out, show most - n = (most - (n + 1)) + 1 by omega, runM_step hh (by rw [hr]; exact her), hr])
          obtain ⟨c1, er⟩ := r
          dsimp only at her HST HNX
          subst her
          clear hr
          go_wp2_with (go_at_call 20; go_must (refine HST.out.mono ?_; rintro e wx ⟨rfl, hm, hb⟩; have HM := Lib.hid hm; have HB := Lib.hid (HS.out.below.trans (hb.mono (by omega))); have HRS := Lib.hid ((hb.block (w.heap.size + 1) (by omega)).trans HS.out.res); clear hm hb))
          go_roundw
          case rel => exact ⟨n + 1, c1, by omega, by go_num, HNX.out, ⟨HM.out, HRS.out, HB.out⟩⟩
          case measure => simp [intOf]; omega
        · have HFIN := Lib.hid (show Rn = (zeroC, 0, r.2) by
            rw [← HRN.out, show most - n = (most - (n + 1)) + 1 by omega, runM_err hh (by rw [hr]; exact her), hr])
          obtain ⟨c1, er⟩ := r
          dsimp only at her HST HFIN
          have hne : (er != 0) = true := by simpa using her
          have hz := zero_cpu
          rw [HZE.out] at hz
          clear hr her
          go_wp2_with (first | (go_at_call 20; go_must (refine HST.out.mono ?_; rintro e wx ⟨rfl, hm, hb⟩; have HB := Lib.hid (HS.out.below.trans (hb.mono (by omega))); have HTH := Lib.hid (there_block (n := Z.length) ((hb.block (w.heap.size + 1) (by omega)).trans HS.out.res) (by simp)); clear hm hb)) | (refine wpList_store_mid (by rfl) 31 _ _ (by rfl) (w.heap.size + 1) 0 Z.toArray (by rfl) (by rfl) HTH.out (by simpa using HIZ.out) HOZ.out ?_))
          have hrd := run_loadVar_mid (P := Tryd.prog) _ _ _ 31 Z _ (World.rangeAt_setCells_same _ _ 0 Z HTH.out) Tryd.underlying31 (by rfl) HIZ.out
          refine bodyPost_ret (v := .tuple #[.agg Z.toArray, .int .i64 0, .int .i64 er]) (results_cell3 Tryd.results14 _ _ _ _ _ ?_ hrd) rfl ⟨by rw [HFIN.out, HZE.out], by rw [HFIN.out]; exact zeroC_ok, ?_⟩
          · rfl
          · exact below_setCells (by simp) _ _ _ HB.out
    · rw [hh] at qh
      have HFIN := Lib.hid (show Rn = (ck, (n : Int), 0) by rw [← HRN.out, runM_halted hh])
      have HTH := Lib.hid (there_block (n := ck.cells.length) HS.out.res (by simp [HZL.out, cells_length HS.out.mach.ok]))
      go_wp2_with (first | (refine wpList_load_mid (by rfl) 31 _ (by rfl) (w.heap.size + 1 + 1) 0 (by rfl) ck.cells _ (range_block HS.out.mach.blk) Tryd.underlying31 (by rfl) (info_cpu HS.out.mach.ok) ?_) | (refine wpList_store_mid (by rfl) 31 _ _ (by rfl) (w.heap.size + 1) 0 ck.cells.toArray (by rfl) (by rfl) HTH.out (by simpa using info_cpu HS.out.mach.ok) (cells_one ck) ?_))
      have hrd := run_loadVar_mid (P := Tryd.prog) _ _ _ 31 ck.cells _ (World.rangeAt_setCells_same _ _ 0 ck.cells HTH.out) Tryd.underlying31 (by rfl) (info_cpu HS.out.mach.ok)
      refine bodyPost_ret (v := .tuple #[.agg ck.cells.toArray, .int .i64 (n : Int), .int .i64 0]) (results_cell3 Tryd.results14 _ _ _ _ _ ?_ hrd) rfl ⟨by rw [HFIN.out], by rw [HFIN.out]; exact HS.out.mach.ok, ?_⟩
      · rfl
      · exact below_setCells (by simp) _ _ _ HS.out.below
end Go.Proofs.YtjjpgkjjiooieaaDoor
