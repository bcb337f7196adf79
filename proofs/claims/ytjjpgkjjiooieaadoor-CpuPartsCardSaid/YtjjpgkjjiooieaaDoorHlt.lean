/-
  The walk of CpuHalts: it returns true.
-/
import Derived.Test.YtjjpgkjjiooieaaDoorCpE
import Derived.Test.YtjjpgkjjiooieaaDoorEq
namespace Go.Proofs.YtjjpgkjjiooieaaDoor
open Go.RowKit Tier
def hltC (pc : Int) (h : Bool) : Cpu := ⟨(List.replicate 32 0).set 9 5, pc, List.replicate 64 0, h⟩
theorem hltC_ok (pc : Int) (h : Bool) : (hltC pc h).Ok := ⟨by simp [hltC], by simp [hltC]⟩
theorem hltC_regs0 (pc : Int) (h : Bool) : regs0 (hltC pc h) = hltC pc h := rfl
def hltZ (pc : Int) : Cpu := ⟨List.replicate 32 0, pc, List.replicate 64 0, true⟩
theorem hltZ_ok (pc : Int) : (hltZ pc).Ok := ⟨by simp [hltZ], by simp [hltZ]⟩
theorem hltZ_cells (pc : Int) : (zeroC.cells.set 97 (.bool true)).set 32 (.int .i64 pc) = (hltZ pc).cells := by
  rw [set_halted zeroC_ok true, set_pc (c := { zeroC with halted := true }) ⟨by simp [zeroC], by simp [zeroC]⟩]
  rfl
theorem hltC_cells (pc : Int) : (hltZ pc).cells.set 9 (.int .i64 5) = (hltC pc true).cells := by
  rw [set_reg (hltZ_ok pc) (r := 9) (by omega)]
  rfl
/-- A block whose cell is set. -/
theorem block_put {W : World} {b i : Nat} {cs ds : List Value} {t : TypeId} {v : Value} (h : W.heap[b]? = some (.cells cs.toArray t (0, 0))) (he : cs.set i v = ds) : (W.setCell ⟨b, i, none⟩ v).heap[b]? = some (.cells ds.toArray t (0, 0)) := by
  rw [block_set h i v, ← he]; simp
theorem hltC_set (a b : Int) (g h : Bool) : ((hltC a g).cells.set 97 (.bool h)).set 32 (.int .i64 b) = (hltC b h).cells := by
  rw [set_halted (hltC_ok a g) h, set_pc (c := { hltC a g with halted := h }) ⟨by simp [hltC], by simp [hltC]⟩]
  rfl
theorem hlt_step (xs : List Rv5) (pc : Int) : cstepM xs (hltC pc true) = (hltC pc true, 0) := by
  unfold cstepM
  rw [hltC_regs0, if_pos (show (hltC pc true).halted = true from rfl)]
theorem hlt_run (xs : List Rv5) (pc : Int) : runM xs 3 0 (regs0 (hltC pc true)) = (hltC pc true, 0, 0) := by
  rw [hltC_regs0, runM_halted (show (hltC pc true).halted = true from rfl)]; rfl
theorem hlt_out (xs : List Rv5) (k q : Nat) (h : xs.length = k) : cstepM xs (hltC ((k : Int) + q) false) = (zeroC, 8) := by
  have h1 : ¬ ((k : Int) + q) < 0 := by omega
  have h2 : xs[((k : Int) + q).toNat]? = none := List.getElem?_eq_none (by omega)
  have h3 : stepM xs (hltC ((k : Int) + q) false) = (hltC ((k : Int) + q) false, 8) := by
    unfold stepM
    rw [if_neg (show ¬ (hltC ((k : Int) + q) false).pc < 0 from h1), show (hltC ((k : Int) + q) false).pc.toNat = ((k : Int) + q).toNat from rfl, h2]
  unfold cstepM
  rw [hltC_regs0, h3, if_neg (show ¬ (hltC ((k : Int) + q) false).halted = true by simp [hltC]), if_neg (by simp)]
/-- Words that are right, in a row of the call's own. -/
structure WsAt (w wr : World) (A : Option Addr) (cap k : Nat) (xs : List Rv5) : Prop where
  len : xs.length = k
  ok : ∀ x ∈ xs, x.ok
  own : wr.ownsRow w.heap.size 3 1 (.slice A k cap) k (encs xs)
  below : Below w.heap.size w wr
set_option maxRecDepth 100000 in
set_option maxHeartbeats 4000000 in
theorem cpuHalts_walk (A : Option Addr) (l : List Rv5) (cap : Nat) (pc : Int) (w : World) (ht : Tab w) (hl : FiveRow w A l) (hn : (l.length : Int) ≤ 9223372036854775807) (hpc : In pc) :
    Calls Tryd.prog 10 #[.slice A l.length cap, .int .i64 pc] w fun e w' => e = .returned (.bool true) ∧ Below w.heap.size w w' := by
  obtain ⟨i0, hi, hz0, hz1, hz2⟩ := info_parts infoI
  have HT := Lib.hid ht
  have HL := Lib.hid hl
  have p0 := picked_in pc 9 (by omega)
  have HPA := Lib.hid (fun (W : World) => picked_any pc 9 W hpc (by omega) (by omega))
  obtain ⟨q, hq⟩ : ∃ q : Nat, pickedI pc 9 = q := ⟨(pickedI pc 9).toNat, by omega⟩
  rw [hq] at p0 HPA
  clear ht hl hq
  generalize hN : l.length = N at *
  have HN := Lib.hid hN
  clear hN
  go_enter Tryd.func10, Tryd.ntmps10
  go_wp2_with fail
  go_loopw [5, 6] (fun v3 v wr => ∃ (k : Nat) (A1 : Option Addr) (cap1 : Nat) (xs : List Rv5), k ≤ N ∧ k ≤ 12 ∧ v = .int .i64 (k : Int) ∧ v3 = .slice A1 k cap1 ∧ WsAt w wr A1 cap1 k xs) (fun _ v _ => 12 - (intOf v).toNat)
  case atStart => exact ⟨0, none, 0, [], by omega, by omega, rfl, rfl, rfl, by simp, World.ownsRow_nil _ _ _ _, Below.refl _ _⟩
  case round =>
    obtain ⟨k, A1, cap1, xs, hk, hk12, rfl, rfl, hws⟩ := hrel
    have HW := Lib.hid hws
    have hsz := hws.below.size
    clear hws
    have hk0 : (0 : Int) ≤ k := by omega
    by_cases hkN : k < N ∧ k < 12
    · have hk1 : (k : Int) < N := by omega
      have hk2 : (k : Int) < 12 := by omega
      have hk3 := hkN.1
      have hk4 := hkN.2
      obtain ⟨rb, ro, rfl, hrb, hF⟩ := HL.out (by rw [HN.out]; omega)
      obtain ⟨x, hx⟩ : ∃ x, l[k]? = some x := ⟨l[k]'(by rw [HN.out]; omega), List.getElem?_eq_getElem _⟩
      obtain ⟨⟨j0, j1, j2, j3, j4⟩, c0, c1, c2, c3, c4⟩ := hF k x hx
      rw [← HW.out.below.cell (p := ⟨rb, _, none⟩) hrb] at c0 c1 c2 c3 c4
      have hrr : rb < wr.heap.size := by omega
      have HRV := Lib.hid (fun (W : World) => rv_any x.op x.rd x.rs1 x.rs2 x.imm W j0 j1 j2 j3 j4)
      obtain ⟨op, rd, rs1, rs2, imm⟩ := x
      dsimp only at *
      clear hF hx hkN j0 j1 j2 j3 j4
      go_wp2_with (first | (go_at_call 16; go_must (refine (HRV.out _).mono ?_; rintro e wx ⟨⟨op', rd', rs1', rs2', imm', rfl, hok⟩, hb⟩; have hb' : Below wr.heap.size wr wx := (by refine Below.trans ?_ (hb.mono (by simp)); have hb := Below.refl wr.heap.size wr; repeat (first | exact hb | exact Below.refl _ _ | apply Below.drew | apply below_drewN | refine Below.alloc ?_ (by first | omega | (simp; done) | (simp; omega)) _ | refine Below.setCell ?_ (by first | omega | (simp; done) | (simp; omega)) _)); have HOK := Lib.hid hok; have HBX := Lib.hid (HW.out.below.trans (hb'.mono HW.out.below.size)); have HOX := Lib.hid (own_below HW.out.own hb'); have hsx := HBX.out.size; clear hb hb' hok)))
      refine (enc_any op' rd' rs1' rs2' imm' wx (HT.out.keeps HBX.out)).mono ?_
      rintro e wy ⟨rfl, hby⟩
      rw [HOK.out]
      have HOY := Lib.hid (own_below HOX.out hby)
      have HBY := Lib.hid (HBX.out.trans (hby.mono HBX.out.size))
      have hsy := HBY.out.size
      have HTK := Lib.hid (show encs xs ++ [.int .i64 (encI op' rd' rs1' rs2' imm')] = encs (xs ++ [⟨op', rd', rs1', rs2', imm'⟩]) by simp [encs, Rv5.enc])
      have HXK := Lib.hid (show ∀ z ∈ xs ++ [(⟨op', rd', rs1', rs2', imm'⟩ : Rv5)], z.ok from fun z hz => by
        rcases List.mem_append.1 hz with h | h
        · exact HW.out.ok z h
        · rw [List.mem_singleton.1 h]; exact HOK.out)
      generalize encI op' rd' rs1' rs2' imm' = en at *
      clear hby HRV c0 c1 c2 c3 c4 HOK
      go_wp2_with (at_builtin; go_must (refine wpList_append_own _ rfl _ _ 23 rfl w.heap.size 3 i0 _ 1 8 Tryd.underlying23 hi hz0 hz1 hz2 rfl (by decide) (.slice A1 k cap1) k (encs xs) rfl (by exact own_below HOY.out ((Below.refl _ _).alloc (Nat.le_refl _) _)) ⟨wy.heap.size, 0, none⟩ 1 1 [.int .i64 en] rfl rfl (World.news_of_block (cs := #[.int .i64 en]) (t := 3) (fr := (0, 0)) (heap_alloc_new _ _)) (by simp [Value.oneCell']) (by unfold maxLen; omega) (by omega) (by simp; omega) ?_); intro v2 w2 hown2 hg2 _; obtain ⟨A2, cap2, hv2, -⟩ := own_slice hown2; rw [hv2] at hown2; rw [hv2]; have HO2 := Lib.hid hown2; have HB2 := Lib.hid (show Below w.heap.size w w2 from ((HBY.out.alloc HBY.out.size _).grown hg2 (by simp; omega) (fun k hk => (World.ownsRow.lt HOY.out k hk).1))); clear hown2 hg2)
      go_roundw
      case rel => exact ⟨k + 1, A2, cap2, xs ++ [⟨op', rd', rs1', rs2', imm'⟩], by omega, by omega, by go_num, rfl, by simp [HW.out.len], HXK.out, by rw [← HTK.out]; exact HO2.out, HB2.out⟩
      case measure => simp [intOf]; omega
    · have hz := zero_cpu
      have hy := hltZ_cells pc
      have HYO := Lib.hid (hltZ_ok pc)
      have H9 := Lib.hid (show (hltZ pc).cells[9]? = some (.int .i64 0) by rw [cells_reg (hltZ_ok pc) (by omega)]; rfl)
      have HE := Lib.hid (hltC_cells pc)
      have HYL := Lib.hid (cells_length (hltZ_ok pc))
      have HCO := Lib.hid (hltC_ok pc true)
      have HC1 := Lib.hid (hltC_ok ((k : Int) + q) false)
      have HZL := Lib.hid (cells_length zeroC_ok)
      have hlz := cells_length zeroC_ok
      have hkq : wrap64 ((k : Int) + q) = (k : Int) + q := by unfold wrap64; omega
      have HS1 := Lib.hid (hltC_set pc ((k : Int) + q) true false)
      have HS2 := Lib.hid (hltC_set ((k : Int) + q) pc false true)
      have hlen := HW.out.len
      have HST := Lib.hid (fun (W : World) (h1 : Tab W) (h2 : WordsAt W A1 xs) => cstep_any (hltC pc true) (hltC_ok _ _) xs A1 cap1 W h1 HW.out.ok (by omega) h2)
      have HSO := Lib.hid (fun (W : World) (h1 : Tab W) (h2 : WordsAt W A1 xs) => cstep_any (hltC ((k : Int) + q) false) (hltC_ok _ _) xs A1 cap1 W h1 HW.out.ok (by omega) h2)
      have HRU := Lib.hid (fun (W : World) (h1 : Tab W) (h2 : WordsAt W A1 xs) => crun_any (hltC pc true) (hltC_ok _ _) xs A1 cap1 3 W h1 HW.out.ok (by omega) h2 (by omega))
      rw [hlt_step xs pc] at HST
      rw [hlt_run xs pc] at HRU
      rw [hlt_out xs k q hlen] at HSO
      rw [hlen] at HST HSO HRU
      have hws := HW.out.own
      rw [← hlen] at hws
      have HWA := Lib.hid (words_at hws)
      rw [hlen] at hws
      have HB := Lib.hid HW.out.below
      have HEC := Lib.hid (eq_cpu (hltC pc true) HCO.out)
      have HZ1 := Lib.hid (cells_one zeroC)
      have HZI := Lib.hid (info_cpu zeroC_ok)
      clear hws hlen HW
      generalize hltC pc true = c0 at *
      generalize hltC ((k : Int) + q) false = c1 at *
      generalize hltZ pc = y at *
      generalize zeroC.cells = Z at *
      have H1 := Lib.hid (fun (w1 : World) (h : (wr.alloc (.cells Z.toArray 31)).setCells wr.heap.size 0 y.cells = w1) => (⟨by rw [← h]; exact block_full (heap_alloc_new _ _) _ (by simp [HZL.out, HYL.out]), by rw [← h]; exact below_setCells HB.out.size _ _ _ (HB.out.alloc HB.out.size _), by rw [← h]; exact below_setCells (Nat.le_refl _) _ _ _ ((Below.refl _ _).alloc (Nat.le_refl _) _)⟩ : w1.heap[wr.heap.size]? = some (.cells y.cells.toArray 31 (0, 0)) ∧ Below w.heap.size w w1 ∧ Below wr.heap.size wr w1))
      go_wp2_with (first | (refine wpList_store_mid (by rfl) 31 _ _ (by rfl) wr.heap.size 0 y.cells.toArray (by rfl) (by rfl) (there_block (t := 31) (cs := Z.toArray) (heap_alloc_new _ _) (by simp [HZL.out, HYL.out])) (by simpa using info_cpu HYO.out) (cells_one y) ?_; obtain ⟨w1, hw1⟩ : ∃ w1, (wr.alloc (.cells Z.toArray 31)).setCells wr.heap.size 0 y.cells.toArray.toList = w1 := ⟨_, rfl⟩; rw [hw1]; have HW1 := Lib.hid (H1.out w1 hw1); have hlt1 := block_lt HW1.out.1; have c9 := (cell_block HW1.out.1 9).trans ((by simp) : y.cells.toArray[9]? = y.cells[9]?) |>.trans H9.out; have f9 := frozen_block HW1.out.1 9; clear hw1) | (refine wpList_load_mid (by rfl) 31 _ (by rfl) wr.heap.size 0 (by rfl) c0.cells _ (range_block (t := 31) (fr := (0, 0)) (block_put HW1.out.1 HE.out)) Tryd.underlying31 (by rfl) (info_cpu HCO.out) ?_))
      all_goals (
        refine (HST.out _ (HT.out.keeps (HW1.out.2.1.setCell HB.out.size _)) (HWA.out.keeps (HW1.out.2.2.setCell (Nat.le_refl _) _))).mono ?_
        rintro e w2 ⟨rfl, -, hb2⟩
        have HBB2 := Lib.hid ((hb2.block wr.heap.size (by simpa using hlt1)).trans (block_put HW1.out.1 HE.out))
        have HR2 := Lib.hid ((HW1.out.2.2.setCell (Nat.le_refl _) (.int .i64 5) (p := ⟨wr.heap.size, 9, none⟩)).trans (hb2.mono (by simp; omega)))
        have hlt2 := block_lt HBB2.out
        clear hb2 c9 f9 HST H1 HW1 hlt1 HE HYL H9 HYO hy HL hi hz0 hz1 hz2 hkN hn hk hk12 hsz
        have H3 := Lib.hid (fun (w3 : World) (h : (w2.alloc (.cells Z.toArray 31)).setCells w2.heap.size 0 c0.cells = w3) => (⟨by rw [← h]; exact block_setCells_ne _ (block_alloc HBB2.out _) (by omega) _, by rw [← h]; exact block_full (heap_alloc_new _ _) _ (by simp [HZL.out, cells_length HCO.out]), by rw [← h]; exact below_setCells HR2.out.size _ _ _ (HR2.out.alloc HR2.out.size _)⟩ : w3.heap[wr.heap.size]? = some (.cells c0.cells.toArray 31 (0, 0)) ∧ w3.heap[w2.heap.size]? = some (.cells c0.cells.toArray 31 (0, 0)) ∧ Below wr.heap.size wr w3))
        go_wp2_with (first | (refine wpList_store_mid (by rfl) 31 _ _ (by rfl) w2.heap.size 0 c0.cells.toArray (by rfl) (by rfl) (there_block (t := 31) (cs := Z.toArray) (heap_alloc_new _ _) (by simp [HZL.out, cells_length HCO.out])) (by simpa using info_cpu HCO.out) (cells_one c0) ?_; obtain ⟨w3, hw3⟩ : ∃ w3, (w2.alloc (.cells Z.toArray 31)).setCells w2.heap.size 0 c0.cells.toArray.toList = w3 := ⟨_, rfl⟩; rw [hw3]; have HW3 := Lib.hid (H3.out w3 hw3); clear hw3) | (refine wpList_load_mid (by rfl) 31 _ (by rfl) wr.heap.size 0 (by rfl) c0.cells _ (range_block HW3.out.1) Tryd.underlying31 (by rfl) (info_cpu HCO.out) ?_))
        refine (HRU.out _ (HT.out.keeps (HB.out.trans (HW3.out.2.2.mono HB.out.size))) (HWA.out.keeps HW3.out.2.2)).mono ?_
        rintro e w4 ⟨rfl, -, hb4⟩
        have hl30 := block_lt HW3.out.1
        have hl31 := block_lt HW3.out.2.1
        have HD4 := Lib.hid (⟨(hb4.block _ hl30).trans HW3.out.1, (hb4.block _ hl31).trans HW3.out.2.1, HW3.out.2.2.trans (hb4.mono HW3.out.2.2.size)⟩ : w4.heap[wr.heap.size]? = some (.cells c0.cells.toArray 31 (0, 0)) ∧ w4.heap[w2.heap.size]? = some (.cells c0.cells.toArray 31 (0, 0)) ∧ Below wr.heap.size wr w4)
        have hl40 := block_lt HD4.out.1
        have hl41 := block_lt HD4.out.2.1
        clear hb4 HRU H3 HW3 hl30 hl31 HBB2 HR2
        have H5 := Lib.hid (fun (w5 : World) (h : (w4.alloc (.cells Z.toArray 31)).setCells w4.heap.size 0 c0.cells = w5) => (⟨by rw [← h]; exact block_setCells_ne _ (block_alloc HD4.out.1 _) (by omega) _, by rw [← h]; exact block_setCells_ne _ (block_alloc HD4.out.2.1 _) (by omega) _, by rw [← h]; exact block_full (heap_alloc_new _ _) _ (by simp [HZL.out, cells_length HCO.out]), by rw [← h]; exact below_setCells HD4.out.2.2.size _ _ _ (HD4.out.2.2.alloc HD4.out.2.2.size _)⟩ : w5.heap[wr.heap.size]? = some (.cells c0.cells.toArray 31 (0, 0)) ∧ w5.heap[w2.heap.size]? = some (.cells c0.cells.toArray 31 (0, 0)) ∧ w5.heap[w4.heap.size]? = some (.cells c0.cells.toArray 31 (0, 0)) ∧ Below wr.heap.size wr w5))
        have HH := Lib.hid (cells_halted HCO.out)
        have hn1 : wr.heap.size ≠ w2.heap.size := by omega
        have hn2 : wr.heap.size ≠ w4.heap.size := by omega
        have H5c := Lib.hid (show (c0.cells.set 97 (.bool false)).toArray[32]? = some (.int .i64 c0.pc) by rw [List.getElem?_toArray, List.getElem?_set_ne (by omega)]; exact cells_pc HCO.out)
        have HPC := Lib.hid (cells_pc HCO.out)
        go_wp2_with (first | (refine wpList_store_mid (by rfl) 31 _ _ (by rfl) w4.heap.size 0 c0.cells.toArray (by rfl) (by rfl) (there_block (t := 31) (cs := Z.toArray) (heap_alloc_new _ _) (by simp [HZL.out, cells_length HCO.out])) (by simpa using info_cpu HCO.out) (cells_one c0) ?_; obtain ⟨w5, hw5⟩ : ∃ w5, (w4.alloc (.cells Z.toArray 31)).setCells w4.heap.size 0 c0.cells.toArray.toList = w5 := ⟨_, rfl⟩; rw [hw5]; have HW5 := Lib.hid (H5.out w5 hw5); have hl5 := block_lt HW5.out.1; have f97 := frozen_block HW5.out.1 97; have f32 := frozen_block HW5.out.1 32; have c97 := (cell_block HW5.out.1 97).trans ((by simp) : c0.cells.toArray[97]? = c0.cells[97]?) |>.trans HH.out; have c32 := (cell_block HW5.out.1 32).trans ((by simp) : c0.cells.toArray[32]? = c0.cells[32]?) |>.trans HPC.out; clear hw5))
        have H5b := Lib.hid (fun (wp : World) (h : w5.setCell ⟨wr.heap.size, 97, none⟩ (.bool false) = wp) => (⟨by rw [← h]; exact block_put HW5.out.1 rfl, by rw [← h]; exact block_set_ne HW5.out.2.1 hn1 _ _, by rw [← h]; exact block_set_ne HW5.out.2.2.1 hn2 _ _, by rw [← h]; exact HW5.out.2.2.2.setCell (Nat.le_refl _) _⟩ : wp.heap[wr.heap.size]? = some (.cells (c0.cells.set 97 (.bool false)).toArray 31 (0, 0)) ∧ wp.heap[w2.heap.size]? = some (.cells c0.cells.toArray 31 (0, 0)) ∧ wp.heap[w4.heap.size]? = some (.cells c0.cells.toArray 31 (0, 0)) ∧ Below wr.heap.size wr wp))
        refine (HPA.out _).mono ?_
        rintro e w' ⟨rfl, rfl⟩
        obtain ⟨wp, hwp⟩ : ∃ wp, w5.setCell ⟨wr.heap.size, 97, none⟩ (.bool false) = wp := ⟨_, rfl⟩
        rw [hwp]
        have HWP := Lib.hid (H5b.out wp hwp)
        clear hwp c97 f97 c32 f32 H5b H5 HW5 hl5 HD4 hl40 hl41
        have hlp := block_lt HWP.out.1
        have f32 := frozen_block HWP.out.1 32
        have c32 := (cell_block HWP.out.1 32).trans H5c.out
        go_wp2_with (refine wpList_load_mid (by rfl) 31 _ (by rfl) wr.heap.size 0 (by rfl) c1.cells _ (range_block (t := 31) (fr := (0, 0)) (block_put HWP.out.1 HS1.out)) Tryd.underlying31 (by rfl) (info_cpu HC1.out) ?_)
        have HBW := Lib.hid (show Below wr.heap.size wr (wp.setCell ⟨wr.heap.size, 32, none⟩ (.int .i64 ((k : Int) + q))) from HWP.out.2.2.2.setCell (Nat.le_refl _) _)
        refine (HSO.out _ (HT.out.keeps (HB.out.trans (HBW.out.mono HB.out.size))) (HWA.out.keeps HBW.out)).mono ?_
        rintro e w6 ⟨rfl, -, hb6⟩
        have HD6 := Lib.hid (⟨(hb6.block _ (by simpa using hlp)).trans (block_put HWP.out.1 HS1.out), (hb6.block _ (by simpa using block_lt HWP.out.2.1)).trans (block_set_ne HWP.out.2.1 hn1 _ _), (hb6.block _ (by simpa using block_lt HWP.out.2.2.1)).trans (block_set_ne HWP.out.2.2.1 hn2 _ _), HBW.out.trans (hb6.mono HBW.out.size)⟩ : w6.heap[wr.heap.size]? = some (.cells c1.cells.toArray 31 (0, 0)) ∧ w6.heap[w2.heap.size]? = some (.cells c0.cells.toArray 31 (0, 0)) ∧ w6.heap[w4.heap.size]? = some (.cells c0.cells.toArray 31 (0, 0)) ∧ Below wr.heap.size wr w6)
        have hl60 := block_lt HD6.out.1
        have hl61 := block_lt HD6.out.2.1
        have hl62 := block_lt HD6.out.2.2.1
        clear hb6 c32 f32 HSO HWP HBW hlp HS1 HH HPC HPA HT HWA p0 hkq
        have H7 := Lib.hid (fun (w7 : World) (h : (w6.alloc (.cells Z.toArray 31)).setCells w6.heap.size 0 Z = w7) => (⟨by rw [← h]; exact block_setCells_ne _ (block_alloc HD6.out.1 _) (by omega) _, by rw [← h]; exact block_setCells_ne _ (block_alloc HD6.out.2.1 _) (by omega) _, by rw [← h]; exact block_setCells_ne _ (block_alloc HD6.out.2.2.1 _) (by omega) _, by rw [← h]; exact below_setCells HD6.out.2.2.2.size _ _ _ (HD6.out.2.2.2.alloc HD6.out.2.2.2.size _)⟩ : w7.heap[wr.heap.size]? = some (.cells c1.cells.toArray 31 (0, 0)) ∧ w7.heap[w2.heap.size]? = some (.cells c0.cells.toArray 31 (0, 0)) ∧ w7.heap[w4.heap.size]? = some (.cells c0.cells.toArray 31 (0, 0)) ∧ Below wr.heap.size wr w7))
        have HG := Lib.hid (cells_halted HC1.out)
        have HGP := Lib.hid (show (c1.cells.set 97 (.bool true)).toArray[32]? = some (.int .i64 c1.pc) by rw [List.getElem?_toArray, List.getElem?_set_ne (by omega)]; exact cells_pc HC1.out)
        have heq := HEC.out
        have HTH := Lib.hid (there_block (t := 31) (cs := Z.toArray) (n := Z.length) (heap_alloc_new w6 (.cells Z.toArray 31)) (by simp))
        clear HEC
        go_wp2_with (first | (refine wpList_store_mid (by rfl) 31 _ _ (by rfl) w6.heap.size 0 Z.toArray (by rfl) (by rfl) HTH.out (by simpa using HZI.out) HZ1.out ?_; obtain ⟨w7, hw7⟩ : ∃ w7, (w6.alloc (.cells Z.toArray 31)).setCells w6.heap.size 0 Z.toArray.toList = w7 := ⟨_, rfl⟩; rw [hw7]; have HW7 := Lib.hid (H7.out w7 hw7); have hl7 := block_lt HW7.out.1; have f97 := frozen_block HW7.out.1 97; have c97 := (cell_block HW7.out.1 97).trans ((by simp) : c1.cells.toArray[97]? = c1.cells[97]?) |>.trans HG.out; clear hw7 H7) | (obtain ⟨wq, hwq⟩ : ∃ wq, w7.setCell ⟨wr.heap.size, 97, none⟩ (.bool true) = wq := ⟨_, rfl⟩; rw [hwq]; have HWQ := Lib.hid (show wq.heap[wr.heap.size]? = some (.cells (c1.cells.set 97 (.bool true)).toArray 31 (0, 0)) ∧ wq.heap[w2.heap.size]? = some (.cells c0.cells.toArray 31 (0, 0)) ∧ wq.heap[w4.heap.size]? = some (.cells c0.cells.toArray 31 (0, 0)) ∧ Below wr.heap.size wr wq from hwq ▸ ⟨block_put HW7.out.1 rfl, block_set_ne HW7.out.2.1 hn1 _ _, block_set_ne HW7.out.2.2.1 hn2 _ _, HW7.out.2.2.2.setCell (Nat.le_refl _) _⟩); clear hwq c97 f97 HW7 hl7; have hlq := block_lt HWQ.out.1; have f32 := frozen_block HWQ.out.1 32; have c32 := (cell_block HWQ.out.1 32).trans HGP.out) | (obtain ⟨wz, hwz⟩ : ∃ wz, wq.setCell ⟨wr.heap.size, 32, none⟩ (.int .i64 pc) = wz := ⟨_, rfl⟩; rw [hwz]; have HWZ := Lib.hid (show wz.heap[wr.heap.size]? = some (.cells c0.cells.toArray 31 (0, 0)) ∧ wz.heap[w2.heap.size]? = some (.cells c0.cells.toArray 31 (0, 0)) ∧ wz.heap[w4.heap.size]? = some (.cells c0.cells.toArray 31 (0, 0)) ∧ Below wr.heap.size wr wz from hwz ▸ ⟨block_put HWQ.out.1 HS2.out, block_set_ne HWQ.out.2.1 hn1 _ _, block_set_ne HWQ.out.2.2.1 hn2 _ _, HWQ.out.2.2.2.setCell (Nat.le_refl _) _⟩); clear hwz c32 f32 HWQ hlq) | (refine wpList_load_midg (by rfl) 31 _ (by rfl) wr.heap.size 0 (by rfl) c0.cells _ (range_block (t := 31) (fr := (0, 0)) HWZ.out.1) Tryd.underlying31 (by rfl) (info_cpu HCO.out) ?_) | (refine wpList_load_midg (by rfl) 31 _ (by rfl) w2.heap.size 0 (by rfl) c0.cells _ (range_block (t := 31) (fr := (0, 0)) HWZ.out.2.1) Tryd.underlying31 (by rfl) (info_cpu HCO.out) ?_) | (refine wpList_load_midg (by rfl) 31 _ (by rfl) w4.heap.size 0 (by rfl) c0.cells _ (range_block (t := 31) (fr := (0, 0)) HWZ.out.2.2.1) Tryd.underlying31 (by rfl) (info_cpu HCO.out) ?_))
        go_ret
        exact ⟨rfl, HB.out.trans (HWZ.out.2.2.2.mono HB.out.size)⟩)
end Go.Proofs.YtjjpgkjjiooieaaDoor
