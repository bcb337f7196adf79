/-
  The walk of CpuLui: it returns true.
-/
import Derived.Test.YtjjpgkjjiooieaaDoorCp5
import Derived.Test.YtjjpgkjjiooieaaDoorCp6
namespace Go.Proofs.YtjjpgkjjiooieaaDoor
open Go.RowKit Tier
def luiX (x y : Int) : List Rv5 := [⟨28, 3, 0, 0, x⟩, ⟨12, 4, 3, 0, y⟩, ⟨29, 0, 0, 0, 0⟩]
theorem luiX_ok (x y : Int) (h0 : -524288 ≤ x) (h1 : x ≤ 524287) (g0 : -2048 ≤ y) (g1 : y ≤ 2047) : ∀ z ∈ luiX x y, z.ok := by
  intro z hz
  simp only [luiX, List.mem_cons, List.not_mem_nil, or_false] at hz
  rcases hz with rfl | rfl | rfl
  · unfold Rv5.ok chkI
    rw [if_neg (by simp), if_neg (by simp)]
    change chk (shapeOf 28) 3 0 0 x (fieldOf (shapeOf 28).toNat 0) (fieldOf (shapeOf 28).toNat 1) (fieldOf (shapeOf 28).toNat 2) = 0
    exact chk_ok (bad_no (by simp) (by simp) (.inl (by decide +kernel))) (bad_no (by simp) (by simp) (.inr (by simp))) (bad_no (by simp) (by simp) (.inr (by simp))) (by show ¬ x < -524288; omega) (by show ¬ 524287 < x; omega) (by show x.tmod 1 = 0; simp)
  · unfold Rv5.ok chkI
    rw [if_neg (by simp), if_neg (by simp)]
    change chk (shapeOf 12) 4 3 0 y (fieldOf (shapeOf 12).toNat 0) (fieldOf (shapeOf 12).toNat 1) (fieldOf (shapeOf 12).toNat 2) = 0
    exact chk_ok (bad_no (by simp) (by simp) (.inl (by decide +kernel))) (bad_no (by simp) (by simp) (.inl (by decide +kernel))) (bad_no (by simp) (by simp) (.inr (by simp))) (by show ¬ y < -2048; omega) (by show ¬ 2047 < y; omega) (by show y.tmod 1 = 0; simp)
  · show chkI 29 0 0 0 0 = 0
    decide +kernel
theorem lui_run (x y : Int) (h0 : -524288 ≤ x) (h1 : x ≤ 524287) (g0 : -2048 ≤ y) (g1 : y ≤ 2047) :
    runM (luiX x y) 5 0 (regs0 zeroC) = (⟨((List.replicate 32 0).set 3 (x * 4096)).set 4 (x * 4096 + y), 2, List.replicate 64 0, true⟩, 3, 0) := by
  have hw : wrap64 (x * 4096 + y) = x * 4096 + y := by unfold wrap64; omega
  simp [runM, stepM, doM, luiX, regs0, zeroC, Cpu.put, Cpu.reg, arM, hw]
/-- A machine stored into a new box: its cells. -/
theorem boxed (W : World) (Z : List Value) (d : Cpu) (hd : d.Ok) (hZ : Z.length = 98) (i : Nat) (v : Value) (h : d.cells[i]? = some v) : ((W.alloc (.cells Z.toArray 31)).setCells W.heap.size 0 d.cells).cell? ⟨W.heap.size, i, none⟩ = some v := by
  have hth := there_block (t := 31) (n := d.cells.length) (heap_alloc_new W (.cells Z.toArray 31)) (by simp [hZ, cells_length hd])
  have := World.rangeAt_setCells_same _ _ 0 d.cells hth i v h
  rwa [Nat.zero_add] at this
set_option maxRecDepth 100000 in
set_option maxHeartbeats 4000000 in
theorem cpuLui_walk (a b : Int) (w : World) (ht : Tab w) (ha : In a) (hb : In b) :
    Calls Tryd.prog 7 #[.int .i64 a, .int .i64 b] w fun e w' => e = .returned (.bool true) ∧ Below w.heap.size w w' := by
  have HT := Lib.hid ht
  have p0 := picked_in a 1048576 (by omega)
  have p1 := picked_in b 4096 (by omega)
  have HPA := Lib.hid (fun (W : World) => picked_any a 1048576 W ha (by omega) (by omega))
  have HPB := Lib.hid (fun (W : World) => picked_any b 4096 W hb (by omega) (by omega))
  obtain ⟨pa, hpa⟩ : ∃ pa, pickedI a 1048576 = pa := ⟨_, rfl⟩
  obtain ⟨pb, hpb⟩ : ∃ pb, pickedI b 4096 = pb := ⟨_, rfl⟩
  rw [hpa] at p0 HPA
  rw [hpb] at p1 HPB
  have hx : wrap64 (pa - 524288) = pa - 524288 := by unfold wrap64; omega
  have hy : wrap64 (pb - 2048) = pb - 2048 := by unfold wrap64; omega
  have hx' : IntKind.i64.wrap (pa - 524288) = pa - 524288 := by rw [IntKind.wrap_i64]; omega
  have hy' : IntKind.i64.wrap (pb - 2048) = pb - 2048 := by rw [IntKind.wrap_i64]; omega
  have HOK := Lib.hid (luiX_ok (pa - 524288) (pb - 2048) (by omega) (by omega) (by omega) (by omega))
  have HRN := Lib.hid (lui_run (pa - 524288) (pb - 2048) (by omega) (by omega) (by omega) (by omega))
  have hz := zero_cpu
  clear ht hpa hpb ha hb
  go_enter Tryd.func7, Tryd.ntmps7
  go_wp2_with (first | (go_at_call 12; (refine (HPA.out _).mono ?_; rintro e w' ⟨rfl, rfl⟩; clear HPA)) | (go_at_call 12; (refine (HPB.out _).mono ?_; rintro e w' ⟨rfl, rfl⟩; clear HPB)))
  obtain ⟨x, hx0⟩ : ∃ x, pa - 524288 = x := ⟨_, rfl⟩
  obtain ⟨y, hy0⟩ : ∃ y, pb - 2048 = y := ⟨_, rfl⟩
  rw [hx0] at HOK HRN
  rw [hy0] at HOK HRN
  simp only [hx0, hy0]
  have bx0 : -524288 ≤ x := by omega
  have bx1 : x ≤ 524287 := by omega
  have by0 : -2048 ≤ y := by omega
  have by1 : y ≤ 2047 := by omega
  clear hx hy hx' hy' hx0 hy0 p0 p1
  refine (words_any (luiX x y) w.heap.size 3 _ (HT.out.alloc _) HOK.out (by simp [luiX]) (rvs_block (t := 27) (fr := (0, 0)) (heap_alloc_new w _))).mono ?_
  rintro e w1 ⟨⟨A1, cap1, rfl, ho⟩, hb1⟩
  have HWA := Lib.hid (words_at ho)
  have HB1 := Lib.hid (show Below w.heap.size w w1 from ((Below.refl _ _).alloc (Nat.le_refl _) _).trans (hb1.mono (by simp)))
  have hlen : (luiX x y).length = 3 := rfl
  have HRU := Lib.hid (fun (W : World) (h1 : Tab W) (h2 : WordsAt W A1 (luiX x y)) => crun_any zeroC zeroC_ok (luiX x y) A1 cap1 5 W h1 HOK.out (by rw [hlen]; omega) h2 (by omega))
  obtain ⟨d, hd⟩ : ∃ d : Cpu, (⟨((List.replicate 32 0).set 3 (x * 4096)).set 4 (x * 4096 + y), 2, List.replicate 64 0, true⟩ : Cpu) = d := ⟨_, rfl⟩
  have HDO := Lib.hid (show d.Ok by rw [← hd]; exact ⟨by simp, by simp⟩)
  have HD3 := Lib.hid (show d.cells[3]? = some (.int .i64 (4096 * x)) by rw [cells_reg HDO.out (by omega), ← hd, Int.mul_comm 4096 x]; rfl)
  have HD4 := Lib.hid (show d.cells[4]? = some (.int .i64 (4096 * x + y)) by rw [cells_reg HDO.out (by omega), ← hd, Int.mul_comm 4096 x]; rfl)
  have HRN2 := Lib.hid (HRN.out.trans (by rw [hd]))
  rw [HRN2.out] at HRU
  have hm1 : wrap64 (4096 * x) = 4096 * x := by unfold wrap64; omega
  have hm2 : wrap64 (4096 * x + y) = 4096 * x + y := by unfold wrap64; omega
  clear hd HRN HRN2
  clear ho hb1
  rw [hlen] at HRU
  rw [hlen]
  generalize luiX x y = xs at *
  have HZL := Lib.hid (cells_length zeroC_ok)
  generalize zeroC.cells = Z at *
  go_wp2_with (first | (go_at_call 14; go_must (refine (HRU.out _ (HT.out.keeps HB1.out) HWA.out).mono ?_; rintro e w2 ⟨rfl, -, hb2⟩; have HB2 := Lib.hid (HB1.out.trans (hb2.mono HB1.out.size)); have q3 := boxed w2 Z d HDO.out HZL.out 3 _ HD3.out; have q4 := boxed w2 Z d HDO.out HZL.out 4 _ HD4.out; have HTH := Lib.hid (there_block (t := 31) (n := d.cells.length) (heap_alloc_new w2 (.cells Z.toArray 31)) (by simp [HZL.out, cells_length HDO.out])); clear hb2)) | (refine wpList_store_mid (by rfl) 31 _ _ (by rfl) w2.heap.size 0 d.cells.toArray (by rfl) (by rfl) HTH.out (by simpa using info_cpu HDO.out) (cells_one d) ?_))
  go_ret
  exact ⟨rfl, below_setCells HB2.out.size _ _ _ (HB2.out.alloc HB2.out.size _)⟩
end Go.Proofs.YtjjpgkjjiooieaaDoor
