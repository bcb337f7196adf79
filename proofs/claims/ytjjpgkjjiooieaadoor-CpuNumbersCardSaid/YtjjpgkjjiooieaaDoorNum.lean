/-
  The walk of CpuNumbers: it returns true.
-/
import Derived.Test.YtjjpgkjjiooieaaDoorEq
namespace Go.Proofs.YtjjpgkjjiooieaaDoor
open Go.RowKit Tier
theorem and_2047 (x : Int) : bits .and .i64 x 2047 = x % 2048 := by
  have := and_mask x 11 (by omega)
  simpa using this
theorem or_low (x y : Int) (h0 : 0 ≤ y) (h1 : y < 2048) (hi : In (x * 2048 + y)) : bits .or .i64 (wrap64 (x * 2048)) y = x * 2048 + y := by
  have hw : wrap64 (x * 2048) = x * 2048 := by unfold In at hi; unfold wrap64; omega
  rw [hw, bits_or]
  have hz : V (x * 2048) &&& V y = 0#64 := by
    apply BitVec.eq_of_toNat_eq
    rw [BitVec.toNat_and]
    have hy : (V y).toNat = y.toNat := by rw [BitVec.toNat_ofInt]; simp only [Nat.reducePow]; omega
    have hx : (V (x * 2048)).toNat % 2 ^ 11 = 0 := by rw [BitVec.toNat_ofInt]; simp only [Nat.reducePow]; omega
    have hm : y.toNat = y.toNat &&& (2 ^ 11 - 1) := by rw [Nat.and_two_pow_sub_one_eq_mod]; simp only [Nat.reducePow]; omega
    rw [hy, hm, Nat.and_comm y.toNat, ← Nat.and_assoc, Nat.and_two_pow_sub_one_eq_mod, hx]
    simp
  have := and_add_or (V (x * 2048)) (V y)
  rw [hz, BitVec.zero_add] at this
  rw [this, ← V_add]
  exact hi.v
/-- A number, of which eleven bits more are put. -/
theorem or_step (n : Int) (hn : In n) (d : Int) (hd : 0 < d) : bits .or .i64 (wrap64 (n / (d * 2048) * 2048)) ((n / d) % 2048) = n / d := by
  have hq : n / (d * 2048) = n / d / 2048 := by rw [Int.ediv_ediv_of_nonneg (by omega)]
  have hi : In (n / d) := by
    unfold In at *
    exact ⟨Int.le_ediv_of_mul_le hd (by omega), Int.ediv_le_of_le_mul hd (by omega)⟩
  rw [hq]
  generalize n / d = q at *
  rw [or_low _ _ (by omega) (by omega) (by have : q / 2048 * 2048 + q % 2048 = q := by omega
                                           rw [this]; exact hi)]
  omega
theorem num_run (q0 q1 q2 q3 q4 q5 i1 i2 i3 i4 i5 : Int) (h0 : wrap64 q0 = q0) (h1 : bits .or .i64 (wrap64 (q0 * 2048)) i1 = q1) (h2 : bits .or .i64 (wrap64 (q1 * 2048)) i2 = q2) (h3 : bits .or .i64 (wrap64 (q2 * 2048)) i3 = q3) (h4 : bits .or .i64 (wrap64 (q3 * 2048)) i4 = q4) (h5 : bits .or .i64 (wrap64 (q4 * 2048)) i5 = q5) :
    runM [⟨12, 5, 0, 0, q0⟩, ⟨18, 5, 5, 0, 11⟩, ⟨14, 5, 5, 0, i1⟩, ⟨18, 5, 5, 0, 11⟩, ⟨14, 5, 5, 0, i2⟩, ⟨18, 5, 5, 0, 11⟩, ⟨14, 5, 5, 0, i3⟩, ⟨18, 5, 5, 0, 11⟩, ⟨14, 5, 5, 0, i4⟩, ⟨18, 5, 5, 0, 11⟩, ⟨14, 5, 5, 0, i5⟩, ⟨29, 0, 0, 0, 0⟩] 20 0 (regs0 zeroC) = (⟨(List.replicate 32 0).set 5 q5, 11, List.replicate 64 0, true⟩, 12, 0) := by
  simp [runM, stepM, doM, regs0, zeroC, Cpu.put, Cpu.reg, arM, h0, h1, h2, h3, h4, h5]
def numL (n : Int) : Nat → List Rv5
  | 0 => [⟨12, 5, 0, 0, n / 36028797018963968⟩]
  | m + 1 => numL n m ++ [⟨18, 5, 5, 0, 11⟩, ⟨14, 5, 5, 0, (n / 2 ^ (44 - 11 * m)) % 2048⟩]
def numX (n : Int) : List Rv5 := numL n 5 ++ [⟨29, 0, 0, 0, 0⟩]
theorem numX_run (n : Int) (hn : In n) : runM (numX n) 20 0 (regs0 zeroC) = (⟨(List.replicate 32 0).set 5 n, 11, List.replicate 64 0, true⟩, 12, 0) := by
  have h := num_run (n / 36028797018963968) (n / 17592186044416) (n / 8589934592) (n / 4194304) (n / 2048) n ((n / 17592186044416) % 2048) ((n / 8589934592) % 2048) ((n / 4194304) % 2048) ((n / 2048) % 2048) ((n / 1) % 2048)
    (by unfold In at hn; unfold wrap64; omega) (or_step n hn 17592186044416 (by omega)) (or_step n hn 8589934592 (by omega)) (or_step n hn 4194304 (by omega)) (or_step n hn 2048 (by omega)) (by have := or_step n hn 1 (by omega); simpa using this)
  exact h
theorem numX_ok (n : Int) (hn : In n) : ∀ z ∈ numX n, z.ok := by
  have hs : ∀ i, 0 ≤ i → i < 2048 → (⟨14, 5, 5, 0, i⟩ : Rv5).ok := fun i h0 h1 => by
    unfold Rv5.ok chkI
    rw [if_neg (by simp), if_neg (by simp)]
    change chk (shapeOf 14) 5 5 0 i (fieldOf (shapeOf 14).toNat 0) (fieldOf (shapeOf 14).toNat 1) (fieldOf (shapeOf 14).toNat 2) = 0
    exact chk_ok (bad_no (by simp) (by simp) (.inl (by decide +kernel))) (bad_no (by simp) (by simp) (.inl (by decide +kernel))) (bad_no (by simp) (by simp) (.inr (by simp))) (by show ¬ i < -2048; omega) (by show ¬ 2047 < i; omega) (by show i.tmod 1 = 0; simp)
  have ha : ∀ i, -2048 ≤ i → i < 2048 → (⟨12, 5, 0, 0, i⟩ : Rv5).ok := fun i h0 h1 => by
    unfold Rv5.ok chkI
    rw [if_neg (by simp), if_neg (by simp)]
    change chk (shapeOf 12) 5 0 0 i (fieldOf (shapeOf 12).toNat 0) (fieldOf (shapeOf 12).toNat 1) (fieldOf (shapeOf 12).toNat 2) = 0
    exact chk_ok (bad_no (by simp) (by simp) (.inl (by decide +kernel))) (bad_no (by simp) (by simp) (.inl (by decide +kernel))) (bad_no (by simp) (by simp) (.inr (by simp))) (by show ¬ i < -2048; omega) (by show ¬ 2047 < i; omega) (by show i.tmod 1 = 0; simp)
  have hh : (⟨18, 5, 5, 0, 11⟩ : Rv5).ok := by unfold Rv5.ok; decide +kernel
  have he : (⟨29, 0, 0, 0, 0⟩ : Rv5).ok := by unfold Rv5.ok; decide +kernel
  have hl : ∀ m, ∀ z ∈ numL n m, z.ok := by
    intro m
    induction m with
    | zero =>
      intro z hz
      simp only [numL, List.mem_cons, List.not_mem_nil, or_false] at hz
      subst hz
      unfold In at hn
      exact ha _ (by omega) (by omega)
    | succ m ih =>
      intro z hz
      simp only [numL, List.mem_append, List.mem_cons, List.not_mem_nil, or_false] at hz
      rcases hz with hz | rfl | rfl
      · exact ih z hz
      · exact hh
      · exact hs _ (by omega) (by omega)
  intro z hz
  simp only [numX, List.mem_append, List.mem_cons, List.not_mem_nil, or_false] at hz
  rcases hz with hz | rfl
  · exact hl 5 z hz
  · exact he
theorem numL_len (n : Int) : ∀ m, (numL n m).length = 2 * m + 1
  | 0 => rfl
  | m + 1 => by simp [numL, numL_len n m]; omega
theorem numX_len (n : Int) : (numX n).length = 12 := by simp [numX, numL_len]
theorem numL_cells (n : Int) (m : Nat) (q : Int) (hq : n / 2 ^ (44 - 11 * m) = q) : (numL n m).flatMap rvCells ++ [.int .i64 18, .int .i64 5, .int .i64 5, .int .i64 0, .int .i64 11, .int .i64 14, .int .i64 5, .int .i64 5, .int .i64 0, .int .i64 (q % 2048)] = (numL n (m + 1)).flatMap rvCells := by
  subst hq
  simp [numL, rvCells]
theorem rvs_own {w : World} {B : Nat} {A : Option Addr} {cap N : Nat} {l : List Rv5} (h : w.ownsRow B 27 5 (.slice A N cap) N (l.flatMap rvCells)) (hN : l.length = N) (hl : 0 < N) : ∃ g, A = some ⟨g, 0, none⟩ ∧ RvsAt w g l := by
  obtain ⟨A', cap', hv, hc⟩ := own_slice h
  simp only [Value.slice.injEq, true_and] at hv
  obtain ⟨g, h1, h2, h3⟩ := hc hl
  refine ⟨g, by rw [hv.1, h1], h2, fun i x hx => ?_⟩
  have hi : i < l.length := (List.getElem?_eq_some_iff.1 hx).1
  have key : ∀ j, j < 5 → w.cell? ⟨g, i * 5 + j, none⟩ = (rvCells x)[j]? := fun j hj => by
    rw [h3 _ (by omega), flat5 l i j hj, hx]; rfl
  exact ⟨key 0 (by omega), key 1 (by omega), key 2 (by omega), key 3 (by omega), key 4 (by omega)⟩
theorem infoR : (Tryd.prog.info? 27).map (fun i => (i.zero, i.size, i.bytes)) = some (some (.agg #[.int .i64 0, .int .i64 0, .int .i64 0, .int .i64 0, .int .i64 0]), 5, 40) := by kernel_rfl
set_option maxRecDepth 100000 in
set_option maxHeartbeats 4000000 in
theorem cpuNumbers_walk (n : Int) (w : World) (ht : Tab w) (hn : In n) :
    Calls Tryd.prog 6 #[.int .i64 n] w fun e w' => e = .returned (.bool true) ∧ Below w.heap.size w w' := by
  obtain ⟨i0, hi, hz0, hz1, hz2⟩ := info_parts infoR
  have HT := Lib.hid ht
  have hz := zero_cpu
  have hand := and_2047
  clear ht
  go_enter Tryd.func6, Tryd.ntmps6
  go_wp2_with fail
  go_loopw [3, 4] (fun v3 v wr => ∃ (m : Nat) (A : Option Addr) (cap : Nat), m ≤ 5 ∧ v = .int .i64 (44 - 11 * (m : Int)) ∧ v3 = .slice A (2 * m + 1) cap ∧ wr.ownsRow w.heap.size 27 5 (.slice A (2 * m + 1) cap) (2 * m + 1) ((numL n m).flatMap rvCells) ∧ Below w.heap.size w wr) (fun _ v _ => ((intOf v) + 11).toNat)
  case atStart => exact ⟨0, some ⟨w.heap.size, 0, none⟩, 1, by omega, rfl, rfl, ⟨rfl, .inr ⟨w.heap.size, 1, _, rfl, Nat.le_refl _, heap_alloc_new _ _, by omega, by unfold maxLen; omega, rfl, rfl⟩⟩, (Below.refl _ _).alloc (Nat.le_refl _) _⟩
  case round =>
    obtain ⟨m, A, cap, hm, rfl, rfl, ho, hb⟩ := hrel
    have HO := Lib.hid ho
    have HB := Lib.hid hb
    clear ho hb
    by_cases h5 : m = 5
    · subst h5
      go_wp2_with (at_builtin; go_must (refine wpList_append_own _ rfl _ _ 38 rfl w.heap.size 27 i0 _ 5 40 Tryd.underlying38 hi hz0 hz1 hz2 rfl (by decide) (.slice A (2 * 5 + 1) cap) (2 * 5 + 1) ((numL n 5).flatMap rvCells) rfl (own_below HO.out ((Below.refl _ _).alloc (Nat.le_refl _) _)) ⟨wr.heap.size, 0, none⟩ 1 1 [.int .i64 29, .int .i64 0, .int .i64 0, .int .i64 0, .int .i64 0] rfl rfl (World.news_of_block (cs := #[.int .i64 29, .int .i64 0, .int .i64 0, .int .i64 0, .int .i64 0]) (t := 27) (fr := (0, 0)) (heap_alloc_new _ _)) (by simp [Value.oneCell']) (by unfold maxLen; omega) (by omega) (by have := HB.out.size; simp; omega) ?_); intro v2 w2 hown2 hg2 _; obtain ⟨A2, cap2, hv2, -⟩ := own_slice hown2; rw [hv2] at hown2; rw [hv2]; have HO2 := Lib.hid hown2; have HB2 := Lib.hid (show Below w.heap.size w w2 from ((HB.out.alloc HB.out.size _).grown hg2 (by have := HB.out.size; simp; omega) (fun k hk => (World.ownsRow.lt HO.out k hk).1))); clear hown2 hg2)
      have HOK := Lib.hid (numX_ok n hn)
      have HRN := Lib.hid (numX_run n hn)
      have hlen := numX_len n
      have hcells : (numL n 5).flatMap rvCells ++ [.int .i64 29, .int .i64 0, .int .i64 0, .int .i64 0, .int .i64 0] = (numX n).flatMap rvCells := by simp [numX, rvCells]
      have hown := HO2.out
      rw [hcells] at hown
      obtain ⟨g, rfl, hrv⟩ := rvs_own hown hlen (by omega)
      have HWD := words_any (numX n) g cap2 w2 (HT.out.keeps HB2.out) HOK.out (by omega) hrv
      rw [hlen] at HWD
      clear hown hcells hrv HO2 HO HB
      refine HWD.mono ?_
      rintro e w3 ⟨⟨A3, cap3, rfl, hown3⟩, hb3⟩
      rw [← hlen] at hown3
      have HWA := Lib.hid (words_at hown3)
      have HB3 := Lib.hid (HB2.out.trans (hb3.mono HB2.out.size))
      have HRU := Lib.hid (fun (W : World) (h1 : Tab W) (h2 : WordsAt W A3 (numX n)) => crun_any zeroC zeroC_ok (numX n) A3 cap3 20 W h1 HOK.out (by omega) h2 (by omega))
      rw [HRN.out, hlen] at HRU
      clear hown3 hb3 HWD HRN
      have HZL := Lib.hid (cells_length zeroC_ok)
      have hDO : (⟨(List.replicate 32 0).set 5 n, 11, List.replicate 64 0, true⟩ : Cpu).Ok := ⟨by simp, by simp⟩
      have hD5 : (⟨(List.replicate 32 0).set 5 n, 11, List.replicate 64 0, true⟩ : Cpu).cells[5]? = some (.int .i64 n) := by rw [cells_reg hDO (by omega)]; rfl
      have HDO := Lib.hid hDO
      have HD5 := Lib.hid hD5
      clear hDO hD5
      generalize (⟨(List.replicate 32 0).set 5 n, 11, List.replicate 64 0, true⟩ : Cpu) = d at *
      generalize numX n = xs at *
      generalize zeroC.cells = Z at *
      go_wp2_with fail
      refine (HRU.out _ (HT.out.keeps HB3.out) HWA.out).mono ?_
      rintro e w4 ⟨rfl, -, hb4⟩
      have HB4 := Lib.hid (HB3.out.trans (hb4.mono HB3.out.size))
      have HTH := Lib.hid (there_block (t := 31) (n := d.cells.length) (heap_alloc_new w4 (.cells Z.toArray 31)) (by simp [HZL.out, cells_length HDO.out]))
      have H5 := Lib.hid (fun (w5 : World) (h : (w4.alloc (.cells Z.toArray 31)).setCells w4.heap.size 0 d.cells = w5) => (⟨by rw [← h]; exact block_full (heap_alloc_new _ _) _ (by simp [HZL.out, cells_length HDO.out]), by rw [← h]; exact below_setCells HB4.out.size _ _ _ (HB4.out.alloc HB4.out.size _)⟩ : w5.heap[w4.heap.size]? = some (.cells d.cells.toArray 31 (0, 0)) ∧ Below w.heap.size w w5))
      clear hb4
      go_wp2_with (refine wpList_store_mid (by rfl) 31 _ _ (by rfl) w4.heap.size 0 d.cells.toArray (by rfl) (by rfl) HTH.out (by simpa using info_cpu HDO.out) (cells_one d) ?_; obtain ⟨w5, hw5⟩ : ∃ w5, (w4.alloc (.cells Z.toArray 31)).setCells w4.heap.size 0 d.cells.toArray.toList = w5 := ⟨_, rfl⟩; rw [hw5]; have HW5 := Lib.hid (H5.out w5 hw5); clear hw5; have d5 := (cell_block HW5.out.1 5).trans ((by simp) : d.cells.toArray[5]? = d.cells[5]?) |>.trans HD5.out)
      go_ret
      exact ⟨rfl, HW5.out.2⟩
    · have hc : m = 0 ∨ m = 1 ∨ m = 2 ∨ m = 3 ∨ m = 4 := by omega
      clear hm h5
      rcases hc with rfl | rfl | rfl | rfl | rfl
      · go_wp2_with (at_builtin; go_must (refine wpList_append_own _ rfl _ _ 38 rfl w.heap.size 27 i0 _ 5 40 Tryd.underlying38 hi hz0 hz1 hz2 rfl (by decide) (.slice A (2 * 0 + 1) cap) (2 * 0 + 1) ((numL n 0).flatMap rvCells) rfl (own_below HO.out ((Below.refl _ _).alloc (Nat.le_refl _) _)) ⟨wr.heap.size, 0, none⟩ 2 2 [.int .i64 18, .int .i64 5, .int .i64 5, .int .i64 0, .int .i64 11, .int .i64 14, .int .i64 5, .int .i64 5, .int .i64 0, .int .i64 (n / 17592186044416 % 2048)] rfl rfl (World.news_of_block (cs := #[.int .i64 18, .int .i64 5, .int .i64 5, .int .i64 0, .int .i64 11, .int .i64 14, .int .i64 5, .int .i64 5, .int .i64 0, .int .i64 (n / 17592186044416 % 2048)]) (t := 27) (fr := (0, 0)) (heap_alloc_new _ _)) (by simp [Value.oneCell']) (by unfold maxLen; omega) (by omega) (by have := HB.out.size; simp; omega) ?_); intro v2 w2 hown2 hg2 _; obtain ⟨A2, cap2, hv2, -⟩ := own_slice hown2; rw [hv2] at hown2; rw [hv2]; have HO2 := Lib.hid hown2; have HB2 := Lib.hid (show Below w.heap.size w w2 from ((HB.out.alloc HB.out.size _).grown hg2 (by have := HB.out.size; simp; omega) (fun k hk => (World.ownsRow.lt HO.out k hk).1))); clear hown2 hg2)
        go_roundw
        case rel => exact ⟨1, A2, cap2, by omega, by go_num, rfl, by rw [← numL_cells n 0 (n / 17592186044416) (by simp)]; exact HO2.out, HB2.out⟩
        case measure => simp [intOf]
      · go_wp2_with (at_builtin; go_must (refine wpList_append_own _ rfl _ _ 38 rfl w.heap.size 27 i0 _ 5 40 Tryd.underlying38 hi hz0 hz1 hz2 rfl (by decide) (.slice A (2 * 1 + 1) cap) (2 * 1 + 1) ((numL n 1).flatMap rvCells) rfl (own_below HO.out ((Below.refl _ _).alloc (Nat.le_refl _) _)) ⟨wr.heap.size, 0, none⟩ 2 2 [.int .i64 18, .int .i64 5, .int .i64 5, .int .i64 0, .int .i64 11, .int .i64 14, .int .i64 5, .int .i64 5, .int .i64 0, .int .i64 (n / 8589934592 % 2048)] rfl rfl (World.news_of_block (cs := #[.int .i64 18, .int .i64 5, .int .i64 5, .int .i64 0, .int .i64 11, .int .i64 14, .int .i64 5, .int .i64 5, .int .i64 0, .int .i64 (n / 8589934592 % 2048)]) (t := 27) (fr := (0, 0)) (heap_alloc_new _ _)) (by simp [Value.oneCell']) (by unfold maxLen; omega) (by omega) (by have := HB.out.size; simp; omega) ?_); intro v2 w2 hown2 hg2 _; obtain ⟨A2, cap2, hv2, -⟩ := own_slice hown2; rw [hv2] at hown2; rw [hv2]; have HO2 := Lib.hid hown2; have HB2 := Lib.hid (show Below w.heap.size w w2 from ((HB.out.alloc HB.out.size _).grown hg2 (by have := HB.out.size; simp; omega) (fun k hk => (World.ownsRow.lt HO.out k hk).1))); clear hown2 hg2)
        go_roundw
        case rel => exact ⟨2, A2, cap2, by omega, by go_num, rfl, by rw [← numL_cells n 1 (n / 8589934592) (by simp)]; exact HO2.out, HB2.out⟩
        case measure => simp [intOf]
      · go_wp2_with (at_builtin; go_must (refine wpList_append_own _ rfl _ _ 38 rfl w.heap.size 27 i0 _ 5 40 Tryd.underlying38 hi hz0 hz1 hz2 rfl (by decide) (.slice A (2 * 2 + 1) cap) (2 * 2 + 1) ((numL n 2).flatMap rvCells) rfl (own_below HO.out ((Below.refl _ _).alloc (Nat.le_refl _) _)) ⟨wr.heap.size, 0, none⟩ 2 2 [.int .i64 18, .int .i64 5, .int .i64 5, .int .i64 0, .int .i64 11, .int .i64 14, .int .i64 5, .int .i64 5, .int .i64 0, .int .i64 (n / 4194304 % 2048)] rfl rfl (World.news_of_block (cs := #[.int .i64 18, .int .i64 5, .int .i64 5, .int .i64 0, .int .i64 11, .int .i64 14, .int .i64 5, .int .i64 5, .int .i64 0, .int .i64 (n / 4194304 % 2048)]) (t := 27) (fr := (0, 0)) (heap_alloc_new _ _)) (by simp [Value.oneCell']) (by unfold maxLen; omega) (by omega) (by have := HB.out.size; simp; omega) ?_); intro v2 w2 hown2 hg2 _; obtain ⟨A2, cap2, hv2, -⟩ := own_slice hown2; rw [hv2] at hown2; rw [hv2]; have HO2 := Lib.hid hown2; have HB2 := Lib.hid (show Below w.heap.size w w2 from ((HB.out.alloc HB.out.size _).grown hg2 (by have := HB.out.size; simp; omega) (fun k hk => (World.ownsRow.lt HO.out k hk).1))); clear hown2 hg2)
        go_roundw
        case rel => exact ⟨3, A2, cap2, by omega, by go_num, rfl, by rw [← numL_cells n 2 (n / 4194304) (by simp)]; exact HO2.out, HB2.out⟩
        case measure => simp [intOf]
      · go_wp2_with (at_builtin; go_must (refine wpList_append_own _ rfl _ _ 38 rfl w.heap.size 27 i0 _ 5 40 Tryd.underlying38 hi hz0 hz1 hz2 rfl (by decide) (.slice A (2 * 3 + 1) cap) (2 * 3 + 1) ((numL n 3).flatMap rvCells) rfl (own_below HO.out ((Below.refl _ _).alloc (Nat.le_refl _) _)) ⟨wr.heap.size, 0, none⟩ 2 2 [.int .i64 18, .int .i64 5, .int .i64 5, .int .i64 0, .int .i64 11, .int .i64 14, .int .i64 5, .int .i64 5, .int .i64 0, .int .i64 (n / 2048 % 2048)] rfl rfl (World.news_of_block (cs := #[.int .i64 18, .int .i64 5, .int .i64 5, .int .i64 0, .int .i64 11, .int .i64 14, .int .i64 5, .int .i64 5, .int .i64 0, .int .i64 (n / 2048 % 2048)]) (t := 27) (fr := (0, 0)) (heap_alloc_new _ _)) (by simp [Value.oneCell']) (by unfold maxLen; omega) (by omega) (by have := HB.out.size; simp; omega) ?_); intro v2 w2 hown2 hg2 _; obtain ⟨A2, cap2, hv2, -⟩ := own_slice hown2; rw [hv2] at hown2; rw [hv2]; have HO2 := Lib.hid hown2; have HB2 := Lib.hid (show Below w.heap.size w w2 from ((HB.out.alloc HB.out.size _).grown hg2 (by have := HB.out.size; simp; omega) (fun k hk => (World.ownsRow.lt HO.out k hk).1))); clear hown2 hg2)
        go_roundw
        case rel => exact ⟨4, A2, cap2, by omega, by go_num, rfl, by rw [← numL_cells n 3 (n / 2048) (by simp)]; exact HO2.out, HB2.out⟩
        case measure => simp [intOf]
      · go_wp2_with (at_builtin; go_must (refine wpList_append_own _ rfl _ _ 38 rfl w.heap.size 27 i0 _ 5 40 Tryd.underlying38 hi hz0 hz1 hz2 rfl (by decide) (.slice A (2 * 4 + 1) cap) (2 * 4 + 1) ((numL n 4).flatMap rvCells) rfl (own_below HO.out ((Below.refl _ _).alloc (Nat.le_refl _) _)) ⟨wr.heap.size, 0, none⟩ 2 2 [.int .i64 18, .int .i64 5, .int .i64 5, .int .i64 0, .int .i64 11, .int .i64 14, .int .i64 5, .int .i64 5, .int .i64 0, .int .i64 (n % 2048)] rfl rfl (World.news_of_block (cs := #[.int .i64 18, .int .i64 5, .int .i64 5, .int .i64 0, .int .i64 11, .int .i64 14, .int .i64 5, .int .i64 5, .int .i64 0, .int .i64 (n % 2048)]) (t := 27) (fr := (0, 0)) (heap_alloc_new _ _)) (by simp [Value.oneCell']) (by unfold maxLen; omega) (by omega) (by have := HB.out.size; simp; omega) ?_); intro v2 w2 hown2 hg2 _; obtain ⟨A2, cap2, hv2, -⟩ := own_slice hown2; rw [hv2] at hown2; rw [hv2]; have HO2 := Lib.hid hown2; have HB2 := Lib.hid (show Below w.heap.size w w2 from ((HB.out.alloc HB.out.size _).grown hg2 (by have := HB.out.size; simp; omega) (fun k hk => (World.ownsRow.lt HO.out k hk).1))); clear hown2 hg2)
        go_roundw
        case rel => exact ⟨5, A2, cap2, by omega, by go_num, rfl, by rw [← numL_cells n 4 (n) (by simp)]; exact HO2.out, HB2.out⟩
        case measure => simp [intOf]
end Go.Proofs.YtjjpgkjjiooieaaDoor
