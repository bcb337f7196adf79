/-
  What trim.Program's own memory is between two steps; then its contract.
-/
import Derived.Test.YtnbopmlemddakaaDoorTr2
import Derived.Test.YtnbopmlemddakaaDoorPgS
import Derived.Test.YtnbopmlemddakaaDoorStB
namespace Tier
open Go Go.RowKit
def numL (c : List Bool) (j N : Nat) : List Int := (List.range N).map fun i => if i < j ∧ cB c i = true then (numC c i : Int) else 0
theorem numL_length (c : List Bool) (j N : Nat) : (numL c j N).length = N := by simp [numL]
theorem numL_zero (c : List Bool) (N : Nat) : numL c 0 N = List.replicate N 0 := by
  unfold numL
  apply List.ext_getElem
  · simp
  · intro i h1 h2; simp
theorem numL_get {c : List Bool} {j N i : Nat} (hi : i < N) : (numL c j N)[i]? = some (if i < j ∧ cB c i = true then (numC c i : Int) else 0) := by
  unfold numL; rw [List.getElem?_map, List.getElem?_range hi]; rfl
theorem numL_yes {c : List Bool} {j N : Nat} (hc : cB c j = true) (hj : j < N) : (numL c j N).set j (numC c j : Int) = numL c (j + 1) N := by
  apply List.ext_getElem?
  intro i
  by_cases hi : i < N
  · rw [List.getElem?_set, numL_get hi, numL_get hi, numL_length]
    by_cases h : j = i
    · subst h
      rw [if_pos rfl, if_pos hj, if_pos ⟨by omega, hc⟩]
    · rw [if_neg h]
      by_cases h2 : cB c i = true
      · by_cases h3 : i < j
        · rw [if_pos ⟨h3, h2⟩, if_pos ⟨by omega, h2⟩]
        · rw [if_neg (fun h => h3 h.1), if_neg (fun h => by have := h.1; omega)]
      · rw [if_neg (fun h => h2 h.2), if_neg (fun h => h2 h.2)]
  · rw [List.getElem?_eq_none (by simp [numL_length]; omega), List.getElem?_eq_none (by simp [numL_length]; omega)]
theorem numL_no {c : List Bool} {j N : Nat} (hc : cB c j = false) : numL c j N = numL c (j + 1) N := by
  unfold numL
  apply List.map_congr_left
  intro i _
  by_cases h2 : cB c i = true
  · have hij : i ≠ j := fun e => by rw [e, hc] at h2; cases h2
    by_cases h3 : i < j
    · rw [if_pos ⟨h3, h2⟩, if_pos ⟨by omega, h2⟩]
    · rw [if_neg (fun h => h3 h.1), if_neg (fun h => by have := h.1; omega)]
  · rw [if_neg (fun h => h2 h.2), if_neg (fun h => h2 h.2)]
theorem numC_succ (c : List Bool) (j : Nat) : numC c (j + 1) = numC c j + if cB c j = true then 1 else 0 := cnt_succ _ _
theorem numC_le (c : List Bool) (j : Nat) : numC c j ≤ j := by unfold numC; exact Nat.le_trans List.countP_le_length (by simp)
end Tier
namespace Go.Proofs.YtnbopmlemddakaaDoor
open Go.RowKit Tier
/-- The program that grows; what lay there before it. -/
structure TP (w5 wr : World) (A : Option Addr) (cap : Nat) (ps : List Fnc) (vs : List Value) : Prop where
  blk : wr.heap[w5.heap.size]? = some (.cells #[.slice A ps.length cap] 25 (0, 0))
  prog : ProgV wr (w5.heap.size + 1) (.slice A ps.length cap) ps vs
  below : Below w5.heap.size w5 wr
/-- The function that grows; what lay there before it. -/
structure TG (w6 wr : World) (params regs : Int) (A : Option Addr) (cap : Nat) (l : List Ins) : Prop where
  blk : wr.heap[w6.heap.size]? = some (.cells #[.int .i64 params, .int .i64 regs, .slice A l.length cap] 36 (0, 0))
  own : wr.ownsRow (w6.heap.size + 1) 62 5 (.slice A l.length cap) l.length (codeCells l)
  below : Below w6.heap.size w6 wr
section
variable {w5 w6 wr w' : World} {A : Option Addr} {cap : Nat} {ps : List Fnc} {vs : List Value} {params regs : Int} {l : List Ins}
theorem TP.lt (h : TP w5 wr A cap ps vs) : w5.heap.size < wr.heap.size := (Array.getElem?_eq_some_iff.1 h.blk).1
theorem TG.lt (h : TG w6 wr params regs A cap l) : w6.heap.size < wr.heap.size := (Array.getElem?_eq_some_iff.1 h.blk).1
theorem TP.keeps (h : TP w5 wr A cap ps vs) (hb : Below wr.heap.size wr w') : TP w5 w' A cap ps vs :=
  ⟨(hb.block _ h.lt).trans h.blk, h.prog.keeps hb, h.below.trans (hb.mono h.below.size)⟩
theorem TG.keeps (h : TG w6 wr params regs A cap l) (hb : Below wr.heap.size wr w') : TG w6 w' params regs A cap l :=
  ⟨(hb.block _ h.lt).trans h.blk, own_below h.own hb, h.below.trans (hb.mono h.below.size)⟩
theorem TP.start (w : World) : TP w (w.alloc (.cells #[.slice none 0 0] 25)) none 0 [] [] :=
  ⟨heap_alloc_new _ _, ⟨rfl, World.ownsRow_nil _ _ _ _, fun i u f h => by simp at h⟩, (Below.refl _ _).alloc (Nat.le_refl _) _⟩
theorem TG.start (w : World) (params regs : Int) : TG w (w.alloc (.cells #[.int .i64 params, .int .i64 regs, .slice none 0 0] 36)) params regs none 0 [] :=
  ⟨heap_alloc_new _ _, World.ownsRow_nil _ _ _ _, (Below.refl _ _).alloc (Nat.le_refl _) _⟩
theorem TP.mid (h : TP w5 wr A cap ps vs) (o : Obj) {w1 : World} (hg : (wr.alloc o).grownBy w1 (Value.slice A ps.length cap).ownBlock) : w1.heap[w5.heap.size]? = some (.cells #[.slice A ps.length cap] 25 (0, 0)) := by
  have hs := h.lt
  rw [hg.block _ (by simp; omega) (fun e => by have := (World.ownsRow.lt h.prog.own _ e.symm).1; omega), Below.heap_alloc _ _ _ (by omega)]
  exact h.blk
theorem TG.mid (h : TG w6 wr params regs A cap l) (o : Obj) {w1 : World} (hg : (wr.alloc o).grownBy w1 (Value.slice A l.length cap).ownBlock) : w1.heap[w6.heap.size]? = some (.cells #[.int .i64 params, .int .i64 regs, .slice A l.length cap] 36 (0, 0)) := by
  have hs := h.lt
  rw [hg.block _ (by simp; omega) (fun e => by have := (World.ownsRow.lt h.own _ e.symm).1; omega), Below.heap_alloc _ _ _ (by omega)]
  exact h.blk
theorem TG.app (h : TG w6 wr params regs A cap l) (x : Ins) {w1 : World} {A' : Option Addr} {cap' : Nat}
    (hg : (wr.alloc (.cells x.cells.toArray 62)).grownBy w1 (Value.slice A l.length cap).ownBlock)
    (ho : w1.ownsRow (w6.heap.size + 1) 62 5 (.slice A' (l.length + 1) cap') (l.length + 1) (codeCells l ++ x.cells)) :
    TG w6 (w1.setCell ⟨w6.heap.size, 2, none⟩ (.slice A' (l.length + 1) cap')) params regs A' cap' (l ++ [x]) := by
  have hs := h.lt
  have hrow : ∀ k, (Value.slice A l.length cap).ownBlock = some k → w6.heap.size + 1 ≤ k := fun k hk => (World.ownsRow.lt h.own k hk).1
  have hblk : ∀ k, k ≤ w6.heap.size → w1.heap[k]? = wr.heap[k]? := fun k hk => by
    rw [hg.block k (by simp; omega) (fun e => by have := hrow k e.symm; omega)]
    exact Below.heap_alloc _ _ _ (by omega)
  have hb1 : Below wr.heap.size wr (wr.alloc (.cells x.cells.toArray 62)) := (Below.refl _ _).alloc (Nat.le_refl _) _
  have hlen : (l ++ [x]).length = l.length + 1 := by simp
  refine ⟨?_, ?_, ?_⟩
  · have h2 : w1.heap[w6.heap.size]? = _ := (hblk _ (Nat.le_refl _)).trans h.blk
    simp only [World.setCell, Array.getElem?_modify, if_true, h2, Option.map_some]
    rw [hlen]; simp
  · rw [codeCells_snoc, hlen]
    exact ownsRow_setCell_below ho (by simp) _
  · refine Below.setCell ?_ (by simp) _
    refine (h.below.trans (hb1.mono h.below.size)).grown hg (by simp; omega) (fun k hk => by have := hrow k hk; omega)
theorem TP.app (h : TP w5 wr A cap ps vs) (f : Fnc) (u : Value) (o : Obj) {w1 : World} {A' : Option Addr} {cap' : Nat} (hu : wr.ownsRow (w5.heap.size + 1) 62 5 u f.code.length (codeCells f.code))
    (hg : (wr.alloc o).grownBy w1 (Value.slice A ps.length cap).ownBlock)
    (ho : w1.ownsRow (w5.heap.size + 1) 36 3 (.slice A' (ps.length + 1) cap') (ps.length + 1) (fnCells ps vs ++ [.int .i64 f.params, .int .i64 f.regs, u])) :
    TP w5 (w1.setCell ⟨w5.heap.size, 0, none⟩ (.slice A' (ps.length + 1) cap')) A' cap' (ps ++ [f]) (vs ++ [u]) := by
  have hs := h.lt
  have hrow : ∀ k, (Value.slice A ps.length cap).ownBlock = some k → w5.heap.size + 1 ≤ k := fun k hk => (World.ownsRow.lt h.prog.own k hk).1
  have hblk : ∀ k, k ≤ w5.heap.size → w1.heap[k]? = wr.heap[k]? := fun k hk => by
    rw [hg.block k (by simp; omega) (fun e => by have := hrow k e.symm; omega)]
    exact Below.heap_alloc _ _ _ (by omega)
  have hb1 : Below wr.heap.size wr (wr.alloc o) := (Below.refl _ _).alloc (Nat.le_refl _) _
  have hlen : (ps ++ [f]).length = ps.length + 1 := by simp
  refine ⟨?_, ?_, ?_⟩
  · have h2 : w1.heap[w5.heap.size]? = _ := (hblk _ (Nat.le_refl _)).trans h.blk
    simp only [World.setCell, Array.getElem?_modify, if_true, h2, Option.map_some]
    rw [hlen]; simp
  · rw [hlen]
    exact (h.prog.app f u o hu hg ho).setCell (by simp) _
  · refine Below.setCell ?_ (by simp) _
    refine (h.below.trans (hb1.mono h.below.size)).grown hg (by simp; omega) (fun k hk => by have := hrow k hk; omega)
end
/-- What comes back: the trimmed program, in memory from the block B on. -/
def Trimmed (p : List Fnc) (B : Nat) (e : Ending) (w' : World) : Prop := ∃ c A' cap' vs, e = .returned (.tuple #[.agg #[.slice A' (trimP p c).length cap'], .int .i64 0]) ∧ Cld p c ∧ ProgV w' B (.slice A' (trimP p c).length cap') (trimP p c) vs
theorem heap_two (w : World) (o1 o2 : Obj) : ((w.alloc o1).alloc o2).heap[w.heap.size]? = some o1 ∧ ((w.alloc o1).alloc o2).heap[w.heap.size + 1]? = some o2 :=
  ⟨by rw [Below.heap_alloc _ _ _ (by simp)]; exact heap_alloc_new _ _, by have := heap_alloc_new (w.alloc o1) o2; simpa using this⟩
set_option maxRecDepth 100000 in
set_option maxHeartbeats 8000000 in
theorem tprog_any (p : List Fnc) (A : Option Addr) (cap : Nat) (w : World) (ht : Tab w) (hp : ProgAt w (.slice A p.length cap) p) (hk : checkP p = 0) :
    Calls Tryd.prog 24 #[.agg #[.slice A p.length cap]] w fun e w' =>
      Trimmed p w.heap.size e w' ∧ Below w.heap.size w w' := by
  have hR := right_of hk
  have hE : progE p = 0 := by
    unfold checkP at hk
    by_cases hE : progE p = 0
    · exact hE
    · rw [if_pos hE] at hk; exact absurd hk hE
  have l1 := hR.ok.l1
  have l2 := hR.ok.l2
  obtain ⟨A0, cap0, hA0, hA⟩ := hp.slice
  simp only [Value.slice.injEq, true_and] at hA0
  obtain ⟨g, hAg, hg, hfn⟩ := hA (by omega)
  obtain ⟨rfl, rfl⟩ := hA0
  subst hAg
  have HFN := Lib.hid hfn
  have HPC := Lib.hid (fun (W : World) (h1 : Tab W) (h2 : ProgAt W (.slice (some ⟨g, 0, none⟩) p.length cap) p) => pcheck_any p (some ⟨g, 0, none⟩) cap W h1 h2 (by omega) (fun f hf => by have := (hR.ok.fn f hf).c2; omega))
  rw [hk] at HPC
  have HWH := Lib.hid (fun (W : World) (h1 : Tab W) (h2 : ProgAt W (.slice (some ⟨g, 0, none⟩) p.length cap) p) (k : Nat) (F : Fnc) (hF : p[k]? = some F) => where_any p (some ⟨g, 0, none⟩) cap k F W h1 h2 hE hF)
  have HCA := Lib.hid (fun (W : World) (h1 : Tab W) (h2 : ProgAt W (.slice (some ⟨g, 0, none⟩) p.length cap) p) => calls_any p (some ⟨g, 0, none⟩) cap W h1 h2 hk)
  have HT := Lib.hid ht
  have HP := Lib.hid hp
  have HR := Lib.hid hR
  obtain ⟨i0, hi, hz0, hz1, hz2⟩ := info_parts infoIns
  obtain ⟨f0, fi, fz0, fz1, fz2⟩ := info_parts infoFn
  clear hA hfn hp ht hR hE hk
  obtain ⟨N, hN⟩ : ∃ N, p.length = N := ⟨_, rfl⟩
  have HN := Lib.hid hN
  have hmk := make_intsN N (by omega)
  rw [hN] at l1 l2 HP HWH HCA HPC ⊢
  clear hN
  go_enter Tryd.func24, Tryd.ntmps24
  go_wp2_with (first | (go_at_call 27; go_must (refine (HPC.out _ ((HT.out.alloc _).alloc _) (HP.out.keeps (((Below.refl w.heap.size w).alloc (Nat.le_refl _) _).alloc (by simp) _))).mono ?_; rintro e w1 ⟨rfl, hb⟩; have HB1 := Lib.hid ((((Below.refl w.heap.size w).alloc (Nat.le_refl _) (.cells #[.slice (some ⟨g, 0, none⟩) N cap] 25)).alloc (by simp) (.cells #[.slice none 0 0] 25)).trans (hb.mono (by simp; omega))); have HBX := Lib.hid ((hb.block w.heap.size (by simp; omega)).trans (heap_two w _ _).1); have HRS := Lib.hid ((hb.block (w.heap.size + 1) (by simp)).trans (heap_two w _ _).2); have q0 := cell_block HBX.out; have z0 := block_lt HBX.out; clear hb)) | (go_at_call 43; go_must (refine (HCA.out _ (HT.out.keeps HB1.out) (HP.out.keeps HB1.out)).mono ?_; rintro e w2 ⟨⟨cb, c, rfl, hcb, hBB, hCl⟩, hb⟩; have HB2 := Lib.hid (HB1.out.trans (hb.mono HB1.out.size)); have HBX2 := Lib.hid ((hb.block _ (block_lt HBX.out)).trans HBX.out); have HRS2 := Lib.hid ((hb.block _ (block_lt HRS.out)).trans HRS.out); have HBB := Lib.hid hBB; have HCL := Lib.hid hCl; have HCB := Lib.hid (show w.heap.size + 2 ≤ cb by have h1 := block_lt HRS.out; omega); have q2 := cell_block HBX2.out; have z2 := block_lt HBX2.out; clear hb hcb hBB hCl q0 z0)))
  obtain ⟨w3, hw3⟩ : ∃ w3, w2.alloc (.cells (madeCells #[.int .i64 0] N) 3) = w3 := ⟨_, rfl⟩
  have HO3 := Lib.hid (show IntsB w3 w2.heap.size (numL c 0 N) from by rw [numL_zero]; exact hw3 ▸ made_ints w2 N)
  have HB23 := Lib.hid (show Below w2.heap.size w2 w3 from hw3 ▸ (Below.refl _ _).alloc (Nat.le_refl _) _)
  rw [hw3]
  clear hw3 hmk q2 z2
  go_loopw [7, 31] (fun vn vi wr => ∃ j : Nat, j ≤ N ∧ vi = .int .i64 (j : Int) ∧ vn = .int .i64 (numC c j : Int) ∧ Below w2.heap.size w2 wr ∧ IntsB wr w2.heap.size (numL c j N)) (fun _ vi _ => N - (intOf vi).toNat)
  case atStart => exact ⟨0, by omega, rfl, rfl, HB23.out, HO3.out⟩
  case round =>
    obtain ⟨j, hj, rfl, rfl, hbj, hIj⟩ := hrel
    have HBJ := Lib.hid hbj
    have HIJ := Lib.hid hIj
    clear HO3 HB23
    by_cases hjN : j = N
    · obtain rfl : N = j := hjN.symm
      obtain ⟨w5, hw5⟩ : ∃ w5, w5 = wr := ⟨_, rfl⟩
      subst hw5
      have HBX5 := Lib.hid ((hbj.block _ (block_lt HBX2.out)).trans HBX2.out)
      have HRS5 := Lib.hid ((hbj.block _ (block_lt HRS2.out)).trans HRS2.out)
      have HBB5 := Lib.hid (HBB.out.keeps hbj)
      have HB5 := Lib.hid (HB2.out.trans (hbj.mono HB2.out.size))
      have q5 := cell_block HBX5.out
      have z5 := block_lt HBX5.out
      have z5r := block_lt HRS5.out
      have HTP0 := Lib.hid (TP.start w5)
      clear hbj hIj hj
      have z5p : w5.heap.size + 1 ≤ (w5.alloc (.cells #[.slice none 0 0] 25)).heap.size := by simp
      go_wp2_with fail
      clear q5 z5 z5r z5p
      go_loopw [47] (fun vi wr => ∃ (i : Nat) (A1 : Option Addr) (cap1 : Nat) (ps : List Fnc) (vs : List Value), i ≤ N ∧ vi = .int .i64 (i : Int) ∧ ps = trimPTo p c i ∧ TP w5 wr A1 cap1 ps vs) (fun vi _ => N - (intOf vi).toNat)
      case atStart => exact ⟨0, none, 0, [], [], by omega, rfl, rfl, HTP0.out⟩
      case round =>
        obtain ⟨i, A1, cap1, ps, vs, hin, rfl, hps, hTP⟩ := hrel
        obtain ⟨wo, hwo⟩ : ∃ wo : World, wo = wr := ⟨_, rfl⟩
        subst hwo
        clear HTP0
        have HPS := Lib.hid hps
        have HTP := Lib.hid hTP
        have z5 : w.heap.size + 1 < wo.heap.size := Nat.lt_of_lt_of_le (block_lt HRS5.out) hTP.below.size
        have z0 : w.heap.size < wo.heap.size := by omega
        have hblk := cell_block hTP.blk
        have zblk := hTP.lt
        clear hps
        by_cases hiN : i = N
        · obtain rfl : N = i := hiN.symm
          have HPF := Lib.hid (show ps = trimP p c by rw [HPS.out, ← HN.out]; rfl)
          have hrs := cell_block ((hTP.below.block _ (block_lt HRS5.out)).trans HRS5.out)
          have hfz := frozen_block ((hTP.below.block _ (block_lt HRS5.out)).trans HRS5.out)
          clear hTP
          go_wp2_with fail
          refine bodyPost_ret (v := .tuple #[.agg #[.slice A1 ps.length cap1], .int .i64 0]) (by simp [results, Tryd.results24, go_sem, hrs]) rfl ⟨⟨c, A1, cap1, vs, ?_, HCL.out, ?_⟩, ?_⟩
          · rw [← HPF.out]
          · rw [← HPF.out]
            have h1 := block_lt HRS5.out
            exact (HTP.out.prog.setCell (by show w.heap.size + 1 < w5.heap.size + 1; omega) _).base (by have := HB5.out.size; omega)
          · exact (HB5.out.trans (HTP.out.below.mono HB5.out.size)).setCell (by simp) _
        · have hi1 : (i : Int) < N := by omega
          have hi0 : (0 : Int) ≤ i := by omega
          have hB := hTP.below
          have HB5R := Lib.hid (HB5.out.trans (hB.mono HB5.out.size))
          have cbi := ((HBB5.out.keeps hB).cell (i := i) (by rw [HCL.out.len, HN.out]; omega))
          have zcb := (HBB5.out.keeps hB).lt
          obtain ⟨F, hF⟩ : ∃ F, p[i]? = some F := ⟨_, List.getElem?_eq_getElem (by rw [HN.out]; omega)⟩
          have hfo := HR.out.ok.fn F (List.mem_of_getElem? hF)
          obtain ⟨M, hM⟩ : ∃ M, F.code.length = M := ⟨_, rfl⟩
          obtain ⟨u, hu, d0, d1, d2⟩ := HFN.out i F hF
          obtain ⟨FA, fcap, rfl, hFA⟩ := hu.slice
          obtain ⟨gc, hgc, hgcl, hins⟩ := hFA (by have := hfo.c1; omega)
          subst hgc
          rw [hM] at d2
          rw [← HB5R.out.cell (p := ⟨g, _, none⟩) hg] at d0 d1 d2
          have hgr : g < wo.heap.size := Nat.lt_of_lt_of_le hg HB5R.out.size
          have q0 := cell_block ((hB.block _ (block_lt HBX5.out)).trans HBX5.out)
          have HINS := Lib.hid hins
          have HF := Lib.hid hF
          have HM := Lib.hid hM
          have HFO := Lib.hid hfo
          have HTS := Lib.hid (trimPTo_succ p c i)
          clear hins hF hM hfo hu hFA hTP hB
          cases hc : cB c i with
          | false =>
            rw [hc] at cbi
            have HC := Lib.hid hc
            clear hc
            go_wp2_with fail
            go_roundw
            case rel => exact ⟨i + 1, A1, cap1, ps, vs, by omega, by go_num, by rw [HTS.out, HC.out, HPS.out]; simp, HTP.out.keeps ((Below.refl _ _).alloc (Nat.le_refl _) _)⟩
            case measure => simp [intOf]; omega
          | true =>
            rw [hc] at cbi
            have HC := Lib.hid hc
            clear hc
            obtain ⟨w7, hw7⟩ : ∃ W, wo.alloc (.cells #[.int .i64 F.params, .int .i64 F.regs, .slice (some ⟨gc, 0, none⟩) M fcap] 36) = W := ⟨_, rfl⟩
            have HB7 : Hid (Below wo.heap.size wo w7) := Lib.hid (hw7 ▸ (Below.refl _ _).alloc (Nat.le_refl _) _)
            have HFB : Hid (w7.heap[wo.heap.size]? = some (.cells #[.int .i64 F.params, .int .i64 F.regs, .slice (some ⟨gc, 0, none⟩) M fcap] 36 (0, 0))) := Lib.hid (hw7 ▸ heap_alloc_new wo _)
            have HW7 := Lib.hid hw7
            clear hw7
            go_wp2_with (first | (go_at_call 40; go_must (rw [HW7.out]; refine (HWH.out _ (HT.out.keeps (HB5R.out.trans (HB7.out.mono HB5R.out.size))) (HP.out.keeps (HB5R.out.trans (HB7.out.mono HB5R.out.size))) i F HF.out).mono ?_; rintro e w8 ⟨⟨ab, rfl, hab, hIA⟩, hb8⟩; have HIA := Lib.hid hIA; have HAB := Lib.hid hab; have HFB8 := Lib.hid ((hb8.block _ (block_lt HFB.out)).trans HFB.out); have HB8 := Lib.hid (HB7.out.trans (hb8.mono HB7.out.size)); have k8 := cell_block HFB8.out; have y8 := block_lt HFB8.out; clear hab hIA hb8)))
            have HTG0 := Lib.hid (TG.start w8 F.params F.regs)
            have HN8 := Lib.hid ((HIJ.out.keeps HTP.out.below).keeps HB8.out)
            have HB58 := Lib.hid (HB5R.out.trans (HB8.out.mono HB5R.out.size))
            rw [HM.out]
            clear k8 y8 cbi zcb d0 d1 d2 hgr q0 hblk zblk z5 z0
            go_loopw [68] (fun vi wq => ∃ (j : Nat) (A2 : Option Addr) (cap2 : Nat) (l : List Ins), j ≤ M ∧ vi = .int .i64 (j : Int) ∧ l = trimTo F c j ∧ TG w8 wq F.params F.regs A2 cap2 l) (fun vi _ => M - (intOf vi).toNat)
            case atStart => exact ⟨0, none, 0, [], by omega, rfl, rfl, HTG0.out⟩
            case round =>
              obtain ⟨j, A2, cap2, l, hj, rfl, hl, hTG⟩ := hrel
              clear HTG0
              have HL := Lib.hid hl
              have HTG := Lib.hid hTG
              have hM40 : M ≤ 40 := by have h3 := HFO.out.c2; have h4 := HM.out; omega
              have hll : l.length ≤ 40 := by have h1 := trimTo_length F c j; have h2 := posF_le F j; have h3 := HFO.out.c2; have h4 := HM.out; rw [← hl] at h1; omega
              have hpl : ps.length ≤ 4 := by have h1 := trimPTo_length p c i; have h2 := numC_le c i; rw [← HPS.out] at h1; omega
              have zg := hTG.lt
              have kg := cell_block hTG.blk
              have fg := frozen_block hTG.blk
              have hB8 := hTG.below
              have HB58R := Lib.hid (HB58.out.trans (hB8.mono HB58.out.size))
              have HTPR := Lib.hid (HTP.out.keeps (HB8.out.trans (hB8.mono HB8.out.size)))
              clear hl
              by_cases hjM : j = M
              · obtain rfl : M = j := hjM.symm
                have kp := cell_block HTPR.out.blk
                have fp := frozen_block HTPR.out.blk
                have zp := HTPR.out.lt
                have HLF := Lib.hid (show (⟨F.params, F.regs, l⟩ : Fnc) = trimF F c by rw [HL.out, ← HM.out]; rfl)
                clear hTG hB8
                go_wp2_with (first | (at_builtin; go_must (refine wpList_append_own _ rfl _ _ 23 rfl (w5.heap.size + 1) 36 f0 _ 3 40 Tryd.underlying23 fi fz0 fz1 fz2 rfl (by decide) (.slice A1 ps.length cap1) ps.length (fnCells ps vs) rfl (own_below HTPR.out.prog.own ((Below.refl _ _).alloc (Nat.le_refl _) _)) ⟨wr.heap.size, 0, none⟩ 1 1 [.int .i64 F.params, .int .i64 F.regs, .slice A2 l.length cap2] rfl rfl (World.news_of_block (cs := #[.int .i64 F.params, .int .i64 F.regs, .slice A2 l.length cap2]) (t := 36) (fr := (0, 0)) (heap_alloc_new _ _)) (by simp [Value.oneCell']) (by unfold maxLen; omega) (by omega) (by simp; omega) ?_); intro v9 w9 hown9 hg9 _; obtain ⟨A3, cap3, hv3, -⟩ := own_slice hown9; rw [hv3] at hown9; rw [hv3]; have mid := HTPR.out.mid _ hg9; have HTP9 := Lib.hid (HTPR.out.app ⟨F.params, F.regs, l⟩ (.slice A2 l.length cap2) _ (own_base HTG.out.own (by have h1 := HB8.out.size; have h2 := HTP.out.below.size; omega)) hg9 hown9); have u9 := cell_block mid; have g9 := frozen_block mid; have y9 := block_lt mid; clear mid hown9 hg9))
                go_roundw
                case rel => exact ⟨i + 1, A3, cap3, ps ++ [⟨F.params, F.regs, l⟩], vs ++ [.slice A2 l.length cap2], by omega, by go_num, by rw [HTS.out, HC.out, HPS.out, HLF.out, fncAt_eq HF.out]; simp, HTP9.out⟩
                case measure => simp [intOf]; omega
              · have hj1 : (j : Int) < M := by omega
                have hj2 : (0 : Int) ≤ j := by omega
                obtain ⟨x, hx⟩ : ∃ x, F.code[j]? = some x := ⟨_, List.getElem?_eq_getElem (by rw [HM.out]; omega)⟩
                have HXX := Lib.hid hx
                obtain ⟨e0, e1, e2, e3, e4⟩ := HINS.out j x hx
                rw [← HB58R.out.cell (p := ⟨gc, _, none⟩) hgcl] at e0 e1 e2 e3 e4
                have hgcr : gc < wr.heap.size := Nat.lt_of_lt_of_le hgcl HB58R.out.size
                have HIAR := Lib.hid (HIA.out.keeps hB8)
                have HNR := Lib.hid (HN8.out.keeps hB8)
                have zab := HIAR.out.lt
                have znb := HNR.out.lt
                have cr := HIAR.out.cell (outL_get (whF_get F (pc := j) (by rw [HM.out]; omega)))
                have HLS := Lib.hid (trimTo_succ F c j)
                have hio := HFO.out.ins x (List.mem_of_getElem? hx)
                have hjp := hio.jump
                have hcl := hio.call
                rw [HM.out] at hjp
                rw [HN.out] at hcl
                clear hTG hB8 hio
                cases hr : rchB F j with
                | false =>
                  rw [hr] at cr
                  have hoi : oI (if false = true then some (posF F j) else none) = -1 := rfl
                  rw [hoi] at cr
                  have HRC := Lib.hid hr
                  clear hr hx hoi hjp hcl
                  go_wp2_with fail
                  go_roundw
                  case rel => exact ⟨j + 1, A2, cap2, l, by omega, by go_num, by rw [HLS.out, HRC.out, HL.out]; simp, HTG.out.keeps ((Below.refl _ _).alloc (Nat.le_refl _) _)⟩
                  case measure => simp [intOf]; omega
                | true =>
                  rw [hr] at cr
                  have hoi : oI (if true = true then some (posF F j) else none) = (posF F j : Int) := rfl
                  rw [hoi] at cr
                  have HRC := Lib.hid hr
                  have hp0 : ¬ ((posF F j : Int) < 0) := by omega
                  have HLS2 := Lib.hid (show trimTo F c (j + 1) = trimTo F c j ++ [trimI F c x] by rw [HLS.out, hr, insAt_eq hx]; rfl)
                  clear hr hoi hx
                  by_cases ho : x.op = 15 ∨ x.op = 16
                  · obtain ⟨c1, c2⟩ := hjp ho
                    obtain ⟨k, hk⟩ : ∃ k : Nat, x.imm = k := ⟨x.imm.toNat, by omega⟩
                    have hkM : k < M := by omega
                    have hr2 : rchB F k = true := by
                      have hn : k ∈ nextL x j := by
                        unfold nextL
                        rcases ho with h | h
                        · rw [if_neg (by omega), if_pos h, hk]; simp
                        · rw [if_neg (by omega), if_neg (by omega), if_pos h, hk]; simp
                      exact (HR.out.nextR (List.mem_of_getElem? HF.out) HRC.out HXX.out hn).2
                    have ct := HIAR.out.cell (outL_get (whF_get F (pc := k) (by rw [HM.out]; omega)))
                    rw [hr2] at ct
                    have hoi : oI (if true = true then some (posF F k) else none) = (posF F k : Int) := rfl
                    rw [hoi] at ct
                    have HTI := Lib.hid (show trimI F c x = ⟨x.op, x.dst, x.a, x.b, (posF F k : Int)⟩ by unfold trimI; rw [if_pos ho, hk, Int.toNat_natCast])
                    rw [hk] at e4
                    have HO := Lib.hid ho
                    clear hoi hr2 hcl hjp c1 c2 hk ho
                    by_cases h15 : x.op = 15
                    · have e0' := e0.trans (congrArg (fun z => some (Value.int .i64 z)) h15)
                      replace HTI := Lib.hid (show trimI F c x = ⟨15, x.dst, x.a, x.b, (posF F k : Int)⟩ by rw [HTI.out, h15])
                      clear e0 h15
                      go_wp2_with (first | (at_builtin; go_must (have HTY := Lib.hid (HTG.out.keeps ((Below.refl wr.heap.size wr).alloc (Nat.le_refl _) (.cells #[.int .i64 15, .int .i64 x.dst, .int .i64 x.a, .int .i64 x.b, .int .i64 (posF F k : Int)] 62))); refine wpList_append_own _ rfl _ _ 34 rfl (w8.heap.size + 1) 62 i0 _ 5 40 Tryd.underlying34 hi hz0 hz1 hz2 rfl (by decide) (.slice A2 l.length cap2) l.length (codeCells l) rfl (own_below HTY.out.own ((Below.refl _ _).alloc (Nat.le_refl _) _)) ⟨wr.heap.size + 1, 0, none⟩ 1 1 [.int .i64 15, .int .i64 x.dst, .int .i64 x.a, .int .i64 x.b, .int .i64 (posF F k : Int)] rfl rfl (World.news_of_block (cs := #[.int .i64 15, .int .i64 x.dst, .int .i64 x.a, .int .i64 x.b, .int .i64 (posF F k : Int)]) (t := 62) (fr := (0, 0)) (heap_two wr _ _).2) (by simp [Value.oneCell']) (by unfold maxLen; omega) (by omega) (by simp; omega) ?_); intro v9 w9 hown9 hg9 _; obtain ⟨A3, cap3, hv3, -⟩ := own_slice hown9; rw [hv3] at hown9; rw [hv3]; have mid := HTY.out.mid _ hg9; have HTG9 := Lib.hid (HTY.out.app ⟨15, x.dst, x.a, x.b, (posF F k : Int)⟩ hg9 hown9); have u9 := cell_block mid; have g9 := frozen_block mid; have y9 := block_lt mid; clear mid hown9 hg9))
                      go_roundw
                      case rel => exact ⟨j + 1, A3, cap3, l ++ [trimI F c x], by omega, by go_num, by rw [HLS2.out, HL.out], by rw [HTI.out]; exact HTG9.out⟩
                      case measure => simp [intOf]; omega
                    · have h16 : x.op = 16 := by have := HO.out; omega
                      have e0' := e0.trans (congrArg (fun z => some (Value.int .i64 z)) h16)
                      replace HTI := Lib.hid (show trimI F c x = ⟨16, x.dst, x.a, x.b, (posF F k : Int)⟩ by rw [HTI.out, h16])
                      clear e0 h15 h16
                      go_wp2_with (first | (at_builtin; go_must (have HTY := Lib.hid (HTG.out.keeps ((Below.refl wr.heap.size wr).alloc (Nat.le_refl _) (.cells #[.int .i64 16, .int .i64 x.dst, .int .i64 x.a, .int .i64 x.b, .int .i64 (posF F k : Int)] 62))); refine wpList_append_own _ rfl _ _ 34 rfl (w8.heap.size + 1) 62 i0 _ 5 40 Tryd.underlying34 hi hz0 hz1 hz2 rfl (by decide) (.slice A2 l.length cap2) l.length (codeCells l) rfl (own_below HTY.out.own ((Below.refl _ _).alloc (Nat.le_refl _) _)) ⟨wr.heap.size + 1, 0, none⟩ 1 1 [.int .i64 16, .int .i64 x.dst, .int .i64 x.a, .int .i64 x.b, .int .i64 (posF F k : Int)] rfl rfl (World.news_of_block (cs := #[.int .i64 16, .int .i64 x.dst, .int .i64 x.a, .int .i64 x.b, .int .i64 (posF F k : Int)]) (t := 62) (fr := (0, 0)) (heap_two wr _ _).2) (by simp [Value.oneCell']) (by unfold maxLen; omega) (by omega) (by simp; omega) ?_); intro v9 w9 hown9 hg9 _; obtain ⟨A3, cap3, hv3, -⟩ := own_slice hown9; rw [hv3] at hown9; rw [hv3]; have mid := HTY.out.mid _ hg9; have HTG9 := Lib.hid (HTY.out.app ⟨16, x.dst, x.a, x.b, (posF F k : Int)⟩ hg9 hown9); have u9 := cell_block mid; have g9 := frozen_block mid; have y9 := block_lt mid; clear mid hown9 hg9))
                      go_roundw
                      case rel => exact ⟨j + 1, A3, cap3, l ++ [trimI F c x], by omega, by go_num, by rw [HLS2.out, HL.out], by rw [HTI.out]; exact HTG9.out⟩
                      case measure => simp [intOf]; omega
                  · by_cases ho2 : x.op = 17
                    · obtain ⟨c1, c2⟩ := hcl ho2
                      obtain ⟨k, hk⟩ : ∃ k : Nat, x.imm = k := ⟨x.imm.toNat, by omega⟩
                      have hkN : k < N := by omega
                      have hck : cB c k = true := by have h1 := (HCL.out.calls HR.out HC.out HF.out HRC.out HXX.out ho2).2; rw [hk] at h1; simpa using h1
                      have ct := HNR.out.cell (numL_get (c := c) (j := N) hkN)
                      have hoi : (if k < N ∧ cB c k = true then (numC c k : Int) else 0) = (numC c k : Int) := if_pos ⟨hkN, hck⟩
                      rw [hoi] at ct
                      have HTI := Lib.hid (show trimI F c x = ⟨17, x.dst, x.a, x.b, (numC c k : Int)⟩ by unfold trimI; rw [if_neg ho, if_pos ho2, hk, Int.toNat_natCast, ho2])
                      rw [hk] at e4
                      rw [ho2] at e0
                      clear hoi hck hcl hjp c1 c2 hk ho ho2
                      go_wp2_with (first | (at_builtin; go_must (have HTY := Lib.hid (HTG.out.keeps ((Below.refl wr.heap.size wr).alloc (Nat.le_refl _) (.cells #[.int .i64 17, .int .i64 x.dst, .int .i64 x.a, .int .i64 x.b, .int .i64 (numC c k : Int)] 62))); refine wpList_append_own _ rfl _ _ 34 rfl (w8.heap.size + 1) 62 i0 _ 5 40 Tryd.underlying34 hi hz0 hz1 hz2 rfl (by decide) (.slice A2 l.length cap2) l.length (codeCells l) rfl (own_below HTY.out.own ((Below.refl _ _).alloc (Nat.le_refl _) _)) ⟨wr.heap.size + 1, 0, none⟩ 1 1 [.int .i64 17, .int .i64 x.dst, .int .i64 x.a, .int .i64 x.b, .int .i64 (numC c k : Int)] rfl rfl (World.news_of_block (cs := #[.int .i64 17, .int .i64 x.dst, .int .i64 x.a, .int .i64 x.b, .int .i64 (numC c k : Int)]) (t := 62) (fr := (0, 0)) (heap_two wr _ _).2) (by simp [Value.oneCell']) (by unfold maxLen; omega) (by omega) (by simp; omega) ?_); intro v9 w9 hown9 hg9 _; obtain ⟨A3, cap3, hv3, -⟩ := own_slice hown9; rw [hv3] at hown9; rw [hv3]; have mid := HTY.out.mid _ hg9; have HTG9 := Lib.hid (HTY.out.app ⟨17, x.dst, x.a, x.b, (numC c k : Int)⟩ hg9 hown9); have u9 := cell_block mid; have g9 := frozen_block mid; have y9 := block_lt mid; clear mid hown9 hg9))
                      go_roundw
                      case rel => exact ⟨j + 1, A3, cap3, l ++ [trimI F c x], by omega, by go_num, by rw [HLS2.out, HL.out], by rw [HTI.out]; exact HTG9.out⟩
                      case measure => simp [intOf]; omega
                    · have HTI := Lib.hid (show trimI F c x = x from trimI_else (by omega) (by omega) ho2)
                      have hn1 : (x.op == 15) = false := by simp; omega
                      have hn2 : (x.op == 16) = false := by simp; omega
                      have hn3 : (x.op == 17) = false := by simpa using ho2
                      clear ho ho2 hjp hcl
                      go_wp2_with (first | (at_builtin; go_must (have HTY := Lib.hid (HTG.out.keeps ((Below.refl wr.heap.size wr).alloc (Nat.le_refl _) (.cells #[.int .i64 x.op, .int .i64 x.dst, .int .i64 x.a, .int .i64 x.b, .int .i64 x.imm] 62))); refine wpList_append_own _ rfl _ _ 34 rfl (w8.heap.size + 1) 62 i0 _ 5 40 Tryd.underlying34 hi hz0 hz1 hz2 rfl (by decide) (.slice A2 l.length cap2) l.length (codeCells l) rfl (own_below HTY.out.own ((Below.refl _ _).alloc (Nat.le_refl _) _)) ⟨wr.heap.size + 1, 0, none⟩ 1 1 [.int .i64 x.op, .int .i64 x.dst, .int .i64 x.a, .int .i64 x.b, .int .i64 x.imm] rfl rfl (World.news_of_block (cs := #[.int .i64 x.op, .int .i64 x.dst, .int .i64 x.a, .int .i64 x.b, .int .i64 x.imm]) (t := 62) (fr := (0, 0)) (heap_two wr _ _).2) (by simp [Value.oneCell']) (by unfold maxLen; omega) (by omega) (by simp; omega) ?_); intro v9 w9 hown9 hg9 _; obtain ⟨A3, cap3, hv3, -⟩ := own_slice hown9; rw [hv3] at hown9; rw [hv3]; have mid := HTY.out.mid _ hg9; have HTG9 := Lib.hid (HTY.out.app ⟨x.op, x.dst, x.a, x.b, x.imm⟩ hg9 hown9); have u9 := cell_block mid; have g9 := frozen_block mid; have y9 := block_lt mid; clear mid hown9 hg9))
                      go_roundw
                      case rel => exact ⟨j + 1, A3, cap3, l ++ [trimI F c x], by omega, by go_num, by rw [HLS2.out, HL.out], by rw [HTI.out]; exact HTG9.out⟩
                      case measure => simp [intOf]; omega
    · have hj1 : (j : Int) < N := by omega
      have hj2 : (0 : Int) ≤ j := by omega
      have cbj := (hbj.cell (p := ⟨cb, j, none⟩) HBB.out.lt).trans (HBB.out.cell (i := j) (by rw [HCL.out.len, HN.out]; omega))
      have zcb : cb < wr.heap.size := Nat.lt_of_lt_of_le HBB.out.lt hbj.size
      have znb := hIj.lt
      have ns := numC_succ c j
      have nl := numC_le c j
      have cn := hIj.cell (numL_get (c := c) (j := j) (show j < N by omega))
      have fn := hIj.frozen j
      have e0 : (if j < j ∧ cB c j = true then (numC c j : Int) else 0) = 0 := if_neg (by omega)
      rw [e0] at cn
      clear e0 hbj
      cases hc : cB c j with
      | false =>
        rw [hc] at cbj ns
        have HNL := Lib.hid (numL_no (N := N) hc)
        simp only [Bool.false_eq_true, if_false, Nat.add_zero] at ns
        have HNS := Lib.hid ns
        clear hc ns hIj
        go_wp2_with fail
        go_roundw
        case rel => exact ⟨j + 1, by omega, by go_num, by rw [HNS.out], HBJ.out, by rw [← HNL.out]; exact HIJ.out⟩
        case measure => simp [intOf]; omega
      | true =>
        rw [hc] at cbj ns
        have HNL := Lib.hid (numL_yes (N := N) hc (by omega))
        simp only [if_true] at ns
        have HNS := Lib.hid ns
        have HST := Lib.hid (hIj.set j (numC c j : Int))
        clear hc ns hIj
        go_wp2_with fail
        go_roundw
        case rel => exact ⟨j + 1, by omega, by go_num, by rw [HNS.out]; go_num, HBJ.out.setCell (by simp) _, by rw [← HNL.out]; exact HST.out⟩
        case measure => simp [intOf]; omega
end Go.Proofs.YtnbopmlemddakaaDoor
