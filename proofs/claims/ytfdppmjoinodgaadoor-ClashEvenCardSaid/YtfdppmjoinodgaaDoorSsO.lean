/-
  Plain law: an order of blocks in which each stands behind some block that leads to it. No program is in sight.
-/
import Derived.Test.YtfdppmjoinodgaaDoorLib
import Derived.Test.YtfdppmjoinodgaaDoorSsM
namespace Tier
/-- Between two rounds: which are seen, the list. -/
structure OS where
  seen : List Bool
  l : List Nat
def ordIn (x : OS) (n : Nat) : OS := if x.seen.getD n false = true then x else ⟨x.seen.set n true, x.l ++ [n]⟩
def ordStep (nx : Nat → List Nat) (x : OS) (i : Nat) : OS := (nx (x.l.getD i 0)).foldl ordIn x
def ordTo (nx : Nat → List Nat) (N k : Nat) : OS := (List.range k).foldl (ordStep nx) ⟨(List.replicate N false).set 0 true, [0]⟩
theorem ordTo_succ (nx : Nat → List Nat) (N k : Nat) : ordTo nx N (k + 1) = ordStep nx (ordTo nx N k) k := by
  unfold ordTo
  rw [List.range_succ, List.foldl_append]; rfl
/-- What holds all along. -/
structure OInv (N : Nat) (x : OS) : Prop where
  len : x.seen.length = N
  mem : ∀ n, n ∈ x.l ↔ n < N ∧ x.seen.getD n false = true
  nodup : x.l.Nodup
  fst : ∃ t, x.l = 0 :: t
theorem getD_set_b (l : List Bool) {i : Nat} (hi : i < l.length) (j : Nat) : (l.set i true).getD j false = if j = i then true else l.getD j false := by
  rw [List.getD_eq_getElem?_getD, List.getElem?_set, List.getD_eq_getElem?_getD]
  by_cases e : i = j
  · subst e; rw [if_pos rfl, if_pos hi, if_pos rfl]; rfl
  · rw [if_neg e, if_neg (fun h => e h.symm)]
theorem OInv.start {N : Nat} (h : 0 < N) : OInv N ⟨(List.replicate N false).set 0 true, [0]⟩ := by
  refine ⟨by simp, fun n => ?_, by simp, ⟨[], rfl⟩⟩
  rw [getD_set_b _ (by simpa using h)]
  constructor
  · intro hn
    have e : n = 0 := by simpa using hn
    subst e
    exact ⟨h, by rw [if_pos rfl]⟩
  · rintro ⟨h1, h2⟩
    by_cases e : n = 0
    · subst e; simp
    · rw [if_neg e, List.getD_eq_getElem?_getD, List.getElem?_replicate, if_pos h1] at h2
      cases h2
theorem OInv.put {N : Nat} {x : OS} (h : OInv N x) {n : Nat} (hn : n < N) : OInv N (ordIn x n) := by
  unfold ordIn
  by_cases e : x.seen.getD n false = true
  · rw [if_pos e]; exact h
  · rw [if_neg e]
    refine ⟨by simpa using h.len, fun m => ?_, ?_, ?_⟩
    · show m ∈ x.l ++ [n] ↔ _
      rw [List.mem_append, h.mem, getD_set_b _ (by rw [h.len]; exact hn)]
      by_cases em : m = n
      · subst em
        simp [hn]
      · simp [em]
    · show (x.l ++ [n]).Nodup
      rw [List.nodup_append]
      refine ⟨h.nodup, by simp, fun a ha c hc => ?_⟩
      have ec : c = n := by simpa using hc
      subst ec
      rintro rfl
      exact e ((h.mem a).1 ha).2
    · obtain ⟨t, ht⟩ := h.fst
      exact ⟨t ++ [n], by show x.l ++ [n] = _; rw [ht]; rfl⟩
theorem OInv.fold {N : Nat} : ∀ (l : List Nat) {x : OS}, OInv N x → (∀ n ∈ l, n < N) → OInv N (l.foldl ordIn x)
  | [], _, h, _ => h
  | n :: l, _, h, hl => OInv.fold l (h.put (hl n (.head _))) (fun m hm => hl m (.tail _ hm))
theorem OInv.le {N : Nat} {x : OS} (h : OInv N x) : x.l.length ≤ N := by
  have h1 : x.l ⊆ List.range N := fun n hn => List.mem_range.2 ((h.mem n).1 hn).1
  have := (List.nodup_iff_count.1 h.nodup)
  have h2 := h.nodup.length_le_of_subset h1
  simpa using h2
/-- What was in the list stays where it was. -/
theorem ordIn_pre (x : OS) (n : Nat) : ∃ t, (ordIn x n).l = x.l ++ t := by
  unfold ordIn
  split
  · exact ⟨[], by simp⟩
  · exact ⟨[n], rfl⟩
theorem fold_pre : ∀ (l : List Nat) (x : OS), ∃ t, (l.foldl ordIn x).l = x.l ++ t
  | [], x => ⟨[], by simp⟩
  | n :: l, x => by
    obtain ⟨t, ht⟩ := ordIn_pre x n
    obtain ⟨u, hu⟩ := fold_pre l (ordIn x n)
    exact ⟨t ++ u, by rw [List.foldl_cons, hu, ht, List.append_assoc]⟩
/-- Behind its turn all that comes next is seen. -/
theorem fold_seen {N : Nat} : ∀ (l : List Nat) {x : OS}, OInv N x → (∀ n ∈ l, n < N) → ∀ n ∈ l, n ∈ (l.foldl ordIn x).l
  | [], _, _, _, n, hn => by cases hn
  | m :: l, x, h, hl, n, hn => by
    have hm := hl m (.head _)
    have hp := h.put hm
    rcases List.mem_cons.1 hn with rfl | hn
    · obtain ⟨t, ht⟩ := fold_pre l (ordIn x n)
      rw [List.foldl_cons, ht, List.mem_append]
      left
      unfold ordIn
      split
      · next e => exact (h.mem n).2 ⟨hm, e⟩
      · simp
    · exact fold_seen l hp (fun k hk => hl k (.tail _ hk)) n hn
theorem fold_done {N : Nat} : ∀ (l : List Nat) {x : OS}, OInv N x → (∀ n ∈ l, n ∈ x.l) → l.foldl ordIn x = x
  | [], _, _, _ => rfl
  | n :: l, x, h, hl => by
    have e : ordIn x n = x := by
      unfold ordIn
      rw [if_pos ((h.mem n).1 (hl n (.head _))).2]
    rw [List.foldl_cons, e]
    exact fold_done l h (fun k hk => hl k (.tail _ hk))
end Tier
/-
  The builder's order of blocks.
-/
namespace Go.Proofs.YtfdppmjoinodgaaDoor
open Go.RowKit Tier
def BoolR (w : World) (b : Nat) (l : List Bool) : Prop := w.heap[b]? = some (.cells (l.map Value.bool).toArray 4 (0, 0))
theorem BoolR.lt {w : World} {b : Nat} {l : List Bool} (h : BoolR w b l) : b < w.heap.size := (Array.getElem?_eq_some_iff.1 h).1
theorem BoolR.cell {w : World} {b : Nat} {l : List Bool} (h : BoolR w b l) {i : Nat} (hi : i < l.length) : w.cell? ⟨b, i, none⟩ = some (.bool (l.getD i false)) := by
  rw [cell_block h, List.getElem?_toArray, List.getElem?_map, List.getElem?_eq_getElem hi, List.getD_eq_getElem?_getD, List.getElem?_eq_getElem hi]; rfl
theorem BoolR.set {w : World} {b : Nat} {l : List Bool} (h : BoolR w b l) (i : Nat) (x : Bool) : BoolR (w.setCell ⟨b, i, none⟩ (.bool x)) b (l.set i x) := by
  unfold BoolR at *
  simp only [World.setCell, Array.getElem?_modify, if_true, h, Option.map_some]
  simp [List.map_set]
theorem infoB : (Tryd.prog.info? 4).map (fun i => (i.zero, i.size, i.bytes)) = some (some (.bool false), 1, 1) := by kernel_rfl
theorem make_boolR (N : Nat) (hN : N ≤ 40) (w : World) : (Instr.makeSlice 41 (.int .i64 (N : Int)) (.int .i64 (N : Int))).run Tryd.prog w = .ok (.slice (some ⟨w.heap.size, 0, none⟩) N N) (w.alloc (.cells (madeCells #[.bool false] N) 4)) := by
  have := run_make_row' (P := Tryd.prog) 41 4 (.bool false) 1 Tryd.underlying41 infoB rfl .i64 .i64 N (by omega) (by omega) w
  exact this
theorem made_bR (n : Nat) : madeCells #[Value.bool false] n = ((List.replicate n false).map Value.bool).toArray := by
  apply Array.ext_getElem?
  intro i
  simp only [madeCells, List.map_replicate]
  by_cases h : i < n
  · simp [h, Nat.mod_one]
  · simp [h]
/-- Between two steps: what is seen, the list. -/
structure OW (w wr : World) (A : Option Addr) (cap : Nat) (x : OS) : Prop where
  seen : BoolR wr w.heap.size x.seen
  row : wr.ownsRow (w.heap.size + 1) 3 1 (.slice A x.l.length cap) x.l.length ((natI x.l).map (Value.int .i64))
  below : Below w.heap.size w wr
section
variable {w wr w' : World} {A : Option Addr} {cap : Nat} {x : OS}
theorem OW.keeps (h : OW w wr A cap x) (hb : Below wr.heap.size wr w') : OW w w' A cap x := ⟨(hb.block _ h.seen.lt).trans h.seen, own_below h.row hb, h.below.trans (hb.mono h.below.size)⟩
theorem OW.push (h : OW w wr A cap x) (n : Nat) {w1 : World} {g cap' : Nat}
    (hg : ((wr.setCell ⟨w.heap.size, n, none⟩ (.bool true)).alloc (.cells #[.int .i64 (n : Int)] 3)).grownBy w1 (Value.slice A x.l.length cap).ownBlock)
    (ho : w1.ownsRow (w.heap.size + 1) 3 1 (.slice (some ⟨g, 0, none⟩) (x.l.length + 1) cap') (x.l.length + 1) ((natI x.l).map (Value.int .i64) ++ [.int .i64 (n : Int)])) :
    OW w w1 (some ⟨g, 0, none⟩) cap' ⟨x.seen.set n true, x.l ++ [n]⟩ := by
  have hs := h.seen.lt
  have hrow : ∀ k, (Value.slice A x.l.length cap).ownBlock = some k → w.heap.size + 1 ≤ k := fun k hk => (World.ownsRow.lt h.row k hk).1
  have hlen : (x.l ++ [n]).length = x.l.length + 1 := by simp
  refine ⟨?_, ?_, ?_⟩
  · have h1 := h.seen.set n true
    unfold BoolR at *
    rw [hg.block _ (by simp; omega) (fun e => by have := hrow _ e.symm; omega), Below.heap_alloc _ _ _ (by simpa using hs)]
    exact h1
  · show w1.ownsRow _ _ _ (.slice _ (x.l ++ [n]).length _) (x.l ++ [n]).length _
    rw [hlen]; simpa [natI] using ho
  · have hb1 : Below w.heap.size w (wr.setCell ⟨w.heap.size, n, none⟩ (.bool true)) := h.below.setCell (by simp) _
    exact (hb1.alloc (by simp; omega) _).grown hg (by simp; omega) (fun k hk => by have := hrow k hk; omega)
end
theorem OW.start (w : World) (N : Nat) : OW w ((w.alloc (.cells ((madeCells #[Value.bool false] N).setIfInBounds 0 (.bool true)) 4)).alloc (.cells #[.int .i64 0] 3)) (some ⟨w.heap.size + 1, 0, none⟩) 1 ⟨(List.replicate N false).set 0 true, [0]⟩ := by
  refine ⟨?_, ?_, ?_⟩
  · unfold BoolR
    rw [Below.heap_alloc _ _ _ (by simp), heap_alloc_new, made_bR]
    simp [List.map_set]
    rw [← List.toArray_replicate, List.setIfInBounds_toArray]
  · refine ⟨by simp [natI], .inr ⟨w.heap.size + 1, 1, #[.int .i64 0], rfl, by omega, ?_, by simp, by unfold maxLen; omega, by simp, by simp [natI]⟩⟩
    have := heap_alloc_new (w.alloc (.cells ((madeCells #[Value.bool false] N).setIfInBounds 0 (.bool true)) 4)) (.cells #[.int .i64 0] 3)
    simpa using this
  · exact ((Below.refl w.heap.size w).alloc (Nat.le_refl _) _).alloc (by simp) _
set_option maxRecDepth 100000 in
set_option maxHeartbeats 8000000 in
theorem order_any (w0 : World) (p : List Fnc) (k : Nat) (F : Fnc) (bs : List BR) (O : List Nat) (b : Nat) (c : SC) (s : SB) (V : SK → Value) (w : World) (ro : SRo w0 c p k F bs O) (_h0 : w0.heap.size ≤ b) (hw : Below w0.heap.size w0 w) (h : SbAt w b c s V)
    (hnx : ∀ i, i < bs.length → ∀ n ∈ nxI F (hdA F i), n < bs.length) (hn40 : ∀ i, i < bs.length → (nxI F (hdA F i)).length ≤ 40) (hN0 : 0 < bs.length) (hN40 : bs.length ≤ 40) :
    Calls Tryd.prog 31 #[.pointer (some ⟨b, 0, none⟩)] w fun e w' => (∃ (K : Nat) (A : Option Addr) (cap : Nat), e = .returned (.slice A K cap) ∧ (ordTo (fun i => nxI F (hdA F i)) bs.length K).l.length = K ∧
      w'.ownsRow (w.heap.size + 1) 3 1 (.slice A K cap) K ((natI (ordTo (fun i => nxI F (hdA F i)) bs.length K).l).map (Value.int .i64))) ∧ Below w.heap.size w w' := by
  obtain ⟨gb, Bb, hbv, hblk⟩ := ro.blk
  have zgb := block_lt hblk.blk
  have HBLK := Lib.hid hblk
  have HBOK := Lib.hid ro.bok
  have HNX := Lib.hid hnx
  have HN40 := Lib.hid hn40
  obtain ⟨N, hN⟩ : ∃ n, bs.length = n := ⟨_, rfl⟩
  have HN := Lib.hid hN
  rw [hN] at hbv hN0 hN40 HNX ⊢
  obtain ⟨i0, hi, hz0, hz1, hz2⟩ := info_parts infoI
  have hmk := make_boolR N hN40
  have hmz : (madeCells #[Value.bool false] N)[0]? = some (.bool false) := by
    rw [made_bR, List.getElem?_toArray, List.getElem?_map, List.getElem?_replicate, if_pos hN0]; rfl
  have k5 : w.cell? ⟨b, 5, none⟩ = some (.slice (some ⟨gb, 0, none⟩) N N) := (h.cell 5).trans (by show some c.bv = _; rw [hbv])
  have HK5 := Lib.hid k5
  have zb := h.lt
  have hNi : (0 : Int) < N := by omega
  have HB0 := Lib.hid hw
  have HX0 := Lib.hid (OInv.start hN0)
  obtain ⟨nx, hnxd⟩ : ∃ f, (fun i => nxI F (hdA F i)) = f := ⟨_, rfl⟩
  have HNXD := Lib.hid hnxd
  rw [hnxd]
  clear ro hw h hnx hn40 hN hnxd hblk
  go_enter Tryd.func31, Tryd.ntmps31
  go_wp2_with fail
  have HW0 := Lib.hid (OW.start w N)
  clear hmk hmz
  go_loopw [4, 5] (fun v4 v5 wr => ∃ (i : Nat) (A : Option Addr) (cap : Nat) (x : OS), v4 = .slice A x.l.length cap ∧ v5 = .int .i64 (i : Int) ∧ x = ordTo nx N i ∧ i ≤ x.l.length ∧ OInv N x ∧ OW w wr A cap x) (fun _ v5 _ => N - (intOf v5).toNat)
  case atStart => exact ⟨0, _, 1, _, rfl, rfl, rfl, by simp, HX0.out, HW0.out⟩
  case round =>
    obtain ⟨i, A, cap, x, rfl, rfl, hx, hix, hinv, hW⟩ := hrel
    clear HW0 HX0
    obtain ⟨wo, hwo⟩ : ∃ wo : World, wo = wr := ⟨_, rfl⟩
    subst hwo
    have HX := Lib.hid hx
    have HINV := Lib.hid hinv
    have HW := Lib.hid hW
    have hle := hinv.le
    obtain ⟨L, hL⟩ : ∃ n, x.l.length = n := ⟨_, rfl⟩
    have HL := Lib.hid hL
    rw [hL] at hix hle ⊢
    by_cases hiL : i = L
    · obtain rfl : L = i := hiL.symm
      clear hx hinv hW
      go_wp2_with fail
      go_ret
      refine ⟨⟨L, A, cap, rfl, by rw [← HX.out, HL.out], ?_⟩, HW.out.below⟩
      have h := HW.out.row
      rw [HL.out] at h
      rw [← HX.out]; exact h
    · have i1 : i < L := by omega
      have i2 : (i : Int) < L := by omega
      have i3 : (0 : Int) ≤ i := by omega
      obtain ⟨ga, hga, zga, hcell⟩ : ∃ ga, A = some ⟨ga, 0, none⟩ ∧ ga < wo.heap.size ∧ ∀ j, j < L → wo.cell? ⟨ga, j, none⟩ = some (.int .i64 ((x.l.getD j 0 : Nat) : Int)) := by
        obtain ⟨A0, cap0, hA0, hA⟩ := own_slice hW.row
        simp only [Value.slice.injEq, true_and] at hA0
        obtain ⟨ga, h1, h2, h3⟩ := hA (by omega)
        refine ⟨ga, by rw [hA0.1, h1], h2, fun j hj => ?_⟩
        rw [h3 j (by omega)]
        unfold natI
        rw [List.getElem?_map, List.getElem?_map, List.getD_eq_getElem?_getD, List.getElem?_eq_getElem (by omega)]; rfl
      subst hga
      have ca := hcell i i1
      obtain ⟨q, hq⟩ : ∃ q, x.l.getD i 0 = q := ⟨_, rfl⟩
      rw [hq] at ca
      have hqN : q < N := by
        have hm : q ∈ x.l := by rw [← hq, List.getD_eq_getElem?_getD, List.getElem?_eq_getElem (by omega)]; exact List.getElem_mem _
        exact ((hinv.mem q).1 hm).1
      have hqN1 : (q : Int) < N := by omega
      have hq0 : (0 : Int) ≤ q := by omega
      obtain ⟨r, hr⟩ : ∃ r, bs[q]? = some r := ⟨_, List.getElem?_eq_getElem (by rw [HN.out]; exact hqN)⟩
      have hbw : Below w0.heap.size w0 wo := HB0.out.trans (hW.below.mono HB0.out.size)
      obtain ⟨NA, ncap, hnv, hnA⟩ := own_slice (HBLK.out.rows.own q r false hr)
      have hnv' : r.nv = .slice NA r.nl.length ncap := hnv
      obtain ⟨-, -, e3, -⟩ := HBOK.out.at_ q r hr
      have hnl : r.nl = natI (nx q) := by rw [e3, ← HNXD.out]
      obtain ⟨nn, hnn⟩ : ∃ n, r.nl.length = n := ⟨_, rfl⟩
      rw [hnn] at hnv'
      have d2 : wo.cell? ⟨gb, q * 4 + 2, none⟩ = some (.slice NA nn ncap) := (hbw.cell (p := ⟨gb, _, none⟩) zgb).trans ((HBLK.out.cell hr (j := 2) (by omega)).trans (by rw [← hnv']; rfl))
      have zgbo := Nat.lt_of_lt_of_le zgb hbw.size
      have k5o := (hW.below.cell (p := ⟨b, _, none⟩) zb).trans HK5.out
      have zbo := Nat.lt_of_lt_of_le zb hW.below.size
      have hnn' : (nx q).length = nn := by rw [← hnn, hnl]; simp [natI]
      have HNN := Lib.hid hnn'
      have hnn40 : nn ≤ 40 := by have h := HN40.out q (by rw [HN.out]; exact hqN); rw [← hnn', ← HNXD.out]; exact h
      have HNA : Hid (∀ (t n : Nat), (nx q)[t]? = some n → ∃ gn, NA = some ⟨gn, 0, none⟩ ∧ gn < w0.heap.size ∧ w0.cell? ⟨gn, t, none⟩ = some (.int .i64 (n : Int))) := Lib.hid (fun t n ht => by
        have hlt := (List.getElem?_eq_some_iff.1 ht).1
        obtain ⟨gn, h1, h2, h3⟩ := hnA (by show 0 < r.nl.length; rw [hnn]; omega)
        refine ⟨gn, h1, h2, (h3 t (by show t < r.nl.length * 1; rw [hnn]; omega)).trans ?_⟩
        show (r.nl.map _)[t]? = _
        rw [hnl]
        unfold natI
        rw [List.getElem?_map, List.getElem?_map, ht]; rfl)
      have HNQ := Lib.hid (show ∀ n ∈ nx q, n < N from fun n hn => HNX.out q hqN n (by rw [← HNXD.out] at hn; exact hn))
      have HSTEP := Lib.hid (show ordTo nx N (i + 1) = (nx q).foldl ordIn x by rw [ordTo_succ, ← HX.out]; unfold ordStep; rw [hq])
      clear hx hinv hW hcell hq hr hbw hnv hnv' hnA e3 hnl hnn hnn'
      go_wp2_with fail
      go_quiet (fail)
      obtain ⟨w4, hw4⟩ : ∃ W, wo.drewN nq = W := ⟨_, rfl⟩
      have HW4 : Hid (OW w w4 (some ⟨ga, 0, none⟩) cap x) := Lib.hid (hw4 ▸ HW.out.keeps (below_drewN (Below.refl _ _) _))
      rw [hw4]
      clear hw4 nq ca d2 zgbo k5o zbo zga
      go_wp2_with fail
      rw [← HL.out]
      clear hL
      go_loopw [4, 35] (fun v4 v35 wr => ∃ (t : Nat) (A2 : Option Addr) (cap2 : Nat) (y : OS), t ≤ nn ∧ v35 = .int .i64 (t : Int) ∧ v4 = .slice A2 y.l.length cap2 ∧ y = ((nx q).take t).foldl ordIn x ∧ OInv N y ∧ OW w wr A2 cap2 y) (fun _ v35 _ => nn - (intOf v35).toNat)
      case atStart => exact ⟨0, _, cap, x, by omega, rfl, rfl, rfl, HINV.out, HW4.out⟩
      case round =>
        obtain ⟨t, A2, cap2, y, ht, rfl, rfl, hy, hyi, hyW⟩ := hrel
        clear HW4
        have HY := Lib.hid hy
        have HYI := Lib.hid hyi
        have HYW := Lib.hid hyW
        have hyl := hyi.le
        by_cases htn : t = nn
        · obtain rfl : nn = t := htn.symm
          clear hy hyi hyW
          have HFIN := Lib.hid (show y = ordTo nx N (i + 1) by rw [HSTEP.out, HY.out, ← HNN.out, List.take_length])
          have HLEN := Lib.hid (show i + 1 ≤ y.l.length by
            obtain ⟨u, hu⟩ := fold_pre ((nx q).take nn) x
            rw [HY.out, hu, List.length_append, HL.out]; omega)
          go_wp2_with fail
          go_roundw
          case rel => exact ⟨i + 1, A2, cap2, y, rfl, by go_num, HFIN.out, HLEN.out, HYI.out, HYW.out⟩
          case measure => simp [intOf]; omega
        · have t1 : (t : Int) < nn := by omega
          have t2 : (0 : Int) ≤ t := by omega
          obtain ⟨n, hn⟩ : ∃ n, (nx q)[t]? = some n := ⟨_, List.getElem?_eq_getElem (by rw [HNN.out]; omega)⟩
          have hnN := HNQ.out n (List.mem_of_getElem? hn)
          have hnN1 : (n : Int) < N := by omega
          have hn0 : (0 : Int) ≤ n := by omega
          obtain ⟨gn, hNA, zgn, cn⟩ := HNA.out t n hn
          subst hNA
          have hbw : Below w0.heap.size w0 wr := HB0.out.trans (hyW.below.mono HB0.out.size)
          rw [← hbw.cell (p := ⟨gn, _, none⟩) zgn] at cn
          have zgnr := Nat.lt_of_lt_of_le zgn hbw.size
          have cs := hyW.seen.cell (i := n) (by rw [hyi.len]; exact hnN)
          have fs := frozen_block hyW.seen n
          have zs := hyW.seen.lt
          have HTK := Lib.hid (show ((nx q).take (t + 1)).foldl ordIn x = ordIn y n by rw [List.take_add_one, hn, HY.out]; simp)
          have HYI2 := Lib.hid (hyi.put hnN)
          have HROW := Lib.hid hyW.row
          have zr := hyW.below.size
          cases hs : y.seen.getD n false with
          | true =>
            rw [hs] at cs
            have HST := Lib.hid (show ordIn y n = y by unfold ordIn; rw [if_pos hs])
            clear hy hyi hyW hn hbw hs
            go_wp2_with fail
            go_roundw
            case rel => exact ⟨t + 1, A2, cap2, y, by omega, by go_num, rfl, by rw [HTK.out, HST.out], HYI.out, HYW.out⟩
            case measure => simp [intOf]; omega
          | false =>
            rw [hs] at cs
            have HST := Lib.hid (show ordIn y n = ⟨y.seen.set n true, y.l ++ [n]⟩ by unfold ordIn; rw [if_neg (by rw [hs]; decide)])
            have HLY : Hid (y.l.length + 1 ≤ N) := Lib.hid (by have h := HYI2.out.le; rw [HST.out] at h; simpa using h)
            have hyl2 := HLY.out
            clear hy hyi hyW hn hbw hs
            go_wp2_with (first | (at_builtin; go_must (refine wpList_append_lies _ rfl _ _ 37 rfl (w.heap.size + 1) 3 i0 _ 1 8 Tryd.underlying37 hi hz0 hz1 hz2 rfl (by decide) (.slice A2 y.l.length cap2) y.l.length ((natI y.l).map (Value.int .i64)) rfl (own_below (own_setCell HROW.out (by simp) _) ((Below.refl _ _).alloc (Nat.le_refl _) _)) ⟨wr.heap.size, 0, none⟩ 1 1 [.int .i64 (n : Int)] rfl rfl (by simpa using cell_one_new (wr.setCell ⟨w.heap.size, n, none⟩ (.bool true)) (.int .i64 (n : Int)) 3) (by simp [Value.oneCell']) (by omega) (by unfold maxLen; omega) (by omega) (by simp; omega) _ rfl ?_); intro g9 cap9 w9 hown9 hg9 _ _; have HW9 := Lib.hid (HYW.out.push n hg9 hown9); clear hown9 hg9))
            go_roundw
            case rel => exact ⟨t + 1, some ⟨g9, 0, none⟩, cap9, ⟨y.seen.set n true, y.l ++ [n]⟩, by omega, by go_num, by simp, by rw [HTK.out, HST.out], by rw [← HST.out]; exact HYI2.out, HW9.out⟩
            case measure => simp [intOf]; omega
end Go.Proofs.YtfdppmjoinodgaaDoor
