/-
  Memory while flow.Blocks runs: what was, the blocks, the row of the next ones.
-/
import Derived.Test.YtfdppmjoinodgaaDoorBkP
import Derived.Test.YtfdppmjoinodgaaDoorFl1
namespace Go.Proofs.YtfdppmjoinodgaaDoor
open Go.RowKit Tier
/-- What comes back: the blocks of the function. -/
def BlocksRet (F : Fnc) (B : Nat) (e : Ending) (w' : World) : Prop := ∃ g B' bs, e = .returned (.tuple #[.slice (some ⟨g, 0, none⟩) (hdL F).length (hdL F).length, .int .i64 0]) ∧ B ≤ g ∧ BlkB w' g B' bs ∧ BlkOk F bs
theorem infoBlk : (Tryd.prog.info? 84).map (fun i => (i.zero, i.size, i.bytes)) = some (some (.agg #[.int .i64 0, .int .i64 0, .slice none 0 0, .slice none 0 0]), 4, 64) := by kernel_rfl
theorem make_blks (N : Nat) (hN : N ≤ 40) (w : World) : (Instr.makeSlice 80 (.int .i64 (N : Int)) (.int .i64 (N : Int))).run Tryd.prog w = .ok (.slice (some ⟨w.heap.size, 0, none⟩) N N) (w.alloc (.cells (madeCells #[.int .i64 0, .int .i64 0, .slice none 0 0, .slice none 0 0] (N * 4)) 84)) := by
  obtain ⟨i, hi, hzz⟩ := Option.map_eq_some_iff.1 infoBlk
  simp only [Prod.mk.injEq] at hzz
  obtain ⟨hz, hs, hb⟩ := hzz
  have hr := run_make (P := Tryd.prog) w 80 84 i _ Tryd.underlying80 hi hz .i64 .i64 N N (by omega) (Int.le_refl _) (by rw [hb]; omega) (by omega)
  simp only [Int.toNat_natCast, hs] at hr
  exact hr
def zBR : BR := ⟨0, 0, .slice none 0 0, [], .slice none 0 0, []⟩
theorem made_blks (n : Nat) : madeCells #[Value.int .i64 0, .int .i64 0, .slice none 0 0, .slice none 0 0] (n * 4) = (brCells (List.replicate n zBR)).toArray := by
  apply Array.ext_getElem?
  intro i
  by_cases h : i < n * 4
  · have h1 : i / 4 < n := by omega
    have h2 := brCells_get (l := List.replicate n zBR) (q := i / 4) (r := zBR) (by rw [List.getElem?_replicate, if_pos h1]) (j := i % 4) (by omega)
    rw [show i / 4 * 4 + i % 4 = i by omega] at h2
    have e : (brCells (List.replicate n zBR)).toArray[i]? = zBR.cells[i % 4]? := List.getElem?_toArray.trans h2
    rw [e]
    have h3 : i % 4 = 0 ∨ i % 4 = 1 ∨ i % 4 = 2 ∨ i % 4 = 3 := by omega
    rcases h3 with h3 | h3 | h3 | h3 <;> simp [madeCells, h, h3, zBR, BR.cells]
  · rw [Array.getElem?_eq_none (by simp [madeCells]; omega), List.getElem?_toArray, List.getElem?_eq_none (by rw [brCells_length]; simp; omega)]
theorem blks_start (w : World) (n : Nat) : BlkB (w.alloc (.cells (madeCells #[.int .i64 0, .int .i64 0, .slice none 0 0, .slice none 0 0] (n * 4)) 84)) w.heap.size (w.heap.size + 1) (List.replicate n zBR) := by
  refine ⟨by rw [made_blks]; exact heap_alloc_new _ _, ⟨fun q r c hq => ?_, fun q q' r r' c c' b hq hq' _ hb => ?_⟩, by omega⟩
  · have : r = zBR := List.eq_of_mem_replicate (List.mem_of_getElem? hq)
    subst this
    cases c <;> exact World.ownsRow_nil _ _ _ _
  · have : r = zBR := List.eq_of_mem_replicate (List.mem_of_getElem? hq)
    subst this
    cases c <;> simp [BR.val, zBR, Value.ownBlock] at hb
def fBR (v : Value) : BR := ⟨0, 0, .slice none 0 0, [], v, [-1]⟩
def blk0 (v : Value) (n : Nat) : List BR := (List.replicate n zBR).set 0 (fBR v)
theorem blks_first (w : World) (n : Nat) (hn : 0 < n) : BlkB (((w.alloc (.cells (madeCells #[.int .i64 0, .int .i64 0, .slice none 0 0, .slice none 0 0] (n * 4)) 84)).alloc (.cells #[.int .i64 (-1)] 3)).setCell ⟨w.heap.size, 3, none⟩ (.slice (some ⟨w.heap.size + 1, 0, none⟩) 1 1)) w.heap.size (w.heap.size + 1) (blk0 (.slice (some ⟨w.heap.size + 1, 0, none⟩) 1 1) n) := by
  have h := blks_start w n
  have hq : (List.replicate n zBR)[0]? = some zBR := by rw [List.getElem?_replicate, if_pos hn]
  have ho := OwnI.made (w.alloc (.cells (madeCells #[.int .i64 0, .int .i64 0, .slice none 0 0, .slice none 0 0] (n * 4)) 84)) (w.heap.size + 1) [-1] (by simp) (by simp)
  have hr := h.rows.app hq true (v := .slice (some ⟨w.heap.size + 1, 0, none⟩) 1 1) (x := -1) (World.grownBy_alloc _ (.cells #[.int .i64 (-1)] 3) _) (by simpa [OwnI, zBR, BR.lst] using ho) (.inr ⟨w.heap.size + 1, by simp, rfl⟩)
  have hb := heap_alloc_old (w.alloc (.cells (madeCells #[.int .i64 0, .int .i64 0, .slice none 0 0, .slice none 0 0] (n * 4)) 84)) (.cells #[.int .i64 (-1)] 3) (block_lt h.blk)
  have hs := brCells_set (List.replicate n zBR) 0 zBR (fBR (.slice (some ⟨w.heap.size + 1, 0, none⟩) 1 1)) 3 (.slice (some ⟨w.heap.size + 1, 0, none⟩) 1 1) hq (by omega) rfl
  refine ⟨?_, hr.setCell h.lt _, h.lt⟩
  have h2 := hb.trans h.blk
  simp only [World.setCell, Array.getElem?_modify, if_true, h2, Option.map_some]
  unfold blk0
  rw [← hs]; simp
theorem blk0_start (F : Fnc) (v : Value) : BkS F 0 0 (blk0 v (hdL F).length) := by
  have hg : ∀ (q : Nat) (r : BR), (blk0 v (hdL F).length)[q]? = some r → r = if q = 0 then fBR v else zBR := fun q r h => by
    unfold blk0 at h
    have hl : q < (hdL F).length := by have := (List.getElem?_eq_some_iff.1 h).1; simpa using this
    rw [set_get (r := zBR) (by rw [List.getElem?_replicate, if_pos (by omega)])] at h
    by_cases e : q = 0
    · rw [if_pos e] at h ⊢; exact (Option.some.inj h).symm
    · rw [if_neg e, List.getElem?_replicate, if_pos hl] at h; rw [if_neg e]; exact (Option.some.inj h).symm
  refine ⟨by simp [blk0], fun q r _ h => by omega, fun q r h => ?_, fun q r h => ?_⟩
  · rw [hg q r h]
    by_cases e : q = 0 <;> simp [e, fBR, zBR, natI]
  · rw [hg q r h, prevTo_zero]
    by_cases e : q = 0 <;> simp [e, fBR, zBR]
theorem pickP_len (F : Fnc) (l : List Nat) (q k : Nat) : (pickP F l q k).length ≤ l.length := by unfold pickP; rw [List.length_map]; exact List.length_filter_le _ _
theorem nxI_len (F : Fnc) (a : Nat) : (nxI F a).length ≤ 2 := by unfold nxI nxN; rw [List.length_map]; exact nextS_length _ _
theorem prevTo_len (F : Fnc) (i t k : Nat) : (prevTo F i t k).length ≤ 3 + 2 * i := by
  have h1 : ∀ n, ((List.range n).flatMap fun q => pickP F (nxI F (hdA F q)) q k).length ≤ 2 * n := fun n => by
    induction n with
    | zero => simp
    | succ n ih =>
      rw [List.range_succ, List.flatMap_append, List.length_append]
      have h2 := pickP_len F (nxI F (hdA F n)) n k
      have h3 := nxI_len F (hdA F n)
      simp only [List.flatMap_cons, List.flatMap_nil, List.append_nil]
      omega
  have h4 := h1 i
  have h5 := pickP_len F ((nxI F (hdA F i)).take t) i k
  have h6 : ((nxI F (hdA F i)).take t).length ≤ 2 := by rw [List.length_take]; have := nxI_len F (hdA F i); omega
  have h7 : (if k = 0 then [(-1 : Int)] else []).length ≤ 1 := by split <;> simp
  unfold prevTo
  rw [List.length_append, List.length_append]
  omega
/-- What was stays, and the blocks. -/
structure BW (w4 wr : World) (bs : List BR) : Prop where
  low : Below w4.heap.size w4 wr
  blk : BlkB wr w4.heap.size (w4.heap.size + 1) bs
/-- .. and the row Av, made behind them, stays too. -/
structure BX (w4 w7 wr : World) (Av : Option Addr) (bs : List BR) : Prop where
  bw : BW w4 wr bs
  size : w7.heap.size ≤ wr.heap.size
  keep : ∀ gv, Av = some ⟨gv, 0, none⟩ → gv < w7.heap.size → wr.heap[gv]? = w7.heap[gv]? ∧ gv ≠ w4.heap.size ∧ ∀ (q : Nat) (r : BR) (c : Bool), bs[q]? = some r → (r.val c).ownBlock ≠ some gv
section
variable {w4 w7 wr w' : World} {bs : List BR} {Av : Option Addr}
theorem BW.first0 (w : World) (n : Nat) (hn : 0 < n) : BW w (((w.alloc (.cells (madeCells #[.int .i64 0, .int .i64 0, .slice none 0 0, .slice none 0 0] (n * 4)) 84)).alloc (.cells #[.int .i64 (-1)] 3)).setCell ⟨w.heap.size, 3, none⟩ (.slice (some ⟨w.heap.size + 1, 0, none⟩) 1 1)) (blk0 (.slice (some ⟨w.heap.size + 1, 0, none⟩) 1 1) n) :=
  ⟨by repeat (first | exact hb | exact Below.refl _ _ | apply Below.drew | apply below_drewN | refine Below.alloc ?_ (by first | omega | (simp; done) | (simp; omega)) _ | refine Below.setCell ?_ (by first | omega | (simp; done) | (simp; omega)) _), blks_first w n hn⟩
theorem BW.first (w : World) (n : Nat) (hn : 0 < n) : BW w ((w.alloc (.cells ((madeCells #[.int .i64 0, .int .i64 0, .slice none 0 0, .slice none 0 0] (n * 4)).setIfInBounds 3 (.slice (some ⟨w.heap.size + 1, 0, none⟩) 1 1)) 84)).alloc (.cells #[.int .i64 (-1)] 3)) (blk0 (.slice (some ⟨w.heap.size + 1, 0, none⟩) 1 1) n) := by
  have h := BW.first0 w n hn
  rw [World.setCell_alloc_past _ _ _ _ (by simp), World.setCell_alloc_at _ _ _ _ _ rfl] at h
  exact h
theorem BW.keeps (h : BW w4 wr bs) (hb : Below wr.heap.size wr w') : BW w4 w' bs := ⟨h.low.trans (hb.mono h.low.size), h.blk.keeps hb⟩
theorem BW.set0 (h : BW w4 wr bs) {q : Nat} {r : BR} (hq : bs[q]? = some r) (x : Int) : BW w4 (wr.setCell ⟨w4.heap.size, q * 4, none⟩ (.int .i64 x)) (bs.set q { r with fr := x }) := ⟨h.low.setCell (Nat.le_refl _) _, h.blk.set0 hq x⟩
theorem BW.set1 (h : BW w4 wr bs) {q : Nat} {r : BR} (hq : bs[q]? = some r) (x : Int) : BW w4 (wr.setCell ⟨w4.heap.size, q * 4 + 1, none⟩ (.int .i64 x)) (bs.set q { r with to := x }) := ⟨h.low.setCell (Nat.le_refl _) _, h.blk.set1 hq x⟩
theorem BW.both (h : BW w4 wr bs) {q : Nat} {r : BR} (hq : bs[q]? = some r) (x y : Int) : BW w4 ((wr.setCell ⟨w4.heap.size, q * 4, none⟩ (.int .i64 x)).setCell ⟨w4.heap.size, q * 4 + 1, none⟩ (.int .i64 y)) (bs.set q { r with fr := x, to := y }) := by
  have h1 := (h.set0 hq x).set1 (q := q) (r := { r with fr := x }) (by rw [set_get hq, if_pos rfl]) y
  have h2 : (bs.set q { r with fr := x }).set q { r with fr := x, to := y } = bs.set q { r with fr := x, to := y } := by rw [List.set_set]
  rw [← h2]; exact h1
theorem BW.app (h : BW w4 wr bs) {q : Nat} {r : BR} (hq : bs[q]? = some r) (c : Bool) {v : Value} {x : Int} (o : Obj) (hg : (wr.alloc o).grownBy w' (r.val c).ownBlock)
    (ho : w'.ownsRow (w4.heap.size + 1) 3 1 v ((r.lst c).length + 1) ((r.lst c).map (Value.int .i64) ++ [.int .i64 x])) (hat : v.ownBlock = (r.val c).ownBlock ∨ v.ownBlock = some (wr.alloc o).heap.size) :
    BW w4 (w'.setCell ⟨w4.heap.size, q * 4 + (if c = true then 3 else 2), none⟩ v) (bs.set q (r.upd c v (r.lst c ++ [x]))) ∧ w'.heap[w4.heap.size]? = wr.heap[w4.heap.size]? := by
  obtain ⟨h1, h2⟩ := h.blk.app hq c o hg ho hat
  refine ⟨⟨?_, h1⟩, h2⟩
  have h3 := h.low.size
  have h4 : Below w4.heap.size w4 (wr.alloc o) := h.low.alloc h3 o
  exact (h4.grown hg h4.size (fun k hk => by have := (h.blk.rows.lt hq c k hk).1; omega)).setCell (Nat.le_refl _) _
theorem upd_own {q : Nat} {r : BR} (hq : bs[q]? = some r) (c : Bool) (v : Value) (l : List Int) (i : Nat) (s : BR) (d : Bool) (hs : (bs.set q (r.upd c v l))[i]? = some s) : s.val d = v ∨ ∃ s0, bs[i]? = some s0 ∧ s.val d = s0.val d := by
  rw [set_get hq] at hs
  by_cases e : i = q
  · rw [if_pos e] at hs
    obtain rfl := Option.some.inj hs
    by_cases hd : d = c
    · subst hd; exact .inl (BR.upd_val _ _ _ _)
    · exact .inr ⟨r, by rw [e]; exact hq, BR.upd_val' r hd _ _⟩
  · rw [if_neg e] at hs; exact .inr ⟨s, hs, rfl⟩
theorem upd_other {q : Nat} {r : BR} (hq : bs[q]? = some r) (v : Value) (l : List Int) (i : Nat) (s : BR) (hs : (bs.set q (r.upd false v l))[i]? = some s) : ∃ s0, bs[i]? = some s0 ∧ s.pl = s0.pl := by
  rw [set_get hq] at hs
  by_cases e : i = q
  · rw [if_pos e] at hs
    obtain rfl := Option.some.inj hs
    exact ⟨r, by rw [e]; exact hq, rfl⟩
  · rw [if_neg e] at hs; exact ⟨s, hs, rfl⟩
theorem BX.app (h : BX w4 w7 wr Av bs) {q : Nat} {r : BR} (hq : bs[q]? = some r) (c : Bool) {v : Value} {x : Int} (o : Obj) (hg : (wr.alloc o).grownBy w' (r.val c).ownBlock)
    (ho : w'.ownsRow (w4.heap.size + 1) 3 1 v ((r.lst c).length + 1) ((r.lst c).map (Value.int .i64) ++ [.int .i64 x])) (hat : v.ownBlock = (r.val c).ownBlock ∨ v.ownBlock = some (wr.alloc o).heap.size) :
    BX w4 w7 (w'.setCell ⟨w4.heap.size, q * 4 + (if c = true then 3 else 2), none⟩ v) Av (bs.set q (r.upd c v (r.lst c ++ [x]))) ∧ w'.heap[w4.heap.size]? = wr.heap[w4.heap.size]? := by
  obtain ⟨h1, h2⟩ := h.bw.app hq c o hg ho hat
  have h3 : (wr.alloc o).heap.size = wr.heap.size + 1 := by simp
  refine ⟨⟨h1, ?_, fun gv hv hl => ?_⟩, h2⟩
  · have := hg.size; have := h.size; simp only [World.setCell, Array.size_modify]; omega
  · obtain ⟨k1, k2, k3⟩ := h.keep gv hv hl
    have hs := h.size
    refine ⟨?_, k2, fun i s d hi e => ?_⟩
    · rw [Below.heap_setCell _ _ _ _ (by simpa using k2), hg.block gv (by omega) (fun e => k3 q r c hq e.symm)]
      exact (heap_alloc_old wr o (r := gv) (by omega)).trans k1
    · rcases upd_own hq c v _ i s d hi with h4 | ⟨s0, h4, h5⟩
      · rw [h4] at e
        rcases hat with h6 | h6
        · rw [h6] at e; exact k3 q r c hq e
        · rw [h6] at e; have := Option.some.inj e; omega
      · rw [h5] at e; exact k3 i s0 d h4 e
theorem BX.start (h : BW w4 wr bs) (hb : Below wr.heap.size wr w') (hB : ∀ gv, Av = some ⟨gv, 0, none⟩ → wr.heap.size ≤ gv) : BX w4 w' w' Av bs := by
  refine ⟨h.keeps hb, Nat.le_refl _, fun gv hv hl => ⟨rfl, fun e => ?_, fun q r c hq e => ?_⟩⟩
  · have h1 := hB gv hv; have h2 := block_lt h.blk.blk; omega
  · have h1 := hB gv hv; have h2 := (h.blk.rows.lt hq c gv e).2; omega
end
end Go.Proofs.YtfdppmjoinodgaaDoor
/-
  The contracts of slices.Index, Contains and BinarySearch at a short row of numbers.
-/
namespace Go.Proofs.YtfdppmjoinodgaaDoor
open Go.RowKit Tier
def RowN (w : World) (A : Option Addr) (l : List Nat) : Prop := 0 < l.length → ∃ g, A = some ⟨g, 0, none⟩ ∧ g < w.heap.size ∧ ∀ (i n : Nat), l[i]? = some n → w.cell? ⟨g, i, none⟩ = some (.int .i64 (n : Int))
theorem RowN.keeps {w w' : World} {A : Option Addr} {l : List Nat} (h : RowN w A l) (hb : Below w.heap.size w w') : RowN w' A l := fun hl => by
  obtain ⟨g, h1, h2, h3⟩ := h hl
  exact ⟨g, h1, Nat.lt_of_lt_of_le h2 hb.size, fun i n hn => (hb.cell (p := ⟨g, i, none⟩) h2).trans (h3 i n hn)⟩
theorem row_own {w : World} {B : Nat} {v : Value} {l : List Nat} (h : OwnI w B v (natI l)) : ∃ A cap, v = .slice A l.length cap ∧ RowN w A l := by
  obtain ⟨A, cap, hv, hc⟩ := own_slice h
  rw [natI_length] at hv hc
  refine ⟨A, cap, hv, fun hl => ?_⟩
  obtain ⟨g, h1, h2, h3⟩ := hc hl
  exact ⟨g, h1, h2, fun i n hn => (h3 i (by have := (List.getElem?_eq_some_iff.1 hn).1; omega)).trans (by simp [natI, hn])⟩
def Idx (l : List Nat) (n : Nat) (w : World) (e : Ending) (w' : World) : Prop := ∃ r : Int, e = .returned (.int .i64 r) ∧ (decide (0 ≤ r) = l.contains n) ∧ w = w'
set_option maxRecDepth 100000 in
set_option maxHeartbeats 4000000 in
theorem index_any (l : List Nat) (A : Option Addr) (cap n : Nat) (w : World) (h : RowN w A l) (hl : l.length ≤ 1000) :
    Calls Tryd.prog 77 #[.slice A l.length cap, .int .i64 (n : Int)] w (Idx l n w) := by
  have HR := Lib.hid h
  clear h
  obtain ⟨N, hN⟩ : ∃ N, l.length = N := ⟨_, rfl⟩
  have HN := Lib.hid hN
  rw [hN] at hl ⊢
  clear hN
  go_enter Tryd.func77, Tryd.ntmps77
  go_wp2_with fail
  go_loop [8] (fun v => ∃ i : Nat, i ≤ N ∧ v = .int .i64 (i : Int) ∧ ∀ j, j < i → l[j]? ≠ some n) (fun v => N - (intOf v).toNat)
  case atStart => exact ⟨0, by omega, rfl, fun j hj => by omega⟩
  case round =>
    obtain ⟨i, hi, rfl, hno⟩ := hrel
    have HNO := Lib.hid hno
    clear hno
    by_cases hiN : i = N
    · obtain rfl : N = i := hiN.symm
      go_wp2_with fail
      go_ret
      refine ⟨-1, rfl, ?_, rfl⟩
      have : l.contains n = false := by
        rw [Bool.eq_false_iff]
        intro hc
        obtain ⟨j, hj⟩ := List.getElem?_of_mem (by simpa using hc)
        exact HNO.out j (by have := (List.getElem?_eq_some_iff.1 hj).1; rw [HN.out] at this; exact this) hj
      rw [this]; rfl
    · have hi1 : (i : Int) < N := by omega
      have hi2 : (0 : Int) ≤ i := by omega
      obtain ⟨g, hg, hgl, hc⟩ := HR.out (by rw [HN.out]; omega)
      obtain ⟨m, hm⟩ : ∃ m, l[i]? = some m := ⟨l[i]'(by rw [HN.out]; omega), List.getElem?_eq_getElem _⟩
      have cm := hc i m hm
      have HM := Lib.hid hm
      subst hg
      clear hc hm hiN
      by_cases hnm : n = m
      · subst hnm
        go_wp2_with fail
        go_ret
        refine ⟨(i : Int), rfl, ?_, rfl⟩
        have : l.contains n = true := by simpa using List.mem_of_getElem? HM.out
        rw [this]; simp
      · have hq : ((n : Int) == (m : Int)) = false := beq_eq_false_iff_ne.2 (by omega)
        have HNM := Lib.hid hnm
        clear hnm
        go_wp2_with fail
        go_round
        case rel => exact ⟨i + 1, by omega, by go_num, fun j hj => by
          by_cases he : j = i
          · rw [he, HM.out]; intro h; exact HNM.out (Option.some.inj h).symm
          · exact HNO.out j (by omega)⟩
        case measure => simp [intOf]; omega
theorem contains_any (l : List Nat) (A : Option Addr) (cap n : Nat) (w : World) (h : RowN w A l) (hl : l.length ≤ 1000) :
    Calls Tryd.prog 47 #[.slice A l.length cap, .int .i64 (n : Int)] w fun e w' => e = .returned (.bool (l.contains n)) ∧ w = w' := by
  have HI := Lib.hid (index_any l A cap n w h hl)
  clear h
  go_enter Tryd.func47, Tryd.ntmps47
  go_wp2_with (go_at_call 77; refine HI.out.mono ?_; rintro e w' ⟨r, rfl, hr, rfl⟩; have HRR := Lib.hid hr; clear hr)
  go_ret
  exact ⟨by rw [← HRR.out]; rfl, rfl⟩
theorem isnan_any (a : Int) (w : World) : Calls Tryd.prog 80 #[.int .i64 a] w fun e w' => e = .returned (.bool false) ∧ w = w' := by
  go_enter Tryd.func80, Tryd.ntmps80
  go_wp2
  go_ret
  exact ⟨by simp, rfl⟩
theorem sorted_lt {l : List Nat} (h : l.Pairwise (· < ·)) {i j a b : Nat} (ha : l[i]? = some a) (hb : l[j]? = some b) (hij : i < j) : a < b := by
  obtain ⟨h1, h2⟩ := List.getElem?_eq_some_iff.1 ha
  obtain ⟨h3, h4⟩ := List.getElem?_eq_some_iff.1 hb
  have := List.pairwise_iff_getElem.1 h i j h1 h3 hij
  rw [h2, h4] at this; exact this
set_option maxRecDepth 100000 in
set_option maxHeartbeats 4000000 in
theorem bsearch_any (l : List Nat) (A : Option Addr) (cap n k : Nat) (w : World) (h : RowN w A l) (hl : l.length ≤ 1000) (hs : l.Pairwise (· < ·)) (hk : l[k]? = some n) :
    Calls Tryd.prog 49 #[.slice A l.length cap, .int .i64 (n : Int)] w fun e w' => e = .returned (.tuple #[.int .i64 (k : Int), .bool true]) ∧ w = w' := by
  have HR := Lib.hid h
  have HS := Lib.hid hs
  have HK := Lib.hid hk
  have hkl := (List.getElem?_eq_some_iff.1 hk).1
  clear h hs hk
  obtain ⟨N, hN⟩ : ∃ N, l.length = N := ⟨_, rfl⟩
  have HN := Lib.hid hN
  rw [hN] at hl hkl ⊢
  clear hN
  obtain ⟨g, hg, hgl, hc⟩ := HR.out (by rw [HN.out]; omega)
  have HC := Lib.hid hc
  subst hg
  clear hc
  go_enter Tryd.func49, Tryd.ntmps49
  go_wp2_with fail
  go_loopw [7, 8] (fun vi vj wr => ∃ i j : Nat, vi = .int .i64 (i : Int) ∧ vj = .int .i64 (j : Int) ∧ i ≤ k ∧ k ≤ j ∧ j ≤ N ∧ wr = w) (fun vi vj _ => (intOf vj - intOf vi).toNat)
  case atStart => exact ⟨0, N, rfl, rfl, by omega, by omega, Nat.le_refl _, rfl⟩
  case round =>
    obtain ⟨i, j, rfl, rfl, hik, hkj, hjN, rfl⟩ := hrel
    by_cases hij : i = j
    · have hkk : i = k := by omega
      subst hkk
      obtain rfl : i = j := hij
      have ck := HC.out i n HK.out
      have hi1 : (i : Int) < N := by omega
      have hi2 : (0 : Int) ≤ i := by omega
      go_wp2_with fail
      go_ret2
      exact ⟨rfl, rfl⟩
    · have hlt : (i : Int) < j := by omega
      obtain ⟨hh, hhe⟩ : ∃ h, (i + j) / 2 = h := ⟨_, rfl⟩
      have hh1 : i ≤ hh := by omega
      have hh2 : hh < j := by omega
      have hhN : (hh : Int) < N := by omega
      have hh0 : (0 : Int) ≤ hh := by omega
      obtain ⟨m, hm⟩ : ∃ m, l[hh]? = some m := ⟨l[hh]'(by rw [HN.out]; omega), List.getElem?_eq_getElem _⟩
      have cm := HC.out hh m hm
      have hd1 : ((i : Int) + j) / 2 = hh := by omega
      have HLE := Lib.hid (fun (W : World) => less_any (m : Int) (n : Int) W)
      have hcase : (m < n ∧ hh < k) ∨ (¬ m < n ∧ k ≤ hh) := by
        rcases Nat.lt_trichotomy hh k with h | h | h
        · exact .inl ⟨sorted_lt HS.out hm HK.out h, h⟩
        · subst h; rw [hm] at *; have := HK.out; rw [hm] at this; obtain rfl := Option.some.inj this; exact .inr ⟨by omega, by omega⟩
        · have := sorted_lt HS.out HK.out hm h; exact .inr ⟨by omega, by omega⟩
      clear hm hhe
      rcases hcase with ⟨c1, c2⟩ | ⟨c1, c2⟩
      · have hdc : decide ((m : Int) < n) = true := by simp; omega
        rw [hdc] at HLE
        clear hdc
        go_wp2_with (go_at_call 79; go_must (refine (HLE.out _).mono ?_; rintro e w' ⟨rfl, rfl⟩))
        go_roundw
        case rel => exact ⟨hh + 1, j, by go_num, rfl, by omega, by omega, by omega, trivial⟩
        case measure => simp [intOf]; omega
      · have hdc : decide ((m : Int) < n) = false := by simp; omega
        rw [hdc] at HLE
        clear hdc
        go_wp2_with (go_at_call 79; go_must (refine (HLE.out _).mono ?_; rintro e w' ⟨rfl, rfl⟩))
        go_roundw
        case rel => exact ⟨i, hh, rfl, rfl, by omega, by omega, by omega, trivial⟩
        case measure => simp [intOf]; omega
end Go.Proofs.YtfdppmjoinodgaaDoor
