/-
  Memory while flow.Blocks runs: what was, the blocks, the row of the next ones.
-/
import Derived.Test.YtefbdecejoeamaaDoorBkP
import Derived.Test.YtefbdecejoeamaaDoorBs
namespace Go.Proofs.YtefbdecejoeamaaDoor
open Go.RowKit Tier
/-- What comes back: the blocks of the function. -/
def BlocksRet (F : Fnc) (B : Nat) (e : Ending) (w' : World) : Prop := ∃ g B' bs, e = .returned (.tuple #[.slice (some ⟨g, 0, none⟩) (hdL F).length (hdL F).length, .int .i64 0]) ∧ B ≤ g ∧ BlkB w' g B' bs ∧ BlkOk F bs
theorem infoBlk : (Tryd.prog.info? 68).map (fun i => (i.zero, i.size, i.bytes)) = some (some (.agg #[.int .i64 0, .int .i64 0, .slice none 0 0, .slice none 0 0]), 4, 64) := by kernel_rfl
theorem make_blks (N : Nat) (hN : N ≤ 40) (w : World) : (Instr.makeSlice 64 (.int .i64 (N : Int)) (.int .i64 (N : Int))).run Tryd.prog w = .ok (.slice (some ⟨w.heap.size, 0, none⟩) N N) (w.alloc (.cells (madeCells #[.int .i64 0, .int .i64 0, .slice none 0 0, .slice none 0 0] (N * 4)) 68)) := by
  obtain ⟨i, hi, hzz⟩ := Option.map_eq_some_iff.1 infoBlk
  simp only [Prod.mk.injEq] at hzz
  obtain ⟨hz, hs, hb⟩ := hzz
  have hr := run_make (P := Tryd.prog) w 64 68 i _ Tryd.underlying64 hi hz .i64 .i64 N N (by omega) (Int.le_refl _) (by rw [hb]; omega) (by omega)
  simp only [Int.toNat_natCast, hs] at hr
  exact hr
def zBR : BR := ⟨0, 0, .slice none 0 0, [], .slice none 0 0, []⟩
theorem made_blks (n : Nat) : madeCells #[Value.int .i64 0, .int .i64 0, .slice none 0 0, .slice none 0 0] (n * 4) = (brCells (List.replicate n zBR)).toArray := by
  apply Array.ext_getElem?
  intro i
  by_cases h : i < n * 4
  · have h1 : i / 4 < n := by omega
    have h2 := brCells_get (l := List.replicate n zBR) (q := i / 4) (r := zBR) (by rw [List.getElem?_replicate, if_pos h1]) (j := i % 4) (by omega)
    rw [show i / 4 * 4 + i % 4 = i by omega] at h2
    have e : (brCells (List.replicate n zBR)).toArray[i]? = zBR.cells[i % 4]? := List.getElem?_toArray.trans h2
    rw [e]
    have h3 : i % 4 = 0 ∨ i % 4 = 1 ∨ i % 4 = 2 ∨ i % 4 = 3 := by omega
    rcases h3 with h3 | h3 | h3 | h3 <;> simp [madeCells, h, h3, zBR, BR.cells]
  · rw [Array.getElem?_eq_none (by simp [madeCells]; omega), List.getElem?_toArray, List.getElem?_eq_none (by rw [brCells_length]; simp; omega)]
theorem blks_start (w : World) (n : Nat) : BlkB (w.alloc (.cells (madeCells #[.int .i64 0, .int .i64 0, .slice none 0 0, .slice none 0 0] (n * 4)) 68)) w.heap.size (w.heap.size + 1) (List.replicate n zBR) := by
  refine ⟨by rw [made_blks]; exact heap_alloc_new _ _, ⟨fun q r c hq => ?_, fun q q' r r' c c' b hq hq' _ hb => ?_⟩, by omega⟩
  · have : r = zBR := List.eq_of_mem_replicate (List.mem_of_getElem? hq)
    subst this
    cases c <;> exact World.ownsRow_nil _ _ _ _
  · have : r = zBR := List.eq_of_mem_replicate (List.mem_of_getElem? hq)
    subst this
    cases c <;> simp [BR.val, zBR, Value.ownBlock] at hb
def fBR (v : Value) : BR := ⟨0, 0, .slice none 0 0, [], v, [-1]⟩
def blk0 (v : Value) (n : Nat) : List BR := (List.replicate n zBR).set 0 (fBR v)
theorem blks_first (w : World) (n : Nat) (hn : 0 < n) : BlkB (((w.alloc (.cells (madeCells #[.int .i64 0, .int .i64 0, .slice none 0 0, .slice none 0 0] (n * 4)) 68)).alloc (.cells #[.int .i64 (-1)] 3)).setCell ⟨w.heap.size, 3, none⟩ (.slice (some ⟨w.heap.size + 1, 0, none⟩) 1 1)) w.heap.size (w.heap.size + 1) (blk0 (.slice (some ⟨w.heap.size + 1, 0, none⟩) 1 1) n) := by
  have h := blks_start w n
  have hq : (List.replicate n zBR)[0]? = some zBR := by rw [List.getElem?_replicate, if_pos hn]
  have ho := OwnI.made (w.alloc (.cells (madeCells #[.int .i64 0, .int .i64 0, .slice none 0 0, .slice none 0 0] (n * 4)) 68)) (w.heap.size + 1) [-1] (by simp) (by simp)
  have hr := h.rows.app hq true (v := .slice (some ⟨w.heap.size + 1, 0, none⟩) 1 1) (x := -1) (World.grownBy_alloc _ (.cells #[.int .i64 (-1)] 3) _) (by simpa [OwnI, zBR, BR.lst] using ho) (.inr ⟨w.heap.size + 1, by simp, rfl⟩)
  have hb := heap_alloc_old (w.alloc (.cells (madeCells #[.int .i64 0, .int .i64 0, .slice none 0 0, .slice none 0 0] (n * 4)) 68)) (.cells #[.int .i64 (-1)] 3) (block_lt h.blk)
  have hs := brCells_set (List.replicate n zBR) 0 zBR (fBR (.slice (some ⟨w.heap.size + 1, 0, none⟩) 1 1)) 3 (.slice (some ⟨w.heap.size + 1, 0, none⟩) 1 1) hq (by omega) rfl
  refine ⟨?_, hr.setCell h.lt _, h.lt⟩
  have h2 := hb.trans h.blk
  simp only [World.setCell, Array.getElem?_modify, if_true, h2, Option.map_some]
  unfold blk0
  rw [← hs]; simp
theorem blk0_start (F : Fnc) (v : Value) : BkS F 0 0 (blk0 v (hdL F).length) := by
  have hg : ∀ (q : Nat) (r : BR), (blk0 v (hdL F).length)[q]? = some r → r = if q = 0 then fBR v else zBR := fun q r h => by
    unfold blk0 at h
    have hl : q < (hdL F).length := by have := (List.getElem?_eq_some_iff.1 h).1; simpa using this
    rw [set_get (r := zBR) (by rw [List.getElem?_replicate, if_pos (by omega)])] at h
    by_cases e : q = 0
    · rw [if_pos e] at h ⊢; exact (Option.some.inj h).symm
    · rw [if_neg e, List.getElem?_replicate, if_pos hl] at h; rw [if_neg e]; exact (Option.some.inj h).symm
  refine ⟨by simp [blk0], fun q r _ h => by omega, fun q r h => ?_, fun q r h => ?_⟩
  · rw [hg q r h]
    by_cases e : q = 0 <;> simp [e, fBR, zBR, natI]
  · rw [hg q r h, prevTo_zero]
    by_cases e : q = 0 <;> simp [e, fBR, zBR]
theorem pickP_len (F : Fnc) (l : List Nat) (q k : Nat) : (pickP F l q k).length ≤ l.length := by unfold pickP; rw [List.length_map]; exact List.length_filter_le _ _
theorem nxI_len (F : Fnc) (a : Nat) : (nxI F a).length ≤ 2 := by unfold nxI nxN; rw [List.length_map]; exact nextS_length _ _
theorem prevTo_len (F : Fnc) (i t k : Nat) : (prevTo F i t k).length ≤ 3 + 2 * i := by
  have h1 : ∀ n, ((List.range n).flatMap fun q => pickP F (nxI F (hdA F q)) q k).length ≤ 2 * n := fun n => by
    induction n with
    | zero => simp
    | succ n ih =>
      rw [List.range_succ, List.flatMap_append, List.length_append]
      have h2 := pickP_len F (nxI F (hdA F n)) n k
      have h3 := nxI_len F (hdA F n)
      simp only [List.flatMap_cons, List.flatMap_nil, List.append_nil]
      omega
  have h4 := h1 i
  have h5 := pickP_len F ((nxI F (hdA F i)).take t) i k
  have h6 : ((nxI F (hdA F i)).take t).length ≤ 2 := by rw [List.length_take]; have := nxI_len F (hdA F i); omega
  have h7 : (if k = 0 then [(-1 : Int)] else []).length ≤ 1 := by split <;> simp
  unfold prevTo
  rw [List.length_append, List.length_append]
  omega
/-- What was stays, and the blocks. -/
structure BW (w4 wr : World) (bs : List BR) : Prop where
  low : Below w4.heap.size w4 wr
  blk : BlkB wr w4.heap.size (w4.heap.size + 1) bs
/-- .. and the row Av, made behind them, stays too. -/
structure BX (w4 w7 wr : World) (Av : Option Addr) (bs : List BR) : Prop where
  bw : BW w4 wr bs
  size : w7.heap.size ≤ wr.heap.size
  keep : ∀ gv, Av = some ⟨gv, 0, none⟩ → gv < w7.heap.size → wr.heap[gv]? = w7.heap[gv]? ∧ gv ≠ w4.heap.size ∧ ∀ (q : Nat) (r : BR) (c : Bool), bs[q]? = some r → (r.val c).ownBlock ≠ some gv
section
variable {w4 w7 wr w' : World} {bs : List BR} {Av : Option Addr}
theorem BW.first0 (w : World) (n : Nat) (hn : 0 < n) : BW w (((w.alloc (.cells (madeCells #[.int .i64 0, .int .i64 0, .slice none 0 0, .slice none 0 0] (n * 4)) 68)).alloc (.cells #[.int .i64 (-1)] 3)).setCell ⟨w.heap.size, 3, none⟩ (.slice (some ⟨w.heap.size + 1, 0, none⟩) 1 1)) (blk0 (.slice (some ⟨w.heap.size + 1, 0, none⟩) 1 1) n) :=
  ⟨by repeat (first | exact hb | exact Below.refl _ _ | apply Below.drew | apply below_drewN | refine Below.alloc ?_ (by first | omega | (simp; done) | (simp; omega)) _ | refine Below.setCell ?_ (by first | omega | (simp; done) | (simp; omega)) _), blks_first w n hn⟩
theorem BW.first (w : World) (n : Nat) (hn : 0 < n) : BW w ((w.alloc (.cells ((madeCells #[.int .i64 0, .int .i64 0, .slice none 0 0, .slice none 0 0] (n * 4)).setIfInBounds 3 (.slice (some ⟨w.heap.size + 1, 0, none⟩) 1 1)) 68)).alloc (.cells #[.int .i64 (-1)] 3)) (blk0 (.slice (some ⟨w.heap.size + 1, 0, none⟩) 1 1) n) := by
  have h := BW.first0 w n hn
  rw [World.setCell_alloc_past _ _ _ _ (by simp), World.setCell_alloc_at _ _ _ _ _ rfl] at h
  exact h
theorem BW.keeps (h : BW w4 wr bs) (hb : Below wr.heap.size wr w') : BW w4 w' bs := ⟨h.low.trans (hb.mono h.low.size), h.blk.keeps hb⟩
theorem BW.set0 (h : BW w4 wr bs) {q : Nat} {r : BR} (hq : bs[q]? = some r) (x : Int) : BW w4 (wr.setCell ⟨w4.heap.size, q * 4, none⟩ (.int .i64 x)) (bs.set q { r with fr := x }) := ⟨h.low.setCell (Nat.le_refl _) _, h.blk.set0 hq x⟩
theorem BW.set1 (h : BW w4 wr bs) {q : Nat} {r : BR} (hq : bs[q]? = some r) (x : Int) : BW w4 (wr.setCell ⟨w4.heap.size, q * 4 + 1, none⟩ (.int .i64 x)) (bs.set q { r with to := x }) := ⟨h.low.setCell (Nat.le_refl _) _, h.blk.set1 hq x⟩
theorem BW.both (h : BW w4 wr bs) {q : Nat} {r : BR} (hq : bs[q]? = some r) (x y : Int) : BW w4 ((wr.setCell ⟨w4.heap.size, q * 4, none⟩ (.int .i64 x)).setCell ⟨w4.heap.size, q * 4 + 1, none⟩ (.int .i64 y)) (bs.set q { r with fr := x, to := y }) := by
  have h1 := (h.set0 hq x).set1 (q := q) (r := { r with fr := x }) (by rw [set_get hq, if_pos rfl]) y
  have h2 : (bs.set q { r with fr := x }).set q { r with fr := x, to := y } = bs.set q { r with fr := x, to := y } := by rw [List.set_set]
  rw [← h2]; exact h1
theorem BW.app (h : BW w4 wr bs) {q : Nat} {r : BR} (hq : bs[q]? = some r) (c : Bool) {v : Value} {x : Int} (o : Obj) (hg : (wr.alloc o).grownBy w' (r.val c).ownBlock)
    (ho : w'.ownsRow (w4.heap.size + 1) 3 1 v ((r.lst c).length + 1) ((r.lst c).map (Value.int .i64) ++ [.int .i64 x])) (hat : v.ownBlock = (r.val c).ownBlock ∨ v.ownBlock = some (wr.alloc o).heap.size) :
    BW w4 (w'.setCell ⟨w4.heap.size, q * 4 + (if c = true then 3 else 2), none⟩ v) (bs.set q (r.upd c v (r.lst c ++ [x]))) ∧ w'.heap[w4.heap.size]? = wr.heap[w4.heap.size]? := by
  obtain ⟨h1, h2⟩ := h.blk.app hq c o hg ho hat
  refine ⟨⟨?_, h1⟩, h2⟩
  have h3 := h.low.size
  have h4 : Below w4.heap.size w4 (wr.alloc o) := h.low.alloc h3 o
  exact (h4.grown hg h4.size (fun k hk => by have := (h.blk.rows.lt hq c k hk).1; omega)).setCell (Nat.le_refl _) _
theorem upd_own {q : Nat} {r : BR} (hq : bs[q]? = some r) (c : Bool) (v : Value) (l : List Int) (i : Nat) (s : BR) (d : Bool) (hs : (bs.set q (r.upd c v l))[i]? = some s) : s.val d = v ∨ ∃ s0, bs[i]? = some s0 ∧ s.val d = s0.val d := by
  rw [set_get hq] at hs
  by_cases e : i = q
  · rw [if_pos e] at hs
    obtain rfl := Option.some.inj hs
    by_cases hd : d = c
    · subst hd; exact .inl (BR.upd_val _ _ _ _)
    · exact .inr ⟨r, by rw [e]; exact hq, BR.upd_val' r hd _ _⟩
  · rw [if_neg e] at hs; exact .inr ⟨s, hs, rfl⟩
theorem upd_other {q : Nat} {r : BR} (hq : bs[q]? = some r) (v : Value) (l : List Int) (i : Nat) (s : BR) (hs : (bs.set q (r.upd false v l))[i]? = some s) : ∃ s0, bs[i]? = some s0 ∧ s.pl = s0.pl := by
  rw [set_get hq] at hs
  by_cases e : i = q
  · rw [if_pos e] at hs
    obtain rfl := Option.some.inj hs
    exact ⟨r, by rw [e]; exact hq, rfl⟩
  · rw [if_neg e] at hs; exact ⟨s, hs, rfl⟩
theorem BX.app (h : BX w4 w7 wr Av bs) {q : Nat} {r : BR} (hq : bs[q]? = some r) (c : Bool) {v : Value} {x : Int} (o : Obj) (hg : (wr.alloc o).grownBy w' (r.val c).ownBlock)
    (ho : w'.ownsRow (w4.heap.size + 1) 3 1 v ((r.lst c).length + 1) ((r.lst c).map (Value.int .i64) ++ [.int .i64 x])) (hat : v.ownBlock = (r.val c).ownBlock ∨ v.ownBlock = some (wr.alloc o).heap.size) :
    BX w4 w7 (w'.setCell ⟨w4.heap.size, q * 4 + (if c = true then 3 else 2), none⟩ v) Av (bs.set q (r.upd c v (r.lst c ++ [x]))) ∧ w'.heap[w4.heap.size]? = wr.heap[w4.heap.size]? := by
  obtain ⟨h1, h2⟩ := h.bw.app hq c o hg ho hat
  have h3 : (wr.alloc o).heap.size = wr.heap.size + 1 := by simp
  refine ⟨⟨h1, ?_, fun gv hv hl => ?_⟩, h2⟩
  · have := hg.size; have := h.size; simp only [World.setCell, Array.size_modify]; omega
  · obtain ⟨k1, k2, k3⟩ := h.keep gv hv hl
    have hs := h.size
    refine ⟨?_, k2, fun i s d hi e => ?_⟩
    · rw [Below.heap_setCell _ _ _ _ (by simpa using k2), hg.block gv (by omega) (fun e => k3 q r c hq e.symm)]
      exact (heap_alloc_old wr o (r := gv) (by omega)).trans k1
    · rcases upd_own hq c v _ i s d hi with h4 | ⟨s0, h4, h5⟩
      · rw [h4] at e
        rcases hat with h6 | h6
        · rw [h6] at e; exact k3 q r c hq e
        · rw [h6] at e; have := Option.some.inj e; omega
      · rw [h5] at e; exact k3 i s0 d h4 e
theorem BX.start (h : BW w4 wr bs) (hb : Below wr.heap.size wr w') (hB : ∀ gv, Av = some ⟨gv, 0, none⟩ → wr.heap.size ≤ gv) : BX w4 w' w' Av bs := by
  refine ⟨h.keeps hb, Nat.le_refl _, fun gv hv hl => ⟨rfl, fun e => ?_, fun q r c hq e => ?_⟩⟩
  · have h1 := hB gv hv; have h2 := block_lt h.blk.blk; omega
  · have h1 := hB gv hv; have h2 := (h.blk.rows.lt hq c gv e).2; omega
end
end Go.Proofs.YtefbdecejoeamaaDoor
