/-
  The matrix of clashes: how it is made, and what else stays.
-/
import Derived.Test.YtfdppmjoinodgaaDoorPb
import Derived.Test.YtfdppmjoinodgaaDoorAt
namespace Go.Proofs.YtfdppmjoinodgaaDoor
open Go.RowKit Tier
/-! which values stand in the registers that are live -/
def leftL (m : Nat) (R : List Int) : List Int := ((List.range 12).filter fun r => m.testBit r).map fun r => R.getD r 0
def leftTo (O : List Nat) (R : List Int) (L : List Nat) (q : Nat) : List Int := (L.take q).flatMap fun n => leftL (O.getD n 0) R
/-- An instruction's turn. -/
def insM (F : Fnc) (O : List Nat) (s : SB) (i : Nat) (M : Nat → Nat → Bool) (t : Nat) : Nat → Nat → Bool := if (s.insA i t).id < 0 then M else togTo M (leftTo O (atR s F i (t + 1)) (behL F i (hdA F i + t)) (behL F i (hdA F i + t)).length) (s.insA i t).id (leftTo O (atR s F i (t + 1)) (behL F i (hdA F i + t)) (behL F i (hdA F i + t)).length).length
def gInTo (F : Fnc) (O : List Nat) (s : SB) (i : Nat) (M : Nat → Nat → Bool) : Nat → Nat → Nat → Bool
  | 0 => togTo M (s.part i).inn (-1) (s.part i).inn.length
  | t + 1 => insM F O s i (gInTo F O s i M t) t
/-- The matrix when so many blocks have had their turn. -/
def gatTo (F : Fnc) (O : List Nat) (s : SB) : Nat → Nat → Nat → Bool
  | 0 => fun _ _ => false
  | i + 1 => gInTo F O s i (gatTo F O s i) (s.part i).ins.length
theorem madeCells_one (z : Value) (n : Nat) : madeCells #[z] n = (List.replicate n z).toArray := by
  apply Array.ext_getElem?
  intro i
  by_cases h : i < n
  · simp [madeCells, h, Nat.mod_one]
  · simp [madeCells, h]
theorem infoBs : (Tryd.prog.info? 41).map (fun i => (i.zero, i.size, i.bytes)) = some (some (.slice none 0 0), 1, 24) := by kernel_rfl
theorem make_rowsB (n : Nat) (hn : n ≤ 100000) (w : World) : (Instr.makeSlice 92 (.int .i64 (n : Int)) (.int .i64 (n : Int))).run Tryd.prog w = .ok (.slice (some ⟨w.heap.size, 0, none⟩) n n) (w.alloc (.cells (List.replicate n (Value.slice none 0 0)).toArray 41)) := by
  have := run_make_row' (P := Tryd.prog) 92 41 (.slice none 0 0) 24 Tryd.underlying92 infoBs rfl .i64 .i64 n (by omega) (by omega) w
  rw [madeCells_one] at this
  exact this
theorem make_boolB (n : Nat) (hn : n ≤ 100000) (w : World) : (Instr.makeSlice 41 (.int .i64 (n : Int)) (.int .i64 (n : Int))).run Tryd.prog w = .ok (.slice (some ⟨w.heap.size, 0, none⟩) n n) (w.alloc (.cells (List.replicate n (Value.bool false)).toArray 4)) := by
  have := run_make_row' (P := Tryd.prog) 41 4 (.bool false) 1 Tryd.underlying41 infoB rfl .i64 .i64 n (by omega) (by omega) w
  rw [madeCells_one] at this
  exact this
def nilM : Option Nat → Value := fun _ => .slice none 0 0
def zM : Nat → Nat → Bool := fun _ _ => false
/-- The matrix without rows. -/
theorem MAt.start {w : World} {B N : Nat} (hB : B ≤ w.heap.size) (hN : N ≤ 100000) :
    MAt ((w.alloc (.cells (List.replicate N (Value.slice none 0 0)).toArray 41)).alloc (.cells #[.slice (some ⟨w.heap.size, 0, none⟩) N N] 94)) B (w.heap.size + 1) N 0 (fun k => if k = none then .slice (some ⟨w.heap.size, 0, none⟩) N N else .slice none 0 0) zM := by
  refine ⟨?_, ⟨fun k => ?_, fun k k' hk b h1 h2 => ?_⟩⟩
  · have h := heap_alloc_new (w.alloc (.cells (List.replicate N (Value.slice none 0 0)).toArray 41)) (.cells #[.slice (some ⟨w.heap.size, 0, none⟩) N N] 94)
    simpa using h
  · cases k with
    | none =>
      refine own_below ⟨by simp [mRow], .inr ⟨w.heap.size, N, (List.replicate N (Value.slice none 0 0)).toArray, rfl, hB, heap_alloc_new w _, Nat.le_refl _, by unfold maxLen; omega, by simp [mRow], ?_⟩⟩ ((Below.refl _ _).alloc (Nat.le_refl _) _)
      show ((List.replicate N (Value.slice none 0 0)).take (N * 1)) = (List.range N).map fun _ => _
      rw [List.take_of_length_le (by simp)]
      exact List.ext_getElem (by simp) (fun i h1 h2 => by simp)
    | some a => exact ⟨rfl, .inl ⟨rfl, rfl⟩⟩
  · rw [mRow_v] at h1 h2
    cases k with
    | none =>
      cases k' with
      | none => exact hk rfl
      | some a => simp [Value.ownBlock] at h2
    | some a => simp [Value.ownBlock] at h1
/-- A row of bools is made, and laid into the row of rows. -/
theorem MAt.made {w : World} {B Lc N j : Nat} {V : Option Nat → Value} (h : MAt w B Lc N j V zM) (hj : j < N) (hB : B ≤ w.heap.size) (hN : N ≤ 100000) {g0 cp : Nat} (hv : V none = .slice (some ⟨g0, 0, none⟩) N cp) :
    MAt ((w.alloc (.cells (List.replicate N (Value.bool false)).toArray 4)).setCell ⟨g0, j, none⟩ (.slice (some ⟨w.heap.size, 0, none⟩) N N)) B Lc N (j + 1) (fun k => if k = some j then .slice (some ⟨w.heap.size, 0, none⟩) N N else V k) zM := by
  have h1 := h.own.made hB (some j) 4 1 N (List.replicate N (Value.bool false)) (by simp) (by unfold maxLen; omega)
  have hne : Lc ≠ g0 := fun e => by
    have := h.free h.box (by decide) (by decide) none
    rw [hv, e] at this
    exact this rfl
  have h2 := h1.set none (g := g0) (n := N) (cap := cp) (by rw [putK_ne _ (by simp), mRow_v]; exact hv) j (.slice (some ⟨w.heap.size, 0, none⟩) N N) (by rw [putK_ne _ (by simp)]; show j < ((List.range N).map _).length; simpa using hj)
  refine ⟨(Below.heap_setCell _ _ _ _ hne).trans ((Below.heap_alloc _ _ _ (block_lt h.box)).trans h.box |>.trans (by simp)), ?_⟩
  have key : ∀ (A C : RowC), A.e = C.e → A.size = C.size → A.v = C.v → A.n = C.n → A.xs = C.xs → A = C := fun A C h1 h2 h3 h4 h5 => by
    cases A; cases C; simp only at h1 h2 h3 h4 h5; subst h1 h2 h3 h4 h5; rfl
  refine (congrArg (fun r => OwnK _ B r) (funext fun k => ?_)).mp h2
  cases k with
  | none =>
    rw [putK_self, putK_ne _ (by simp)]
    refine key _ _ rfl rfl rfl rfl ?_
    show ((List.range N).map fun a => V (some a)).set j _ = (List.range N).map fun a => if some a = some j then _ else V (some a)
    refine List.ext_getElem? (fun i => ?_)
    rw [List.getElem?_set, List.getElem?_map, List.getElem?_map]
    by_cases ei : j = i
    · subst ei
      rw [if_pos rfl, List.getElem?_range hj]
      simp [hj]
    · rw [if_neg ei]
      by_cases hi : i < N
      · rw [List.getElem?_range hi]
        show some (V (some i)) = some (if some i = some j then _ else V (some i))
        rw [if_neg (by simpa using fun e : i = j => ei e.symm)]
      · rw [List.getElem?_eq_none (by simpa using hi)]; rfl
  | some a =>
    rw [putK_ne _ (by simp)]
    by_cases e : a = j
    · subst e
      rw [putK_self]
      refine key _ _ rfl rfl ?_ ?_ ?_
      · show _ = if some a = some a then _ else _
        rw [if_pos rfl]
      · exact (if_pos (by omega)).symm
      · show List.replicate N (Value.bool false) = if a < a + 1 then _ else _
        rw [if_pos (by omega)]
        exact List.ext_getElem (by simp) (fun i h1 h2 => by simp [zM])
    · rw [putK_ne _ (by simpa using e)]
      refine key _ _ rfl rfl ?_ ?_ ?_
      · show V (some a) = if some a = some j then _ else _
        rw [if_neg (by simpa using e)]
      · show (if a < j then N else 0) = if a < j + 1 then N else 0
        by_cases c : a < j
        · rw [if_pos c, if_pos (by omega)]
        · rw [if_neg c, if_neg (by omega)]
      · show (if a < j then (List.range N).map fun b => Value.bool (zM a b) else []) = if a < j + 1 then (List.range N).map fun b => Value.bool (zM a b) else []
        by_cases c : a < j
        · rw [if_pos c, if_pos (by omega)]
        · rw [if_neg c, if_neg (by omega)]
theorem FrM.box {w w' : World} {B Lc N j : Nat} {V : Option Nat → Value} {M : Nat → Nat → Bool} (h : FrM w B V w') (hm : MAt w B Lc N j V M) {g : Nat} {c : Array Value} {t : TypeId} {fr : Nat × Nat} (hg : w.heap[g]? = some (.cells c t fr)) (h1 : t ≠ 41) (h2 : t ≠ 4) : w'.heap[g]? = some (.cells c t fr) :=
  (h.kept g (block_lt hg) (hm.free hg h1 h2)).trans hg
theorem FrM.setNew {w w' : World} {B : Nat} {V : Option Nat → Value} (h : FrM w B V w') (hB : B ≤ w.heap.size) {L : Nat} (hL : w.heap.size ≤ L) (o : Nat) (v : Value) : FrM w B V (w'.setCell ⟨L, o, none⟩ v) :=
  ⟨h.below.setCell (Nat.le_trans hB hL) _, by simpa [World.setCell] using h.size, fun g h1 h2 => (Below.heap_setCell _ _ _ _ (Nat.ne_of_lt (Nat.lt_of_lt_of_le h1 hL))).trans (h.kept g h1 h2)⟩
theorem MAt.setOut {w : World} {B Lc N j : Nat} {V : Option Nat → Value} {M : Nat → Nat → Bool} (h : MAt w B Lc N j V M) {L : Nat} {c : Array Value} {t : TypeId} {fr : Nat × Nat} (hg : w.heap[L]? = some (.cells c t fr)) (h1 : t ≠ 41) (h2 : t ≠ 4) (hne : Lc ≠ L) (o : Nat) (v : Value) : MAt (w.setCell ⟨L, o, none⟩ v) B Lc N j V M :=
  ⟨(Below.heap_setCell _ _ _ _ hne).trans h.box, h.own.setOut (fun k => by rw [mRow_v]; exact h.free hg h1 h2 k) o v⟩
/-- Blocks stay where the matrix alone changes. -/
theorem FrM.blk {w w' : World} {B Lc N j gb Bb : Nat} {V : Option Nat → Value} {M : Nat → Nat → Bool} {bs : List BR} (h : FrM w B V w') (hm : MAt w B Lc N j V M) (hb : BlkB w gb Bb bs) : BlkB w' gb Bb bs := by
  refine ⟨h.box hm hb.blk (by decide) (by decide), ⟨fun q r c hq => own_of (hb.rows.own q r c hq) (fun b he => ?_), hb.rows.ap⟩, hb.lt⟩
  rcases (hb.rows.own q r c hq).2 with ⟨h1, -⟩ | ⟨g, cap, cur, hv, hg, hh, -⟩
  · rw [h1] at he; simp [Value.ownBlock] at he
  · rw [hv] at he
    have e' : g = b := by simpa [Value.ownBlock] using he
    subst e'
    exact h.kept g (block_lt hh) (hm.free hh (by decide) (by decide))
end Go.Proofs.YtfdppmjoinodgaaDoor
