/-
  What sure's own memory is between two steps of its work; a step hands it on.
-/
import Derived.Test.YtfdppmjoinodgaaDoorSu1
namespace Tier
open Go Go.RowKit
def oI : Option Nat → Int
  | none => -1
  | some m => (m : Int)
def outL (l : List (Option Nat)) : List Int := l.map oI
def natI (l : List Nat) : List Int := l.map fun (n : Nat) => (n : Int)
theorem outL_length (l : List (Option Nat)) : (outL l).length = l.length := by simp [outL]
theorem natI_length (l : List Nat) : (natI l).length = l.length := by simp [natI]
theorem outL_get {l : List (Option Nat)} {i : Nat} {o : Option Nat} (h : l[i]? = some o) : (outL l)[i]? = some (oI o) := by simp [outL, h]
theorem sumW_none (k : Nat) : sumW (List.replicate k none) = 4096 * k := by
  induction k with
  | zero => rfl
  | succ k ih => rw [List.replicate_succ]; simp only [sumW, List.map_cons, List.sum_cons, wt] at *; omega
theorem muS_start (f : Fnc) (h : f.code.length ≤ 40) (hp : f.params ≤ 2) : muS (startS f) ≤ 340000 := by
  have h1 := sumW_set (List.replicate (f.code.length + 1) none) 0 none (some (2 ^ f.params.toNat - 1)) (by simp)
  rw [sumW_none] at h1
  have h2 : 2 ^ f.params.toNat < 4096 := pow_lt (by omega)
  simp only [wt] at h1
  simp only [muS, startS, List.length_cons, List.length_nil]
  omega
theorem iterS_todo {f : Fnc} (hc : COk f.code) (hp : f.params ≤ 2) (hl : f.code.length ≤ 40) (k : Nat) : (iterS f.code k (startS f)).todo.length ≤ 340000 := by
  rcases iterS_mu hc hp k with h | h
  · rw [h]; simp
  · have := muS_start f hl hp
    simp only [muS] at *; omega
theorem last_split {l : List Nat} (h : l ≠ []) : ∃ m pc, l.length = m + 1 ∧ l[m]? = some pc ∧ l.getLast? = some pc ∧ l.dropLast = l.take m ∧ pc ∈ l := by
  have hp := List.length_pos_iff.2 h
  refine ⟨l.length - 1, l.getLast h, by omega, ?_, List.getLast?_eq_some_getLast h, List.dropLast_eq_take, List.getLast_mem h⟩
  rw [← List.getLast?_eq_getElem?, List.getLast?_eq_some_getLast h]
theorem outL_set (l : List (Option Nat)) (i : Nat) (o : Option Nat) : (outL l).set i (oI o) = outL (l.set i o) := by simp [outL, List.map_set]
end Tier
namespace Go.Proofs.YtfdppmjoinodgaaDoor
open Go.RowKit Tier
/-- Whole numbers in one block. -/
def IntsB (w : World) (b : Nat) (l : List Int) : Prop := w.heap[b]? = some (.cells (l.map (Value.int .i64)).toArray 3 (0, 0))
theorem IntsB.lt {w : World} {b : Nat} {l : List Int} (h : IntsB w b l) : b < w.heap.size := (Array.getElem?_eq_some_iff.1 h).1
theorem IntsB.cell {w : World} {b : Nat} {l : List Int} (h : IntsB w b l) {i : Nat} {x : Int} (hx : l[i]? = some x) : w.cell? ⟨b, i, none⟩ = some (.int .i64 x) := by
  rw [cell_block h]
  simp [hx]
theorem IntsB.frozen {w : World} {b : Nat} {l : List Int} (h : IntsB w b l) (i : Nat) : w.frozen? ⟨b, i, none⟩ = false := frozen_block h i
theorem IntsB.keeps {w w' : World} {b : Nat} {l : List Int} (h : IntsB w b l) (hb : Below w.heap.size w w') : IntsB w' b l := (hb.block _ h.lt).trans h
theorem IntsB.set {w : World} {b : Nat} {l : List Int} (h : IntsB w b l) (i : Nat) (x : Int) : IntsB (w.setCell ⟨b, i, none⟩ (.int .i64 x)) b (l.set i x) := by
  unfold IntsB at *
  simp [World.setCell, Array.getElem?_modify, h, List.map_set]
theorem own_pop {w : World} {B : Nat} {e : TypeId} {A : Option Addr} {cap n : Nat} {xs : List Value} (h : w.ownsRow B e 1 (.slice A (n + 1) cap) (n + 1) xs) : w.ownsRow B e 1 (.slice A n cap) n (xs.take n) := by
  obtain ⟨h1, h2⟩ := h
  refine ⟨by simp; omega, ?_⟩
  rcases h2 with ⟨h2, -⟩ | ⟨g, cap', cur, hv, hg, hh, hn, hc, hs, ht⟩
  · simp at h2
  · simp only [Value.slice.injEq] at hv
    obtain ⟨rfl, -, rfl⟩ := hv
    exact .inr ⟨g, cap, cur, rfl, hg, hh, by omega, hc, hs, by rw [← ht, List.take_take]; congr 1; omega⟩
/-- Between two steps: the function's box, the places, the list that is worked off. -/
structure SW (w wr : World) (fp fr : Int) (fv : Value) (A : Option Addr) (cap : Nat) (s : SS) : Prop where
  box : wr.heap[w.heap.size]? = some (.cells #[.int .i64 fp, .int .i64 fr, fv] 57 (0, 0))
  out : IntsB wr (w.heap.size + 1) (outL s.out)
  todo : wr.ownsRow (w.heap.size + 2) 3 1 (.slice A s.todo.length cap) s.todo.length ((natI s.todo).map (Value.int .i64))
  below : Below w.heap.size w wr
section
variable {w wr : World} {fp fr : Int} {fv : Value} {A : Option Addr} {cap : Nat} {s : SS}
theorem SW.size (h : SW w wr fp fr fv A cap s) : w.heap.size + 1 < wr.heap.size := h.out.lt
theorem SW.keeps {w' : World} (h : SW w wr fp fr fv A cap s) (hb : Below wr.heap.size wr w') : SW w w' fp fr fv A cap s :=
  ⟨(hb.block _ (by have := h.size; omega)).trans h.box, h.out.keeps hb, own_below h.todo hb, h.below.trans (hb.mono h.below.size)⟩
theorem SW.pop (h : SW w wr fp fr fv A cap s) (hne : s.todo ≠ []) : SW w wr fp fr fv A cap (popS s) := by
  obtain ⟨m, pc, h1, -, -, h2, -⟩ := last_split hne
  refine ⟨h.box, h.out, ?_, h.below⟩
  have := h.todo
  rw [h1] at this
  have := own_pop this
  simp only [popS, h2, List.length_take]
  rw [show min m s.todo.length = m by omega]
  simpa [natI, List.map_take] using this
theorem SW.room (h : SW w wr fp fr fv A cap s) (hne : s.todo ≠ []) : s.todo.length ≤ cap := by
  have h2 := h.todo.2
  rcases h2 with ⟨h2, -⟩ | ⟨g, cap', cur, hv, hg, hh, hn, hc, hs, ht⟩
  · simp only [Value.slice.injEq] at h2; exact absurd (List.eq_nil_of_length_eq_zero h2.2.1) hne
  · simp only [Value.slice.injEq] at hv
    obtain ⟨-, -, rfl⟩ := hv
    exact hn
theorem SW.at (h : SW w wr fp fr fv A cap s) {m pc : Nat} (hl : s.todo.length = m + 1) (hm : s.todo[m]? = some pc) : ∃ ga, A = some ⟨ga, 0, none⟩ ∧ ga < wr.heap.size ∧ wr.cell? ⟨ga, m, none⟩ = some (.int .i64 pc) := by
  obtain ⟨A0, cap0, hA0, hA⟩ := own_slice h.todo
  simp only [Value.slice.injEq, true_and] at hA0
  obtain ⟨ga, h1, h2, h3⟩ := hA (by omega)
  refine ⟨ga, by rw [hA0.1, h1], h2, ?_⟩
  rw [h3 m (by omega)]
  simp [natI, hm]
/-- A place is set, and put behind the list. -/
theorem SW.push (h : SW w wr fp fr fv A cap s) (n v : Nat) {w1 : World} {A' : Option Addr} {cap' : Nat}
    (hg : ((wr.setCell ⟨w.heap.size + 1, n, none⟩ (.int .i64 (v : Int))).alloc (.cells #[.int .i64 (n : Int)] 3)).grownBy w1 (Value.slice A s.todo.length cap).ownBlock)
    (ho : w1.ownsRow (w.heap.size + 2) 3 1 (.slice A' (s.todo.length + 1) cap') (s.todo.length + 1) ((natI s.todo).map (Value.int .i64) ++ [.int .i64 (n : Int)])) :
    SW w w1 fp fr fv A' cap' ⟨s.out.set n (some v), s.todo ++ [n]⟩ := by
  have hs := h.size
  have hrow : ∀ k, (Value.slice A s.todo.length cap).ownBlock = some k → w.heap.size + 2 ≤ k := fun k hk => (World.ownsRow.lt h.todo k hk).1
  have hblk : ∀ k, k ≤ w.heap.size + 1 → w1.heap[k]? = (wr.setCell ⟨w.heap.size + 1, n, none⟩ (.int .i64 (v : Int))).heap[k]? := fun k hk => by
    rw [hg.block k (by simp; omega) (fun e => by have := hrow k e.symm; omega)]
    exact Below.heap_alloc _ _ _ (by simp; omega)
  refine ⟨?_, ?_, ?_, ?_⟩
  · rw [hblk _ (by omega), Below.heap_setCell _ _ _ _ (by simp)]; exact h.box
  · have := h.out.set n (v : Int)
    unfold IntsB at *
    rw [hblk _ (Nat.le_refl _), this]
    rw [show outL (s.out.set n (some v)) = (outL s.out).set n (v : Int) from (outL_set s.out n (some v)).symm]
  · simpa [natI] using ho
  · have hb1 : Below w.heap.size w (wr.setCell ⟨w.heap.size + 1, n, none⟩ (.int .i64 (v : Int))) := h.below.setCell (by simp) _
    refine (hb1.alloc (by simp; omega) _).grown hg (by simp; omega) (fun k hk => by have := hrow k hk; omega)
/-- .. and the row of next places, that is worked off in the inner loop. -/
structure SX (w wr : World) (fp fr : Int) (fv : Value) (A : Option Addr) (cap : Nat) (s : SS) (gv : Nat) (l : List Nat) : Prop where
  sw : SW w wr fp fr fv A cap s
  row : ∀ (j n : Nat), l[j]? = some n → wr.cell? ⟨gv, j, none⟩ = some (.int .i64 (n : Int))
  hi : w.heap.size + 1 < gv
  ne : (Value.slice A s.todo.length cap).ownBlock ≠ some gv
theorem SW.old (h : SW w wr fp fr fv A cap s) : ∀ k, (Value.slice A s.todo.length cap).ownBlock = some k → k < wr.heap.size := fun k hk => (World.ownsRow.lt h.todo k hk).2
theorem SX.start {wy : World} (h : SW w wr fp fr fv A cap s) (hb : Below wr.heap.size wr wy) {B : Nat} (hB : wr.heap.size ≤ B) {v : Value} {l : List Nat} (ho : OwnI wy B v (natI l)) :
    ∃ Av capv gv, v = .slice Av l.length capv ∧ SX w wy fp fr fv A cap s gv l ∧ (0 < l.length → Av = some ⟨gv, 0, none⟩) := by
  obtain ⟨Av, capv, hv, hc⟩ := own_slice ho
  rw [natI_length] at hv hc
  by_cases hl : 0 < l.length
  · obtain ⟨gv, h1, h2, h3⟩ := hc hl
    have hge : B ≤ gv := (World.ownsRow.lt ho gv (by rw [hv, h1]; rfl)).1
    refine ⟨Av, capv, gv, hv, ⟨h.keeps hb, fun j n hj => ?_, by have := h.size; omega, fun e => ?_⟩, fun _ => h1⟩
    · have hjl : j < l.length := (List.getElem?_eq_some_iff.1 hj).1
      rw [h3 j (by omega)]
      simp [natI, hj]
    · have := h.old _ e; omega
  · have hl0 : l = [] := List.eq_nil_of_length_eq_zero (by omega)
    refine ⟨Av, capv, wr.heap.size, hv, ⟨h.keeps hb, fun j n hj => by rw [hl0] at hj; simp at hj, h.size, fun e => ?_⟩, fun h => absurd h hl⟩
    have := h.old _ e; omega
theorem SX.mid {gv : Nat} {l : List Nat} (h : SX w wr fp fr fv A cap s gv l) (n : Nat) (u : Value) (o : Obj) :
    ((wr.setCell ⟨w.heap.size + 1, n, none⟩ u).alloc o).ownsRow (w.heap.size + 2) 3 1 (.slice A s.todo.length cap) s.todo.length ((natI s.todo).map (Value.int .i64)) :=
  own_below (own_setCell h.sw.todo (by simp) u) ((Below.refl _ _).alloc (Nat.le_refl _) _)
theorem SX.push {gv : Nat} {l : List Nat} (h : SX w wr fp fr fv A cap s gv l) {j0 n0 : Nat} (hj0 : l[j0]? = some n0) (n v : Nat) {w1 : World} {A' : Option Addr} {cap' : Nat}
    (hg : ((wr.setCell ⟨w.heap.size + 1, n, none⟩ (.int .i64 (v : Int))).alloc (.cells #[.int .i64 (n : Int)] 3)).grownBy w1 (Value.slice A s.todo.length cap).ownBlock)
    (ho : w1.ownsRow (w.heap.size + 2) 3 1 (.slice A' (s.todo.length + 1) cap') (s.todo.length + 1) ((natI s.todo).map (Value.int .i64) ++ [.int .i64 (n : Int)]))
    (hat : (Value.slice A' (s.todo.length + 1) cap').ownBlock = (Value.slice A s.todo.length cap).ownBlock ∨ (Value.slice A' (s.todo.length + 1) cap').ownBlock = some ((wr.setCell ⟨w.heap.size + 1, n, none⟩ (.int .i64 (v : Int))).alloc (.cells #[.int .i64 (n : Int)] 3)).heap.size) :
    SX w w1 fp fr fv A' cap' ⟨s.out.set n (some v), s.todo ++ [n]⟩ gv l := by
  have hgv : gv < wr.heap.size := World.block_lt_of_cell? _ _ (h.row j0 n0 hj0)
  have hhi := h.hi
  refine ⟨h.sw.push n v hg ho, fun j m hj => ?_, h.hi, ?_⟩
  · rw [← h.row j m hj]
    have e : w1.heap[gv]? = wr.heap[gv]? := by
      rw [hg.block gv (by simp; omega) (fun e => h.ne e.symm), Below.heap_alloc _ _ _ (by simpa using hgv), Below.heap_setCell _ _ _ _ (by simp; omega)]
    simp only [World.cell?, e]
  · have hlen : (s.todo ++ [n]).length = s.todo.length + 1 := by simp
    show (Value.slice A' (s.todo ++ [n]).length cap').ownBlock ≠ some gv
    rw [hlen]
    rcases hat with hat | hat
    · rw [hat]; exact h.ne
    · rw [hat]; simp; omega
end
end Go.Proofs.YtfdppmjoinodgaaDoor
