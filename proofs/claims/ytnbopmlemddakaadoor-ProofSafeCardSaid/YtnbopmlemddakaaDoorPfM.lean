/-
  What ProofSafe's own memory is between two steps: a row of bits, frame by frame, beside the state.
-/
import Derived.Test.YtnbopmlemddakaaDoorCtM
import Derived.Test.YtnbopmlemddakaaDoorPfP
namespace Go.Proofs.YtnbopmlemddakaaDoor
open Go.RowKit Tier
/-- All blocks but sb and the row's own are as they were. -/
def OffV (sb : Nat) (SV : Value) (w w' : World) : Prop := ∀ (k : Nat) (o : Obj), k ≠ sb → SV.ownBlock ≠ some k → w.heap[k]? = some o → w'.heap[k]? = some o
structure PsL (w0 : World) (pb sb : Nat) (pv : Value) (wr : World) (SV : Value) (ms : List Nat) (C : List Value) (s : St) : Prop where
  below : Below w0.heap.size w0 wr
  pblk : wr.heap[pb]? = some (.cells #[pv] 25 (0, 0))
  sblk : wr.heap[sb]? = some (.cells C.toArray 50 (0, 0))
  row : wr.ownsRow (sb + 1) 3 1 SV ms.length (intsV (natI ms))
  lts : w0.heap.size ≤ pb ∧ pb < sb
  av : ∀ w', OffV sb SV wr w' → CellsSt C w' w0.heap.size s
section
variable {w0 wr w' : World} {pb sb : Nat} {pv SV : Value} {ms : List Nat} {C : List Value} {s : St}
theorem PsL.keeps (h : PsL w0 pb sb pv wr SV ms C s) (hb : Below wr.heap.size wr w') : PsL w0 pb sb pv w' SV ms C s :=
  ⟨h.below.trans (hb.mono h.below.size), (hb.block _ (block_lt h.pblk)).trans h.pblk, (hb.block _ (block_lt h.sblk)).trans h.sblk, own_below h.row hb, h.lts, fun w'' ho => h.av w'' fun k o h1 h2 hk => ho k o h1 h2 ((hb.block k (block_lt hk)).trans hk)⟩
theorem PsL.sx (h : PsL w0 pb sb pv wr SV ms C s) : Sx w0 pb pv wr [(sb, C, s)] :=
  ⟨h.below, h.pblk, fun x hx => by rw [List.mem_singleton.1 hx]; exact ⟨h.sblk, h.av wr fun _ _ _ _ hk => hk⟩⟩
/-- The row, if it is not empty. -/
theorem PsL.lies (h : PsL w0 pb sb pv wr SV ms C s) (hn : 0 < ms.length) : ∃ g cap, SV = .slice (some ⟨g, 0, none⟩) ms.length cap ∧ sb < g ∧ g < wr.heap.size ∧ ms.length ≤ cap ∧ (∀ i, wr.frozen? ⟨g, i, none⟩ = false) ∧ ∀ (i m : Nat), ms[i]? = some m → wr.cell? ⟨g, i, none⟩ = some (.int .i64 (m : Int)) := by
  rcases h.row.2 with ⟨-, h0⟩ | ⟨g, cap, cur, hv, hg, hh, hc, -, hs, ht⟩
  · omega
  · refine ⟨g, cap, hv, by omega, block_lt hh, hc, fun i => frozen_block hh i, fun i m hm => ?_⟩
    rw [cell_block hh]
    have e : (intsV (natI ms))[i]? = some (.int .i64 (m : Int)) := by simp [intsV, natI, hm]
    rw [← ht, List.getElem?_take] at e
    split at e
    · rw [← Array.getElem?_toList]; exact e
    · cases e
theorem PsL.store {g cap j : Nat} (h : PsL w0 pb sb pv wr (.slice (some ⟨g, 0, none⟩) ms.length cap) ms C s) (hn : 0 < ms.length) (v : Nat) : PsL w0 pb sb pv (wr.setCell ⟨g, j, none⟩ (.int .i64 (v : Int))) (.slice (some ⟨g, 0, none⟩) (ms.set j v).length cap) (ms.set j v) C s := by
  obtain ⟨g', cap', hv, hg, -, -, -, -⟩ := h.lies hn
  simp only [Value.slice.injEq, Option.some.injEq, Addr.mk.injEq, and_true] at hv
  obtain ⟨rfl, -⟩ := hv
  obtain ⟨l1, l2⟩ := h.lts
  refine ⟨h.below.setCell (by show w0.heap.size ≤ g; omega) _, by rw [heap_setCell_ne wr (by omega)]; exact h.pblk, by rw [heap_setCell_ne wr (by omega)]; exact h.sblk, ?_, h.lts, fun w'' ho => h.av w'' fun k o h1 h2 hk => ?_⟩
  · have := (World.ownsRow.stored h.row j (.int .i64 (v : Int))).1
    have e : (intsV (natI ms)).set j (.int .i64 (v : Int)) = intsV (natI (ms.set j v)) := by simp [intsV, natI, List.map_set]
    rw [e] at this
    simpa using this
  · refine ho k o h1 (by simpa [Value.ownBlock] using h2) ?_
    rw [heap_setCell_ne wr (by intro e; exact h2 (by rw [e]; rfl))]; exact hk
theorem PsL.pop {A : Option Addr} {n cap m : Nat} {l : List Nat} (h : PsL w0 pb sb pv wr (.slice A (n + 1) cap) (l ++ [m]) C s) (hl : l.length = n) : PsL w0 pb sb pv wr (.slice A n cap) l C s := by
  refine ⟨h.below, h.pblk, h.sblk, ?_, h.lts, fun w'' ho => h.av w'' fun k o h1 h2 hk => ho k o h1 (by cases A <;> exact h2) hk⟩
  have h1 := h.row
  have e : (l ++ [m]).length = n + 1 := by simp [hl]
  rw [e] at h1
  have := own_pop h1
  have e2 : (intsV (natI (l ++ [m]))).take n = intsV (natI l) := by
    have : n = (intsV (natI l)).length := by simp [intsV, natI, hl]
    rw [this]
    simp [intsV, natI]
  rw [e2] at this
  rw [hl]; exact this
theorem PsL.grow {wb : World} {gg cap : Nat} (h : PsL w0 pb sb pv wr SV ms C s) (hg : wr.grownBy wb SV.ownBlock) {m : Nat} (ho : wb.ownsRow (sb + 1) 3 1 (.slice (some ⟨gg, 0, none⟩) (ms.length + 1) cap) (ms.length + 1) (intsV (natI ms) ++ [.int .i64 (m : Int)])) (hgg : SV.ownBlock = some gg ∨ gg = wr.heap.size) :
    PsL w0 pb sb pv wb (.slice (some ⟨gg, 0, none⟩) (ms ++ [m]).length cap) (ms ++ [m]) C s := by
  obtain ⟨l1, l2⟩ := h.lts
  have hlt := World.ownsRow.lt h.row
  have z1 := block_lt h.pblk
  have z2 := block_lt h.sblk
  refine ⟨h.below.grown hg h.below.size (fun k hk => by have := (hlt k hk).1; omega), ?_, ?_, ?_, h.lts, fun w'' hoff => h.av w'' fun k o h1 h2 hk => ?_⟩
  · exact (hg.block pb z1 (fun e => by have := (hlt pb e.symm).1; omega)).trans h.pblk
  · exact (hg.block sb z2 (fun e => by have := (hlt sb e.symm).1; omega)).trans h.sblk
  · have e : (ms ++ [m]).length = ms.length + 1 := by simp
    rw [e]
    have e2 : intsV (natI (ms ++ [m])) = intsV (natI ms) ++ [.int .i64 (m : Int)] := by simp [intsV, natI]
    rw [e2]; exact ho
  · have hkl := block_lt hk
    refine hoff k o h1 (fun e => ?_) ((hg.block k hkl (fun e => h2 e.symm)).trans hk)
    have e3 : gg = k := by simpa [Value.ownBlock] using e
    rcases hgg with e4 | e4
    · exact h2 (by rw [e4, e3])
    · omega
theorem PsL.put (h : PsL w0 pb sb pv wr SV ms C s) {C2 : List Value} {s2 : St} {wt : World} {Bt : Nat} (hC : CellsSt C2 wt Bt s2) (hB : w0.heap.size ≤ Bt) (hX : sb < Bt) (hS : ∀ k, SV.ownBlock = some k → k < Bt ∨ wt.heap.size ≤ k)
    (hag : ∀ (k : Nat) (o : Obj), Bt ≤ k → SV.ownBlock ≠ some k → wt.heap[k]? = some o → wr.heap[k]? = some o) (hl : C.length = 22) (hl2 : C2.length = 22) : PsL w0 pb sb pv (wr.setCells sb 0 C2) SV ms C2 s2 := by
  obtain ⟨l1, l2⟩ := h.lts
  have hne : ∀ k, k ≠ sb → (wr.setCells sb 0 C2).heap[k]? = wr.heap[k]? := fun k hk => heap_setCells_ne hk C2 wr 0
  have hlt := World.ownsRow.lt h.row
  refine ⟨below_setCells (by omega) _ _ _ h.below, by rw [hne _ (by omega)]; exact h.pblk, block_full h.sblk _ (by simp [hl, hl2]), ?_, h.lts, fun w'' ho => ?_⟩
  · obtain ⟨h1, h2⟩ := h.row
    refine ⟨h1, ?_⟩
    rcases h2 with h2 | ⟨g, cap, cur, hv, hg, hh, r⟩
    · exact .inl h2
    · exact .inr ⟨g, cap, cur, hv, hg, by rw [hne g (by omega)]; exact hh, r⟩
  · refine (cells_from hC fun k o hk hh => ?_).base hB
    have hkl := block_lt hh
    have h1 : k ≠ sb := by omega
    have h2 : SV.ownBlock ≠ some k := fun e => by rcases hS k e with h | h <;> omega
    refine ho k o h1 h2 ?_
    rw [hne k h1]; exact hag k o hk h2 hh
end
end Go.Proofs.YtnbopmlemddakaaDoor
