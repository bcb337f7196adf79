/-
  A state in a box, changed at one cell: its fuel, its status.
-/
import Derived.Test.YtnbopmlemddakaaDoorRc
namespace Go.Proofs.YtnbopmlemddakaaDoor
open Go.RowKit Tier
theorem CellsSt.fuel {C : List Value} {w : World} {B : Nat} {s : St} (h : CellsSt C w B s) (hm : s.mem.length = 16) (n : Int) : CellsSt (C.set 19 (.int .i64 n)) w B { s with fuel := n } := by
  obtain ⟨FS, ES, AS, rfl, hr⟩ := h
  exact ⟨FS, ES, AS, stS_19 FS ES AS hm n, hr.fr, hr.ev, hr.an, hr.ne⟩
theorem CellsSt.status {C : List Value} {w : World} {B : Nat} {s : St} (h : CellsSt C w B s) (n : Int) : CellsSt (C.set 0 (.int .i64 n)) w B { s with status := n } := by
  obtain ⟨FS, ES, AS, rfl, hr⟩ := h
  exact ⟨FS, ES, AS, stS_0 FS ES AS n, hr.fr, hr.ev, hr.an, hr.ne⟩
theorem Sx.setc {wP w : World} {pb : Nat} {pv : Value} {l l' : List (Nat × List Value × St)} (h : Sx wP pb pv w l) {b : Nat} {C : List Value} {s : St} (hx : (b, C, s) ∈ l) (hB : wP.heap.size ≤ b) {i : Nat} {v : Value} {C' : List Value} (hC' : C.set i v = C') {s' : St} (hs : CellsSt C' w wP.heap.size s') (hn : ∀ x ∈ l', x ∈ l ∧ x.1 ≠ b) :
    Sx wP pb pv (w.setCell ⟨b, i, none⟩ v) ((b, C', s') :: l') := by
  have hb := (h.sts _ hx).1
  have hne : pb ≠ b := fun e => by
    have := h.pblk
    rw [e, hb] at this
    simp at this
  have key : ∀ {C1 : List Value} {s1 : St}, CellsSt C1 w wP.heap.size s1 → CellsSt C1 (w.setCell ⟨b, i, none⟩ v) wP.heap.size s1 := fun hC1 => by
    obtain ⟨FS, ES, AS, h1, h2⟩ := hC1
    exact ⟨FS, ES, AS, h1, h2.set hb (by decide) (by decide) i v⟩
  refine ⟨h.below.setCell hB _, block_set_ne h.pblk (fun e => hne e.symm) _ _, fun x hx => ?_⟩
  rcases List.mem_cons.1 hx with rfl | hx
  · exact ⟨block_put hb hC', key hs⟩
  · obtain ⟨h1, h2⟩ := hn x hx
    exact ⟨block_set_ne (h.sts x h1).1 (fun e => h2 e.symm) _ _, key (h.sts x h1).2⟩
theorem Sx.frozen {wP w : World} {pb : Nat} {pv : Value} {l : List (Nat × List Value × St)} (h : Sx wP pb pv w l) {b : Nat} {C : List Value} {s : St} (hx : (b, C, s) ∈ l) (i : Nat) : w.frozen? ⟨b, i, none⟩ = false := frozen_block (h.sts _ hx).1 i
theorem addF_inv {p : List Fnc} {s : St} (h : StInv p s) {k : Int} (h0 : 0 ≤ k) (h1 : s.fuel + k ≤ 10000) (he : s.events = []) : StInv p (addF s k) :=
  ⟨h.mem, by have := h.fuel0; show 0 ≤ s.fuel + k; omega, h1, h.stat0, h.stat1, h.val, h.done, h.deep, h.ans, by show (s.events.length : Int) + (s.fuel + k) ≤ 1000000; rw [he]; simp; omega, h.fr, h.calls⟩
end Go.Proofs.YtnbopmlemddakaaDoor
