/-
  The machine as plain data: its registers, place, data, whether it has stopped; how it lies in memory.
-/
import Derived.Test.YtjjpgkjjiooieaaDoorRows
import Derived.WalkKit
import Derived.WalkSpells
import Derived.Deep.Light
import Derived.Lib.Hide
import Derived.Deep.QuietTactic
import Derived.BigQuiet
import Derived.Test.YtjjpgkjjiooieaaDoorRvP
namespace Tier
open Go Go.RowKit
structure Cpu where
  regs : List Int
  pc : Int
  data : List Int
  halted : Bool
def Cpu.cells (c : Cpu) : List Value := c.regs.map (Value.int .i64) ++ [.int .i64 c.pc] ++ c.data.map (Value.int .i64) ++ [.bool c.halted]
structure Cpu.Ok (c : Cpu) : Prop where
  regs : c.regs.length = 32
  data : c.data.length = 64
def Cpu.reg (c : Cpu) (r : Int) : Int := c.regs.getD r.toNat 0
def Cpu.put (c : Cpu) (r n : Int) : Cpu := if r = 0 then c else { c with regs := c.regs.set r.toNat n }
theorem Cpu.put_ok {c : Cpu} (h : c.Ok) (r n : Int) : (c.put r n).Ok := by
  unfold Cpu.put; split
  · exact h
  · exact ⟨by simp [h.regs], h.data⟩
theorem Cpu.put_data (c : Cpu) (r n : Int) : (c.put r n).data = c.data := by unfold Cpu.put; split <;> rfl
theorem Cpu.put_pc (c : Cpu) (r n : Int) : (c.put r n).pc = c.pc := by unfold Cpu.put; split <;> rfl
theorem tdiv4 {i : Int} (h0 : -2000000 ≤ i) (h1 : i ≤ 2000000) : -500000 ≤ i.tdiv 4 ∧ i.tdiv 4 ≤ 500000 := by
  rcases Int.le_total 0 i with h | h
  · rw [Int.tdiv_eq_ediv_of_nonneg h]; omega
  · obtain ⟨m, rfl⟩ : ∃ m : Int, i = -m := ⟨-i, by omega⟩
    rw [Int.neg_tdiv, Int.tdiv_eq_ediv_of_nonneg (by omega)]; omega
theorem cells_reg {c : Cpu} (h : c.Ok) {i : Nat} (hi : i < 32) : c.cells[i]? = some (.int .i64 (c.regs.getD i 0)) := by
  unfold Cpu.cells
  have h1 := h.regs
  have h2 := h.data
  rw [List.getElem?_append_left (by simp; omega), List.getElem?_append_left (by simp; omega), List.getElem?_append_left (by simp; omega)]
  rw [List.getElem?_map, List.getD_eq_getElem?_getD, List.getElem?_eq_getElem (by omega)]
  rfl
theorem cells_pc {c : Cpu} (h : c.Ok) : c.cells[32]? = some (.int .i64 c.pc) := by
  unfold Cpu.cells
  have h1 := h.regs
  have h2 := h.data
  rw [List.getElem?_append_left (by simp; omega), List.getElem?_append_left (by simp; omega), List.getElem?_append_right (by simp; omega)]
  simp [h1]
theorem cells_data {c : Cpu} (h : c.Ok) {i : Nat} (hi : i < 64) : c.cells[33 + i]? = some (.int .i64 (c.data.getD i 0)) := by
  unfold Cpu.cells
  have h1 := h.regs
  have h2 := h.data
  rw [List.getElem?_append_left (by simp; omega), List.getElem?_append_right (by simp; omega)]
  simp only [List.length_append, List.length_map, h1, List.length_cons, List.length_nil]
  rw [show 33 + i - (32 + (0 + 1)) = i by omega, List.getElem?_map, List.getD_eq_getElem?_getD, List.getElem?_eq_getElem (by omega)]
  rfl
theorem cells_halted {c : Cpu} (h : c.Ok) : c.cells[97]? = some (.bool c.halted) := by
  unfold Cpu.cells
  have h1 := h.regs
  have h2 := h.data
  rw [List.getElem?_append_right (by simp; omega)]
  simp [h1, h2]
theorem cells_length {c : Cpu} (h : c.Ok) : c.cells.length = 98 := by
  unfold Cpu.cells; simp [h.regs, h.data]
theorem set_reg {c : Cpu} (h : c.Ok) {r : Nat} (hr : r < 32) (n : Int) : c.cells.set r (.int .i64 n) = { c with regs := c.regs.set r n : Cpu }.cells := by
  unfold Cpu.cells
  have h1 := h.regs
  rw [List.set_append_left _ _ (by simp; omega), List.set_append_left _ _ (by simp; omega), List.set_append_left _ _ (by simp; omega), List.map_set]
theorem set_pc {c : Cpu} (h : c.Ok) (n : Int) : c.cells.set 32 (.int .i64 n) = { c with pc := n : Cpu }.cells := by
  unfold Cpu.cells
  have h1 := h.regs
  rw [List.set_append_left _ _ (by simp; omega), List.set_append_left _ _ (by simp; omega), List.set_append_right _ _ (by simp; omega)]
  simp [h1]
theorem set_data {c : Cpu} (h : c.Ok) {i : Nat} (hi : i < 64) (n : Int) : c.cells.set (33 + i) (.int .i64 n) = { c with data := c.data.set i n : Cpu }.cells := by
  unfold Cpu.cells
  have h1 := h.regs
  have h2 := h.data
  rw [List.set_append_left _ _ (by simp; omega), List.set_append_right _ _ (by simp; omega)]
  simp only [List.length_append, List.length_map, h1, List.length_cons, List.length_nil]
  rw [show 33 + i - (32 + (0 + 1)) = i by omega, List.map_set]
theorem set_halted {c : Cpu} (h : c.Ok) (b : Bool) : c.cells.set 97 (.bool b) = { c with halted := b : Cpu }.cells := by
  unfold Cpu.cells
  have h1 := h.regs
  have h2 := h.data
  rw [List.set_append_right _ _ (by simp; omega)]
  simp [h1, h2]
end Tier
namespace Go.Proofs.YtjjpgkjjiooieaaDoor
open Go.RowKit Tier
theorem cell_block {w : World} {b : Nat} {c : Array Value} {t : TypeId} {f : Nat × Nat} (h : w.heap[b]? = some (.cells c t f)) (i : Nat) : w.cell? ⟨b, i, none⟩ = c[i]? := by
  simp [World.cell?, h]
theorem frozen_block {w : World} {b : Nat} {c : Array Value} {t : TypeId} (h : w.heap[b]? = some (.cells c t (0, 0))) (i : Nat) : w.frozen? ⟨b, i, none⟩ = false := by
  simp [World.frozen?, h]
/-- The machine lies in block b. -/
structure MachAt (w : World) (b : Nat) (t : TypeId) (c : Cpu) : Prop where
  ok : c.Ok
  blk : w.heap[b]? = some (.cells c.cells.toArray t (0, 0))
section
variable {w w' : World} {b : Nat} {t : TypeId} {c : Cpu}
theorem MachAt.lt (h : MachAt w b t c) : b < w.heap.size := (Array.getElem?_eq_some_iff.1 h.blk).1
theorem MachAt.keeps {B : Nat} (h : MachAt w b t c) (hb : Below B w w') (hB : b < B) : MachAt w' b t c := ⟨h.ok, (hb.block _ hB).trans h.blk⟩
theorem MachAt.cell (h : MachAt w b t c) (i : Nat) : w.cell? ⟨b, i, none⟩ = c.cells[i]? := by rw [cell_block h.blk]; simp
theorem MachAt.frozen (h : MachAt w b t c) (i : Nat) : w.frozen? ⟨b, i, none⟩ = false := frozen_block h.blk i
theorem MachAt.reg (h : MachAt w b t c) {r : Int} (h0 : 0 ≤ r) (h1 : r < 32) : w.cell? ⟨b, r.toNat, none⟩ = some (.int .i64 (c.reg r)) := by
  rw [h.cell, cells_reg h.ok (by omega)]; rfl
theorem MachAt.pc (h : MachAt w b t c) : w.cell? ⟨b, 32, none⟩ = some (.int .i64 c.pc) := by rw [h.cell, cells_pc h.ok]
theorem MachAt.data (h : MachAt w b t c) {i : Int} (h0 : 0 ≤ i) (h1 : i < 64) : w.cell? ⟨b, 33 + i.toNat, none⟩ = some (.int .i64 (c.data.getD i.toNat 0)) := by
  rw [h.cell, cells_data h.ok (by omega)]
theorem MachAt.halted (h : MachAt w b t c) : w.cell? ⟨b, 97, none⟩ = some (.bool c.halted) := by rw [h.cell, cells_halted h.ok]
theorem MachAt.store (h : MachAt w b t c) (i : Nat) (v : Value) {c' : Cpu} (ho : c'.Ok) (he : c.cells.set i v = c'.cells) : MachAt (w.setCell ⟨b, i, none⟩ v) b t c' := by
  refine ⟨ho, ?_⟩
  simp only [World.setCell, Array.getElem?_modify, if_true, h.blk, Option.map_some]
  simp [← he]
end
end Go.Proofs.YtjjpgkjjiooieaaDoor
