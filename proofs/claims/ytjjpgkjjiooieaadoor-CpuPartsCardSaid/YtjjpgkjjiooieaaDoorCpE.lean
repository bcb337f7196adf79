/-
  A machine is the same as itself, compared as a value.
-/
import Derived.Test.YtjjpgkjjiooieaaDoorSelf
import Derived.Test.YtjjpgkjjiooieaaDoorCpW
namespace Go.Proofs.YtjjpgkjjiooieaaDoor
open Go.RowKit Tier
theorem self_ints {t : TypeId} {n : Nat} (hu : Tryd.prog.underlying t = some (.array n 3)) (hc : Tryd.prog.cellsOf t = n) (d : Nat) (xs : Array Value) (off : Nat)
    (h : ∀ j, j < n → ∃ z, xs[off + j]? = some (.int .i64 z)) : SelfEq Tryd.prog (d + 1 + 1) t xs off := by
  obtain ⟨i, hi⟩ := info_of_underlying Tryd.underlying3
  obtain ⟨it, hit⟩ := info_of_underlying hu
  refine self_row hu hi hit xs off (fun j hj => ?_)
  obtain ⟨z, hz⟩ := h j hj
  have hs := (Array.getElem?_eq_some_iff.1 hz).1
  refine self_int (n := z) Tryd.underlying3 ?_
  rw [cInt, Nat.mul_one, hc, Array.getElem?_extract, if_pos (by omega)]
  exact hz
theorem eq_cpu (c : Cpu) (hc : c.Ok) (w : World) : (Op.equalIn 10000 31 (.agg c.cells.toArray) (.agg c.cells.toArray)).run Tryd.prog w = .ok true w := by
  have hm : ((Tryd.prog.fieldsOf 31).toList.map fun f => (f.type, f.offset)) = [(28, 0), (3, 32), (29, 33), (4, 97)] := by kernel_rfl
  refine eq_struct 9999 _ (by kernel_rfl) (by kernel_rfl) (fun f hf => ?_) w
  have h := List.mem_map_of_mem (f := fun f : Field => (f.type, f.offset)) hf
  rw [hm] at h
  simp only [List.mem_cons, Prod.mk.injEq, List.not_mem_nil, or_false] at h
  rcases h with ⟨h1, h2⟩ | ⟨h1, h2⟩ | ⟨h1, h2⟩ | ⟨h1, h2⟩ <;> rw [h1, h2]
  · exact self_ints Tryd.underlying28 (by kernel_rfl) 9997 _ 0 (fun j hj => ⟨_, by rw [List.getElem?_toArray, Nat.zero_add]; exact cells_reg hc hj⟩)
  · exact self_int (n := c.pc) Tryd.underlying3 (by rw [List.getElem?_toArray]; exact cells_pc hc)
  · exact self_ints Tryd.underlying29 (by kernel_rfl) 9997 _ 33 (fun j hj => ⟨_, by rw [List.getElem?_toArray]; exact cells_data hc hj⟩)
  · exact self_bool (b := c.halted) Tryd.underlying4 (by rw [List.getElem?_toArray]; exact cells_halted hc)
end Go.Proofs.YtjjpgkjjiooieaaDoor
