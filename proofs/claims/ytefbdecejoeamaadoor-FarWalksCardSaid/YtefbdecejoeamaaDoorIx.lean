/-
  The contracts of the closures of emit.Far and of slices.IndexFunc at blocks: at what block a place is a beginning.
-/
import Derived.Test.YtefbdecejoeamaaDoorBk
namespace Go.Proofs.YtefbdecejoeamaaDoor
open Go.RowKit Tier
set_option maxRecDepth 100000 in
set_option maxHeartbeats 4000000 in
theorem fcl_any (fr to pc : Int) (v2 v3 : Value) (P : Nat) (w : World) (hP : w.heap[P]? = some (.cells #[.int .i64 pc] 3 (0, 0))) :
    Calls Tryd.prog 79 #[.agg #[.int .i64 fr, .int .i64 to, v2, v3], .pointer (some ⟨P, 0, none⟩)] w fun e w' => e = .returned (.bool (fr == pc)) ∧ Below w.heap.size w w' := by
  have hb := (Below.refl w.heap.size w).alloc (Nat.le_refl _) (.cells #[.int .i64 fr, .int .i64 to, v2, v3] 68)
  have p0 := (hb.cell (p := ⟨P, 0, none⟩) (block_lt hP)).trans ((cell_block hP 0).trans rfl)
  have z0 := block_lt hP
  have HB := Lib.hid hb
  clear hP hb
  go_enter Tryd.func79, Tryd.ntmps79
  go_wp2_with fail
  go_ret
  exact ⟨rfl, HB.out⟩
/-- The block at which a place is the beginning, or -1. -/
def AtRes (F : Fnc) (pc r : Int) : Prop := (∃ j : Nat, j < (hdL F).length ∧ r = (j : Int) ∧ (hdA F j : Int) = pc) ∨ (r = -1 ∧ ∀ j : Nat, j < (hdL F).length → (hdA F j : Int) ≠ pc)
set_option maxRecDepth 100000 in
set_option maxHeartbeats 4000000 in
theorem idxf_any (F : Fnc) (pc : Int) (g B : Nat) (bs : List BR) (P : Nat) (cap : Nat) (w : World) (hH : (hdL F).length ≤ 40) (hP : w.heap[P]? = some (.cells #[.int .i64 pc] 3 (0, 0))) (hB : BlkB w g B bs) (hO : BlkOk F bs) :
    Calls Tryd.prog 78 #[.slice (some ⟨g, 0, none⟩) (hdL F).length cap, .func (.func 79) #[] #[.pointer (some ⟨P, 0, none⟩)]] w fun e w' => (∃ r, e = .returned (.int .i64 r) ∧ AtRes F pc r) ∧ Below w.heap.size w w' := by
  obtain ⟨H, hHH⟩ : ∃ H, (hdL F).length = H := ⟨_, rfl⟩
  have HH := Lib.hid hHH
  have HP := Lib.hid hP
  have HB := Lib.hid hB
  have HO := Lib.hid hO
  have HCL := Lib.hid (fun (fr to : Int) (v2 v3 : Value) (W : World) (hb : Below w.heap.size w W) => fcl_any fr to pc v2 v3 P W ((hb.block _ (block_lt hP)).trans hP))
  rw [hHH] at hH ⊢
  clear hP hB hO hHH
  go_enter Tryd.func78, Tryd.ntmps78
  go_wp2_with fail
  go_loopw [8] (fun v wr => ∃ i : Nat, i ≤ H ∧ v = .int .i64 (i : Int) ∧ Below w.heap.size w wr ∧ ∀ j, j < i → (hdA F j : Int) ≠ pc) (fun v _ => H - (intOf v).toNat)
  case atStart => exact ⟨0, by omega, rfl, Below.refl _ _, fun j hj => by omega⟩
  case round =>
    obtain ⟨i, hi, rfl, hb, hno⟩ := hrel
    have HNO := Lib.hid hno
    have HBW := Lib.hid hb
    clear hno
    by_cases hiN : i = H
    · obtain rfl : H = i := hiN.symm
      clear hb
      go_wp2_with fail
      go_ret
      exact ⟨⟨-1, rfl, .inr ⟨rfl, fun j hj => HNO.out j (by rw [HH.out] at hj; exact hj)⟩⟩, HBW.out⟩
    · have hi1 : (i : Int) < H := by omega
      have hi2 : (0 : Int) ≤ i := by omega
      have hiH : i < H := by omega
      obtain ⟨r, hr⟩ : ∃ r, bs[i]? = some r := ⟨_, List.getElem?_eq_getElem (by rw [HO.out.len, HH.out]; exact hiH)⟩
      have HFR := Lib.hid (HO.out.at_ i r hr).1
      have hBr := HB.out.keeps hb
      have y0 : wr.cell? ⟨g, i * 4, none⟩ = some (.int .i64 r.fr) := hBr.cell hr (j := 0) (by omega)
      have y1 : wr.cell? ⟨g, i * 4 + 1, none⟩ = some (.int .i64 r.to) := hBr.cell hr (j := 1) (by omega)
      have y2 : wr.cell? ⟨g, i * 4 + 2, none⟩ = some r.nv := hBr.cell hr (j := 2) (by omega)
      have y3 : wr.cell? ⟨g, i * 4 + 3, none⟩ = some r.pv := hBr.cell hr (j := 3) (by omega)
      have zg := block_lt hBr.blk
      have HIH := Lib.hid hiH
      obtain ⟨rf, hrf⟩ : ∃ x, r.fr = x := ⟨_, rfl⟩
      obtain ⟨rt, hrt⟩ : ∃ x, r.to = x := ⟨_, rfl⟩
      obtain ⟨rn, hrn⟩ : ∃ x, r.nv = x := ⟨_, rfl⟩
      obtain ⟨rp, hrp⟩ : ∃ x, r.pv = x := ⟨_, rfl⟩
      rw [hrf] at y0 HFR
      rw [hrt] at y1
      rw [hrn] at y2
      rw [hrp] at y3
      clear hBr hr hrf hrt hrn hrp hiN hb hiH
      by_cases hq : rf = pc
      · have hqb : (pc == pc) = true := by simp
        rw [hq] at y0
        have HQ := Lib.hid hq
        clear hq
        go_wp2_with (go_at_call 79; go_must (refine (HCL.out pc rt rn rp _ HBW.out).mono ?_; rintro e wz ⟨rfl, hbz⟩; have HBZ := Lib.hid hbz; clear hbz))
        go_ret
        exact ⟨⟨(i : Int), rfl, .inl ⟨i, by rw [HH.out]; exact HIH.out, rfl, by rw [← HFR.out]; exact HQ.out⟩⟩, HBW.out.trans (HBZ.out.mono HBW.out.size)⟩
      · have hqb : (rf == pc) = false := by simpa using hq
        have HQ := Lib.hid hq
        clear hq
        go_wp2_with (go_at_call 79; go_must (refine (HCL.out rf rt rn rp _ HBW.out).mono ?_; rintro e wz ⟨rfl, hbz⟩; have HBZ := Lib.hid hbz; clear hbz))
        go_roundw
        case rel => exact ⟨i + 1, by have := HIH.out; omega, by go_num, HBW.out.trans (HBZ.out.mono HBW.out.size), fun j hj => by
          by_cases he : j = i
          · rw [he, ← HFR.out]; exact HQ.out
          · exact HNO.out j (by omega)⟩
        case measure => have := HIH.out; simp [intOf]; omega
set_option maxRecDepth 100000 in
set_option maxHeartbeats 4000000 in
/-- Far's at(pc): P holds the blocks. -/
theorem fat_any (F : Fnc) (pc : Int) (g B : Nat) (bs : List BR) (P : Nat) (cap : Nat) (w : World) (hH : (hdL F).length ≤ 40) (hP : w.heap[P]? = some (.cells #[.slice (some ⟨g, 0, none⟩) (hdL F).length cap] 64 (0, 0))) (hB : BlkB w g B bs) (hO : BlkOk F bs) :
    Calls Tryd.prog 77 #[.int .i64 pc, .pointer (some ⟨P, 0, none⟩)] w fun e w' => (∃ r, e = .returned (.int .i64 r) ∧ AtRes F pc r) ∧ Below w.heap.size w w' := by
  have hmf : ∀ (fn : Fn) (first cap : Array Value) (w : World), (Instr.makeFunc fn first cap).run Tryd.prog w = .ok (.func fn first cap) w := fun _ _ _ _ => rfl
  have hb := (Below.refl w.heap.size w).alloc (Nat.le_refl _) (.cells #[.int .i64 pc] 3)
  have p0 := (hb.cell (p := ⟨P, 0, none⟩) (block_lt hP)).trans ((cell_block hP 0).trans rfl)
  have z0 := block_lt hP
  have HB := Lib.hid hb
  have HI := Lib.hid (idxf_any F pc g B bs w.heap.size cap (w.alloc (.cells #[.int .i64 pc] 3)) hH (heap_alloc_new w _) (hB.keeps hb) hO)
  clear hP hB hO hb
  obtain ⟨H, hHH⟩ : ∃ H, (hdL F).length = H := ⟨_, rfl⟩
  rw [hHH] at p0 HI hH
  clear hHH
  go_enter Tryd.func77, Tryd.ntmps77
  go_wp2_with (go_at_call 78; go_must (refine HI.out.mono ?_; rintro e wz ⟨⟨r, rfl, hr⟩, hbz⟩; have HBZ := Lib.hid hbz; have HRR := Lib.hid hr; clear hbz hr))
  go_ret
  exact ⟨⟨r, rfl, HRR.out⟩, HB.out.trans (HBZ.out.mono HB.out.size)⟩
end Go.Proofs.YtefbdecejoeamaaDoor
