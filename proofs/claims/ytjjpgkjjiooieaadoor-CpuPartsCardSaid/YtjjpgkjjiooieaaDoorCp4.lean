/-
  The contracts of cpu.Step, cpu.Run.
-/
import Derived.Test.YtjjpgkjjiooieaaDoorCp3
import Derived.Deep.MidRow
namespace Go.Proofs.YtjjpgkjjiooieaaDoor
open Go.RowKit Tier
theorem cpu_check (xs : List Rv5) (A : Option Addr) (cap : Nat) (w : World) (hl : xs.length ≤ 32768) :
    Calls Tryd.prog 19 #[.slice A xs.length cap] w fun e w' => e = .returned (.int .i64 0) ∧ w = w' := by
  have h : ((32768 : Int) < xs.length) = False := by simp; omega
  have h' : (32768 < xs.length) = False := by simp; omega
  go_enter Tryd.func19, Tryd.ntmps19
  go_wp2_with fail
  go_ret
  exact ⟨rfl, rfl⟩
theorem range_block {W : World} {b : Nat} {cs : List Value} {t : TypeId} {fr : Nat × Nat} (h : W.heap[b]? = some (.cells cs.toArray t fr)) : W.rangeAt b 0 cs := fun j v hv => by
  rw [Nat.zero_add, cell_block h]; simpa using hv
theorem there_block {W : World} {b n : Nat} {cs : Array Value} {t : TypeId} (h : W.heap[b]? = some (.cells cs t (0, 0))) (hn : n ≤ cs.size) : W.there b 0 n := fun j hj => by
  rw [Nat.zero_add, cell_block h, frozen_block h, Array.getElem?_eq_getElem (by omega)]
  exact ⟨rfl, rfl⟩
theorem heap_alloc_new1 (w : World) (o1 o2 : Obj) : ((w.alloc o1).alloc o2).heap[w.heap.size + 1]? = some o2 := by
  have := heap_alloc_new (w.alloc o1) o2
  simpa using this
theorem cells_one (c : Cpu) : c.cells.toArray.all (·.oneCell') = true := all_oneCell_toArray (fun v hv => by
  unfold Cpu.cells at hv
  simp only [List.mem_append, List.mem_map, List.mem_singleton] at hv
  rcases hv with ((⟨a, -, rfl⟩ | rfl) | ⟨a, -, rfl⟩) | rfl <;> rfl)
theorem fold_from : ∀ (l : List Value) (k : Nat) (z : Array Value), k + l.length = z.size → ∀ j, ((l.zipIdx k).foldl (fun cs x => cs.setIfInBounds x.snd x.fst) z)[j]? = if k ≤ j ∧ j < k + l.length then l[j - k]? else z[j]?
  | [], k, z, _, j => by rw [if_neg (by simp)]; rfl
  | v :: l, k, z, h, j => by
    rw [List.zipIdx_cons, List.foldl_cons, fold_from l (k + 1) _ (by simp at h ⊢; omega) j]
    simp only [List.length_cons] at h ⊢
    by_cases h1 : k + 1 ≤ j ∧ j < k + 1 + l.length
    · rw [if_pos h1, if_pos (by omega), show j - k = (j - (k + 1)) + 1 by omega]; simp
    · rw [if_neg h1]
      by_cases h2 : j = k
      · subst h2
        rw [if_pos (by omega), Nat.sub_self, List.getElem?_cons_zero, Array.getElem?_setIfInBounds, if_pos rfl, if_pos (by omega)]
      · rw [if_neg (by omega), Array.getElem?_setIfInBounds, if_neg (fun e => h2 e.symm)]
theorem fold_set (l : List Value) (z : Array Value) (h : l.length = z.size) : l.zipIdx.foldl (fun cs x => cs.setIfInBounds x.snd x.fst) z = l.toArray := by
  apply Array.ext_getElem?
  intro j
  rw [fold_from l 0 z (by omega) j]
  by_cases hj : j < l.length
  · rw [if_pos (by omega)]; simp
  · have hz : z.size ≤ j := by omega
    have hj' : l.length ≤ j := by omega
    rw [if_neg (by omega), Array.getElem?_eq_none hz, List.getElem?_toArray, List.getElem?_eq_none hj']
theorem info_cpu {c : Cpu} (h : c.Ok) : (Tryd.prog.info? 31).map (·.size) = some c.cells.length := by
  rw [cells_length h]; kernel_rfl
theorem results_cell2 {fn : Func} {a t2 : Tmp} {ty : TypeId} (h : fn.results = #[.cell a ty, .tmp t2]) (tmps : Array Value) (P : Program) (w : World) (ad : Addr) (v : Value) (ha : tmps[a]?.getD undef = .pointer (some ad))
    (hl : (loadVar ty ad).run P w = .ok v w) : (results fn tmps).run P w = .ok (.tuple #[v, tmps[t2]?.getD undef]) w := by
  simp [results, h, ha, hl, asAddr]
theorem below_setCells {B : Nat} {W0 : World} {b : Nat} (hb : B ≤ b) : ∀ (vs : List Value) (o : Nat) (W : World), Below B W0 W → Below B W0 (W.setCells b o vs)
  | [], _, _, h => h
  | v :: vs, o, _W, h => below_setCells hb vs (o + 1) _ (h.setCell hb v)
def zeroC : Cpu := ⟨List.replicate 32 0, 0, List.replicate 64 0, false⟩
theorem zeroC_ok : zeroC.Ok := ⟨by simp [zeroC], by simp [zeroC]⟩
set_option maxRecDepth 100000 in
theorem zero_cpu (W : World) : (zeroValue 31).run Tryd.prog W = .ok (.agg zeroC.cells.toArray) W := by kernel_rfl
set_option maxRecDepth 100000 in
theorem zero_mach (W : World) : (zeroValue 56).run Tryd.prog W = .ok (.agg zeroC.cells.toArray) W := by kernel_rfl
/-- One step of a machine by value. -/
def regs0 (c : Cpu) : Cpu := { c with regs := c.regs.set 0 0 }
def cstepM (xs : List Rv5) (c : Cpu) : Cpu × Int := if (regs0 c).halted = true then (regs0 c, 0) else if (stepM xs (regs0 c)).2 = 0 then ((stepM xs (regs0 c)).1, 0) else (zeroC, (stepM xs (regs0 c)).2)
set_option maxRecDepth 100000 in
set_option maxHeartbeats 4000000 in
theorem cstep_any (c : Cpu) (hc : c.Ok) (xs : List Rv5) (A : Option Addr) (cap : Nat) (w : World) (ht : Tab w) (hxs : ∀ x ∈ xs, x.ok) (hl : xs.length ≤ 32768) (hw : WordsAt w A xs) :
    Calls Tryd.prog 17 #[.slice A xs.length cap, .agg c.cells.toArray] w fun e w' =>
      e = .returned (.tuple #[.agg (cstepM xs c).1.cells.toArray, .int .i64 (cstepM xs c).2]) ∧ (cstepM xs c).1.Ok ∧ Below w.heap.size w w' := by
  have HCK := Lib.hid (fun (W : World) => cpu_check xs A cap W hl)
  have HT := Lib.hid ht
  have HW := Lib.hid hw
  clear ht hw
  have hz := zero_cpu
  have hzm := zero_mach
  have hc0 := cells_reg hc (i := 0) (by omega)
  have he : c.cells.set 0 (.int .i64 0) = ({ c with regs := c.regs.set 0 0 } : Cpu).cells := set_reg hc (r := 0) (by omega) 0
  have hok0 : ({ c with regs := c.regs.set 0 0 } : Cpu).Ok := ⟨by simp [hc.regs], hc.data⟩
  have HOK := Lib.hid hok0
  obtain ⟨c0, hc0'⟩ : ∃ c0 : Cpu, ({ c with regs := c.regs.set 0 0 } : Cpu) = c0 := ⟨_, rfl⟩
  rw [hc0'] at he HOK
  have HCS := Lib.hid (show cstepM xs c = if c0.halted = true then (c0, 0) else if (stepM xs c0).2 = 0 then ((stepM xs c0).1, 0) else (zeroC, (stepM xs c0).2) by unfold cstepM regs0; rw [hc0'])
  have HSA := Lib.hid (fun (b : Nat) (W : World) (h1 : Tab W) (h2 : MachAt W b 56 c0) (h3 : WordsAt W A xs) (h4 : 1 < b) => step_any b 56 c0 xs A cap W h1 h2 hxs hl h3 h4)
  have hch := cells_halted HOK.out
  have HZL := Lib.hid (cells_length zeroC_ok)
  have hlz := cells_length zeroC_ok
  have hlc := cells_length HOK.out
  have HIZ := Lib.hid (info_cpu zeroC_ok)
  have HOZ := Lib.hid (cells_one zeroC)
  generalize hZ : zeroC.cells = Z at *
  have HZE := Lib.hid hZ
  clear hZ
  have hfold := fold_set c0.cells Z.toArray (by simp [hlz, hlc])
  cases hh : c0.halted
  case' false =>
    rw [hh] at hch
    have hch2 : ∀ h : 97 < c0.cells.length, c0.cells[97]'h = .bool false := fun h => by rw [List.getElem?_eq_getElem h] at hch; exact Option.some.inj hch
  case' true =>
    rw [hh] at hch
    have hch2 : ∀ h : 97 < c0.cells.length, c0.cells[97]'h = .bool true := fun h => by rw [List.getElem?_eq_getElem h] at hch; exact Option.some.inj hch
  all_goals (
    go_enter Tryd.func17, Tryd.ntmps17
    go_wp2_with (first | (go_at_call 19; go_must (refine (HCK.out _).mono ?_; rintro e w' ⟨rfl, rfl⟩)) | (refine wpList_load_mid (by rfl) 31 _ (by rfl) w.heap.size 0 (by rfl) c0.cells _ (range_block (t := 31) (fr := (0, 0)) (by rw [Below.heap_alloc _ _ _ (by simp)]; exact heap_alloc_new _ _)) Tryd.underlying31 (by rfl) (info_cpu HOK.out) ?_) | (refine wpList_store_mid (by rfl) 31 _ _ (by rfl) (w.heap.size + 1) 0 c0.cells.toArray (by rfl) (by rfl) (there_block (t := 31) (cs := Z.toArray) (heap_alloc_new1 _ _ _) (by simp [HZL.out, cells_length HOK.out])) (by simpa using info_cpu HOK.out) (cells_one c0) ?_)))
  · have hth := there_block (t := 31) (n := c0.cells.length) (heap_alloc_new1 w (.cells c0.cells.toArray 31) (.cells Z.toArray 31)) (by simp [HZL.out, cells_length HOK.out])
    have hrd := run_loadVar_mid (P := Tryd.prog) _ _ _ 31 c0.cells _ (World.rangeAt_setCells_same _ _ 0 c0.cells hth) Tryd.underlying31 (by rfl) (info_cpu HOK.out)
    have hfin : cstepM xs c = (c0, 0) := by rw [HCS.out, if_pos hh]
    rw [hfin]
    refine bodyPost_ret (v := .tuple #[.agg c0.cells.toArray, .int .i64 0]) (results_cell2 Tryd.results17 _ _ _ _ _ ?_ hrd) rfl ⟨rfl, HOK.out, ?_⟩
    · rfl
    exact below_setCells (by simp) _ _ _ (((Below.refl _ _).alloc (Nat.le_refl _) _).alloc (by simp) _)
  · have hbw : Below w.heap.size w (((w.alloc (.cells c0.cells.toArray 31)).alloc (.cells Z.toArray 31)).alloc (.cells c0.cells.toArray 56)) := (((Below.refl _ _).alloc (Nat.le_refl _) _).alloc (by simp) _).alloc (by simp; omega) _
    refine (HSA.out (w.heap.size + 1 + 1) _ (HT.out.keeps hbw) ⟨HOK.out, by simpa using heap_alloc_new ((w.alloc (.cells c0.cells.toArray 31)).alloc (.cells Z.toArray 31)) (.cells c0.cells.toArray 56)⟩ (HW.out.keeps hbw) (by omega)).mono ?_
    rintro e wx ⟨rfl, hm, hb⟩
    obtain ⟨r, hr⟩ : ∃ r, stepM xs c0 = r := ⟨_, rfl⟩
    rw [hr] at hm HCS
    rw [hr]
    obtain ⟨c1, er⟩ := r
    have HM := Lib.hid hm
    have HBX := Lib.hid (hbw.trans (hb.mono (by omega)))
    have HZB := Lib.hid ((hb.block (w.heap.size + 1) (by omega)).trans (show _ = some (Obj.cells Z.toArray 31 (0, 0)) from (Below.heap_alloc _ _ _ (by simp)).trans (heap_alloc_new1 _ _ _)))
    dsimp only at HCS HM
    clear hm hb hbw hr
    by_cases her : er = 0
    · subst her
      have hfin : cstepM xs c = (c1, 0) := by rw [HCS.out, if_neg (by simp [hh]), if_pos rfl]
      have HFIN := Lib.hid hfin
      clear hfin
      have HTH := Lib.hid (there_block (n := c1.cells.length) HZB.out (by simp [HZL.out, cells_length HM.out.ok]))
      go_wp2_with (first | (refine wpList_load_mid (by rfl) 31 _ (by rfl) (w.heap.size + 1 + 1) 0 (by rfl) c1.cells _ (range_block HM.out.blk) Tryd.underlying31 (by rfl) (info_cpu HM.out.ok) ?_) | (refine wpList_store_mid (by rfl) 31 _ _ (by rfl) (w.heap.size + 1) 0 c1.cells.toArray (by rfl) (by rfl) HTH.out (by simpa using info_cpu HM.out.ok) (cells_one c1) ?_))
      have hrd := run_loadVar_mid (P := Tryd.prog) _ _ _ 31 c1.cells _ (World.rangeAt_setCells_same _ _ 0 c1.cells HTH.out) Tryd.underlying31 (by rfl) (info_cpu HM.out.ok)
      refine bodyPost_ret (v := .tuple #[.agg c1.cells.toArray, .int .i64 0]) (results_cell2 Tryd.results17 _ _ _ _ _ ?_ hrd) rfl ⟨by rw [HFIN.out], by rw [HFIN.out]; exact HM.out.ok, ?_⟩
      · rfl
      · exact below_setCells (by simp) _ _ _ HBX.out
    · have hne : (er != 0) = true := by simpa using her
      have hfin : cstepM xs c = (zeroC, er) := by rw [HCS.out, if_neg (by simp [hh]), if_neg her]
      have HFIN := Lib.hid hfin
      clear her hfin
      have HTH := Lib.hid (there_block (n := Z.length) HZB.out (by simp))
      go_wp2_with (refine wpList_store_mid (by rfl) 31 _ _ (by rfl) (w.heap.size + 1) 0 Z.toArray (by rfl) (by rfl) HTH.out (by simpa using HIZ.out) HOZ.out ?_)
      have hrd := run_loadVar_mid (P := Tryd.prog) _ _ _ 31 Z _ (World.rangeAt_setCells_same _ _ 0 Z HTH.out) Tryd.underlying31 (by rfl) HIZ.out
      refine bodyPost_ret (v := .tuple #[.agg Z.toArray, .int .i64 er]) (results_cell2 Tryd.results17 _ _ _ _ _ ?_ hrd) rfl ⟨by rw [HFIN.out, HZE.out], by rw [HFIN.out]; exact zeroC_ok, ?_⟩
      · rfl
      · exact below_setCells (by simp) _ _ _ HBX.out
end Go.Proofs.YtjjpgkjjiooieaaDoor
