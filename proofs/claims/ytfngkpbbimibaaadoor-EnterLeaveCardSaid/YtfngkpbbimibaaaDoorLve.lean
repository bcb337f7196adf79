/-
  The contract of emit.Leave at a state that runs: the last frame is what the machine's data say.
-/
import Derived.Test.YtfngkpbbimibaaaDoorEn
import Derived.Test.YtfngkpbbimibaaaDoorLv
namespace Go.Proofs.YtfngkpbbimibaaaDoor
open Go.RowKit Tier
/-- The first r registers: what the machine says, 0 where not live. -/
def mskR (v : Nat) (R0 R : List Int) (r : Nat) : List Int := (List.range 12).map fun j => if j < r then (if v.testBit j then R.getD j 0 else 0) else R0.getD j 0
theorem mskR_length (v : Nat) (R0 R : List Int) (r : Nat) : (mskR v R0 R r).length = 12 := by simp [mskR]
theorem mskR_zero (v : Nat) {R0 : List Int} (R : List Int) (h : R0.length = 12) : mskR v R0 R 0 = R0 := by
  apply List.ext_getElem (by simp [mskR, h])
  intro j h1 h2
  simp [mskR, List.getD_eq_getElem?_getD, List.getElem?_eq_getElem h2]
theorem mskR_step (v : Nat) (R0 R : List Int) {r : Nat} (_h : r < 12) : (mskR v R0 R r).set r (if v.testBit r then R.getD r 0 else 0) = mskR v R0 R (r + 1) := by
  apply List.ext_getElem (by simp [mskR])
  intro j h1 h2
  rw [List.getElem_set]
  simp only [mskR, List.getElem_map, List.getElem_range]
  by_cases e : r = j
  · subst e; simp
  · rw [if_neg e]
    by_cases hj : j < r
    · have h3 : j < r + 1 := by omega
      simp [hj, h3]
    · have h3 : ¬ j < r + 1 := by omega
      simp [hj, h3]
/-- The registers that are live, out of R. -/
def keepR (v : Nat) (R : List Int) : List Int := (List.range 12).map fun j => if v.testBit j then R.getD j 0 else 0
theorem keepR_length (v : Nat) (R : List Int) : (keepR v R).length = 12 := by simp [keepR]
theorem mskR_full (v : Nat) (R0 R : List Int) : mskR v R0 R 12 = keepR v R := by
  unfold mskR keepR
  refine List.map_congr_left fun j hj => ?_
  rw [if_pos (by simpa using hj)]
/-- What the machine's data say: the memory, the registers, the fuel, the place. -/
structure DataOf (D : List Value) (M R : List Int) (fu q : Int) : Prop where
  len : D.length = 98
  ml : M.length = 16
  rl : R.length = 12
  mem : ∀ i, i < 16 → D[33 + i]? = some (.int .i64 (M.getD i 0))
  reg : ∀ r, r < 12 → D[33 + (16 + r)]? = some (.int .i64 (R.getD r 0))
  fuel : D[61]? = some (.int .i64 fu)
  pc : D[62]? = some (.int .i64 q)
theorem splice_mem (s : St) (FS ES AS : Value) (h : s.mem.length = 16) (M : List Int) (hM : M.length = 16) : splice (stCells s FS ES AS) 3 (M.map (Value.int .i64)) = stCells { s with mem := M } FS ES AS := by
  unfold splice stCells intsV
  simp [h, hM]
theorem own_cell {w : World} {base : Nat} {e : TypeId} {size g n cap : Nat} {xs ys : List Value} {y z : Value} (h : w.ownsRow base e size (.slice (some ⟨g, 0, none⟩) n cap) n (xs ++ y :: ys)) :
    (w.setCell ⟨g, xs.length, none⟩ z).ownsRow base e size (.slice (some ⟨g, 0, none⟩) n cap) n (xs ++ z :: ys) := by
  obtain ⟨h1, h2⟩ := h
  refine ⟨by rw [← h1]; simp, .inr ?_⟩
  rcases h2 with ⟨h3, -⟩ | ⟨g', cap', cur, hv, hg, hh, hn, hc, hs, ht⟩
  · simp at h3
  · simp only [Value.slice.injEq, Option.some.injEq, Addr.mk.injEq, and_true, true_and] at hv
    obtain ⟨rfl, rfl⟩ := hv
    refine ⟨g, cap, (cur.toList.set xs.length z).toArray, rfl, hg, block_put (by simpa using hh) rfl, hn, hc, by simpa using hs, ?_⟩
    rw [show (cur.toList.set xs.length z).toArray.toList = cur.toList.set xs.length z from rfl, List.take_set, ht]
    simp
theorem own_cells {base : Nat} {e : TypeId} {size g n cap : Nat} : ∀ (zs : List Value) {w : World} {xs ys : List Value}, w.ownsRow base e size (.slice (some ⟨g, 0, none⟩) n cap) n (xs ++ ys) → ys.length = zs.length →
    (w.setCells g xs.length zs).ownsRow base e size (.slice (some ⟨g, 0, none⟩) n cap) n (xs ++ zs)
  | [], w, xs, ys, h, hl => by
    obtain rfl := List.eq_nil_of_length_eq_zero (by simpa using hl)
    exact h
  | z :: zs, w, xs, [], h, hl => by simp at hl
  | z :: zs, w, xs, y :: ys, h, hl => by
    have h1 := own_cell (z := z) h
    have h2 := own_cells zs (xs := xs ++ [z]) (ys := ys) (by simpa using h1) (by simpa using hl)
    simpa [World.setCells] using h2
theorem live_nat2 (v r : Nat) : bits .and .i64 ((v / 2 ^ r : Nat) : Int) 1 = ((v / 2 ^ r % 2 : Nat) : Int) := by
  have h := and_mask ((v / 2 ^ r : Nat) : Int) 1 (by omega)
  have e : (2 : Int) ^ 1 - 1 = 1 := by decide
  rw [e] at h
  rw [h]
  omega
theorem frCell_reg2 (f : Fr) (R : List Int) (r : Nat) (x : Int) : (frCell { f with regs := R }).set (2 + r) (.int .i64 x) = frCell { f with regs := R.set r x } := by
  have := frCell_put { f with regs := R } (r : Int) x
  simpa [Fr.put] using this
theorem there_at {W : World} {b o n : Nat} {cs : Array Value} {t : TypeId} (h : W.heap[b]? = some (.cells cs t (0, 0))) (hn : o + n ≤ cs.size) : W.there b o n := fun j hj => by
  rw [cell_block h, frozen_block h, Array.getElem?_eq_getElem (by omega)]
  exact ⟨rfl, rfl⟩
theorem frCell_reg3 (f : Fr) (q : Int) (R : List Int) (r : Nat) (x : Int) : (frCell { f with pc := q, regs := R }).set (2 + r) (.int .i64 x) = frCell { f with pc := q, regs := R.set r x } := frCell_reg2 { f with pc := q } R r x
set_option maxRecDepth 100000 in
set_option maxHeartbeats 8000000 in
theorem leave_any {p : List Fnc} (hc : checkP p = 0) {B : Nat} (s : St) (C : List Value) (A1 : Option Addr) (cap1 : Nat) (w : World) (ht : Tab w) (hP : ProgAt w (.slice A1 p.length cap1) p) (hi : StInv p s) (hC : CellsSt C w B s) (hst : s.status = 0) {fs : List Fr} {f : Fr} (hf : s.frames = fs ++ [f]) (F : Fnc) (hFp : p[f.fn.toNat]? = some F) (D : List Value) (MM RR : List Int) (fu : Int) (q : Nat) (hD : DataOf D MM RR fu q) (hfu0 : 0 ≤ fu) (hfu1 : fu ≤ s.fuel) (hrq : rchB F q = true) (hqM' : q < F.code.length) :
    Calls Tryd.prog 21 #[.agg #[.slice A1 p.length cap1], .agg C.toArray, .agg D.toArray] w fun e w' => (∃ (C' : List Value) (O : List Nat), e = .returned (.tuple #[.agg C'.toArray, .int .i64 0]) ∧ LiveOk p F O ∧ CellsSt C' w' w.heap.size { s with fuel := fu, mem := MM, frames := fs ++ [{ f with pc := (q : Int), regs := keepR (O.getD q 0) RR }] }) ∧ Below w.heap.size w w' := by
  have hp := right_of hc
  have hfo : FrOk p f := hi.fr f (by rw [hf]; simp)
  obtain ⟨k, hk⟩ : ∃ k : Nat, f.fn = (k : Int) := ⟨f.fn.toNat, by have := hfo.fn0; omega⟩
  have hkn : f.fn.toNat = k := by omega
  rw [hkn] at hFp
  have hFm := List.mem_of_getElem? hFp
  obtain ⟨M, hM⟩ : ∃ M, F.code.length = M := ⟨_, rfl⟩
  have hqM : q < M := by rw [← hM]; exact hqM'
  have hM40 : M ≤ 40 := by rw [← hM]; exact (hp.ok.fn F hFm).c2
  have HER := Lib.hid (fun (W : World) (hb : Below w.heap.size w W) => erunning_any hc s C A1 cap1 W (ht.keeps hb) (hP.keeps hb) hi (hC.below hb))
  have HLV := Lib.hid (fun (W : World) (hb : Below w.heap.size w W) => live_any p A1 cap1 k F W (ht.keeps hb) (hP.keeps hb) hc hFp)
  have HSI := Lib.hid (info_st (hC.len hi.mem))
  have HRP := Lib.hid hp
  have HFM := Lib.hid hFm
  have HI := Lib.hid hi
  have HST := Lib.hid hst
  have HF := Lib.hid hf
  have HM := Lib.hid hM
  have HCS := Lib.hid (fun (W : World) (hb : Below w.heap.size w W) => hC.below hb)
  have HD := Lib.hid hD
  have HR12 := Lib.hid hfo.regs
  have HF1 : Hid ((frCell f)[1]? = some (.int .i64 f.pc)) := Lib.hid rfl
  have HRQ := Lib.hid hrq
  have HFU0 := Lib.hid hfu0
  have HFU1 := Lib.hid hfu1
  obtain ⟨FS, ES, AS, hCe, hrow⟩ := id hC
  have HCE := Lib.hid hCe
  have HROW := Lib.hid hrow
  have HONE := Lib.hid hC.one
  have HC19 : Hid (C[19]? = some (.int .i64 s.fuel)) := Lib.hid (by rw [hCe]; exact stC_19 FS ES AS hi.mem)
  have HC20 : Hid (C[20]? = some ES) := Lib.hid (by rw [hCe]; exact stC_20 FS ES AS hi.mem)
  have HC21 : Hid (C[21]? = some AS) := Lib.hid (by rw [hCe]; exact stC_21 FS ES AS hi.mem)
  have HC2 : Hid (C[2]? = some FS) := Lib.hid (by rw [hCe]; exact stC_2 s FS ES AS)
  have HCL := Lib.hid (hC.len hi.mem)
  have hz := zero_st
  have hfl : (frCell f).length = 14 := frCell_length hfo.regs
  have HFL := Lib.hid hfl
  have HFI : Hid ((Tryd.prog.info? 68).map (·.size) = some (frCell f).length) := Lib.hid (by rw [hfl]; exact info_fr)
  have HFO1 : Hid ((frCell f).toArray.all (·.oneCell') = true) := Lib.hid (all_oneCell_toArray (fun v hv => frCells_cell (l := [f]) v (by rw [frCells_one]; exact hv)))
  have HF0 : Hid ((frCell f)[0]? = some (.int .i64 (k : Int))) := Lib.hid (by rw [← hk]; rfl)
  have hb0 := Lib.hid (((((Below.refl w.heap.size w).alloc (Nat.le_refl _) (.cells #[(.slice A1 p.length cap1)] 25)).alloc (by simp) (.cells C.toArray 49)).alloc (by simp; omega) (.cells D.toArray 59)).alloc (by simp; omega) (.cells zeroV.toArray 49))
  have HBB := Lib.hid (fun (w1 : World) (hb : Below (w.heap.size + 4) ((((w.alloc (.cells #[(.slice A1 p.length cap1)] 25)).alloc (.cells C.toArray 49)).alloc (.cells D.toArray 59)).alloc (.cells zeroV.toArray 49)) w1) => (⟨(hb.block w.heap.size (by omega)).trans (block_alloc (block_alloc (block_alloc (heap_alloc_new w _) _) _) _), (hb.block (w.heap.size + 1) (by omega)).trans (block_alloc (block_alloc (heap_alloc_new1 w _ _) _) _), (hb.block (w.heap.size + 2) (by omega)).trans (block_alloc (by have := heap_alloc_new ((w.alloc (.cells #[(.slice A1 p.length cap1)] 25)).alloc (.cells C.toArray 49)) (.cells D.toArray 59); simpa using this) _), (hb.block (w.heap.size + 3) (by omega)).trans (by have := heap_alloc_new (((w.alloc (.cells #[(.slice A1 p.length cap1)] 25)).alloc (.cells C.toArray 49)).alloc (.cells D.toArray 59)) (.cells zeroV.toArray 49); simpa using this), hb0.out.trans (hb.mono (by omega)), by have := hb.size; simp at this; omega⟩ :
    w1.heap[w.heap.size]? = some (.cells #[(.slice A1 p.length cap1)] 25 (0, 0)) ∧ w1.heap[w.heap.size + 1]? = some (.cells C.toArray 49 (0, 0)) ∧ w1.heap[w.heap.size + 2]? = some (.cells D.toArray 59 (0, 0)) ∧ w1.heap[w.heap.size + 3]? = some (.cells zeroV.toArray 49 (0, 0)) ∧ Below w.heap.size w w1 ∧ w.heap.size + 4 ≤ w1.heap.size))
  have HR0 := Lib.hid (range_block (block_alloc (block_alloc (heap_alloc_new1 w (.cells #[(.slice A1 p.length cap1)] 25) (.cells C.toArray 49)) (.cells D.toArray 59)) (.cells zeroV.toArray 49)))
  have hqi : (q : Int) < M := by omega
  have hq0 : (0 : Int) ≤ q := by omega
  clear ht hP hi hC hst hf hFp hfo hk hkn hFm hM hc hp hfl hD hfu0 hfu1 hrq hqM' hCe hrow
  go_enter Tryd.func21, Tryd.ntmps21
  go_wp2_with (refine wpList_load_mid (by rfl) 49 _ (by rfl) (w.heap.size + 1) 0 (by rfl) C _ HR0.out Tryd.underlying49 (by rfl) HSI.out ?_)
  refine (HER.out _ hb0.out).mono ?_
  rintro e w1 ⟨⟨h1, -⟩, hb⟩
  obtain ⟨fs', f', hf', rfl⟩ := h1 HST.out
  rw [HF.out] at hf'
  obtain ⟨rfl, hff⟩ := List.append_inj' hf' rfl
  simp only [List.cons.injEq, and_true] at hff
  subst hff
  have HB1 := Lib.hid (HBB.out w1 (hb.mono (by simp)))
  clear hb h1 hf' HER
  go_wp2_with (refine wpList_store_mid (by rfl) 68 _ _ (by rfl) w1.heap.size 0 (frCell f).toArray (by rfl) (by rfl) (there_new w1 [.int .i64 0, .int .i64 0, .int .i64 0, .int .i64 0, .int .i64 0, .int .i64 0, .int .i64 0, .int .i64 0, .int .i64 0, .int .i64 0, .int .i64 0, .int .i64 0, .int .i64 0, .int .i64 0] _ (by simp [HFL.out])) (by simpa using HFI.out) HFO1.out ?_; obtain ⟨w2, hw2⟩ : ∃ w2, (w1.alloc (.cells (List.toArray [.int .i64 0, .int .i64 0, .int .i64 0, .int .i64 0, .int .i64 0, .int .i64 0, .int .i64 0, .int .i64 0, .int .i64 0, .int .i64 0, .int .i64 0, .int .i64 0, .int .i64 0, .int .i64 0]) 68)).setCells w1.heap.size 0 (frCell f).toArray.toList = w2 := ⟨_, rfl⟩; rw [hw2]; have HBT : Hid (Below w1.heap.size w1 w2) := Lib.hid (hw2 ▸ below_setCells (Nat.le_refl _) _ _ _ ((Below.refl _ _).alloc (Nat.le_refl _) _)); have HTB : Hid (w2.heap[w1.heap.size]? = some (.cells (frCell f).toArray 68 (0, 0))) := Lib.hid (hw2 ▸ block_full (heap_alloc_new _ _) _ (by simp [HFL.out])); have HB2 := Lib.hid (HB1.out.2.2.2.2.1.trans (HBT.out.mono (by have := HB1.out.2.2.2.2.2; omega))); have p2 := (HBT.out.cell (p := ⟨w.heap.size, 0, none⟩) (block_lt HB1.out.1)).trans ((cell_block HB1.out.1 0).trans rfl); have z2 := Nat.lt_of_lt_of_le (block_lt HB1.out.1) HBT.out.size; have f2 := (cell_block HTB.out 0).trans (List.getElem?_toArray.trans HF0.out); have y2 := block_lt HTB.out; clear hw2)
  refine (HLV.out _ HB2.out).mono ?_
  rintro e w3 ⟨⟨lb, O, rfl, hlb, hIL, hOK⟩, hb3⟩
  rw [HM.out]
  have HIL := Lib.hid hIL
  have HLB := Lib.hid (show w1.heap.size ≠ lb from by have := block_lt HTB.out; omega)
  have HOK := Lib.hid hOK
  have HB3 := Lib.hid (HB2.out.trans (hb3.mono HB2.out.size))
  have up := fun {b : Nat} {o : Obj} (h : w1.heap[b]? = some o) => (hb3.block _ (Nat.lt_of_lt_of_le (block_lt h) HBT.out.size)).trans ((HBT.out.block _ (block_lt h)).trans h)
  have HX3 := Lib.hid (show _ ∧ _ ∧ _ ∧ _ ∧ _ from ⟨up HB1.out.1, up HB1.out.2.1, up HB1.out.2.2.1, up HB1.out.2.2.2.1, (hb3.block _ (block_lt HTB.out)).trans HTB.out⟩)
  clear up p2 z2 f2 y2 hb3 hIL hOK hlb HLV
  have hcs := HCS.out w3 HB3.out
  obtain ⟨FA, fa, EA, ea, AA, aa, hci⟩ := hcs.cin HI.out.mem (fun f hf => (HI.out.fr f hf).regs)
  have c19 := (cell_block HX3.out.2.1 19).trans (List.getElem?_toArray.trans hci.c19)
  have hD61 := HD.out.fuel
  have hD62 := HD.out.pc
  have k61 := (cell_block HX3.out.2.2.1 61).trans (List.getElem?_toArray.trans hD61)
  have k62 := (cell_block HX3.out.2.2.1 62).trans (List.getElem?_toArray.trans hD62)
  have z1 := block_lt HX3.out.2.1
  have z2 := block_lt HX3.out.2.2.1
  have z5 := block_lt HX3.out.2.2.2.2
  have hlq := outL_get (liveL_get (F := F) (O := O) (pc := q) (by rw [HM.out]; exact hqM))
  rw [HRQ.out] at hlq
  obtain ⟨v, hv⟩ : ∃ v, O.getD q 0 = v := ⟨_, rfl⟩
  have HLQ := Lib.hid (show (outL (liveL F O))[q]? = some (v : Int) by rw [← hv]; exact hlq)
  have HVV := Lib.hid hv
  have l1 := HIL.out.cell HLQ.out
  have zl := HIL.out.lt
  have hv0 : decide ((v : Int) < 0) = false := by rw [decide_eq_false_iff_not]; omega
  have hf0 : decide (fu < 0) = false := by rw [decide_eq_false_iff_not]; have := HFU0.out; omega
  have hfg : decide (s.fuel < fu) = false := by rw [decide_eq_false_iff_not]; have := HFU1.out; omega
  have hqn : decide ((q : Int) < 0) = false := by rw [decide_eq_false_iff_not]; omega
  have hqg : decide ((M : Int) ≤ q) = false := by rw [decide_eq_false_iff_not]; omega
  have k5 := (cell_block HX3.out.2.2.2.2 1).trans (List.getElem?_toArray.trans HF1.out)
  have n5 := frozen_block HX3.out.2.2.2.2 1
  clear hcs hci hD61 hD62 hlq
  go_wp2_with fail
  obtain ⟨w4, hw4⟩ : ∃ W, w3.setCell ⟨w1.heap.size, 1, none⟩ (.int .i64 (q : Int)) = W := ⟨_, rfl⟩
  rw [hw4]
  have hb34 : Below w1.heap.size w3 w4 := hw4 ▸ (Below.refl w1.heap.size w3).setCell (Nat.le_refl _) _
  have HG4 : Hid (w4.heap[w1.heap.size]? = some (.cells (frCell { f with pc := (q : Int), regs := mskR v f.regs RR 0 }).toArray 68 (0, 0))) := Lib.hid (by rw [mskR_zero v RR HR12.out, ← hw4]; exact block_put HX3.out.2.2.2.2 (by rw [frCell_pc]; rfl))
  have HB34 := Lib.hid hb34
  have HIL4 := Lib.hid (show IntsB w4 lb (outL (liveL F O)) from hw4 ▸ block_set_ne HIL.out (fun e => HLB.out e) _ _)
  clear hw4 hb34 c19 k61 k62 z1 z2 z5 l1 zl k5 n5 hv0 hf0 hfg
  go_loopw [67] (fun x wr => ∃ r : Nat, r ≤ 12 ∧ x = .int .i64 (r : Int) ∧ wr.heap[w1.heap.size]? = some (.cells (frCell { f with pc := (q : Int), regs := mskR v f.regs RR r }).toArray 68 (0, 0)) ∧ Below w1.heap.size w3 wr ∧ IntsB wr lb (outL (liveL F O))) (fun x _ => 12 - (intOf x).toNat)
  case atStart => exact ⟨0, by omega, rfl, HG4.out, HB34.out, HIL4.out⟩
  case round =>
    obtain ⟨r, hr, rfl, hg, hbr, hil⟩ := hrel
    have HG := Lib.hid hg
    have HBR := Lib.hid hbr
    have HILR := Lib.hid hil
    by_cases hr12 : r = 12
    · subst hr12
      clear hg hbr hil
      have HGB : Hid (wr.heap[w1.heap.size]? = some (.cells (frCell { f with pc := (q : Int), regs := keepR v RR }).toArray 68 (0, 0))) := Lib.hid (by rw [← mskR_full v f.regs RR]; exact HG.out)
      have hz4 := HB1.out.2.2.2.2.2
      have HXR := Lib.hid (show _ ∧ _ ∧ _ from ⟨(HBR.out.block (w.heap.size + 1) (by omega)).trans HX3.out.2.1, (HBR.out.block (w.heap.size + 2) (by omega)).trans HX3.out.2.2.1, (HBR.out.block (w.heap.size + 3) (by omega)).trans HX3.out.2.2.2.1⟩)
      have HBWR := Lib.hid (HB3.out.trans (HBR.out.mono (by omega)))
      have r4 := range_block HXR.out.1
      clear HG hz4 HIL HIL4 HB34 HG4 HILR hqi hq0 hqM hM40 hqn hqg
      go_wp2_with (first | (refine wpList_load_mid (by rfl) 49 _ (by rfl) (w.heap.size + 1) 0 (by rfl) C _ r4 Tryd.underlying49 (by rfl) HSI.out ?_) | (refine wpList_store_mid (by rfl) 49 _ _ (by rfl) wr.heap.size 0 C.toArray (by rfl) (by rfl) (there_new wr zeroV _ (by simp [HCL.out, zeroV_length])) (by simpa using HSI.out) HONE.out ?_; obtain ⟨w6, hw6⟩ : ∃ w6, (wr.alloc (.cells zeroV.toArray 49)).setCells wr.heap.size 0 C.toArray.toList = w6 := ⟨_, rfl⟩; rw [hw6]; have HB6 : Hid (Below wr.heap.size wr w6) := Lib.hid (hw6 ▸ below_setCells (Nat.le_refl _) _ _ _ ((Below.refl _ _).alloc (Nat.le_refl _) _)); have HS6 : Hid (w6.heap[wr.heap.size]? = some (.cells C.toArray 49 (0, 0))) := Lib.hid (hw6 ▸ block_full (heap_alloc_new _ _) _ (by simp [HCL.out, zeroV_length])); have k61 := (cell_block ((HB6.out.block _ (block_lt HXR.out.2.1)).trans HXR.out.2.1) 61).trans (List.getElem?_toArray.trans HD.out.fuel); have z61 := Nat.lt_of_lt_of_le (block_lt HXR.out.2.1) HB6.out.size; have c19 := (cell_block HS6.out 19).trans (List.getElem?_toArray.trans HC19.out); have n19 := frozen_block HS6.out 19; have z19 := block_lt HS6.out; clear hw6 r4))
      obtain ⟨w7, hw7⟩ : ∃ w7, w6.setCell ⟨wr.heap.size, 19, none⟩ (.int .i64 fu) = w7 := ⟨_, rfl⟩
      rw [hw7]
      have HS7 : Hid (w7.heap[wr.heap.size]? = some (.cells (stCells { s with fuel := fu } FS ES AS).toArray 49 (0, 0))) := Lib.hid (hw7 ▸ block_put HS6.out (by rw [HCE.out]; exact stS_19 FS ES AS HI.out.mem fu))
      have HB7 : Hid (Below wr.heap.size wr w7) := Lib.hid (hw7 ▸ HB6.out.setCell (Nat.le_refl _) _)
      have HX7 := Lib.hid (show _ ∧ _ ∧ _ ∧ _ from ⟨(HB7.out.block _ (block_lt HXR.out.1)).trans HXR.out.1, (HB7.out.block _ (block_lt HXR.out.2.1)).trans HXR.out.2.1, (HB7.out.block _ (block_lt HXR.out.2.2)).trans HXR.out.2.2, (HB7.out.block _ (block_lt HGB.out)).trans HGB.out⟩)
      clear hw7 k61 z61 c19 n19 z19
      refine wp_region_held_drew (S := fun _ => True) (by kernel_rfl) trivial (fun hHeld => ?_)
      refine wpAnyH_take (i := 0) (v := .pointer (some ⟨wr.heap.size, 3, none⟩)) rfl (by kernel_rfl) (by kernel_rfl) (by kernel_rfl) (fun _ _ _ h => h) (Or.inl ⟨by rfl, ?_⟩) hHeld ?_
      · intro w hSw
        simp only [List.getElem_toArray, List.getElem_cons_zero]
        go_simp
      simp only [Act.put, List.getElem_toArray, List.getElem_cons_zero, List.setIfInBounds_toArray, List.set_cons_zero, List.set_cons_succ]
      refine wpAnyH_take (i := 1) (v := .slice (some ⟨wr.heap.size, 3, none⟩) 16 16) rfl (by kernel_rfl) (by kernel_rfl) (by kernel_rfl) (fun _ _ _ h => h) (Or.inl ⟨by rfl, ?_⟩) hHeld ?_
      · intro w hSw
        simp only [List.getElem_toArray, List.getElem_cons_zero, List.getElem_cons_succ]
        go_simp
      simp only [Act.put, List.getElem_toArray, List.getElem_cons_zero, List.getElem_cons_succ, List.setIfInBounds_toArray, List.set_cons_zero, List.set_cons_succ]
      refine wpAnyH_take (i := 2) (v := .pointer (some ⟨w.heap.size + 1 + 1, 33, none⟩)) rfl (by kernel_rfl) (by kernel_rfl) (by kernel_rfl) (fun _ _ _ h => h) (Or.inl ⟨by rfl, ?_⟩) hHeld ?_
      · intro w hSw
        simp only [List.getElem_toArray, List.getElem_cons_zero, List.getElem_cons_succ]
        go_simp
      simp only [Act.put, List.getElem_toArray, List.getElem_cons_zero, List.getElem_cons_succ, List.setIfInBounds_toArray, List.set_cons_zero, List.set_cons_succ]
      refine wpAnyH_take (i := 3) (v := .slice (some ⟨w.heap.size + 1 + 1, 33, none⟩) 64 64) rfl (by kernel_rfl) (by kernel_rfl) (by kernel_rfl) (fun _ _ _ h => h) (Or.inl ⟨by rfl, ?_⟩) hHeld ?_
      · intro w hSw
        simp only [List.getElem_toArray, List.getElem_cons_zero, List.getElem_cons_succ]
        go_simp
      simp only [Act.put, List.getElem_toArray, List.getElem_cons_zero, List.getElem_cons_succ, List.setIfInBounds_toArray, List.set_cons_zero, List.set_cons_succ]
      refine wpAnyH_ready (rs := [4]) (by kernel_rfl) (by simp) ?_
      refine AllReadyH.cons rfl (fun K hK => ?_) AllReadyH.nil
      simp only [List.getElem_toArray, List.getElem_cons_zero, List.getElem_cons_succ]
      rw [if_pos (by rfl)]
      refine wp_copy_splice (.tmp 96) (.tmp 98) 40 40 rfl 3 Tryd.underlying40 (by kernel_rfl) ⟨w.heap.size + 1 + 1, 33, none⟩ 16 16 64 64 rfl rfl (stCells { s with fuel := fu } FS ES AS) 49 (show w7.drew.heap[wr.heap.size]? = _ from HS7.out) (MM.map (Value.int .i64)) (by simp [HD.out.ml]) (fun j v hv => ?_) (by rw [stCells_length (s := { s with fuel := fu }) HI.out.mem]; simp [HD.out.ml]) (by simp [Value.oneCell']) wr.heap.size w7 (Below.refl _ _).drew (Nat.le_refl _) ?_
      · obtain ⟨hj, rfl⟩ := List.getElem?_eq_some_iff.1 hv
        have hj16 : j < 16 := by simpa [HD.out.ml] using hj
        rw [show (⟨w.heap.size + 1 + 1, 33, none⟩ : Addr).add j = ⟨w.heap.size + 2, 33 + j, none⟩ by simp [Addr.add]]
        show w7.cell? ⟨w.heap.size + 2, 33 + j, none⟩ = _
        rw [cell_block HX7.out.2.1, List.getElem?_toArray, HD.out.mem j hj16]
        simp [List.getD_eq_getElem?_getD, List.getElem?_eq_getElem (show j < MM.length by rw [HD.out.ml]; exact hj16)]
      intro w8 hg8 hb8
      refine hK.out _ _ trivial (fun hHeld => ?_)
      clear hK K hHeld
      refine wpAnyH_done (by kernel_rfl) ?_ _
      have HS8 : Hid (w8.heap[wr.heap.size]? = some (.cells (stCells { s with fuel := fu, mem := MM } FS ES AS).toArray 49 (0, 0))) := Lib.hid (by have := hg8.out; rw [splice_mem { s with fuel := fu } FS ES AS HI.out.mem MM HD.out.ml] at this; exact this)
      have HB8 := Lib.hid (HB7.out.trans (hb8.mono (Nat.le_refl _)))
      clear hg8 hb8
      have HX8 := Lib.hid (show _ ∧ _ ∧ _ from ⟨(HB8.out.block _ (block_lt HXR.out.1)).trans HXR.out.1, (HB8.out.block _ (block_lt HXR.out.2.2)).trans HXR.out.2.2, (HB8.out.block _ (block_lt HGB.out)).trans HGB.out⟩)
      have HW8 := Lib.hid (HBWR.out.trans (HB8.out.mono (by have := HBWR.out.size; omega)))
      have d2 := (cell_block HX8.out.1 2).trans (List.getElem?_toArray.trans HC2.out)
      have z2 := block_lt HX8.out.1
      go_wp2_with fail
      refine (clone_fr w8 (HROW.out.below HW8.out).fr frCells_cell HI.out.deep).mono ?_
      rintro e w9 ⟨⟨FV, rfl, hF⟩, hb9⟩
      obtain ⟨kf, hkf⟩ : ∃ kf, fs.length = kf := ⟨_, rfl⟩
      have hnf : s.frames.length = kf + 1 := by rw [HF.out, ← hkf]; simp
      obtain ⟨g, fcap, hFV, hgB, hgt, hgn⟩ : ∃ g cap, FV = .slice (some ⟨g, 0, none⟩) (kf + 1) cap ∧ w8.heap.size ≤ g ∧ (∃ cur : Array Value, w9.heap[g]? = some (.cells cur 68 (0, 0)) ∧ (kf + 1) * 14 ≤ cur.size) ∧ kf + 1 ≤ cap := by
        rw [hnf] at hF
        rcases hF.2 with ⟨-, h0⟩ | ⟨g, cap, cur, hv, hg, hh, hn, hc, hs, ht⟩
        · omega
        · exact ⟨g, cap, hv, hg, ⟨cur, hh, by rw [hs]; exact Nat.mul_le_mul_right _ hn⟩, hn⟩
      subst hFV
      rw [hnf] at hF
      have HKF := Lib.hid hkf
      have HS9 := Lib.hid ((hb9.block _ (block_lt HS8.out)).trans HS8.out)
      have HX9 := Lib.hid (show _ ∧ _ ∧ _ from ⟨(hb9.block _ (block_lt HX8.out.1)).trans HX8.out.1, (hb9.block _ (block_lt HX8.out.2.1)).trans HX8.out.2.1, (hb9.block _ (block_lt HX8.out.2.2)).trans HX8.out.2.2⟩)
      have HF9 := Lib.hid hF
      have HGT := Lib.hid hgt
      have HGB8 := Lib.hid hgB
      have HB9 := Lib.hid (HB8.out.trans (hb9.mono HB8.out.size))
      have hdp := HI.out.deep
      rw [hnf] at hdp
      have s2 := (cell_block HS9.out 2).trans (List.getElem?_toArray.trans (stC_2 _ FS ES AS))
      have n2 := frozen_block HS9.out 2
      have y2 := block_lt HS9.out
      have HLT := Lib.hid (block_lt HS8.out)
      clear d2 z2 hkf hnf hF hb9 hgt hgB
      have hwn : IntKind.i64.wrap (((kf + 1 : Nat) : Int) - 1) = (kf : Int) := by rw [IntKind.wrap_i64]; omega
      have hwn2 : IntKind.i64.wrap ((kf : Int) + 1 - 1) = (kf : Int) := by rw [IntKind.wrap_i64]; omega
      have k0 : (0 : Int) ≤ kf := by omega
      have k1 : (kf : Int) < (kf : Int) + 1 := by omega
      have HSZ4 : Hid (w.heap.size + 3 < wr.heap.size ∧ w.heap.size + 4 ≤ wr.heap.size) := Lib.hid (by have := block_lt HXR.out.2.2; have h1 := HB1.out.2.2.2.2.2; have h2 := HBR.out.size; have h3 := block_lt HX3.out.2.2.2.2; omega)
      have HSZ5 : Hid (w1.heap.size < wr.heap.size) := Lib.hid (block_lt HGB.out)
      obtain ⟨G, hG⟩ : ∃ G : Fr, ({ f with pc := (q : Int), regs := keepR v RR } : Fr) = G := ⟨_, rfl⟩
      have HG := Lib.hid hG
      have hgr : G.regs.length = 12 := by rw [← hG]; exact keepR_length _ _
      rw [hG] at HX9
      have HGL : Hid ((frCell G).length = 14) := Lib.hid (frCell_length hgr)
      have HGI : Hid ((Tryd.prog.info? 68).map (·.size) = some (frCell G).length) := Lib.hid (by rw [HGL.out]; exact info_fr)
      have HGO : Hid ((frCell G).toArray.all (·.oneCell') = true) := Lib.hid (all_oneCell_toArray (fun v hv => frCells_cell (l := [G]) v (by rw [frCells_one]; exact hv)))
      have HROWF : Hid (w9.ownsRow w8.heap.size 68 14 (.slice (some ⟨g, 0, none⟩) (kf + 1) fcap) (kf + 1) (frCells fs ++ frCell f)) := Lib.hid (by have := HF9.out; rw [HF.out, frCells_append, frCells_one] at this; exact this)
      have HFSL : Hid ((frCells fs).length = kf * 14) := Lib.hid (by rw [frCells_length (fun f hf => (HI.out.fr f (by rw [HF.out]; simp [hf])).regs), HKF.out])
      clear hG hgr HF9 HGB
      go_wp2_with (first | (obtain ⟨w10, hw10⟩ : ∃ w10, w9.setCell ⟨wr.heap.size, 2, none⟩ (.slice (some ⟨g, 0, none⟩) (kf + 1) fcap) = w10 := ⟨_, rfl⟩; rw [hw10]; have HS10 : Hid (w10.heap[wr.heap.size]? = some (.cells (stCells { s with fuel := fu, mem := MM } (.slice (some ⟨g, 0, none⟩) (kf + 1) fcap) ES AS).toArray 49 (0, 0))) := Lib.hid (hw10 ▸ block_put HS9.out rfl); have HX10 := Lib.hid (show _ ∧ _ ∧ _ from ⟨hw10 ▸ block_set_ne HX9.out.1 (by have := HBWR.out.size; have := HSZ4.out; omega) _ _, hw10 ▸ block_set_ne HX9.out.2.1 (by have := HSZ4.out; omega) _ _, hw10 ▸ block_set_ne HX9.out.2.2 (by have := HSZ5.out; omega) _ _⟩); have HB10 : Hid (Below wr.heap.size wr w10) := Lib.hid (hw10 ▸ HB9.out.setCell (Nat.le_refl _) _); have HR10 : Hid (w10.ownsRow w8.heap.size 68 14 (.slice (some ⟨g, 0, none⟩) (kf + 1) fcap) (kf + 1) (frCells fs ++ frCell f)) := Lib.hid (hw10 ▸ ownsRow_setCell_below HROWF.out (by simp; have := HLT.out; omega) _); have hgt := HGT.out; obtain ⟨cur, hcur, hcl⟩ := hgt; have HTH : Hid (w10.there g (kf * 14) (frCell G).toArray.size) := Lib.hid (hw10 ▸ there_at (block_set_ne hcur (by have := HGB8.out; have := HLT.out; omega) _ _) (by simp [HGL.out]; omega)); clear hcur hcl; have s2 := (cell_block HS10.out 2).trans (List.getElem?_toArray.trans (stC_2 _ (.slice (some ⟨g, 0, none⟩) (kf + 1) fcap) ES AS)); have y2 := block_lt HS10.out; have r10 := range_block HX10.out.2.2; clear hw10 n2) | (refine wpList_load_mid (by rfl) 68 _ (by rfl) w1.heap.size 0 (by rfl) (frCell G) _ r10 Tryd.underlying68 (by rfl) HGI.out ?_) | (refine wpList_store_mid (by rfl) 68 _ _ (by rfl) g (kf * 14) (frCell G).toArray (by rfl) (by rfl) HTH.out (by simpa using HGI.out) HGO.out ?_; obtain ⟨w11, hw11⟩ : ∃ w11, w10.setCells g (kf * 14) (frCell G).toArray.toList = w11 := ⟨_, rfl⟩; rw [hw11]; have HS11 : Hid (w11.heap[wr.heap.size]? = some (.cells (stCells { s with fuel := fu, mem := MM } (.slice (some ⟨g, 0, none⟩) (kf + 1) fcap) ES AS).toArray 49 (0, 0))) := Lib.hid (hw11 ▸ block_setCells_ne _ HS10.out (by have := HGB8.out; have := HLT.out; omega) _); have HX11 := Lib.hid (show _ ∧ _ from ⟨hw11 ▸ block_setCells_ne _ HX10.out.1 (by have := HGB8.out; have := HLT.out; have := HSZ4.out; omega) _, hw11 ▸ block_setCells_ne _ HX10.out.2.1 (by have := HGB8.out; have := HLT.out; have := HSZ4.out; omega) _⟩); have HB11 : Hid (Below wr.heap.size wr w11) := Lib.hid (hw11 ▸ below_setCells (by have := HGB8.out; have := HLT.out; omega) _ _ _ HB10.out); have HR11 : Hid (w11.ownsRow w8.heap.size 68 14 (.slice (some ⟨g, 0, none⟩) (kf + 1) fcap) (kf + 1) (frCells (fs ++ [G]))) := Lib.hid (by rw [frCells_append, frCells_one, ← hw11]; have := own_cells (frCell G) HR10.out (by rw [HGL.out, frCell_length HR12.out]); rw [HFSL.out] at this; exact this); clear hw11 s2 y2 r10))
      have HW11 := Lib.hid (HBWR.out.trans (HB11.out.mono (by have := HBWR.out.size; omega)))
      have e20 : w11.cell? ⟨w.heap.size + 1, 20, none⟩ = some ES := (cell_block HX11.out.1 20).trans (List.getElem?_toArray.trans HC20.out)
      have e21 : w11.cell? ⟨w.heap.size + 1, 21, none⟩ = some AS := (cell_block HX11.out.1 21).trans (List.getElem?_toArray.trans HC21.out)
      have KE := Lib.hid (show _ ∧ _ from ⟨e20, e21⟩)
      have HEL : Hid (s.events.length ≤ 1000000) := Lib.hid (by have := HI.out.ev; have := HI.out.fuel0; omega)
      have HAL : Hid (s.answers.length ≤ 1000000) := Lib.hid (by have := HI.out.ans; omega)
      have z11 := block_lt HX11.out.1
      clear e20 e21
      refine wp_region_held_drew (S := fun w' => w'.cell? ⟨w.heap.size + 1, 20, none⟩ = some ES ∧ w'.cell? ⟨w.heap.size + 1, 21, none⟩ = some AS) (by kernel_rfl) KE.out (fun hHeld => ?_)
      refine wpAnyH_take (i := 0) (v := .pointer (some ⟨w.heap.size + 1, 20, none⟩)) rfl (by kernel_rfl) (by kernel_rfl) (by kernel_rfl) (fun _ _ _ h => h) (Or.inl ⟨by rfl, ?_⟩) hHeld ?_
      · intro w hSw
        simp only [List.getElem_toArray, List.getElem_cons_zero]
        go_simp
      simp only [Act.put, List.getElem_toArray, List.getElem_cons_zero, List.setIfInBounds_toArray, List.set_cons_zero, List.set_cons_succ]
      refine wpAnyH_take (i := 1) (v := ES) rfl (by kernel_rfl) (by kernel_rfl) (by kernel_rfl) (fun _ _ _ h => h) (Or.inl ⟨by rfl, ?_⟩) hHeld ?_
      · intro w hSw
        have q0 := hSw.1
        simp only [List.getElem_toArray, List.getElem_cons_zero, List.getElem_cons_succ]
        go_simp
      simp only [Act.put, List.getElem_toArray, List.getElem_cons_zero, List.getElem_cons_succ, List.setIfInBounds_toArray, List.set_cons_zero, List.set_cons_succ]
      refine wpAnyH_take (i := 3) (v := .pointer (some ⟨w.heap.size + 1, 21, none⟩)) rfl (by kernel_rfl) (by kernel_rfl) (by kernel_rfl) (fun _ _ _ h => h) (Or.inl ⟨by rfl, ?_⟩) hHeld ?_
      · intro w hSw
        simp only [List.getElem_toArray, List.getElem_cons_zero, List.getElem_cons_succ]
        go_simp
      simp only [Act.put, List.getElem_toArray, List.getElem_cons_zero, List.getElem_cons_succ, List.setIfInBounds_toArray, List.set_cons_zero, List.set_cons_succ]
      refine wpAnyH_take (i := 4) (v := AS) rfl (by kernel_rfl) (by kernel_rfl) (by kernel_rfl) (fun _ _ _ h => h) (Or.inl ⟨by rfl, ?_⟩) hHeld ?_
      · intro w hSw
        have q0 := hSw.2
        simp only [List.getElem_toArray, List.getElem_cons_zero, List.getElem_cons_succ]
        go_simp
      simp only [Act.put, List.getElem_toArray, List.getElem_cons_zero, List.getElem_cons_succ, List.setIfInBounds_toArray, List.set_cons_zero, List.set_cons_succ]
      refine wpAnyH_ready (rs := [2]) (by kernel_rfl) (by simp) ?_
      refine AllReadyH.cons rfl (fun K hK => ?_) AllReadyH.nil
      simp only [List.getElem_toArray, List.getElem_cons_zero, List.getElem_cons_succ]
      go_simp
      refine (clone_num w11.drew ((num_own (HROW.out.below HW11.out).ev).below (Below.refl _ _).drew) HEL.out).mono ?_
      rintro e w12 ⟨⟨EV, rfl, hE⟩, hb12⟩
      obtain ⟨EA, Ec, hEv, -⟩ := own_slice hE
      subst hEv
      have HE12 := Lib.hid (show w12.ownsRow w11.heap.size 3 1 (.slice EA s.events.length Ec) s.events.length (intsV s.events) from hE)
      have HB12 := Lib.hid (show Below w11.heap.size w11 w12 from (Below.refl _ _).drew.trans hb12)
      have KE12 := Lib.hid (show w12.cell? ⟨w.heap.size + 1, 20, none⟩ = some ES ∧ w12.cell? ⟨w.heap.size + 1, 21, none⟩ = some AS from ⟨(HB12.out.cell (p := ⟨w.heap.size + 1, 20, none⟩) z11).trans KE.out.1, (HB12.out.cell (p := ⟨w.heap.size + 1, 21, none⟩) z11).trans KE.out.2⟩)
      refine hK.out _ _ KE12.out (fun hHeld => ?_)
      clear hK K hE hb12
      refine wpAnyH_ready (rs := [5]) (by kernel_rfl) (by simp) ?_
      refine AllReadyH.cons rfl (fun K hK => ?_) AllReadyH.nil
      simp only [List.getElem_toArray, List.getElem_cons_zero, List.getElem_cons_succ]
      go_simp
      refine (clone_num w12 ((HROW.out.below (HW11.out.trans (HB12.out.mono HW11.out.size))).an) HAL.out).mono ?_
      rintro e w13 ⟨⟨AV, rfl, hA⟩, hb13⟩
      obtain ⟨AA, Ac, hAv, -⟩ := own_slice hA
      subst hAv
      have HA13 := Lib.hid hA
      have HE13 := Lib.hid (own_below HE12.out hb13)
      have HB13 := Lib.hid (HB12.out.trans (hb13.mono HB12.out.size))
      have HNE : Hid (∀ k, (Value.slice EA s.events.length Ec).ownBlock = some k → (Value.slice AA s.answers.length Ac).ownBlock ≠ some k) := Lib.hid (fun k hk hk' => by have h1 := (HE12.out.lt k hk).2; have h2 := (hA.lt k hk').1; omega)
      have KE13 := Lib.hid (show w13.cell? ⟨w.heap.size + 1, 20, none⟩ = some ES ∧ w13.cell? ⟨w.heap.size + 1, 21, none⟩ = some AS from ⟨(HB13.out.cell (p := ⟨w.heap.size + 1, 20, none⟩) z11).trans KE.out.1, (HB13.out.cell (p := ⟨w.heap.size + 1, 21, none⟩) z11).trans KE.out.2⟩)
      have HS13 := Lib.hid ((HB13.out.block _ (block_lt HS11.out)).trans HS11.out)
      have HX13 := Lib.hid (show _ ∧ _ from ⟨(HB13.out.block _ (block_lt HX11.out.1)).trans HX11.out.1, (HB13.out.block _ (block_lt HX11.out.2)).trans HX11.out.2⟩)
      have n20 := frozen_block HS13.out 20
      have d20 := (cell_block HS13.out 20).trans (List.getElem?_toArray.trans (stC_20 (s := { s with fuel := fu, mem := MM }) (.slice (some ⟨g, 0, none⟩) (kf + 1) fcap) ES AS HD.out.ml))
      have y20 := block_lt HS13.out
      refine hK.out _ _ KE13.out (fun hHeld => ?_)
      clear hK K hA hb13
      refine wpAnyH_take (i := 6) (v := .pointer (some ⟨wr.heap.size, 20, none⟩)) rfl (by kernel_rfl) (by kernel_rfl) (by kernel_rfl) (fun _ _ _ h => h) (Or.inl ⟨by rfl, ?_⟩) hHeld ?_
      · intro w hSw
        simp only [List.getElem_toArray, List.getElem_cons_zero, List.getElem_cons_succ]
        go_simp
      simp only [Act.put, List.getElem_toArray, List.getElem_cons_zero, List.getElem_cons_succ, List.setIfInBounds_toArray, List.set_cons_zero, List.set_cons_succ]
      refine wpAnyH_ready (rs := [7]) (by kernel_rfl) (by simp) ?_
      refine AllReadyH.cons rfl (fun K hK => ?_) AllReadyH.nil
      simp only [List.getElem_toArray, List.getElem_cons_zero, List.getElem_cons_succ]
      go_simp
      obtain ⟨w14, hw14⟩ : ∃ w14, w13.setCell ⟨wr.heap.size, 20, none⟩ (.slice EA s.events.length Ec) = w14 := ⟨_, rfl⟩
      rw [hw14]
      have HS14 : Hid (w14.heap[wr.heap.size]? = some (.cells (stCells { s with fuel := fu, mem := MM } (.slice (some ⟨g, 0, none⟩) (kf + 1) fcap) (.slice EA s.events.length Ec) AS).toArray 49 (0, 0))) := Lib.hid (hw14 ▸ block_put HS13.out (stS_20 (s := { s with fuel := fu, mem := MM }) (.slice (some ⟨g, 0, none⟩) (kf + 1) fcap) ES AS HD.out.ml _))
      have HX14 := Lib.hid (show _ ∧ _ from ⟨hw14 ▸ block_set_ne HX13.out.1 (by have := HSZ4.out; omega) _ _, hw14 ▸ block_set_ne HX13.out.2 (by have := HSZ4.out; omega) _ _⟩)
      have HB14 : Hid (Below wr.heap.size wr w14) := Lib.hid (hw14 ▸ (HB11.out.trans (HB13.out.mono HB11.out.size)).setCell (Nat.le_refl _) _)
      have HE14 : Hid (w14.ownsRow w11.heap.size 3 1 (.slice EA s.events.length Ec) s.events.length (intsV s.events)) := Lib.hid (hw14 ▸ ownsRow_setCell_below HE13.out (block_lt HS11.out) _)
      have HA14 : Hid (w14.ownsRow w12.heap.size 3 1 (.slice AA s.answers.length Ac) s.answers.length (intsV s.answers)) := Lib.hid (hw14 ▸ ownsRow_setCell_below HA13.out (Nat.lt_of_lt_of_le (block_lt HS11.out) HB12.out.size) _)
      have HR14 : Hid (w14.ownsRow w8.heap.size 68 14 (.slice (some ⟨g, 0, none⟩) (kf + 1) fcap) (kf + 1) (frCells (fs ++ [G]))) := Lib.hid (hw14 ▸ ownsRow_setCell_below (own_below HR11.out HB13.out) (by have := HLT.out; omega) _)
      have KE14 := Lib.hid (show w14.cell? ⟨w.heap.size + 1, 20, none⟩ = some ES ∧ w14.cell? ⟨w.heap.size + 1, 21, none⟩ = some AS from ⟨(cell_block HX14.out.1 20).trans (List.getElem?_toArray.trans HC20.out), (cell_block HX14.out.1 21).trans (List.getElem?_toArray.trans HC21.out)⟩)
      have n21 := frozen_block HS14.out 21
      have d21 := (cell_block HS14.out 21).trans (List.getElem?_toArray.trans (stC_21 (s := { s with fuel := fu, mem := MM }) (.slice (some ⟨g, 0, none⟩) (kf + 1) fcap) (.slice EA s.events.length Ec) AS HD.out.ml))
      have y21 := block_lt HS14.out
      refine hK.out _ _ KE14.out (fun hHeld => ?_)
      clear hK K hw14 n20 d20 y20
      refine wpAnyH_take (i := 8) (v := .pointer (some ⟨wr.heap.size, 21, none⟩)) rfl (by kernel_rfl) (by kernel_rfl) (by kernel_rfl) (fun _ _ _ h => h) (Or.inl ⟨by rfl, ?_⟩) hHeld ?_
      · intro w hSw
        simp only [List.getElem_toArray, List.getElem_cons_zero, List.getElem_cons_succ]
        go_simp
      simp only [Act.put, List.getElem_toArray, List.getElem_cons_zero, List.getElem_cons_succ, List.setIfInBounds_toArray, List.set_cons_zero, List.set_cons_succ]
      refine wpAnyH_ready (rs := [9]) (by kernel_rfl) (by simp) ?_
      refine AllReadyH.cons rfl (fun K hK => ?_) AllReadyH.nil
      simp only [List.getElem_toArray, List.getElem_cons_zero, List.getElem_cons_succ]
      go_simp
      obtain ⟨w15, hw15⟩ : ∃ w15, w14.setCell ⟨wr.heap.size, 21, none⟩ (.slice AA s.answers.length Ac) = w15 := ⟨_, rfl⟩
      rw [hw15]
      have HS15 : Hid (w15.heap[wr.heap.size]? = some (.cells (stCells { s with fuel := fu, mem := MM } (.slice (some ⟨g, 0, none⟩) (kf + 1) fcap) (.slice EA s.events.length Ec) (.slice AA s.answers.length Ac)).toArray 49 (0, 0))) := Lib.hid (hw15 ▸ block_put HS14.out (stS_21 (s := { s with fuel := fu, mem := MM }) (.slice (some ⟨g, 0, none⟩) (kf + 1) fcap) (.slice EA s.events.length Ec) AS HD.out.ml _))
      have HX15 := Lib.hid (show _ ∧ _ from ⟨hw15 ▸ block_set_ne HX14.out.1 (by have := HSZ4.out; omega) _ _, hw15 ▸ block_set_ne HX14.out.2 (by have := HSZ4.out; omega) _ _⟩)
      have HB15 : Hid (Below wr.heap.size wr w15) := Lib.hid (hw15 ▸ HB14.out.setCell (Nat.le_refl _) _)
      have HE15 : Hid (w15.ownsRow w11.heap.size 3 1 (.slice EA s.events.length Ec) s.events.length (intsV s.events)) := Lib.hid (hw15 ▸ ownsRow_setCell_below HE14.out (block_lt HS11.out) _)
      have HA15 : Hid (w15.ownsRow w12.heap.size 3 1 (.slice AA s.answers.length Ac) s.answers.length (intsV s.answers)) := Lib.hid (hw15 ▸ ownsRow_setCell_below HA14.out (Nat.lt_of_lt_of_le (block_lt HS11.out) HB12.out.size) _)
      have HR15 : Hid (w15.ownsRow w8.heap.size 68 14 (.slice (some ⟨g, 0, none⟩) (kf + 1) fcap) (kf + 1) (frCells (fs ++ [G]))) := Lib.hid (hw15 ▸ ownsRow_setCell_below HR14.out (by have := HLT.out; omega) _)
      have KE15 := Lib.hid (show w15.cell? ⟨w.heap.size + 1, 20, none⟩ = some ES ∧ w15.cell? ⟨w.heap.size + 1, 21, none⟩ = some AS from ⟨(cell_block HX15.out.1 20).trans (List.getElem?_toArray.trans HC20.out), (cell_block HX15.out.1 21).trans (List.getElem?_toArray.trans HC21.out)⟩)
      refine hK.out _ _ KE15.out (fun hHeld => ?_)
      clear hK K hw15 n21 d21 y21 hHeld
      refine wpAnyH_done (by kernel_rfl) ?_ _
      obtain ⟨CC, hCC⟩ : ∃ CC, stCells { s with fuel := fu, mem := MM } (.slice (some ⟨g, 0, none⟩) (kf + 1) fcap) (.slice EA s.events.length Ec) (.slice AA s.answers.length Ac) = CC := ⟨_, rfl⟩
      have HCC := Lib.hid hCC
      rw [hCC] at HS15
      have HCL2 : Hid (CC.length = 22) := Lib.hid (by rw [← hCC]; exact stCells_length (s := { s with fuel := fu, mem := MM }) HD.out.ml _ _ _)
      have HCI := Lib.hid (info_st HCL2.out)
      have HC1 : Hid (CC.toArray.all (·.oneCell') = true) := Lib.hid (by rw [← hCC]; exact stC_one' rfl rfl rfl)
      have HTH2 := Lib.hid (there_block (n := CC.length) HX15.out.2 (by rw [HCL2.out]; exact Nat.le_refl _))
      have rb := range_block HS15.out
      clear hCC z11
      go_wp2_with (first | (refine wpList_load_mid (by rfl) 49 _ (by rfl) wr.heap.size 0 (by rfl) CC _ rb Tryd.underlying49 (by rfl) HCI.out ?_) | (refine wpList_store_mid (by rfl) 49 _ _ (by rfl) (w.heap.size + 3) 0 CC.toArray (by rfl) (by rfl) HTH2.out (by simpa using HCI.out) HC1.out ?_))
      have hrd := run_loadVar_mid (P := Tryd.prog) _ _ _ 49 CC _ (World.rangeAt_setCells_same w15 (w.heap.size + 3) 0 CC HTH2.out) Tryd.underlying49 (by rfl) HCI.out
      refine bodyPost_ret (v := .tuple #[.agg CC.toArray, .int .i64 0]) (results_cell2 Tryd.results21 _ _ _ _ _ ?_ hrd) rfl ⟨⟨CC, O, rfl, HOK.out, ?_⟩, ?_⟩
      · rfl
      · rw [show O.getD q 0 = v from HVV.out, HG.out]
        have hlen : (fs ++ [G]).length = kf + 1 := by rw [List.length_append, HKF.out]; rfl
        refine ⟨(.slice (some ⟨g, 0, none⟩) (kf + 1) fcap), .slice EA s.events.length Ec, .slice AA s.answers.length Ac, by rw [← HCC.out]; rfl, ?_⟩
        refine StRows.base (B := w.heap.size + 4) ⟨?_, ?_, ?_, fun _ => HNE.out⟩ (by omega)
        · show World.ownsRow _ _ _ _ _ (fs ++ [G]).length (frCells (fs ++ [G]))
          rw [hlen]
          exact ownsRow_setCells_below (own_base0 HR15.out (by have := HLT.out; have := HSZ4.out; omega)) (by omega) _ _
        · exact ownsRow_setCells_below (own_base0 HE15.out (by have := block_lt HS11.out; have := HSZ4.out; omega)) (by omega) _ _
        · exact num_own (ownsRow_setCells_below (own_base0 HA15.out (by have := block_lt HS11.out; have := HB12.out.size; have := HSZ4.out; omega)) (by omega) _ _)
      · exact below_setCells (by simp) _ _ _ (HBWR.out.trans (HB15.out.mono (by have := HBWR.out.size; omega)))
    · have r1 : (r : Int) < 12 := by omega
      have r2 : (0 : Int) ≤ r := by omega
      have r3 : r < 12 := by omega
      have g0 : wr.cell? ⟨w1.heap.size, 2 + r, none⟩ = some (.int .i64 ((mskR v f.regs RR r).getD r 0)) := by
        have := frCell_reg (f := { f with pc := (q : Int), regs := mskR v f.regs RR r }) (mskR_length _ _ _ _) (r := (r : Int)) r2 r1
        rw [cell_block hg, List.getElem?_toArray]
        simpa [Fr.reg] using this
      have m0 := frozen_block hg (2 + r)
      have z0 := block_lt hg
      have l1 := hil.cell HLQ.out
      have zl := hil.lt
      have hX2 := (hbr.trans (Below.refl _ _)).block (w.heap.size + 2) (by have := HB1.out.2.2.2.2.2; omega)
      have HDW := Lib.hid (hX2.trans HX3.out.2.2.1)
      have d0 : wr.cell? ⟨w.heap.size + 1 + 1, 33 + (16 + r), none⟩ = some (.int .i64 (RR.getD r 0)) := by
        refine (cell_block HDW.out (33 + (16 + r))).trans ?_
        rw [List.getElem?_toArray]; exact HD.out.reg r r3
      have zd := block_lt HDW.out
      have hdv : (v : Int) / 2 ^ r = ((v / 2 ^ r : Nat) : Int) := by push_cast; rfl
      have hba := live_nat2 v r
      have htb : v.testBit r = decide (v / 2 ^ r % 2 = 1) := Nat.testBit_eq_decide_div_mod_eq
      have HRN := Lib.hid r3
      have HIX := Lib.hid (show _ ≠ lb from HLB.out)
      have hi16 : IntKind.i64.wrap (16 + (r : Int)) = ((16 + r : Nat) : Int) := by rw [IntKind.wrap_i64]; omega
      obtain ⟨dd, hdd⟩ : ∃ d, v / 2 ^ r = d := ⟨_, rfl⟩
      rw [hdd] at hdv hba htb
      have r4 : r < 64 := by omega
      have hx1 := HLB.out
      have hx2 : lb ≠ w1.heap.size := fun e => HLB.out e.symm
      have hx3 : w1.heap.size ≠ w.heap.size + 1 + 1 := by have := HB1.out.2.2.2.2.2; omega
      have hx4 : w.heap.size + 1 + 1 ≠ w1.heap.size := fun e => hx3 e.symm
      clear hX2 hg hbr hil hdd
      by_cases hbit : dd % 2 = 1
      · have hba1 : bits .and .i64 (dd : Int) 1 = 1 := by rw [hba, hbit]; rfl
        have HNEW := Lib.hid (show (mskR v f.regs RR r).set r (RR.getD r 0) = mskR v f.regs RR (r + 1) from by rw [← mskR_step v f.regs RR r3, htb, hbit]; rfl)
        clear hba htb hbit
        go_wp2_with fail
        go_roundw
        case rel => exact ⟨r + 1, by have := HRN.out; omega, by go_num, block_put (block_put HG.out rfl) (by rw [List.set_set, frCell_reg3, ← HNEW.out]; simp [List.getD_eq_getElem?_getD]), (HBR.out.setCell (Nat.le_refl _) _).setCell (Nat.le_refl _) _, block_set_ne (block_set_ne HILR.out HIX.out _ _) HIX.out _ _⟩
        case measure => have := HRN.out; simp [intOf]; omega
      · have hbit0 : dd % 2 = 0 := by omega
        have hba1 : bits .and .i64 (dd : Int) 1 = 0 := by rw [hba, hbit0]; rfl
        have HNEW := Lib.hid (show (mskR v f.regs RR r).set r 0 = mskR v f.regs RR (r + 1) from by rw [← mskR_step v f.regs RR r3, htb, hbit0]; rfl)
        clear hba htb hbit hbit0
        go_wp2_with fail
        go_roundw
        case rel => exact ⟨r + 1, by have := HRN.out; omega, by go_num, block_put HG.out (by rw [frCell_reg3, HNEW.out]), HBR.out.setCell (Nat.le_refl _) _, block_set_ne HILR.out HIX.out _ _⟩
        case measure => have := HRN.out; simp [intOf]; omega
end Go.Proofs.YtfngkpbbimibaaaDoor
