/-
  The contracts of tierlinekeep.sameInts, tierlinekeep.sameState: two states that are the same are told so.
-/
import Derived.Test.YtfngkpbbimibaaaDoorSt8
import Derived.DeepKeys
namespace Go.Proofs.YtfngkpbbimibaaaDoor
open Go.RowKit Tier
/-- Whole numbers lie in memory from A on. -/
def IntsAt (w : World) (A : Option Addr) (l : List Int) : Prop :=
  0 < l.length → ∃ b o, A = some ⟨b, o, none⟩ ∧ b < w.heap.size ∧ ∀ (i : Nat) (x : Int), l[i]? = some x → w.cell? ⟨b, o + i, none⟩ = some (.int .i64 x)
theorem IntsAt.keeps {w w' : World} {A : Option Addr} {l : List Int} (h : IntsAt w A l) (hb : Below w.heap.size w w') : IntsAt w' A l := fun hl => by
  obtain ⟨b, o, h1, h2, h3⟩ := h hl
  exact ⟨b, o, h1, Nat.lt_of_lt_of_le h2 hb.size, fun i x hx => (hb.cell (p := ⟨b, _, none⟩) h2).trans (h3 i x hx)⟩
theorem NumAt.ints {w : World} {B : Nat} {v : Value} {l : List Int} (h : NumAt w B v l) : ∃ A cap, v = .slice A l.length cap ∧ IntsAt w A l := by
  obtain ⟨A, cap, h1, -, h3⟩ := h
  refine ⟨A, cap, h1, fun hl => ?_⟩
  obtain ⟨b, o, cur, h4, -, h6, h7⟩ := h3 hl
  exact ⟨b, o, h4, block_lt h6, fun i x hx => (cell_block h6 _).trans (h7 i x hx)⟩
/-- A state as a row of cells. -/
def CellsSt (C : List Value) (w : World) (B : Nat) (s : St) : Prop := ∃ FS ES AS, C = stCells s FS ES AS ∧ StRows w B s FS ES AS
theorem CellsSt.below {C : List Value} {w w' : World} {B : Nat} {s : St} (h : CellsSt C w B s) (hb : Below w.heap.size w w') : CellsSt C w' B s := by
  obtain ⟨FS, ES, AS, h1, h2⟩ := h
  exact ⟨FS, ES, AS, h1, h2.below hb⟩
theorem CellsSt.base {C : List Value} {w : World} {B B' : Nat} {s : St} (h : CellsSt C w B s) (hB : B' ≤ B) : CellsSt C w B' s := by
  obtain ⟨FS, ES, AS, h1, h2⟩ := h
  exact ⟨FS, ES, AS, h1, h2.base hB⟩
theorem StVal.cells {w : World} {B : Nat} {v : Value} {s : St} (h : StVal w B v s) : ∃ C : List Value, v = .agg C.toArray ∧ CellsSt C w B s := by
  obtain ⟨FS, ES, AS, h1, h2⟩ := h
  exact ⟨_, h1, FS, ES, AS, rfl, h2⟩
/-- What a state's cells hold. -/
structure CellsIn (C : List Value) (w : World) (s : St) (FA : Option Addr) (fcap : Nat) (EA : Option Addr) (ecap : Nat) (AA : Option Addr) (acap : Nat) : Prop where
  len : C.length = 22
  c0 : C[0]? = some (.int .i64 s.status)
  c1 : C[1]? = some (.int .i64 s.value)
  c2 : C[2]? = some (.slice FA s.frames.length fcap)
  cm : ∀ i, i < 16 → C[3 + i]? = some (.int .i64 (s.mem.getD i 0))
  c19 : C[19]? = some (.int .i64 s.fuel)
  c20 : C[20]? = some (.slice EA s.events.length ecap)
  c21 : C[21]? = some (.slice AA s.answers.length acap)
  fr : 0 < s.frames.length → ∃ g, FA = some ⟨g, 0, none⟩ ∧ g < w.heap.size ∧ ∀ i f j, s.frames[i]? = some f → j < 14 → w.cell? ⟨g, i * 14 + j, none⟩ = (frCell f)[j]?
  ev : IntsAt w EA s.events
  an : IntsAt w AA s.answers
  one : C.toArray.all (·.oneCell') = true
  info : (Tryd.prog.info? 49).map (·.size) = some C.length
theorem CellsSt.cin {C : List Value} {w : World} {B : Nat} {s : St} (h : CellsSt C w B s) (hm : s.mem.length = 16) (hr : ∀ f ∈ s.frames, f.regs.length = 12) : ∃ FA fcap EA ecap AA acap, CellsIn C w s FA fcap EA ecap AA acap := by
  obtain ⟨FS, ES, AS, rfl, hrow⟩ := h
  have h1 := stC_one hrow
  obtain ⟨FA, fcap, rfl, hF⟩ := fr_rows hrow hr
  obtain ⟨EA, ecap, rfl, hE⟩ := (num_own hrow.ev).ints
  obtain ⟨AA, acap, rfl, hA⟩ := hrow.an.ints
  exact ⟨FA, fcap, EA, ecap, AA, acap, stCells_length hm _ _ _, rfl, rfl, rfl, fun i hi => stC_mem _ _ _ hm hi, stC_19 _ _ _ hm, stC_20 _ _ _ hm, stC_21 _ _ _ hm, hF, hE, hA, h1, info_st (stCells_length hm _ _ _)⟩
theorem eq_itemsS {P : Program} {w : World} (dd : Nat) {e : TypeId} (q : IntKind) (he : P.underlying e = some (.int q)) (xs : Array Value) : ∀ (is : List Nat), (∀ i ∈ is, ∃ n, xs[i]? = some (.int q n)) → (Op.eqItems (dd + 1) e 1 xs xs is).run P w = .ok true w
  | [], _ => by simp [Op.eqItems]
  | i :: is, h => by
    obtain ⟨n, hn⟩ := h i (by simp)
    have hp : P.plainKey e = true := by simp [Program.plainKey, he]
    have ih := eq_itemsS (w := w) dd q he xs is (fun j hj => h j (by simp [hj]))
    simp only [Op.eqItems, Sem.run_bind, Nat.mul_one, run_part_plain w hp hn, Result.andThen_ok, run_equalIn_int (P := P) w dd e q q n n he, beq_self_eq_true, Bool.not_true, Bool.false_eq_true, if_false]
    exact ih
theorem eq_intsS {P : Program} {w : World} (dd : Nat) {t e : TypeId} {n : Nat} {i : TypeInfo} (q : IntKind) (hu : P.underlying t = some (.array n e)) (he : P.underlying e = some (.int q)) (hi : P.info? e = some i) (hc : P.cellsOf e = 1) (xs : Array Value)
    (h : ∀ j, j < n → ∃ k, xs[j]? = some (.int q k)) : (Op.equalIn (dd + 1 + 1) t (.agg xs) (.agg xs)).run P w = .ok true w := by
  rw [run_equalIn_array w (dd + 1) xs xs hu hi, hc]
  exact eq_itemsS dd q he xs _ (fun j hj => h j (by simpa using hj))
set_option maxRecDepth 100000 in
theorem eq_mem (l : List Int) (h : l.length = 16) (w : World) : (Op.equalIn 10000 47 (.agg (intsV l).toArray) (.agg (intsV l).toArray)).run Tryd.prog w = .ok true w :=
  eq_intsS 9998 .i64 Tryd.underlying47 Tryd.underlying3 rfl (by kernel_rfl) _ (fun j hj => ⟨l[j]'(by omega), by simp [intsV, h, hj]⟩)
set_option maxRecDepth 100000 in
theorem eq_regs (r0 r1 r2 r3 r4 r5 r6 r7 r8 r9 r10 r11 : Int) (w : World) : (Op.equalIn 9999 66 (.agg #[.int .i64 r0, .int .i64 r1, .int .i64 r2, .int .i64 r3, .int .i64 r4, .int .i64 r5, .int .i64 r6, .int .i64 r7, .int .i64 r8, .int .i64 r9, .int .i64 r10, .int .i64 r11]) (.agg #[.int .i64 r0, .int .i64 r1, .int .i64 r2, .int .i64 r3, .int .i64 r4, .int .i64 r5, .int .i64 r6, .int .i64 r7, .int .i64 r8, .int .i64 r9, .int .i64 r10, .int .i64 r11])).run Tryd.prog w = .ok true w :=
  eq_intsS 9997 .i64 Tryd.underlying66 Tryd.underlying3 rfl (by kernel_rfl) _ (fun j hj => by
    have hc : j = 0 ∨ j = 1 ∨ j = 2 ∨ j = 3 ∨ j = 4 ∨ j = 5 ∨ j = 6 ∨ j = 7 ∨ j = 8 ∨ j = 9 ∨ j = 10 ∨ j = 11 := by omega
    rcases hc with rfl | rfl | rfl | rfl | rfl | rfl | rfl | rfl | rfl | rfl | rfl | rfl <;> exact ⟨_, rfl⟩)
set_option maxRecDepth 100000 in
theorem fieldsFr : (Tryd.prog.fieldsOf 68).toList = [{ name := "Fn", type := 3, offset := 0, embedded := false, tag := "", pkgPath := "", byteOffset := 0 }, { name := "Pc", type := 3, offset := 1, embedded := false, tag := "", pkgPath := "", byteOffset := 8 }, { name := "Regs", type := 66, offset := 2, embedded := false, tag := "", pkgPath := "", byteOffset := 16 }] := by kernel_rfl
set_option maxRecDepth 100000 in
theorem eq_frame (fn pc r0 r1 r2 r3 r4 r5 r6 r7 r8 r9 r10 r11 : Int) (w : World) : (Op.equalIn 10000 68 (.agg #[.int .i64 fn, .int .i64 pc, .int .i64 r0, .int .i64 r1, .int .i64 r2, .int .i64 r3, .int .i64 r4, .int .i64 r5, .int .i64 r6, .int .i64 r7, .int .i64 r8, .int .i64 r9, .int .i64 r10, .int .i64 r11]) (.agg #[.int .i64 fn, .int .i64 pc, .int .i64 r0, .int .i64 r1, .int .i64 r2, .int .i64 r3, .int .i64 r4, .int .i64 r5, .int .i64 r6, .int .i64 r7, .int .i64 r8, .int .i64 r9, .int .i64 r10, .int .i64 r11])).run Tryd.prog w = .ok true w := by
  have h := fun w => eq_regs r0 r1 r2 r3 r4 r5 r6 r7 r8 r9 r10 r11 w
  rw [run_equalIn_struct (P := Tryd.prog) w 9999 68 _ _ (by kernel_rfl) (by kernel_rfl), fieldsFr]
  go_simp
set_option maxRecDepth 100000 in
set_option maxHeartbeats 4000000 in
theorem sameInts_any (A B : Option Addr) (l : List Int) (ca cb : Nat) (w : World) (ha : IntsAt w A l) (hb : IntsAt w B l) (hl : l.length ≤ 1000000) :
    Calls Tryd.prog 42 #[.slice A l.length ca, .slice B l.length cb] w fun e w' => e = .returned (.bool true) ∧ Below w.heap.size w w' := by
  have HA := Lib.hid ha
  have HB := Lib.hid hb
  obtain ⟨n, hn⟩ : ∃ n, l.length = n := ⟨_, rfl⟩
  have HN := Lib.hid hn
  rw [hn] at hl ⊢
  clear ha hb hn
  go_enter Tryd.func42, Tryd.ntmps42
  go_wp2_with fail
  go_loopw [5] (fun v wr => ∃ k : Nat, k ≤ n ∧ v = .int .i64 (k : Int) ∧ Below w.heap.size w wr) (fun v _ => n - (intOf v).toNat)
  case atStart => exact ⟨0, by omega, rfl, Below.refl _ _⟩
  case round =>
    obtain ⟨k, hk, rfl, hbr⟩ := hrel
    have HBR := Lib.hid hbr
    by_cases hkn : k = n
    · subst hkn
      go_wp2_with fail
      go_ret
      exact ⟨rfl, hbr⟩
    · have hk1 : (k : Int) < n := by omega
      have hk2 : (0 : Int) ≤ k := by omega
      have hkw : IntKind.i64.wrap ((k : Int) + 1) = k + 1 := by rw [IntKind.wrap_i64]; omega
      obtain ⟨x, hx⟩ : ∃ x, l[k]? = some x := ⟨l[k]'(by rw [HN.out]; omega), List.getElem?_eq_getElem _⟩
      obtain ⟨ba, oa, rfl, hba, hca⟩ := HA.out (by rw [HN.out]; omega)
      obtain ⟨bb, ob, rfl, hbb, hcb⟩ := HB.out (by rw [HN.out]; omega)
      have c1 := hca k x hx
      have c2 := hcb k x hx
      rw [← hbr.cell (p := ⟨ba, _, none⟩) hba] at c1
      rw [← hbr.cell (p := ⟨bb, _, none⟩) hbb] at c2
      have z1 := hbr.size
      have z2 : ba < wr.heap.size := by omega
      have z3 : bb < wr.heap.size := by omega
      clear hca hcb hx
      go_wp2_with fail
      go_quiet (fail)
      go_wp2_with fail
      go_roundw
      case rel => exact ⟨k + 1, by omega, by go_num, HBR.out.trans (by have hb := Below.refl wr.heap.size wr; exact (Below.mono (by repeat (first | exact hb | exact Below.refl _ _ | apply Below.drew | apply below_drewN | refine Below.alloc ?_ (by first | omega | (simp; done) | (simp; omega)) _ | refine Below.setCell ?_ (by first | omega | (simp; done) | (simp; omega)) _)) (HBR.out.size)))⟩
      case measure => simp [intOf]; omega
/-- A load in the middle of a row, guarded by what holds. -/
theorem wpList_load_midg {P : Program} {ops : Array Oper} {rest : List Oper} {op : Oper} {a : Act} {w : World} {Q : Exit → Act → World → Prop} (hgd : Region.wanted op (yielded ops a.tmps) = true) (ty : TypeId) (x : Operand) (ho : op.op = .load ty x)
    (b o : Nat) (hx : a.eval x = .pointer (some ⟨b, o, none⟩)) (cs : List Value) (d : TypeDesc) (hc : w.rangeAt b o cs)
    (hu : P.underlying ty = some d) (hd : d.isRow = true) (hi : (P.info? ty).map (·.size) = some cs.length)
    (h : wpList P ops Q rest (a.put op.dst (.agg cs.toArray)) w) : wpList P ops Q (op :: rest) a w :=
  wpList_step fun K hK => by rw [if_pos hgd]; exact wp_load_mid ty x ho b o hx cs d hc hu hd hi (hK _ _ h)
theorem range_mem {W : World} {b : Nat} {C : List Value} {s : St} {t : TypeId} {FA : Option Addr} {fcap : Nat} {EA : Option Addr} {ecap : Nat} {AA : Option Addr} {acap : Nat} {w : World} (h : W.heap[b]? = some (.cells C.toArray t (0, 0))) (hm : s.mem.length = 16) (hc : CellsIn C w s FA fcap EA ecap AA acap) : W.rangeAt b 3 (intsV s.mem) := fun j v hv => by
  have hj : j < 16 := by
    have := (List.getElem?_eq_some_iff.1 hv).1
    simpa [intsV, hm] using this
  rw [cell_block h, List.getElem?_toArray, hc.cm j hj, ← hv, intsV, List.getElem?_map, List.getD_eq_getElem?_getD, List.getElem?_eq_getElem (by omega)]
  rfl
set_option maxRecDepth 100000 in
theorem info_mem {C : List Value} (h : C.length = 16) : (Tryd.prog.info? 47).map (·.size) = some C.length := by rw [h]; kernel_rfl
theorem stinv_sm {p : List Fnc} {s : St} (h : StInv p s) : s.events.length ≤ 1000000 ∧ s.answers.length ≤ 1000000 := by
  have := h.ev; have := h.fuel0; have := h.ans
  omega
set_option maxRecDepth 100000 in
set_option maxHeartbeats 8000000 in
theorem sameState_any {p : List Fnc} (s : St) (Ca Cb : List Value) {Ba Bb : Nat} (w : World) (hi : StInv p s) (ha : CellsSt Ca w Ba s) (hb : CellsSt Cb w Bb s) :
    Calls Tryd.prog 23 #[.agg Ca.toArray, .agg Cb.toArray] w fun e w' => e = .returned (.bool true) ∧ Below w.heap.size w w' := by
  have hregs : ∀ f ∈ s.frames, f.regs.length = 12 := fun f hf => (hi.fr f hf).regs
  obtain ⟨FA, fa, EA, ea, AA, aa, hA⟩ := ha.cin hi.mem hregs
  obtain ⟨FB, fb, EB, eb, AB, ab, hB⟩ := hb.cin hi.mem hregs
  have HA := Lib.hid hA
  have HB := Lib.hid hB
  have HM := Lib.hid hi.mem
  have HFR := Lib.hid hregs
  have HSE := Lib.hid (fun (W : World) (h1 : IntsAt W EA s.events) (h2 : IntsAt W EB s.events) => sameInts_any EA EB s.events ea eb W h1 h2 (stinv_sm hi).1)
  have HSA := Lib.hid (fun (W : World) (h1 : IntsAt W AA s.answers) (h2 : IntsAt W AB s.answers) => sameInts_any AA AB s.answers aa ab W h1 h2 (stinv_sm hi).2)
  have heq := fun W => eq_mem s.mem hi.mem W
  have HIM := Lib.hid (info_mem (C := intsV s.mem) (by simp [intsV, hi.mem]))
  have ca0 := hA.c0
  have ca1 := hA.c1
  have ca19 := hA.c19
  have ca20 := hA.c20
  have cb0 := hB.c0
  have cb1 := hB.c1
  have cb19 := hB.c19
  have cb20 := hB.c20
  have hdp := hi.deep
  obtain ⟨n, hn⟩ : ∃ n, s.frames.length = n := ⟨_, rfl⟩
  obtain ⟨ne, hne⟩ : ∃ n, s.events.length = n := ⟨_, rfl⟩
  obtain ⟨na, hna⟩ : ∃ n, s.answers.length = n := ⟨_, rfl⟩
  have HN := Lib.hid hn
  have HNA := Lib.hid hna
  rw [hn] at hdp
  rw [hne] at ca20 cb20 HSE
  rw [hna] at HSA
  have HR := Lib.hid (⟨range_mem (block_alloc (heap_alloc_new w _) _) hi.mem hA, range_mem (heap_alloc_new1 w _ _) hi.mem hB⟩ : ((w.alloc (.cells Ca.toArray 49)).alloc (.cells Cb.toArray 49)).rangeAt w.heap.size 3 (intsV s.mem) ∧ ((w.alloc (.cells Ca.toArray 49)).alloc (.cells Cb.toArray 49)).rangeAt (w.heap.size + 1) 3 (intsV s.mem))
  have hb0 := Lib.hid (((Below.refl w.heap.size w).alloc (Nat.le_refl _) (.cells Ca.toArray 49)).alloc (by simp) (.cells Cb.toArray 49))
  have HBB := Lib.hid (fun (w1 : World) (hb : Below (w.heap.size + 2) ((w.alloc (.cells Ca.toArray 49)).alloc (.cells Cb.toArray 49)) w1) => (⟨(hb.block w.heap.size (by omega)).trans (block_alloc (heap_alloc_new w _) _), (hb.block (w.heap.size + 1) (by omega)).trans (heap_alloc_new1 w _ _), hb0.out.trans (hb.mono (by omega)), by have := hb.size; simp at this; omega⟩ :
    w1.heap[w.heap.size]? = some (.cells Ca.toArray 49 (0, 0)) ∧ w1.heap[w.heap.size + 1]? = some (.cells Cb.toArray 49 (0, 0)) ∧ Below w.heap.size w w1 ∧ w.heap.size + 2 ≤ w1.heap.size))
  obtain ⟨M, hM⟩ : ∃ M, intsV s.mem = M := ⟨_, rfl⟩
  rw [hM] at HR HIM heq
  clear hi ha hb hregs hA hB hn hne hna hM
  go_enter Tryd.func23, Tryd.ntmps23
  go_wp2_with (first
    | (refine wpList_load_midg (by rfl) 47 _ (by rfl) w.heap.size 3 (by rfl) M _ HR.out.1 Tryd.underlying47 (by rfl) HIM.out ?_)
    | (refine wpList_load_midg (by rfl) 47 _ (by rfl) (w.heap.size + 1) 3 (by rfl) M _ HR.out.2 Tryd.underlying47 (by rfl) HIM.out ?_)
    | (go_at_call 42; go_must (first
       | (refine (HSE.out _ (HA.out.ev.keeps hb0.out) (HB.out.ev.keeps hb0.out)).mono ?_; rintro e w1 ⟨rfl, hb1⟩; have H1 := Lib.hid (HBB.out w1 (hb1.mono (by simp))); have a21 := (cell_block H1.out.1 21).trans (List.getElem?_toArray.trans HA.out.c21); have b21 := (cell_block H1.out.2.1 21).trans (List.getElem?_toArray.trans HB.out.c21); rw [HNA.out] at a21 b21; clear hb1 HSE)
       | (refine (HSA.out _ (HA.out.an.keeps H1.out.2.2.1) (HB.out.an.keeps H1.out.2.2.1)).mono ?_; rintro e w2 ⟨rfl, hb2⟩; have H2 := Lib.hid (⟨(hb2.block _ (by have := H1.out.2.2.2; omega)).trans H1.out.1, (hb2.block _ (by have := H1.out.2.2.2; omega)).trans H1.out.2.1, H1.out.2.2.1.trans (hb2.mono H1.out.2.2.1.size), by have := hb2.size; have := H1.out.2.2.2; omega⟩ : w2.heap[w.heap.size]? = some (.cells Ca.toArray 49 (0, 0)) ∧ w2.heap[w.heap.size + 1]? = some (.cells Cb.toArray 49 (0, 0)) ∧ Below w.heap.size w w2 ∧ w.heap.size + 2 ≤ w2.heap.size); have a2 := (cell_block H2.out.1 2).trans (List.getElem?_toArray.trans HA.out.c2); have b2 := (cell_block H2.out.2.1 2).trans (List.getElem?_toArray.trans HB.out.c2); rw [HN.out] at a2 b2; clear hb2 HSA))))
  go_loopw [5] (fun v wr => ∃ k : Nat, k ≤ n ∧ v = .int .i64 (k : Int) ∧ Below w2.heap.size w2 wr) (fun v _ => n - (intOf v).toNat)
  case atStart => exact ⟨0, by omega, rfl, Below.refl _ _⟩
  case round =>
    obtain ⟨k, hk, rfl, hbr⟩ := hrel
    have HBR := Lib.hid hbr
    have hbw := H2.out.2.2.1.trans (hbr.mono H2.out.2.2.1.size)
    have HBW := Lib.hid hbw
    have z2 := H2.out.2.2.2
    have z3 := hbr.size
    have z4 := H2.out.2.2.1.size
    rw [← hbr.cell (p := ⟨w.heap.size, _, none⟩) (by show w.heap.size < _; omega)] at a2
    rw [← hbr.cell (p := ⟨w.heap.size + 1, _, none⟩) (by show w.heap.size + 1 < _; omega)] at b2
    by_cases hkn : k = n
    · subst hkn
      go_wp2_with fail
      go_ret
      exact ⟨rfl, HBW.out⟩
    · have hkn' : k < n := by omega
      have hk1 : (k : Int) < n := by omega
      have hk2 : (0 : Int) ≤ k := by omega
      have hkw : IntKind.i64.wrap ((k : Int) + 1) = k + 1 := by rw [IntKind.wrap_i64]; omega
      obtain ⟨f, hf⟩ : ∃ f, s.frames[k]? = some f := ⟨s.frames[k]'(by rw [HN.out]; exact hkn'), List.getElem?_eq_getElem _⟩
      obtain ⟨r0, r1, r2, r3, r4, r5, r6, r7, r8, r9, r10, r11, hreg⟩ := regs_12 (HFR.out f (List.mem_of_getElem? hf))
      obtain ⟨ga, rfl, gaz, hca⟩ := HA.out.fr (by rw [HN.out]; omega)
      obtain ⟨gb, rfl, gbz, hcb⟩ := HB.out.fr (by rw [HN.out]; omega)
      have x0 := (hca k f 0 hf (by omega)).trans (show _ = some (Value.int .i64 f.fn) from rfl)
      have x1 := (hca k f 1 hf (by omega)).trans (show _ = some (Value.int .i64 f.pc) from rfl)
      have x2 := (hca k f 2 hf (by omega)).trans (show _ = some (Value.int .i64 r0) by unfold frCell; rw [hreg]; rfl)
      have x3 := (hca k f 3 hf (by omega)).trans (show _ = some (Value.int .i64 r1) by unfold frCell; rw [hreg]; rfl)
      have x4 := (hca k f 4 hf (by omega)).trans (show _ = some (Value.int .i64 r2) by unfold frCell; rw [hreg]; rfl)
      have x5 := (hca k f 5 hf (by omega)).trans (show _ = some (Value.int .i64 r3) by unfold frCell; rw [hreg]; rfl)
      have x6 := (hca k f 6 hf (by omega)).trans (show _ = some (Value.int .i64 r4) by unfold frCell; rw [hreg]; rfl)
      have x7 := (hca k f 7 hf (by omega)).trans (show _ = some (Value.int .i64 r5) by unfold frCell; rw [hreg]; rfl)
      have x8 := (hca k f 8 hf (by omega)).trans (show _ = some (Value.int .i64 r6) by unfold frCell; rw [hreg]; rfl)
      have x9 := (hca k f 9 hf (by omega)).trans (show _ = some (Value.int .i64 r7) by unfold frCell; rw [hreg]; rfl)
      have x10 := (hca k f 10 hf (by omega)).trans (show _ = some (Value.int .i64 r8) by unfold frCell; rw [hreg]; rfl)
      have x11 := (hca k f 11 hf (by omega)).trans (show _ = some (Value.int .i64 r9) by unfold frCell; rw [hreg]; rfl)
      have x12 := (hca k f 12 hf (by omega)).trans (show _ = some (Value.int .i64 r10) by unfold frCell; rw [hreg]; rfl)
      have x13 := (hca k f 13 hf (by omega)).trans (show _ = some (Value.int .i64 r11) by unfold frCell; rw [hreg]; rfl)
      rw [Nat.add_zero] at x0
      rw [← hbw.cell (p := ⟨ga, _, none⟩) gaz] at x0 x1 x2 x3 x4 x5 x6 x7 x8 x9 x10 x11 x12 x13
      have y0 := (hcb k f 0 hf (by omega)).trans (show _ = some (Value.int .i64 f.fn) from rfl)
      have y1 := (hcb k f 1 hf (by omega)).trans (show _ = some (Value.int .i64 f.pc) from rfl)
      have y2 := (hcb k f 2 hf (by omega)).trans (show _ = some (Value.int .i64 r0) by unfold frCell; rw [hreg]; rfl)
      have y3 := (hcb k f 3 hf (by omega)).trans (show _ = some (Value.int .i64 r1) by unfold frCell; rw [hreg]; rfl)
      have y4 := (hcb k f 4 hf (by omega)).trans (show _ = some (Value.int .i64 r2) by unfold frCell; rw [hreg]; rfl)
      have y5 := (hcb k f 5 hf (by omega)).trans (show _ = some (Value.int .i64 r3) by unfold frCell; rw [hreg]; rfl)
      have y6 := (hcb k f 6 hf (by omega)).trans (show _ = some (Value.int .i64 r4) by unfold frCell; rw [hreg]; rfl)
      have y7 := (hcb k f 7 hf (by omega)).trans (show _ = some (Value.int .i64 r5) by unfold frCell; rw [hreg]; rfl)
      have y8 := (hcb k f 8 hf (by omega)).trans (show _ = some (Value.int .i64 r6) by unfold frCell; rw [hreg]; rfl)
      have y9 := (hcb k f 9 hf (by omega)).trans (show _ = some (Value.int .i64 r7) by unfold frCell; rw [hreg]; rfl)
      have y10 := (hcb k f 10 hf (by omega)).trans (show _ = some (Value.int .i64 r8) by unfold frCell; rw [hreg]; rfl)
      have y11 := (hcb k f 11 hf (by omega)).trans (show _ = some (Value.int .i64 r9) by unfold frCell; rw [hreg]; rfl)
      have y12 := (hcb k f 12 hf (by omega)).trans (show _ = some (Value.int .i64 r10) by unfold frCell; rw [hreg]; rfl)
      have y13 := (hcb k f 13 hf (by omega)).trans (show _ = some (Value.int .i64 r11) by unfold frCell; rw [hreg]; rfl)
      rw [Nat.add_zero] at y0
      rw [← hbw.cell (p := ⟨gb, _, none⟩) gbz] at y0 y1 y2 y3 y4 y5 y6 y7 y8 y9 y10 y11 y12 y13
      have zg : ga < wr.heap.size := by omega
      have zg' : gb < wr.heap.size := by omega
      have z5 : w.heap.size + 1 < wr.heap.size := by omega
      have z6 : w.heap.size < wr.heap.size := by omega
      have hef := fun W => eq_frame f.fn f.pc r0 r1 r2 r3 r4 r5 r6 r7 r8 r9 r10 r11 W
      clear hca hcb hf hreg hbw heq
      go_wp2_with fail
      go_quiet (fail)
      go_wp2_with fail
      go_roundw
      case rel => exact ⟨k + 1, by omega, by go_num, HBR.out.trans (by have hb := Below.refl wr.heap.size wr; exact (Below.mono (by repeat (first | exact hb | exact Below.refl _ _ | apply Below.drew | apply below_drewN | refine Below.alloc ?_ (by first | omega | (simp; done) | (simp; omega)) _ | refine Below.setCell ?_ (by first | omega | (simp; done) | (simp; omega)) _)) (HBR.out.size)))⟩
      case measure => simp [intOf]; omega
end Go.Proofs.YtfngkpbbimibaaaDoor
