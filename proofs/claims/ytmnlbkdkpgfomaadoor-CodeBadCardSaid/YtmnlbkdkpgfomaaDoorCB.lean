/-
  The walk of CodeBad: it returns true.
-/
import Derived.Test.YtmnlbkdkpgfomaaDoorMd
import Derived.Test.YtmnlbkdkpgfomaaDoorBd
import Derived.Test.YtmnlbkdkpgfomaaDoorCkD
import Derived.Test.YtmnlbkdkpgfomaaDoorOpn
import Derived.Deep.AppendLies
import Derived.Deep.RegionHeld3
import Derived.Deep.RegionWith
namespace Go.Proofs.YtmnlbkdkpgfomaaDoor
open Go.RowKit Tier
theorem block_lt {w : World} {b : Nat} {o : Obj} (h : w.heap[b]? = some o) : b < w.heap.size := (Array.getElem?_eq_some_iff.1 h).1
theorem heap_setCell_ne (w : World) {b k : Nat} (h : k ≠ b) (i : Nat) (v : Value) : (w.setCell ⟨b, i, none⟩ v).heap[k]? = w.heap[k]? := by
  simp [World.setCell, Array.getElem?_modify, Ne.symm h]
def CutAt (R : Act → World → Prop) : Exit → Act → World → Prop
  | .normal, a, w => R a w
  | _, _, _ => False
theorem CutAt.mono {R : Act → World → Prop} {Q : Exit → Act → World → Prop} (h : ∀ a w, R a w → Q .normal a w) : ∀ (e : Exit) (a : Act) (w : World), CutAt R e a w → Q e a w := fun e a w hh => by
  cases e <;> first | exact h a w hh | exact (hh : False).elim
theorem region_cut2 {α β : Type} {P : Program} {id : Nat} {ops : Array Oper} {Q : Exit → Act → World → Prop} {a : Act} {w : World} (f : α → β → Act) (R : α → β → World → Prop) (h1 : (Code.region id ops true).wp P (CutAt fun a' w' => ∃ x y, a' = f x y ∧ R x y w') a w) (h2 : ∀ x y w', R x y w' → Q .normal (f x y) w') : (Code.region id ops true).wp P Q a w :=
  Code.wp_mono (CutAt.mono fun a' w' h => by obtain ⟨x, y, rfl, h⟩ := h; exact h2 x y w' h) h1
theorem own_of_heap {w w' : World} {base : Nat} {e : TypeId} {size : Nat} {v : Value} {n : Nat} {xs : List Value} (h : w.ownsRow base e size v n xs) (hk : ∀ k, v.ownBlock = some k → w'.heap[k]? = w.heap[k]?) : w'.ownsRow base e size v n xs := by
  obtain ⟨h1, h2⟩ := h
  refine ⟨h1, ?_⟩
  rcases h2 with h2 | ⟨g, cap, cur, rfl, hg, hh, r⟩
  · exact .inl h2
  · exact .inr ⟨g, cap, cur, rfl, hg, (hk g rfl).trans hh, r⟩
theorem refused_fn {f f' : Fnc} {p : List Fnc} {e : Int} (h : progE (f :: p) = 0) (h' : progE (f' :: p) = e) (he : e ≠ 0) : fnE f' (f' :: p).length ≠ 0 := by
  intro h0
  have hl := prog_ok h
  have l1 := hl.l1
  have l2 := hl.l2
  simp only [List.length_cons] at l1 l2 h0
  have e1 : progE (f :: p) = firstE ((f :: p).map fun g => fnE g ((f :: p).length : Nat)) := if_neg (by simp only [List.length_cons]; omega)
  have e2 : progE (f' :: p) = firstE ((f' :: p).map fun g => fnE g ((f' :: p).length : Nat)) := if_neg (by simp only [List.length_cons]; omega)
  rw [e1] at h
  rw [e2] at h'
  simp only [List.map_cons, List.length_cons] at h h'
  have a1 : firstE (fnE f' ((p.length + 1 : Nat) : Int) :: p.map fun g => fnE g ((p.length + 1 : Nat) : Int)) = firstE (p.map fun g => fnE g ((p.length + 1 : Nat) : Int)) := by
    have : fnE f' ((p.length + 1 : Nat) : Int) = 0 := h0
    rw [firstE_cons, this]; simp
  have a2 := firstE_none (fun y hy => firstE_all h y (List.mem_cons_of_mem _ hy))
  rw [a1, a2] at h'
  exact he h'.symm
/-- The first function of a program in memory, of so many functions. -/
structure QAt (w : World) (g : Nat) (fp fr : Int) (c : List Ins) : Prop where
  lt : g < w.heap.size
  c0 : w.cell? ⟨g, 0, none⟩ = some (.int .i64 fp)
  c1 : w.cell? ⟨g, 1, none⟩ = some (.int .i64 fr)
  code : ∃ u, w.cell? ⟨g, 2, none⟩ = some u ∧ CodeAt w u c
theorem QAt.keeps {w w' : World} {g : Nat} {fp fr : Int} {c : List Ins} (h : QAt w g fp fr c) (hb : Below w.heap.size w w') : QAt w' g fp fr c := by
  obtain ⟨u, h1, h2⟩ := h.code
  exact ⟨Nat.lt_of_lt_of_le h.lt hb.size, (hb.cell (p := ⟨g, _, none⟩) h.lt).trans h.c0, (hb.cell (p := ⟨g, _, none⟩) h.lt).trans h.c1, u, (hb.cell (p := ⟨g, _, none⟩) h.lt).trans h1, h2.keeps hb⟩
theorem QAt.refused {w : World} {g : Nat} {fp fr : Int} {c : List Ins} (h : QAt w g fp fr c) {f : Fnc} {p : List Fnc} {e : Int} (h0 : progE (f :: p) = 0) (h1 : progE (⟨fp, fr, c⟩ :: p) = e) (he : e ≠ 0) (cap : Nat) (ht : Tab w) (hcl : c.length ≤ 1000) (hcp : ∀ f ∈ p, f.code.length ≤ 40) :
    Calls Tryd.prog 9 #[.agg #[.slice (some ⟨g, 0, none⟩) (p.length + 1) cap]] w fun e' w' => e' = .returned (.int .i64 e) ∧ Below w.heap.size w w' := by
  have l2 := (prog_ok h0).l2
  simp only [List.length_cons] at l2
  have := check_some (⟨fp, fr, c⟩ :: p) (some ⟨g, 0, none⟩) cap w ht (fun _ => ⟨g, rfl, h.lt, fun i f' hf hj => ?_⟩) (by simp only [List.length_cons]; omega) (fun f' hf => ?_)
  · rw [h1] at this; exact this
  · cases i with
    | zero =>
      simp at hf; subst hf
      obtain ⟨u, q1, q2⟩ := h.code
      exact ⟨u, q2, by simpa using h.c0, by simpa using h.c1, by simpa using q1⟩
    | succ i =>
      have := hj 0 (by omega)
      simp only [List.map_cons, List.getElem?_cons_zero, Option.some.injEq] at this
      exact absurd this (refused_fn h0 h1 he)
  · rcases List.mem_cons.1 hf with rfl | hf
    · show (c.length : Int) ≤ _; omega
    · have := hcp f' hf; omega
/-- An instruction more behind the first function's code: in the memory of the program that w2 has. -/
theorem QAt.more {w2 wa : World} {B g cap : Nat} {f : Fnc} {p : List Fnc} {u : Value} {vs : List Value} (h : ProgV w2 B (.slice (some ⟨g, 0, none⟩) (p.length + 1) cap) (f :: p) (u :: vs)) {W : World} (hW : Below w2.heap.size w2 W) (hg : W.grownBy wa u.ownBlock) {gg ccap : Nat} {x : Ins}
    (ho : wa.ownsRow B 32 5 (.slice (some ⟨gg, 0, none⟩) (f.code.length + 1) ccap) (f.code.length + 1) (codeCells f.code ++ codeCells [x])) (hgg : u.ownBlock = some gg ∨ gg = W.heap.size) :
    QAt (wa.setCell ⟨g, 2, none⟩ (.slice (some ⟨gg, 0, none⟩) (f.code.length + 1) ccap)) g f.params f.regs (f.code ++ [x]) := by
  obtain ⟨c0, c1, c2, hB, hlt, -⟩ := h.first
  have hne : u.ownBlock ≠ some g := heap_ne h.own (h.code 0 u f rfl rfl) (by decide)
  have hgW : g < W.heap.size := Nat.lt_of_lt_of_le hlt hW.size
  have hgn : gg ≠ g := by
    rcases hgg with e | e
    · intro e2; rw [e2] at e; exact hne e
    · omega
  have hblk : wa.heap[g]? = w2.heap[g]? := (hg.block g hgW (fun e => hne e.symm)).trans (hW.block g hlt)
  have hsz : g < wa.heap.size := Nat.lt_of_lt_of_le hgW hg.size
  have hcell : ∀ i, i ≠ 2 → (wa.setCell ⟨g, 2, none⟩ (.slice (some ⟨gg, 0, none⟩) (f.code.length + 1) ccap)).cell? ⟨g, i, none⟩ = w2.cell? ⟨g, i, none⟩ := fun i hi => by
    exact (World.cell?_setCell_other wa ⟨g, 2, none⟩ ⟨g, i, none⟩ _ (fun e => hi (by injection e with _ e2; exact e2.symm))).trans (World.cell?_of_block hblk)
  refine ⟨by simpa using hsz, (hcell 0 (by omega)).trans c0, (hcell 1 (by omega)).trans c1, .slice (some ⟨gg, 0, none⟩) (f.code.length + 1) ccap, ?_, B, ?_⟩
  · have : wa.cell? ⟨g, 2, none⟩ = some u := (World.cell?_of_block hblk).trans c2
    exact World.cell?_setCell_same _ _ _ this
  · have e : codeCells (f.code ++ [x]) = codeCells f.code ++ codeCells [x] := by simp [codeCells]
    rw [e, List.length_append]
    refine own_of_heap ho (fun k hk => ?_)
    have : k = gg := by simpa [Value.ownBlock] using hk.symm
    rw [this]
    simp [World.setCell, Array.getElem?_modify, Ne.symm hgn]
set_option maxRecDepth 100000 in
set_option maxHeartbeats 8000000 in
theorem codeBad_walk (A : Option Addr) (l : List Fnc) (cap : Nat) (r : Int) (w : World) (ht : Tab w) (hraw : RawsAt w A l) (hln : (l.length : Int) ≤ 9223372036854775807) (hr : In r) :
    Calls Tryd.prog 3 #[.slice A l.length cap, .int .i64 r] w fun e w' => e = .returned (.bool true) ∧ Below w.heap.size w w' := by
  obtain ⟨i0, hi, hza0, hzb, hzc⟩ := info_parts infoIns
  have HT := Lib.hid ht
  have HR := Lib.hid hraw
  have HPE := Lib.hid (progE_mk l false)
  have HSM := Lib.hid (show ∀ f ∈ mkProg l false, f.code.length ≤ 36 from fun f hf => by
    obtain ⟨g, rfl⟩ := mkProg_mem hf
    exact (mkFn_size g.params g.regs g.code (funcsN l : Nat) false).2)
  have HPA := Lib.hid (fun (W : World) (h2 : RawsAt W A l) => shaped_any A cap l W hln h2)
  clear ht hraw
  go_enter Tryd.func3, Tryd.ntmps3
  go_wp2_with fail
  refine (HPA.out _ HR.out).mono ?_
  rintro e w1 ⟨⟨A1, cap1, vs, rfl, hpv⟩, hb1⟩
  have HB1 := Lib.hid hb1
  generalize mkProg l false = p at *
  have hok := prog_ok HPE.out
  have hl1 := hok.l1
  have hl2 := hok.l2
  have hcl : ∀ f ∈ p, f.code.length ≤ 40 := fun f hf => (hok.fn f hf).c2
  obtain ⟨f, p', rfl⟩ : ∃ f p', p = f :: p' := by
    cases p with
    | nil => simp at hl1
    | cons f p' => exact ⟨f, p', rfl⟩
  have hfo := hok.fn f (by simp)
  obtain ⟨u, vs', rfl⟩ : ∃ u vs', vs = u :: vs' := by
    have := hpv.len
    cases vs with
    | nil => simp at this
    | cons u vs' => exact ⟨u, vs', rfl⟩
  have n1 := hfo.c1
  have n2 := HSM.out f (by simp)
  have r1 := hfo.r1
  have r2 := hfo.r2
  have hpk := picked_in r 6 (by omega)
  have hpq := picked_in r 9 (by omega)
  have HPK := Lib.hid (fun (W : World) => picked_any r 6 W hr (by omega) (by omega))
  have HPL := Lib.hid (fun (W : World) => picked_any r 9 W hr (by omega) (by omega))
  obtain ⟨k, hk⟩ : ∃ k : Nat, pickedI r 6 = k := ⟨(pickedI r 6).toNat, by omega⟩
  obtain ⟨m, hm⟩ : ∃ m, pickedI r 9 = m := ⟨_, rfl⟩
  rw [hk] at hpk HPK
  rw [hm] at hpq HPL
  have hk6 : k < 6 := by omega
  have HX1 := Lib.hid (fun (f' : Fnc) (e1 : f'.params = f.params) (e2 : f'.regs = f.regs) (e3 : f'.code = f.code ++ [badIns k f.regs f.code.length (p'.length + 1 : Nat)]) => code_refused (f' := f') HPE.out (by omega) e1 e2 e3 2 (by decide) (by
    have := bad_range k hk6 f.regs f.code.length (p'.length + 1 : Nat) r1
    push_cast at this ⊢; exact this))
  have HX2 := Lib.hid (fun (f' : Fnc) (e1 : f'.params = f.params) (e2 : f'.regs = f.regs) (e3 : f'.code = f.code ++ [⟨20 + m, 0, 0, 0, 0⟩]) => code_refused (f' := f') HPE.out (by omega) e1 e2 e3 3 (by decide) (bad_kind _ (by omega) _ _ _))
  obtain ⟨A0, cap0, hA0, hA⟩ := hpv.at.slice
  simp only [Value.slice.injEq, true_and] at hA0
  obtain ⟨g, hAg, hg, -⟩ := hA (by omega)
  obtain ⟨rfl, rfl⟩ := hA0
  subst hAg
  obtain ⟨FA, fcap, rfl, -⟩ := CodeAt.slice ⟨_, hpv.code 0 u f rfl rfl⟩
  have HPV := Lib.hid hpv
  obtain ⟨c0, c1, c2, -, -, -⟩ := hpv.first
  have HCL := Lib.hid hcl
  clear hk hm hA hpv hb1 hok hfo hcl hpk
  obtain ⟨fp, fr, fc⟩ := f
  dsimp only at *
  simp only [List.length_cons] at *
  generalize hM : p'.length = M at *
  generalize hN : fc.length = N at *
  have hwN : IntKind.i64.wrap ((N : Int) + 1) = (N : Int) + 1 := by rw [IntKind.wrap_i64]; omega
  go_wp2_with fail
  obtain ⟨u1, hu1⟩ : ∃ W, w1.alloc (.cells #[(.slice (some ⟨g, 0, none⟩) (M + 1) cap1)] 25) = W := ⟨_, rfl⟩
  rw [hu1]
  have HU1 : Hid (Below w1.heap.size w1 u1) := Lib.hid (hu1 ▸ (Below.refl _ _).alloc (Nat.le_refl _) _)
  have HPB : Hid (u1.heap[w1.heap.size]? = some (.cells #[(.slice (some ⟨g, 0, none⟩) (M + 1) cap1)] 25 (0, 0))) := Lib.hid (hu1 ▸ heap_alloc_new w1 _)
  have hus : u1.heap.size = w1.heap.size + 1 := by rw [← hu1]; simp
  have d1 := (HU1.out.cell (p := ⟨g, 1, none⟩) hg).trans c1
  have d2 := (HU1.out.cell (p := ⟨g, 2, none⟩) hg).trans c2
  have d0 := (cell_block HPB.out 0).trans rfl
  clear hu1
  have zg : g < u1.heap.size := Nat.lt_of_lt_of_le hg HU1.out.size
  have zp : w1.heap.size < u1.heap.size := by omega
  have KS := Lib.hid (fun (w' : World) (hb : Below u1.heap.size u1 w') => (⟨(hb.cell (p := ⟨g, _, none⟩) zg).trans d1, (hb.cell (p := ⟨g, _, none⟩) zg).trans d2, (hb.cell (p := ⟨w1.heap.size, _, none⟩) zp).trans d0⟩ : w'.cell? ⟨g, 1, none⟩ = some (.int .i64 fr) ∧ w'.cell? ⟨g, 2, none⟩ = some (.slice FA N fcap) ∧ w'.cell? ⟨w1.heap.size, 0, none⟩ = some (.slice (some ⟨g, 0, none⟩) (M + 1) cap1)))
  refine wp_region_held_drew (S := fun w' => w'.cell? ⟨g, 1, none⟩ = some (.int .i64 fr) ∧ w'.cell? ⟨g, 2, none⟩ = some (.slice FA N fcap) ∧ w'.cell? ⟨w1.heap.size, 0, none⟩ = some (.slice (some ⟨g, 0, none⟩) (M + 1) cap1)) (by kernel_rfl) (KS.out _ (Below.refl _ _).drew) (fun hHeld => ?_)
  refine wpAnyH_take (i := 0) (v := .pointer (some ⟨g, 0, none⟩)) rfl (by kernel_rfl) (by kernel_rfl) (by kernel_rfl) (fun _ _ _ h => h) (Or.inl ⟨by rfl, ?_⟩) hHeld ?_
  · intro w hSw
    obtain ⟨q0, q1, q2⟩ := hSw
    simp only [List.getElem_toArray, List.getElem_cons_zero]
    go_simp
  simp only [Act.put, List.getElem_toArray, List.getElem_cons_zero, List.setIfInBounds_toArray, List.set_cons_zero, List.set_cons_succ]
  refine wpAnyH_take (i := 1) (v := .pointer (some ⟨g, 0, none⟩)) rfl (by kernel_rfl) (by kernel_rfl) (by kernel_rfl) (fun _ _ _ h => h) (Or.inl ⟨by rfl, ?_⟩) hHeld ?_
  · intro w hSw
    obtain ⟨q0, q1, q2⟩ := hSw
    simp only [List.getElem_toArray, List.getElem_cons_zero, List.getElem_cons_succ]
    go_simp
  simp only [Act.put, List.getElem_toArray, List.getElem_cons_zero, List.getElem_cons_succ, List.setIfInBounds_toArray, List.set_cons_zero, List.set_cons_succ]
  refine wpAnyH_take (i := 2) (v := .pointer (some ⟨g, 1, none⟩)) rfl (by kernel_rfl) (by kernel_rfl) (by kernel_rfl) (fun _ _ _ h => h) (Or.inl ⟨by rfl, ?_⟩) hHeld ?_
  · intro w hSw
    obtain ⟨q0, q1, q2⟩ := hSw
    simp only [List.getElem_toArray, List.getElem_cons_zero, List.getElem_cons_succ]
    go_simp
  simp only [Act.put, List.getElem_toArray, List.getElem_cons_zero, List.getElem_cons_succ, List.setIfInBounds_toArray, List.set_cons_zero, List.set_cons_succ]
  refine wpAnyH_take (i := 3) (v := .int .i64 fr) rfl (by kernel_rfl) (by kernel_rfl) (by kernel_rfl) (fun _ _ _ h => h) (Or.inl ⟨by rfl, ?_⟩) hHeld ?_
  · intro w hSw
    obtain ⟨q0, q1, q2⟩ := hSw
    simp only [List.getElem_toArray, List.getElem_cons_zero, List.getElem_cons_succ]
    go_simp
  simp only [Act.put, List.getElem_toArray, List.getElem_cons_zero, List.getElem_cons_succ, List.setIfInBounds_toArray, List.set_cons_zero, List.set_cons_succ]
  refine wpAnyH_take (i := 4) (v := .agg #[.int .i64 1, .int .i64 fr, .int .i64 0, .int .i64 0, .int .i64 0]) rfl (by kernel_rfl) (by kernel_rfl) (by kernel_rfl) (fun _ _ _ h => h) (Or.inl ⟨by rfl, ?_⟩) hHeld ?_
  · intro w hSw
    obtain ⟨q0, q1, q2⟩ := hSw
    simp only [List.getElem_toArray, List.getElem_cons_zero, List.getElem_cons_succ]
    go_simp
  simp only [Act.put, List.getElem_toArray, List.getElem_cons_zero, List.getElem_cons_succ, List.setIfInBounds_toArray, List.set_cons_zero, List.set_cons_succ]
  refine wpAnyH_take (i := 5) (v := .pointer (some ⟨g, 0, none⟩)) rfl (by kernel_rfl) (by kernel_rfl) (by kernel_rfl) (fun _ _ _ h => h) (Or.inl ⟨by rfl, ?_⟩) hHeld ?_
  · intro w hSw
    obtain ⟨q0, q1, q2⟩ := hSw
    simp only [List.getElem_toArray, List.getElem_cons_zero, List.getElem_cons_succ]
    go_simp
  simp only [Act.put, List.getElem_toArray, List.getElem_cons_zero, List.getElem_cons_succ, List.setIfInBounds_toArray, List.set_cons_zero, List.set_cons_succ]
  refine wpAnyH_take (i := 6) (v := .pointer (some ⟨g, 0, none⟩)) rfl (by kernel_rfl) (by kernel_rfl) (by kernel_rfl) (fun _ _ _ h => h) (Or.inl ⟨by rfl, ?_⟩) hHeld ?_
  · intro w hSw
    obtain ⟨q0, q1, q2⟩ := hSw
    simp only [List.getElem_toArray, List.getElem_cons_zero, List.getElem_cons_succ]
    go_simp
  simp only [Act.put, List.getElem_toArray, List.getElem_cons_zero, List.getElem_cons_succ, List.setIfInBounds_toArray, List.set_cons_zero, List.set_cons_succ]
  refine wpAnyH_take (i := 7) (v := .pointer (some ⟨g, 2, none⟩)) rfl (by kernel_rfl) (by kernel_rfl) (by kernel_rfl) (fun _ _ _ h => h) (Or.inl ⟨by rfl, ?_⟩) hHeld ?_
  · intro w hSw
    obtain ⟨q0, q1, q2⟩ := hSw
    simp only [List.getElem_toArray, List.getElem_cons_zero, List.getElem_cons_succ]
    go_simp
  simp only [Act.put, List.getElem_toArray, List.getElem_cons_zero, List.getElem_cons_succ, List.setIfInBounds_toArray, List.set_cons_zero, List.set_cons_succ]
  refine wpAnyH_take (i := 8) (v := .slice FA N fcap) rfl (by kernel_rfl) (by kernel_rfl) (by kernel_rfl) (fun _ _ _ h => h) (Or.inl ⟨by rfl, ?_⟩) hHeld ?_
  · intro w hSw
    obtain ⟨q0, q1, q2⟩ := hSw
    simp only [List.getElem_toArray, List.getElem_cons_zero, List.getElem_cons_succ]
    go_simp
  simp only [Act.put, List.getElem_toArray, List.getElem_cons_zero, List.getElem_cons_succ, List.setIfInBounds_toArray, List.set_cons_zero, List.set_cons_succ]
  refine wpAnyH_take (i := 9) (v := .int .i64 (N : Int)) rfl (by kernel_rfl) (by kernel_rfl) (by kernel_rfl) (fun _ _ _ h => h) (Or.inl ⟨by rfl, ?_⟩) hHeld ?_
  · intro w hSw
    obtain ⟨q0, q1, q2⟩ := hSw
    simp only [List.getElem_toArray, List.getElem_cons_zero, List.getElem_cons_succ]
    go_simp
  simp only [Act.put, List.getElem_toArray, List.getElem_cons_zero, List.getElem_cons_succ, List.setIfInBounds_toArray, List.set_cons_zero, List.set_cons_succ]
  refine wpAnyH_take (i := 10) (v := .int .i64 ((N : Int) + 1)) rfl (by kernel_rfl) (by kernel_rfl) (by kernel_rfl) (fun _ _ _ h => h) (Or.inl ⟨by rfl, ?_⟩) hHeld ?_
  · intro w hSw
    obtain ⟨q0, q1, q2⟩ := hSw
    simp only [List.getElem_toArray, List.getElem_cons_zero, List.getElem_cons_succ]
    go_simp
  simp only [Act.put, List.getElem_toArray, List.getElem_cons_zero, List.getElem_cons_succ, List.setIfInBounds_toArray, List.set_cons_zero, List.set_cons_succ]
  refine wpAnyH_take (i := 11) (v := .agg #[.int .i64 15, .int .i64 0, .int .i64 0, .int .i64 0, .int .i64 ((N : Int) + 1)]) rfl (by kernel_rfl) (by kernel_rfl) (by kernel_rfl) (fun _ _ _ h => h) (Or.inl ⟨by rfl, ?_⟩) hHeld ?_
  · intro w hSw
    obtain ⟨q0, q1, q2⟩ := hSw
    simp only [List.getElem_toArray, List.getElem_cons_zero, List.getElem_cons_succ]
    go_simp
  simp only [Act.put, List.getElem_toArray, List.getElem_cons_zero, List.getElem_cons_succ, List.setIfInBounds_toArray, List.set_cons_zero, List.set_cons_succ]
  refine wpAnyH_take (i := 12) (v := .pointer (some ⟨w1.heap.size, 0, none⟩)) rfl (by kernel_rfl) (by kernel_rfl) (by kernel_rfl) (fun _ _ _ h => h) (Or.inl ⟨by rfl, ?_⟩) hHeld ?_
  · intro w hSw
    obtain ⟨q0, q1, q2⟩ := hSw
    simp only [List.getElem_toArray, List.getElem_cons_zero, List.getElem_cons_succ]
    go_simp
  simp only [Act.put, List.getElem_toArray, List.getElem_cons_zero, List.getElem_cons_succ, List.setIfInBounds_toArray, List.set_cons_zero, List.set_cons_succ]
  refine wpAnyH_take (i := 13) (v := .slice (some ⟨g, 0, none⟩) (M + 1) cap1) rfl (by kernel_rfl) (by kernel_rfl) (by kernel_rfl) (fun _ _ _ h => h) (Or.inl ⟨by rfl, ?_⟩) hHeld ?_
  · intro w hSw
    obtain ⟨q0, q1, q2⟩ := hSw
    simp only [List.getElem_toArray, List.getElem_cons_zero, List.getElem_cons_succ]
    go_simp
  simp only [Act.put, List.getElem_toArray, List.getElem_cons_zero, List.getElem_cons_succ, List.setIfInBounds_toArray, List.set_cons_zero, List.set_cons_succ]
  refine wpAnyH_take (i := 14) (v := .int .i64 ((M : Int) + 1)) rfl (by kernel_rfl) (by kernel_rfl) (by kernel_rfl) (fun _ _ _ h => h) (Or.inl ⟨by rfl, ?_⟩) hHeld ?_
  · intro w hSw
    obtain ⟨q0, q1, q2⟩ := hSw
    simp only [List.getElem_toArray, List.getElem_cons_zero, List.getElem_cons_succ]
    go_simp
  simp only [Act.put, List.getElem_toArray, List.getElem_cons_zero, List.getElem_cons_succ, List.setIfInBounds_toArray, List.set_cons_zero, List.set_cons_succ]
  refine wpAnyH_take (i := 15) (v := .agg #[.int .i64 17, .int .i64 0, .int .i64 0, .int .i64 0, .int .i64 ((M : Int) + 1)]) rfl (by kernel_rfl) (by kernel_rfl) (by kernel_rfl) (fun _ _ _ h => h) (Or.inl ⟨by rfl, ?_⟩) hHeld ?_
  · intro w hSw
    obtain ⟨q0, q1, q2⟩ := hSw
    simp only [List.getElem_toArray, List.getElem_cons_zero, List.getElem_cons_succ]
    go_simp
  simp only [Act.put, List.getElem_toArray, List.getElem_cons_zero, List.getElem_cons_succ, List.setIfInBounds_toArray, List.set_cons_zero, List.set_cons_succ]
  refine wpAnyH_take (i := 16) (v := .agg #[.int .i64 19, .int .i64 0, .int .i64 (-1), .int .i64 0, .int .i64 0]) rfl (by kernel_rfl) (by kernel_rfl) (by kernel_rfl) (fun _ _ _ h => h) (Or.inl ⟨by rfl, ?_⟩) hHeld ?_
  · intro w hSw
    obtain ⟨q0, q1, q2⟩ := hSw
    simp only [List.getElem_toArray, List.getElem_cons_zero, List.getElem_cons_succ]
    go_simp
  simp only [Act.put, List.getElem_toArray, List.getElem_cons_zero, List.getElem_cons_succ, List.setIfInBounds_toArray, List.set_cons_zero, List.set_cons_succ]
  refine wpAnyH_take (i := 17) (v := .agg #[.int .i64 15, .int .i64 0, .int .i64 1, .int .i64 0, .int .i64 0]) rfl (by kernel_rfl) (by kernel_rfl) (by kernel_rfl) (fun _ _ _ h => h) (Or.inl ⟨by rfl, ?_⟩) hHeld ?_
  · intro w hSw
    obtain ⟨q0, q1, q2⟩ := hSw
    simp only [List.getElem_toArray, List.getElem_cons_zero, List.getElem_cons_succ]
    go_simp
  simp only [Act.put, List.getElem_toArray, List.getElem_cons_zero, List.getElem_cons_succ, List.setIfInBounds_toArray, List.set_cons_zero, List.set_cons_succ]
  refine wpAnyH_take (i := 18) (v := .agg #[.int .i64 2, .int .i64 0, .int .i64 0, .int .i64 0, .int .i64 1]) rfl (by kernel_rfl) (by kernel_rfl) (by kernel_rfl) (fun _ _ _ h => h) (Or.inl ⟨by rfl, ?_⟩) hHeld ?_
  · intro w hSw
    obtain ⟨q0, q1, q2⟩ := hSw
    simp only [List.getElem_toArray, List.getElem_cons_zero, List.getElem_cons_succ]
    go_simp
  simp only [Act.put, List.getElem_toArray, List.getElem_cons_zero, List.getElem_cons_succ, List.setIfInBounds_toArray, List.set_cons_zero, List.set_cons_succ]
  refine wpAnyH_ready (rs := [19]) (by kernel_rfl) (by simp) ?_
  refine AllReadyH.cons rfl (fun K hK => ?_) AllReadyH.nil
  simp only [List.getElem_toArray, List.getElem_cons_zero, List.getElem_cons_succ]
  go_simp
  refine hK.out _ _ (KS.out _ ((Below.refl _ _).drew.alloc (Nat.le_refl _) _)) (fun hHeld => ?_)
  clear hK K
  refine wpAnyH_ready (rs := [20]) (by kernel_rfl) (by simp) ?_
  refine AllReadyH.cons rfl (fun K hK => ?_) AllReadyH.nil
  simp only [List.getElem_toArray, List.getElem_cons_zero, List.getElem_cons_succ]
  go_simp
  refine hK.out _ _ hHeld (fun hHeld => ?_)
  clear hK K
  clear hHeld
  refine wpAnyH_done (by kernel_rfl) ?_ _
  clear KS d0 d1 d2 zg zp
  obtain ⟨w3, hw3⟩ : ∃ W, (u1.alloc (.cells #[.int .i64 1, .int .i64 fr, .int .i64 0, .int .i64 0, .int .i64 0, .int .i64 15, .int .i64 0, .int .i64 0, .int .i64 0, .int .i64 ((N : Int) + 1), .int .i64 17, .int .i64 0, .int .i64 0, .int .i64 0, .int .i64 ((M : Int) + 1), .int .i64 19, .int .i64 0, .int .i64 (-1), .int .i64 0, .int .i64 0, .int .i64 15, .int .i64 0, .int .i64 1, .int .i64 0, .int .i64 0, .int .i64 2, .int .i64 0, .int .i64 0, .int .i64 0, .int .i64 1] 32)).drew = W := ⟨_, rfl⟩
  rw [hw3]
  have HB13 : Hid (Below w1.heap.size w1 w3) := Lib.hid (hw3 ▸ (HU1.out.alloc (by have := HU1.out.size; exact this) _).drew)
  have HAB : Hid (w3.heap[w1.heap.size + 1]? = some (.cells #[.int .i64 1, .int .i64 fr, .int .i64 0, .int .i64 0, .int .i64 0, .int .i64 15, .int .i64 0, .int .i64 0, .int .i64 0, .int .i64 ((N : Int) + 1), .int .i64 17, .int .i64 0, .int .i64 0, .int .i64 0, .int .i64 ((M : Int) + 1), .int .i64 19, .int .i64 0, .int .i64 (-1), .int .i64 0, .int .i64 0, .int .i64 15, .int .i64 0, .int .i64 1, .int .i64 0, .int .i64 0, .int .i64 2, .int .i64 0, .int .i64 0, .int .i64 0, .int .i64 1] 32 (0, 0))) := Lib.hid (by rw [← hw3, ← hus]; exact heap_alloc_new u1 _)
  have HPB3 : Hid (w3.heap[w1.heap.size]? = some (.cells #[(.slice (some ⟨g, 0, none⟩) (M + 1) cap1)] 25 (0, 0))) := Lib.hid (hw3 ▸ (Below.heap_alloc u1 _ _ (show w1.heap.size < u1.heap.size by omega)).trans HPB.out)
  clear hw3
  go_wp2_with fail
  refine (HPA.out _ (HR.out.keeps (HB1.out.trans (HB13.out.mono HB1.out.size)))).mono ?_
  rintro e w4 ⟨⟨A2, cap2, vs2, rfl, hpv2⟩, hb4⟩
  have HB4 := Lib.hid hb4
  have HAB4 := Lib.hid ((hb4.block _ (block_lt HAB.out)).trans HAB.out)
  obtain ⟨v2, vs2', rfl⟩ : ∃ u vs', vs2 = u :: vs' := by
    have := hpv2.len
    cases vs2 with
    | nil => simp at this
    | cons u vs' => exact ⟨u, vs', rfl⟩
  obtain ⟨B2, cap2', hA2, hA⟩ := hpv2.at.slice
  simp only [Value.slice.injEq] at hA2
  obtain ⟨g2, hAg2, hg2, -⟩ := hA (by simp)
  obtain ⟨rfl, -, rfl⟩ := hA2
  subst hAg2
  obtain ⟨FA2, fcap2, rfl, -⟩ := CodeAt.slice ⟨_, hpv2.code 0 v2 _ rfl rfl⟩
  dsimp only at hpv2
  have hpvc := hpv2
  try rw [hN] at hpvc
  have HOW2 : Hid (w4.ownsRow (w3.heap.size + 2) 32 5 (.slice FA2 N fcap2) N (codeCells fc)) := Lib.hid (by have h := hpvc.code 0 _ _ rfl rfl; dsimp only at h; (try rw [hN] at h); exact h)
  rw [← hM] at hpvc
  have HV2 := Lib.hid hpvc
  obtain ⟨-, -, a2, a3, -, a5⟩ := hpvc.first
  have HNE2 : Hid ((Value.slice FA2 N fcap2).ownBlock ≠ some g2) := Lib.hid (heap_ne hpvc.own HOW2.out (by decide))
  clear hpv2 hpvc hA hb4
  have hk0 : (0 : Int) ≤ k := by omega
  have hk1 : (k : Int) < 6 := by omega
  go_wp2_with fail
  obtain ⟨w5, hw5⟩ : ∃ W, w4.alloc (.cells #[(.slice (some ⟨g2, 0, none⟩) (M + 1) cap2)] 25) = W := ⟨_, rfl⟩
  rw [hw5]
  have HB45 : Hid (Below w4.heap.size w4 w5) := Lib.hid (hw5 ▸ (Below.refl _ _).alloc (Nat.le_refl _) _)
  have HQB : Hid (w5.heap[w4.heap.size]? = some (.cells #[(.slice (some ⟨g2, 0, none⟩) (M + 1) cap2)] 25 (0, 0))) := Lib.hid (hw5 ▸ heap_alloc_new w4 _)
  have HAB5 := Lib.hid ((HB45.out.block _ (block_lt HAB4.out)).trans HAB4.out)
  clear hw5
  have qa := cell_block HAB5.out
  have hbad : ∃ xo xd xa xb xm, badIns k fr N (M + 1 : Nat) = ⟨xo, xd, xa, xb, xm⟩ ∧ w5.cell? ⟨w1.heap.size + 1, k * 5, none⟩ = some (.int .i64 xo) ∧ w5.cell? ⟨w1.heap.size + 1, k * 5 + 1, none⟩ = some (.int .i64 xd) ∧ w5.cell? ⟨w1.heap.size + 1, k * 5 + 2, none⟩ = some (.int .i64 xa) ∧ w5.cell? ⟨w1.heap.size + 1, k * 5 + 3, none⟩ = some (.int .i64 xb) ∧ w5.cell? ⟨w1.heap.size + 1, k * 5 + 4, none⟩ = some (.int .i64 xm) := by
    have hc : k = 0 ∨ k = 1 ∨ k = 2 ∨ k = 3 ∨ k = 4 ∨ k = 5 := by omega
    rcases hc with rfl | rfl | rfl | rfl | rfl | rfl <;> exact ⟨_, _, _, _, _, rfl, by rw [qa]; rfl, by rw [qa]; rfl, by rw [qa]; rfl, by rw [qa]; rfl, by rw [qa]; rfl⟩
  obtain ⟨xo, xd, xa, xb, xm, hbx, b0, b1, b2, b3, b4⟩ := hbad
  rw [hbx] at HX1
  have e2 := (HB45.out.cell (p := ⟨g2, 2, none⟩) hg2).trans a2
  have e0 := (cell_block HQB.out 0).trans rfl
  have hz2 : g2 < w5.heap.size := Nat.lt_of_lt_of_le hg2 HB45.out.size
  have hz4 := block_lt HQB.out
  have hza := block_lt HAB5.out
  have hz3 : w1.heap.size + 1 < w3.heap.size := block_lt HAB.out
  have hz34 := HB4.out.size
  have A5 := Lib.hid a5
  clear hbx qa a2 a5
  have HE2 := Lib.hid e2
  have HzG := Lib.hid hz2
  have E2 := HE2
  have EF := Lib.hid ((HB45.out.frozen (p := ⟨g2, 2, none⟩) hg2).trans (A5.out 2))
  have HLT2 := Lib.hid (World.ownsRow.lt HOW2.out)
  have HOWb : Hid ((w5.drew.alloc (.cells #[.int .i64 xo, .int .i64 xd, .int .i64 xa, .int .i64 xb, .int .i64 xm] 32)).ownsRow (w3.heap.size + 2) 32 5 (.slice FA2 N fcap2) N (codeCells fc)) := Lib.hid (own_below (own_below HOW2.out HB45.out) ((Below.refl _ _).drew.alloc (Nat.le_refl _) _))
  have HBw : Hid (w3.heap.size + 2 ≤ (w5.drew.alloc (.cells #[.int .i64 xo, .int .i64 xd, .int .i64 xa, .int .i64 xb, .int .i64 xm] 32)).heap.size) := Lib.hid (by simp; omega)
  have KS := Lib.hid (fun (w' : World) (hb : Below w5.heap.size w5 w') => (⟨(hb.cell (p := ⟨w4.heap.size, _, none⟩) hz4).trans e0, (hb.cell (p := ⟨w1.heap.size + 1, _, none⟩) hza).trans b0, (hb.cell (p := ⟨w1.heap.size + 1, _, none⟩) hza).trans b1, (hb.cell (p := ⟨w1.heap.size + 1, _, none⟩) hza).trans b2, (hb.cell (p := ⟨w1.heap.size + 1, _, none⟩) hza).trans b3, (hb.cell (p := ⟨w1.heap.size + 1, _, none⟩) hza).trans b4⟩ : w'.cell? ⟨w4.heap.size, 0, none⟩ = some (.slice (some ⟨g2, 0, none⟩) (M + 1) cap2) ∧ w'.cell? ⟨w1.heap.size + 1, k * 5, none⟩ = some (.int .i64 xo) ∧ w'.cell? ⟨w1.heap.size + 1, k * 5 + 1, none⟩ = some (.int .i64 xd) ∧ w'.cell? ⟨w1.heap.size + 1, k * 5 + 2, none⟩ = some (.int .i64 xa) ∧ w'.cell? ⟨w1.heap.size + 1, k * 5 + 3, none⟩ = some (.int .i64 xb) ∧ w'.cell? ⟨w1.heap.size + 1, k * 5 + 4, none⟩ = some (.int .i64 xm)))
  clear b0 b1 b2 b3 b4 e0
  apply region_cut2 (α := Nat) (β := Nat) (R := fun gg cc w' => QAt w' g2 fp fr (fc ++ [⟨xo, xd, xa, xb, xm⟩]) ∧ Below w3.heap.size w3 w' ∧ w'.heap[w4.heap.size]? = some (.cells #[(.slice (some ⟨g2, 0, none⟩) (M + 1) cap2)] 25 (0, 0)))
  case h1 =>
    refine wp_region_held_drew (S := fun w' => w'.cell? ⟨w4.heap.size, 0, none⟩ = some (.slice (some ⟨g2, 0, none⟩) (M + 1) cap2) ∧ w'.cell? ⟨w1.heap.size + 1, k * 5, none⟩ = some (.int .i64 xo) ∧ w'.cell? ⟨w1.heap.size + 1, k * 5 + 1, none⟩ = some (.int .i64 xd) ∧ w'.cell? ⟨w1.heap.size + 1, k * 5 + 2, none⟩ = some (.int .i64 xa) ∧ w'.cell? ⟨w1.heap.size + 1, k * 5 + 3, none⟩ = some (.int .i64 xb) ∧ w'.cell? ⟨w1.heap.size + 1, k * 5 + 4, none⟩ = some (.int .i64 xm)) (by kernel_rfl) (KS.out _ (Below.refl _ _).drew) (fun hHeld => ?_)
    refine wpAnyH_take (i := 0) (v := .pointer (some ⟨w4.heap.size, 0, none⟩)) rfl (by kernel_rfl) (by kernel_rfl) (by kernel_rfl) (fun _ _ _ h => h) (Or.inl ⟨by rfl, ?_⟩) hHeld ?_
    · intro w hSw
      obtain ⟨q0, q1, q2, q3, q4, q5⟩ := hSw
      simp only [List.getElem_toArray, List.getElem_cons_zero]
      go_simp
    simp only [Act.put, List.getElem_toArray, List.getElem_cons_zero, List.setIfInBounds_toArray, List.set_cons_zero, List.set_cons_succ]
    refine wpAnyH_take (i := 1) (v := .slice (some ⟨g2, 0, none⟩) (M + 1) cap2) rfl (by kernel_rfl) (by kernel_rfl) (by kernel_rfl) (fun _ _ _ h => h) (Or.inl ⟨by rfl, ?_⟩) hHeld ?_
    · intro w hSw
      obtain ⟨q0, q1, q2, q3, q4, q5⟩ := hSw
      simp only [List.getElem_toArray, List.getElem_cons_zero, List.getElem_cons_succ]
      go_simp
    simp only [Act.put, List.getElem_toArray, List.getElem_cons_zero, List.getElem_cons_succ, List.setIfInBounds_toArray, List.set_cons_zero, List.set_cons_succ]
    refine wpAnyH_take (i := 2) (v := .pointer (some ⟨w4.heap.size, 0, none⟩)) rfl (by kernel_rfl) (by kernel_rfl) (by kernel_rfl) (fun _ _ _ h => h) (Or.inl ⟨by rfl, ?_⟩) hHeld ?_
    · intro w hSw
      obtain ⟨q0, q1, q2, q3, q4, q5⟩ := hSw
      simp only [List.getElem_toArray, List.getElem_cons_zero, List.getElem_cons_succ]
      go_simp
    simp only [Act.put, List.getElem_toArray, List.getElem_cons_zero, List.getElem_cons_succ, List.setIfInBounds_toArray, List.set_cons_zero, List.set_cons_succ]
    refine wpAnyH_take (i := 3) (v := .slice (some ⟨g2, 0, none⟩) (M + 1) cap2) rfl (by kernel_rfl) (by kernel_rfl) (by kernel_rfl) (fun _ _ _ h => h) (Or.inl ⟨by rfl, ?_⟩) hHeld ?_
    · intro w hSw
      obtain ⟨q0, q1, q2, q3, q4, q5⟩ := hSw
      simp only [List.getElem_toArray, List.getElem_cons_zero, List.getElem_cons_succ]
      go_simp
    simp only [Act.put, List.getElem_toArray, List.getElem_cons_zero, List.getElem_cons_succ, List.setIfInBounds_toArray, List.set_cons_zero, List.set_cons_succ]
    refine wpAnyH_take (i := 4) (v := .pointer (some ⟨g2, 0, none⟩)) rfl (by kernel_rfl) (by kernel_rfl) (by kernel_rfl) (fun _ _ _ h => h) (Or.inl ⟨by rfl, ?_⟩) hHeld ?_
    · intro w hSw
      obtain ⟨q0, q1, q2, q3, q4, q5⟩ := hSw
      simp only [List.getElem_toArray, List.getElem_cons_zero, List.getElem_cons_succ]
      go_simp
    simp only [Act.put, List.getElem_toArray, List.getElem_cons_zero, List.getElem_cons_succ, List.setIfInBounds_toArray, List.set_cons_zero, List.set_cons_succ]
    refine wpAnyH_take (i := 5) (v := .pointer (some ⟨g2, 2, none⟩)) rfl (by kernel_rfl) (by kernel_rfl) (by kernel_rfl) (fun _ _ _ h => h) (Or.inl ⟨by rfl, ?_⟩) hHeld ?_
    · intro w hSw
      obtain ⟨q0, q1, q2, q3, q4, q5⟩ := hSw
      simp only [List.getElem_toArray, List.getElem_cons_zero, List.getElem_cons_succ]
      go_simp
    simp only [Act.put, List.getElem_toArray, List.getElem_cons_zero, List.getElem_cons_succ, List.setIfInBounds_toArray, List.set_cons_zero, List.set_cons_succ]
    refine wpAnyH_take (i := 7) (v := .slice (some ⟨w1.heap.size + 1, 0, none⟩) 6 6) rfl (by kernel_rfl) (by kernel_rfl) (by kernel_rfl) (fun _ _ _ h => h) (Or.inl ⟨by rfl, ?_⟩) hHeld ?_
    · intro w hSw
      obtain ⟨q0, q1, q2, q3, q4, q5⟩ := hSw
      simp only [List.getElem_toArray, List.getElem_cons_zero, List.getElem_cons_succ]
      go_simp
    simp only [Act.put, List.getElem_toArray, List.getElem_cons_zero, List.getElem_cons_succ, List.setIfInBounds_toArray, List.set_cons_zero, List.set_cons_succ]
    refine wpAnyH_take (i := 8) (v := .int .i64 r) rfl (by kernel_rfl) (by kernel_rfl) (by kernel_rfl) (fun _ _ _ h => h) (Or.inl ⟨by rfl, ?_⟩) hHeld ?_
    · intro w hSw
      obtain ⟨q0, q1, q2, q3, q4, q5⟩ := hSw
      simp only [List.getElem_toArray, List.getElem_cons_zero, List.getElem_cons_succ]
      go_simp
    simp only [Act.put, List.getElem_toArray, List.getElem_cons_zero, List.getElem_cons_succ, List.setIfInBounds_toArray, List.set_cons_zero, List.set_cons_succ]
    refine wpAnyH_take (i := 9) (v := .slice (some ⟨w1.heap.size + 1, 0, none⟩) 6 6) rfl (by kernel_rfl) (by kernel_rfl) (by kernel_rfl) (fun _ _ _ h => h) (Or.inl ⟨by rfl, ?_⟩) hHeld ?_
    · intro w hSw
      obtain ⟨q0, q1, q2, q3, q4, q5⟩ := hSw
      simp only [List.getElem_toArray, List.getElem_cons_zero, List.getElem_cons_succ]
      go_simp
    simp only [Act.put, List.getElem_toArray, List.getElem_cons_zero, List.getElem_cons_succ, List.setIfInBounds_toArray, List.set_cons_zero, List.set_cons_succ]
    refine wpAnyH_take (i := 10) (v := .int .i64 6) rfl (by kernel_rfl) (by kernel_rfl) (by kernel_rfl) (fun _ _ _ h => h) (Or.inl ⟨by rfl, ?_⟩) hHeld ?_
    · intro w hSw
      obtain ⟨q0, q1, q2, q3, q4, q5⟩ := hSw
      simp only [List.getElem_toArray, List.getElem_cons_zero, List.getElem_cons_succ]
      go_simp
    simp only [Act.put, List.getElem_toArray, List.getElem_cons_zero, List.getElem_cons_succ, List.setIfInBounds_toArray, List.set_cons_zero, List.set_cons_succ]
    refine wpAnyH_ready (rs := [6, 11]) (by kernel_rfl) (by simp) ?_
    refine AllReadyH.cons rfl (fun K hK => ?_) (AllReadyH.cons rfl (fun K hK => ?_) (AllReadyH.nil))
    · simp only [List.getElem_toArray, List.getElem_cons_zero, List.getElem_cons_succ]
      go_simp
      refine hK.out _ _ hHeld (fun hHeld => ?_)
      clear hK K
      refine wpAnyH_ready (rs := [11]) (by kernel_rfl) (by simp) ?_
      refine AllReadyH.cons rfl (fun K hK => ?_) AllReadyH.nil
      simp only [List.getElem_toArray, List.getElem_cons_zero, List.getElem_cons_succ]
      go_simp
      refine (HPK.out _).mono ?_
      rintro e w' ⟨rfl, rfl⟩
      refine hK.out _ _ hHeld (fun hHeld => ?_)
      clear hK K
      refine wpAnyH_take (i := 12) (v := .pointer (some ⟨w1.heap.size + 1, k * 5, none⟩)) rfl (by kernel_rfl) (by kernel_rfl) (by kernel_rfl) (fun _ _ _ h => h) (Or.inl ⟨by rfl, ?_⟩) hHeld ?_
      · intro w hSw
        obtain ⟨q0, q1, q2, q3, q4, q5⟩ := hSw
        simp only [List.getElem_toArray, List.getElem_cons_zero, List.getElem_cons_succ]
        go_simp
      simp only [Act.put, List.getElem_toArray, List.getElem_cons_zero, List.getElem_cons_succ, List.setIfInBounds_toArray, List.set_cons_zero, List.set_cons_succ]
      refine wpAnyH_take (i := 13) (v := .agg #[.int .i64 xo, .int .i64 xd, .int .i64 xa, .int .i64 xb, .int .i64 xm]) rfl (by kernel_rfl) (by kernel_rfl) (by kernel_rfl) (fun _ _ _ h => h) (Or.inl ⟨by rfl, ?_⟩) hHeld ?_
      · intro w hSw
        obtain ⟨q0, q1, q2, q3, q4, q5⟩ := hSw
        simp only [List.getElem_toArray, List.getElem_cons_zero, List.getElem_cons_succ]
        go_simp
      simp only [Act.put, List.getElem_toArray, List.getElem_cons_zero, List.getElem_cons_succ, List.setIfInBounds_toArray, List.set_cons_zero, List.set_cons_succ]
      refine wpAnyH_ready (rs := [14]) (by kernel_rfl) (by simp) ?_
      refine AllReadyH.cons rfl (fun K hK => ?_) AllReadyH.nil
      simp only [List.getElem_toArray, List.getElem_cons_zero, List.getElem_cons_succ]
      go_simp
      refine hK.out _ _ (KS.out _ ((Below.refl w5.heap.size w5).drew.alloc (Nat.le_refl _) _)) (fun hHeld => ?_)
      clear hK K
      refine wpAnyH_ready (rs := [15]) (by kernel_rfl) (by simp) ?_
      refine AllReadyH.cons rfl (fun K hK => ?_) AllReadyH.nil
      simp only [List.getElem_toArray, List.getElem_cons_zero, List.getElem_cons_succ]
      rw [if_pos (by rfl)]
      refine wp_append_lies (w5.drew.alloc (.cells #[.int .i64 xo, .int .i64 xd, .int .i64 xa, .int .i64 xb, .int .i64 xm] 32)) _ _ 28 (by rfl) (w3.heap.size + 2) 32 i0 _ 5 40 Tryd.underlying28 hi hza0 hzb hzc rfl (by decide) (.slice FA2 N fcap2) N (codeCells fc) (by rfl) (HOWb.out) ⟨w5.heap.size, 0, none⟩ 1 1 (codeCells [⟨xo, xd, xa, xb, xm⟩]) (by rfl) (by simp [codeCells, Ins.cells]) (World.news_of_block (heap_alloc_new w5.drew _)) (by simp [codeCells, Ins.cells, Value.oneCell']) (by decide) (by unfold maxLen; omega) (by omega) (HBw.out) _ rfl ?_
      intro gg cc wa hown hgr hgg hgl
      have HOWa := Lib.hid hown
      have HGR := Lib.hid hgr
      have HGG := Lib.hid hgg
      have HSA : Hid (wa.cell? ⟨w4.heap.size, 0, none⟩ = some (.slice (some ⟨g2, 0, none⟩) (M + 1) cap2) ∧ wa.cell? ⟨w1.heap.size + 1, k * 5, none⟩ = some (.int .i64 xo) ∧ wa.cell? ⟨w1.heap.size + 1, k * 5 + 1, none⟩ = some (.int .i64 xd) ∧ wa.cell? ⟨w1.heap.size + 1, k * 5 + 2, none⟩ = some (.int .i64 xa) ∧ wa.cell? ⟨w1.heap.size + 1, k * 5 + 3, none⟩ = some (.int .i64 xb) ∧ wa.cell? ⟨w1.heap.size + 1, k * 5 + 4, none⟩ = some (.int .i64 xm)) := Lib.hid (by
        have hh := KS.out (w5.drew.alloc (.cells #[.int .i64 xo, .int .i64 xd, .int .i64 xa, .int .i64 xb, .int .i64 xm] 32)) ((Below.refl w5.heap.size w5).drew.alloc (Nat.le_refl _) _)
        skip
        refine ⟨(World.cell?_of_block (hgr.block _ (by simp; omega) (fun e => by have := HLT2.out _ e.symm; (try dsimp only at this); omega))).trans hh.1, (World.cell?_of_block (hgr.block _ (by simp; omega) (fun e => by have := HLT2.out _ e.symm; (try dsimp only at this); omega))).trans hh.2.1, (World.cell?_of_block (hgr.block _ (by simp; omega) (fun e => by have := HLT2.out _ e.symm; (try dsimp only at this); omega))).trans hh.2.2.1, (World.cell?_of_block (hgr.block _ (by simp; omega) (fun e => by have := HLT2.out _ e.symm; (try dsimp only at this); omega))).trans hh.2.2.2.1, (World.cell?_of_block (hgr.block _ (by simp; omega) (fun e => by have := HLT2.out _ e.symm; (try dsimp only at this); omega))).trans hh.2.2.2.2.1, (World.cell?_of_block (hgr.block _ (by simp; omega) (fun e => by have := HLT2.out _ e.symm; (try dsimp only at this); omega))).trans hh.2.2.2.2.2⟩)
      refine hK.out _ _ HSA.out (fun hHeld => ?_)
      clear hK K hown hgr hgg hgl
      refine wpAnyH_take (i := 16) (v := .pointer (some ⟨g2, 0, none⟩)) rfl (by kernel_rfl) (by kernel_rfl) (by kernel_rfl) (fun _ _ _ h => h) (Or.inl ⟨by rfl, ?_⟩) hHeld ?_
      · intro w hSw
        obtain ⟨q0, q1, q2, q3, q4, q5⟩ := hSw
        simp only [List.getElem_toArray, List.getElem_cons_zero, List.getElem_cons_succ]
        go_simp
      simp only [Act.put, List.getElem_toArray, List.getElem_cons_zero, List.getElem_cons_succ, List.setIfInBounds_toArray, List.set_cons_zero, List.set_cons_succ]
      refine wpAnyH_take (i := 17) (v := .pointer (some ⟨g2, 2, none⟩)) rfl (by kernel_rfl) (by kernel_rfl) (by kernel_rfl) (fun _ _ _ h => h) (Or.inl ⟨by rfl, ?_⟩) hHeld ?_
      · intro w hSw
        obtain ⟨q0, q1, q2, q3, q4, q5⟩ := hSw
        simp only [List.getElem_toArray, List.getElem_cons_zero, List.getElem_cons_succ]
        go_simp
      simp only [Act.put, List.getElem_toArray, List.getElem_cons_zero, List.getElem_cons_succ, List.setIfInBounds_toArray, List.set_cons_zero, List.set_cons_succ]
      refine wpAnyH_ready (rs := [18]) (by kernel_rfl) (by simp) ?_
      refine AllReadyH.cons rfl (fun K hK => ?_) AllReadyH.nil
      simp only [List.getElem_toArray, List.getElem_cons_zero, List.getElem_cons_succ]
      have hs2 : wa.cell? ⟨g2, 2, none⟩ = some (.slice FA2 N fcap2) := (World.cell?_of_block (HGR.out.block g2 (by have h := HzG.out; simp; omega) (fun e => HNE2.out e.symm))).trans ((((Below.refl w5.heap.size w5).drew.alloc (Nat.le_refl _) _).cell (p := ⟨g2, 2, none⟩) HzG.out).trans E2.out)
      have hs3 : wa.frozen? ⟨g2, 2, none⟩ = false := (World.frozen?_of_block (HGR.out.block g2 (by have h := HzG.out; simp; omega) (fun e => HNE2.out e.symm))).trans ((((Below.refl w5.heap.size w5).drew.alloc (Nat.le_refl _) _).frozen (p := ⟨g2, 2, none⟩) HzG.out).trans EF.out)
      go_simp
      refine hK.out _ _ (⟨(World.cell?_setCell_other _ _ _ _ (by first | (simp; done) | (simp; omega))).trans HSA.out.1, (World.cell?_setCell_other _ _ _ _ (by first | (simp; done) | (simp; omega))).trans HSA.out.2.1, (World.cell?_setCell_other _ _ _ _ (by first | (simp; done) | (simp; omega))).trans HSA.out.2.2.1, (World.cell?_setCell_other _ _ _ _ (by first | (simp; done) | (simp; omega))).trans HSA.out.2.2.2.1, (World.cell?_setCell_other _ _ _ _ (by first | (simp; done) | (simp; omega))).trans HSA.out.2.2.2.2.1, (World.cell?_setCell_other _ _ _ _ (by first | (simp; done) | (simp; omega))).trans HSA.out.2.2.2.2.2⟩) (fun hHeld => ?_)
      clear hK K hs2 hs3
      clear hHeld
      refine wpAnyH_done (by kernel_rfl) ?_ _
      refine ⟨gg, cc, rfl, ?_, ?_, ?_⟩
      · have h := QAt.more HV2.out (W := (w5.drew.alloc (.cells #[.int .i64 xo, .int .i64 xd, .int .i64 xa, .int .i64 xb, .int .i64 xm] 32))) (HB45.out.trans (((Below.refl w5.heap.size w5).drew.alloc (Nat.le_refl _) _).mono HB45.out.size)) HGR.out (gg := gg) (ccap := cc) (x := ⟨xo, xd, xa, xb, xm⟩) (by dsimp only; rw [hN]; exact HOWa.out) HGG.out
        dsimp only at h
        rw [hN] at h
        exact h
      · exact (((HB4.out.trans (HB45.out.mono HB4.out.size)).drew.alloc (Nat.le_trans (HB4.out.trans (HB45.out.mono HB4.out.size)).size (Nat.le_refl _)) _).grown HGR.out (Nat.le_trans (HB4.out.trans (HB45.out.mono HB4.out.size)).size (by simp)) (fun j hj => by have := (HLT2.out j hj).1; omega)).setCell (by show _ ≤ g2; omega) _
      · exact (heap_setCell_ne wa (by omega) _ _).trans ((HGR.out.block _ (by simp; omega) (fun e => by have := HLT2.out _ e.symm; (try dsimp only at this); omega)).trans (((((Below.refl w5.heap.size w5).drew.alloc (Nat.le_refl _) _).block _ hz4)).trans HQB.out))
    · simp only [List.getElem_toArray, List.getElem_cons_zero, List.getElem_cons_succ]
      go_simp
      refine (HPK.out _).mono ?_
      rintro e w' ⟨rfl, rfl⟩
      refine hK.out _ _ hHeld (fun hHeld => ?_)
      clear hK K
      refine wpAnyH_take (i := 12) (v := .pointer (some ⟨w1.heap.size + 1, k * 5, none⟩)) rfl (by kernel_rfl) (by kernel_rfl) (by kernel_rfl) (fun _ _ _ h => h) (Or.inl ⟨by rfl, ?_⟩) hHeld ?_
      · intro w hSw
        obtain ⟨q0, q1, q2, q3, q4, q5⟩ := hSw
        simp only [List.getElem_toArray, List.getElem_cons_zero, List.getElem_cons_succ]
        go_simp
      simp only [Act.put, List.getElem_toArray, List.getElem_cons_zero, List.getElem_cons_succ, List.setIfInBounds_toArray, List.set_cons_zero, List.set_cons_succ]
      refine wpAnyH_take (i := 13) (v := .agg #[.int .i64 xo, .int .i64 xd, .int .i64 xa, .int .i64 xb, .int .i64 xm]) rfl (by kernel_rfl) (by kernel_rfl) (by kernel_rfl) (fun _ _ _ h => h) (Or.inl ⟨by rfl, ?_⟩) hHeld ?_
      · intro w hSw
        obtain ⟨q0, q1, q2, q3, q4, q5⟩ := hSw
        simp only [List.getElem_toArray, List.getElem_cons_zero, List.getElem_cons_succ]
        go_simp
      simp only [Act.put, List.getElem_toArray, List.getElem_cons_zero, List.getElem_cons_succ, List.setIfInBounds_toArray, List.set_cons_zero, List.set_cons_succ]
      refine wpAnyH_ready (rs := [6, 14]) (by kernel_rfl) (by simp) ?_
      refine AllReadyH.cons rfl (fun K hK => ?_) (AllReadyH.cons rfl (fun K hK => ?_) (AllReadyH.nil))
      · simp only [List.getElem_toArray, List.getElem_cons_zero, List.getElem_cons_succ]
        go_simp
        refine hK.out _ _ hHeld (fun hHeld => ?_)
        clear hK K
        refine wpAnyH_ready (rs := [14]) (by kernel_rfl) (by simp) ?_
        refine AllReadyH.cons rfl (fun K hK => ?_) AllReadyH.nil
        simp only [List.getElem_toArray, List.getElem_cons_zero, List.getElem_cons_succ]
        go_simp
        refine hK.out _ _ (KS.out _ ((Below.refl w5.heap.size w5).drew.alloc (Nat.le_refl _) _)) (fun hHeld => ?_)
        clear hK K
        refine wpAnyH_ready (rs := [15]) (by kernel_rfl) (by simp) ?_
        refine AllReadyH.cons rfl (fun K hK => ?_) AllReadyH.nil
        simp only [List.getElem_toArray, List.getElem_cons_zero, List.getElem_cons_succ]
        rw [if_pos (by rfl)]
        refine wp_append_lies (w5.drew.alloc (.cells #[.int .i64 xo, .int .i64 xd, .int .i64 xa, .int .i64 xb, .int .i64 xm] 32)) _ _ 28 (by rfl) (w3.heap.size + 2) 32 i0 _ 5 40 Tryd.underlying28 hi hza0 hzb hzc rfl (by decide) (.slice FA2 N fcap2) N (codeCells fc) (by rfl) (HOWb.out) ⟨w5.heap.size, 0, none⟩ 1 1 (codeCells [⟨xo, xd, xa, xb, xm⟩]) (by rfl) (by simp [codeCells, Ins.cells]) (World.news_of_block (heap_alloc_new w5.drew _)) (by simp [codeCells, Ins.cells, Value.oneCell']) (by decide) (by unfold maxLen; omega) (by omega) (HBw.out) _ rfl ?_
        intro gg cc wa hown hgr hgg hgl
        have HOWa := Lib.hid hown
        have HGR := Lib.hid hgr
        have HGG := Lib.hid hgg
        have HSA : Hid (wa.cell? ⟨w4.heap.size, 0, none⟩ = some (.slice (some ⟨g2, 0, none⟩) (M + 1) cap2) ∧ wa.cell? ⟨w1.heap.size + 1, k * 5, none⟩ = some (.int .i64 xo) ∧ wa.cell? ⟨w1.heap.size + 1, k * 5 + 1, none⟩ = some (.int .i64 xd) ∧ wa.cell? ⟨w1.heap.size + 1, k * 5 + 2, none⟩ = some (.int .i64 xa) ∧ wa.cell? ⟨w1.heap.size + 1, k * 5 + 3, none⟩ = some (.int .i64 xb) ∧ wa.cell? ⟨w1.heap.size + 1, k * 5 + 4, none⟩ = some (.int .i64 xm)) := Lib.hid (by
          have hh := KS.out (w5.drew.alloc (.cells #[.int .i64 xo, .int .i64 xd, .int .i64 xa, .int .i64 xb, .int .i64 xm] 32)) ((Below.refl w5.heap.size w5).drew.alloc (Nat.le_refl _) _)
          skip
          refine ⟨(World.cell?_of_block (hgr.block _ (by simp; omega) (fun e => by have := HLT2.out _ e.symm; (try dsimp only at this); omega))).trans hh.1, (World.cell?_of_block (hgr.block _ (by simp; omega) (fun e => by have := HLT2.out _ e.symm; (try dsimp only at this); omega))).trans hh.2.1, (World.cell?_of_block (hgr.block _ (by simp; omega) (fun e => by have := HLT2.out _ e.symm; (try dsimp only at this); omega))).trans hh.2.2.1, (World.cell?_of_block (hgr.block _ (by simp; omega) (fun e => by have := HLT2.out _ e.symm; (try dsimp only at this); omega))).trans hh.2.2.2.1, (World.cell?_of_block (hgr.block _ (by simp; omega) (fun e => by have := HLT2.out _ e.symm; (try dsimp only at this); omega))).trans hh.2.2.2.2.1, (World.cell?_of_block (hgr.block _ (by simp; omega) (fun e => by have := HLT2.out _ e.symm; (try dsimp only at this); omega))).trans hh.2.2.2.2.2⟩)
        refine hK.out _ _ HSA.out (fun hHeld => ?_)
        clear hK K hown hgr hgg hgl
        refine wpAnyH_take (i := 16) (v := .pointer (some ⟨g2, 0, none⟩)) rfl (by kernel_rfl) (by kernel_rfl) (by kernel_rfl) (fun _ _ _ h => h) (Or.inl ⟨by rfl, ?_⟩) hHeld ?_
        · intro w hSw
          obtain ⟨q0, q1, q2, q3, q4, q5⟩ := hSw
          simp only [List.getElem_toArray, List.getElem_cons_zero, List.getElem_cons_succ]
          go_simp
        simp only [Act.put, List.getElem_toArray, List.getElem_cons_zero, List.getElem_cons_succ, List.setIfInBounds_toArray, List.set_cons_zero, List.set_cons_succ]
        refine wpAnyH_take (i := 17) (v := .pointer (some ⟨g2, 2, none⟩)) rfl (by kernel_rfl) (by kernel_rfl) (by kernel_rfl) (fun _ _ _ h => h) (Or.inl ⟨by rfl, ?_⟩) hHeld ?_
        · intro w hSw
          obtain ⟨q0, q1, q2, q3, q4, q5⟩ := hSw
          simp only [List.getElem_toArray, List.getElem_cons_zero, List.getElem_cons_succ]
          go_simp
        simp only [Act.put, List.getElem_toArray, List.getElem_cons_zero, List.getElem_cons_succ, List.setIfInBounds_toArray, List.set_cons_zero, List.set_cons_succ]
        refine wpAnyH_ready (rs := [18]) (by kernel_rfl) (by simp) ?_
        refine AllReadyH.cons rfl (fun K hK => ?_) AllReadyH.nil
        simp only [List.getElem_toArray, List.getElem_cons_zero, List.getElem_cons_succ]
        have hs2 : wa.cell? ⟨g2, 2, none⟩ = some (.slice FA2 N fcap2) := (World.cell?_of_block (HGR.out.block g2 (by have h := HzG.out; simp; omega) (fun e => HNE2.out e.symm))).trans ((((Below.refl w5.heap.size w5).drew.alloc (Nat.le_refl _) _).cell (p := ⟨g2, 2, none⟩) HzG.out).trans E2.out)
        have hs3 : wa.frozen? ⟨g2, 2, none⟩ = false := (World.frozen?_of_block (HGR.out.block g2 (by have h := HzG.out; simp; omega) (fun e => HNE2.out e.symm))).trans ((((Below.refl w5.heap.size w5).drew.alloc (Nat.le_refl _) _).frozen (p := ⟨g2, 2, none⟩) HzG.out).trans EF.out)
        go_simp
        refine hK.out _ _ (⟨(World.cell?_setCell_other _ _ _ _ (by first | (simp; done) | (simp; omega))).trans HSA.out.1, (World.cell?_setCell_other _ _ _ _ (by first | (simp; done) | (simp; omega))).trans HSA.out.2.1, (World.cell?_setCell_other _ _ _ _ (by first | (simp; done) | (simp; omega))).trans HSA.out.2.2.1, (World.cell?_setCell_other _ _ _ _ (by first | (simp; done) | (simp; omega))).trans HSA.out.2.2.2.1, (World.cell?_setCell_other _ _ _ _ (by first | (simp; done) | (simp; omega))).trans HSA.out.2.2.2.2.1, (World.cell?_setCell_other _ _ _ _ (by first | (simp; done) | (simp; omega))).trans HSA.out.2.2.2.2.2⟩) (fun hHeld => ?_)
        clear hK K hs2 hs3
        clear hHeld
        refine wpAnyH_done (by kernel_rfl) ?_ _
        refine ⟨gg, cc, rfl, ?_, ?_, ?_⟩
        · have h := QAt.more HV2.out (W := (w5.drew.alloc (.cells #[.int .i64 xo, .int .i64 xd, .int .i64 xa, .int .i64 xb, .int .i64 xm] 32))) (HB45.out.trans (((Below.refl w5.heap.size w5).drew.alloc (Nat.le_refl _) _).mono HB45.out.size)) HGR.out (gg := gg) (ccap := cc) (x := ⟨xo, xd, xa, xb, xm⟩) (by dsimp only; rw [hN]; exact HOWa.out) HGG.out
          dsimp only at h
          rw [hN] at h
          exact h
        · exact (((HB4.out.trans (HB45.out.mono HB4.out.size)).drew.alloc (Nat.le_trans (HB4.out.trans (HB45.out.mono HB4.out.size)).size (Nat.le_refl _)) _).grown HGR.out (Nat.le_trans (HB4.out.trans (HB45.out.mono HB4.out.size)).size (by simp)) (fun j hj => by have := (HLT2.out j hj).1; omega)).setCell (by show _ ≤ g2; omega) _
        · exact (heap_setCell_ne wa (by omega) _ _).trans ((HGR.out.block _ (by simp; omega) (fun e => by have := HLT2.out _ e.symm; (try dsimp only at this); omega)).trans (((((Below.refl w5.heap.size w5).drew.alloc (Nat.le_refl _) _).block _ hz4)).trans HQB.out))
      · simp only [List.getElem_toArray, List.getElem_cons_zero, List.getElem_cons_succ]
        go_simp
        refine hK.out _ _ (KS.out _ ((Below.refl w5.heap.size w5).drew.alloc (Nat.le_refl _) _)) (fun hHeld => ?_)
        clear hK K
        refine wpAnyH_ready (rs := [6]) (by kernel_rfl) (by simp) ?_
        refine AllReadyH.cons rfl (fun K hK => ?_) AllReadyH.nil
        simp only [List.getElem_toArray, List.getElem_cons_zero, List.getElem_cons_succ]
        go_simp
        refine hK.out _ _ hHeld (fun hHeld => ?_)
        clear hK K
        refine wpAnyH_ready (rs := [15]) (by kernel_rfl) (by simp) ?_
        refine AllReadyH.cons rfl (fun K hK => ?_) AllReadyH.nil
        simp only [List.getElem_toArray, List.getElem_cons_zero, List.getElem_cons_succ]
        rw [if_pos (by rfl)]
        refine wp_append_lies (w5.drew.alloc (.cells #[.int .i64 xo, .int .i64 xd, .int .i64 xa, .int .i64 xb, .int .i64 xm] 32)) _ _ 28 (by rfl) (w3.heap.size + 2) 32 i0 _ 5 40 Tryd.underlying28 hi hza0 hzb hzc rfl (by decide) (.slice FA2 N fcap2) N (codeCells fc) (by rfl) (HOWb.out) ⟨w5.heap.size, 0, none⟩ 1 1 (codeCells [⟨xo, xd, xa, xb, xm⟩]) (by rfl) (by simp [codeCells, Ins.cells]) (World.news_of_block (heap_alloc_new w5.drew _)) (by simp [codeCells, Ins.cells, Value.oneCell']) (by decide) (by unfold maxLen; omega) (by omega) (HBw.out) _ rfl ?_
        intro gg cc wa hown hgr hgg hgl
        have HOWa := Lib.hid hown
        have HGR := Lib.hid hgr
        have HGG := Lib.hid hgg
        have HSA : Hid (wa.cell? ⟨w4.heap.size, 0, none⟩ = some (.slice (some ⟨g2, 0, none⟩) (M + 1) cap2) ∧ wa.cell? ⟨w1.heap.size + 1, k * 5, none⟩ = some (.int .i64 xo) ∧ wa.cell? ⟨w1.heap.size + 1, k * 5 + 1, none⟩ = some (.int .i64 xd) ∧ wa.cell? ⟨w1.heap.size + 1, k * 5 + 2, none⟩ = some (.int .i64 xa) ∧ wa.cell? ⟨w1.heap.size + 1, k * 5 + 3, none⟩ = some (.int .i64 xb) ∧ wa.cell? ⟨w1.heap.size + 1, k * 5 + 4, none⟩ = some (.int .i64 xm)) := Lib.hid (by
          have hh := KS.out (w5.drew.alloc (.cells #[.int .i64 xo, .int .i64 xd, .int .i64 xa, .int .i64 xb, .int .i64 xm] 32)) ((Below.refl w5.heap.size w5).drew.alloc (Nat.le_refl _) _)
          skip
          refine ⟨(World.cell?_of_block (hgr.block _ (by simp; omega) (fun e => by have := HLT2.out _ e.symm; (try dsimp only at this); omega))).trans hh.1, (World.cell?_of_block (hgr.block _ (by simp; omega) (fun e => by have := HLT2.out _ e.symm; (try dsimp only at this); omega))).trans hh.2.1, (World.cell?_of_block (hgr.block _ (by simp; omega) (fun e => by have := HLT2.out _ e.symm; (try dsimp only at this); omega))).trans hh.2.2.1, (World.cell?_of_block (hgr.block _ (by simp; omega) (fun e => by have := HLT2.out _ e.symm; (try dsimp only at this); omega))).trans hh.2.2.2.1, (World.cell?_of_block (hgr.block _ (by simp; omega) (fun e => by have := HLT2.out _ e.symm; (try dsimp only at this); omega))).trans hh.2.2.2.2.1, (World.cell?_of_block (hgr.block _ (by simp; omega) (fun e => by have := HLT2.out _ e.symm; (try dsimp only at this); omega))).trans hh.2.2.2.2.2⟩)
        refine hK.out _ _ HSA.out (fun hHeld => ?_)
        clear hK K hown hgr hgg hgl
        refine wpAnyH_take (i := 16) (v := .pointer (some ⟨g2, 0, none⟩)) rfl (by kernel_rfl) (by kernel_rfl) (by kernel_rfl) (fun _ _ _ h => h) (Or.inl ⟨by rfl, ?_⟩) hHeld ?_
        · intro w hSw
          obtain ⟨q0, q1, q2, q3, q4, q5⟩ := hSw
          simp only [List.getElem_toArray, List.getElem_cons_zero, List.getElem_cons_succ]
          go_simp
        simp only [Act.put, List.getElem_toArray, List.getElem_cons_zero, List.getElem_cons_succ, List.setIfInBounds_toArray, List.set_cons_zero, List.set_cons_succ]
        refine wpAnyH_take (i := 17) (v := .pointer (some ⟨g2, 2, none⟩)) rfl (by kernel_rfl) (by kernel_rfl) (by kernel_rfl) (fun _ _ _ h => h) (Or.inl ⟨by rfl, ?_⟩) hHeld ?_
        · intro w hSw
          obtain ⟨q0, q1, q2, q3, q4, q5⟩ := hSw
          simp only [List.getElem_toArray, List.getElem_cons_zero, List.getElem_cons_succ]
          go_simp
        simp only [Act.put, List.getElem_toArray, List.getElem_cons_zero, List.getElem_cons_succ, List.setIfInBounds_toArray, List.set_cons_zero, List.set_cons_succ]
        refine wpAnyH_ready (rs := [18]) (by kernel_rfl) (by simp) ?_
        refine AllReadyH.cons rfl (fun K hK => ?_) AllReadyH.nil
        simp only [List.getElem_toArray, List.getElem_cons_zero, List.getElem_cons_succ]
        have hs2 : wa.cell? ⟨g2, 2, none⟩ = some (.slice FA2 N fcap2) := (World.cell?_of_block (HGR.out.block g2 (by have h := HzG.out; simp; omega) (fun e => HNE2.out e.symm))).trans ((((Below.refl w5.heap.size w5).drew.alloc (Nat.le_refl _) _).cell (p := ⟨g2, 2, none⟩) HzG.out).trans E2.out)
        have hs3 : wa.frozen? ⟨g2, 2, none⟩ = false := (World.frozen?_of_block (HGR.out.block g2 (by have h := HzG.out; simp; omega) (fun e => HNE2.out e.symm))).trans ((((Below.refl w5.heap.size w5).drew.alloc (Nat.le_refl _) _).frozen (p := ⟨g2, 2, none⟩) HzG.out).trans EF.out)
        go_simp
        refine hK.out _ _ (⟨(World.cell?_setCell_other _ _ _ _ (by first | (simp; done) | (simp; omega))).trans HSA.out.1, (World.cell?_setCell_other _ _ _ _ (by first | (simp; done) | (simp; omega))).trans HSA.out.2.1, (World.cell?_setCell_other _ _ _ _ (by first | (simp; done) | (simp; omega))).trans HSA.out.2.2.1, (World.cell?_setCell_other _ _ _ _ (by first | (simp; done) | (simp; omega))).trans HSA.out.2.2.2.1, (World.cell?_setCell_other _ _ _ _ (by first | (simp; done) | (simp; omega))).trans HSA.out.2.2.2.2.1, (World.cell?_setCell_other _ _ _ _ (by first | (simp; done) | (simp; omega))).trans HSA.out.2.2.2.2.2⟩) (fun hHeld => ?_)
        clear hK K hs2 hs3
        clear hHeld
        refine wpAnyH_done (by kernel_rfl) ?_ _
        refine ⟨gg, cc, rfl, ?_, ?_, ?_⟩
        · have h := QAt.more HV2.out (W := (w5.drew.alloc (.cells #[.int .i64 xo, .int .i64 xd, .int .i64 xa, .int .i64 xb, .int .i64 xm] 32))) (HB45.out.trans (((Below.refl w5.heap.size w5).drew.alloc (Nat.le_refl _) _).mono HB45.out.size)) HGR.out (gg := gg) (ccap := cc) (x := ⟨xo, xd, xa, xb, xm⟩) (by dsimp only; rw [hN]; exact HOWa.out) HGG.out
          dsimp only at h
          rw [hN] at h
          exact h
        · exact (((HB4.out.trans (HB45.out.mono HB4.out.size)).drew.alloc (Nat.le_trans (HB4.out.trans (HB45.out.mono HB4.out.size)).size (Nat.le_refl _)) _).grown HGR.out (Nat.le_trans (HB4.out.trans (HB45.out.mono HB4.out.size)).size (by simp)) (fun j hj => by have := (HLT2.out j hj).1; omega)).setCell (by show _ ≤ g2; omega) _
        · exact (heap_setCell_ne wa (by omega) _ _).trans ((HGR.out.block _ (by simp; omega) (fun e => by have := HLT2.out _ e.symm; (try dsimp only at this); omega)).trans (((((Below.refl w5.heap.size w5).drew.alloc (Nat.le_refl _) _).block _ hz4)).trans HQB.out))
  case h2 =>
    intro gg cc w6 hX
    obtain ⟨hq, hb36, hbox⟩ := hX
    have HQ2 := Lib.hid hq
    have HB36 := Lib.hid hb36
    have HBX2 := Lib.hid hbox
    have z36 := hb36.size
    clear hq hb36 hbox e2 hz2 hz4 hza KS HOWb HBw E2 HE2 HzG EF HLT2 A5 HOW2 HV2 HNE2 a3 HQB HAB5
    go_wp2_with fail
    refine (HPA.out _ (HR.out.keeps (HB1.out.trans ((HB13.out.trans (HB36.out.mono HB13.out.size)).mono HB1.out.size)))).mono ?_
    rintro e w7 ⟨⟨A3, cap3, vs3, rfl, hpv3⟩, hb7⟩
    have HB7 := Lib.hid hb7
    obtain ⟨v3, vs3', rfl⟩ : ∃ u vs', vs3 = u :: vs' := by
      have := hpv3.len
      cases vs3 with
      | nil => simp at this
      | cons u vs' => exact ⟨u, vs', rfl⟩
    obtain ⟨B3, cap3', hA2, hA⟩ := hpv3.at.slice
    simp only [Value.slice.injEq] at hA2
    obtain ⟨g3, hAg2, hg3, -⟩ := hA (by simp)
    obtain ⟨rfl, -, rfl⟩ := hA2
    subst hAg2
    obtain ⟨FA3, fcap3, rfl, -⟩ := CodeAt.slice ⟨_, hpv3.code 0 v3 _ rfl rfl⟩
    dsimp only at hpv3
    have hpvc := hpv3
    try rw [hN] at hpvc
    have HOW3 : Hid (w7.ownsRow (w6.heap.size + 2) 32 5 (.slice FA3 N fcap3) N (codeCells fc)) := Lib.hid (by have h := hpvc.code 0 _ _ rfl rfl; dsimp only at h; (try rw [hN] at h); exact h)
    rw [← hM] at hpvc
    have HV3 := Lib.hid hpvc
    obtain ⟨-, -, a2, a3, -, a5⟩ := hpvc.first
    have HNE3 : Hid ((Value.slice FA3 N fcap3).ownBlock ≠ some g3) := Lib.hid (heap_ne hpvc.own HOW3.out (by decide))
    clear hpv3 hpvc hA hb7
    have hwm : IntKind.i64.wrap (20 + m) = 20 + m := by rw [IntKind.wrap_i64]; omega
    go_wp2_with fail
    obtain ⟨w8, hw8⟩ : ∃ W, w7.alloc (.cells #[(.slice (some ⟨g3, 0, none⟩) (M + 1) cap3)] 25) = W := ⟨_, rfl⟩
    rw [hw8]
    have HB78 : Hid (Below w7.heap.size w7 w8) := Lib.hid (hw8 ▸ (Below.refl _ _).alloc (Nat.le_refl _) _)
    have HQB : Hid (w8.heap[w7.heap.size]? = some (.cells #[(.slice (some ⟨g3, 0, none⟩) (M + 1) cap3)] 25 (0, 0))) := Lib.hid (hw8 ▸ heap_alloc_new w7 _)
    clear hw8
    have e2 := (HB78.out.cell (p := ⟨g3, 2, none⟩) hg3).trans a2
    have e0 := (cell_block HQB.out 0).trans rfl
    have hz2 : g3 < w8.heap.size := Nat.lt_of_lt_of_le hg3 HB78.out.size
    have hz4 := block_lt HQB.out
    have hz67 := HB7.out.size
    have A5 := Lib.hid a5
    clear a2 a5
    have HE2 := Lib.hid e2
    have HzG := Lib.hid hz2
    have E2 := HE2
    have EF := Lib.hid ((HB78.out.frozen (p := ⟨g3, 2, none⟩) hg3).trans (A5.out 2))
    have HLT2 := Lib.hid (World.ownsRow.lt HOW3.out)
    have HOWb : Hid ((w8.drew.alloc (.cells #[.int .i64 (20 + m), .int .i64 0, .int .i64 0, .int .i64 0, .int .i64 0] 32)).ownsRow (w6.heap.size + 2) 32 5 (.slice FA3 N fcap3) N (codeCells fc)) := Lib.hid (own_below (own_below HOW3.out HB78.out) ((Below.refl _ _).drew.alloc (Nat.le_refl _) _))
    have HBw : Hid (w6.heap.size + 2 ≤ (w8.drew.alloc (.cells #[.int .i64 (20 + m), .int .i64 0, .int .i64 0, .int .i64 0, .int .i64 0] 32)).heap.size) := Lib.hid (by simp; omega)
    have KS := Lib.hid (fun (w' : World) (hb : Below w8.heap.size w8 w') => ((hb.cell (p := ⟨w7.heap.size, _, none⟩) hz4).trans e0 : w'.cell? ⟨w7.heap.size, 0, none⟩ = some (.slice (some ⟨g3, 0, none⟩) (M + 1) cap3)))
    clear e0
    apply region_cut2 (α := Nat) (β := Nat) (R := fun gg cc w' => QAt w' g3 fp fr (fc ++ [⟨(20 + m), 0, 0, 0, 0⟩]) ∧ Below w6.heap.size w6 w' ∧ w'.heap[w7.heap.size]? = some (.cells #[(.slice (some ⟨g3, 0, none⟩) (M + 1) cap3)] 25 (0, 0)))
    case h1 =>
      refine wp_region_held_drew (S := fun w' => w'.cell? ⟨w7.heap.size, 0, none⟩ = some (.slice (some ⟨g3, 0, none⟩) (M + 1) cap3)) (by kernel_rfl) (KS.out _ (Below.refl _ _).drew) (fun hHeld => ?_)
      refine wpAnyH_take (i := 0) (v := .pointer (some ⟨w7.heap.size, 0, none⟩)) rfl (by kernel_rfl) (by kernel_rfl) (by kernel_rfl) (fun _ _ _ h => h) (Or.inl ⟨by rfl, ?_⟩) hHeld ?_
      · intro w hSw
        have q0 := hSw
        simp only [List.getElem_toArray, List.getElem_cons_zero]
        go_simp
      simp only [Act.put, List.getElem_toArray, List.getElem_cons_zero, List.setIfInBounds_toArray, List.set_cons_zero, List.set_cons_succ]
      refine wpAnyH_take (i := 1) (v := .slice (some ⟨g3, 0, none⟩) (M + 1) cap3) rfl (by kernel_rfl) (by kernel_rfl) (by kernel_rfl) (fun _ _ _ h => h) (Or.inl ⟨by rfl, ?_⟩) hHeld ?_
      · intro w hSw
        have q0 := hSw
        simp only [List.getElem_toArray, List.getElem_cons_zero, List.getElem_cons_succ]
        go_simp
      simp only [Act.put, List.getElem_toArray, List.getElem_cons_zero, List.getElem_cons_succ, List.setIfInBounds_toArray, List.set_cons_zero, List.set_cons_succ]
      refine wpAnyH_take (i := 2) (v := .pointer (some ⟨w7.heap.size, 0, none⟩)) rfl (by kernel_rfl) (by kernel_rfl) (by kernel_rfl) (fun _ _ _ h => h) (Or.inl ⟨by rfl, ?_⟩) hHeld ?_
      · intro w hSw
        have q0 := hSw
        simp only [List.getElem_toArray, List.getElem_cons_zero, List.getElem_cons_succ]
        go_simp
      simp only [Act.put, List.getElem_toArray, List.getElem_cons_zero, List.getElem_cons_succ, List.setIfInBounds_toArray, List.set_cons_zero, List.set_cons_succ]
      refine wpAnyH_take (i := 3) (v := .slice (some ⟨g3, 0, none⟩) (M + 1) cap3) rfl (by kernel_rfl) (by kernel_rfl) (by kernel_rfl) (fun _ _ _ h => h) (Or.inl ⟨by rfl, ?_⟩) hHeld ?_
      · intro w hSw
        have q0 := hSw
        simp only [List.getElem_toArray, List.getElem_cons_zero, List.getElem_cons_succ]
        go_simp
      simp only [Act.put, List.getElem_toArray, List.getElem_cons_zero, List.getElem_cons_succ, List.setIfInBounds_toArray, List.set_cons_zero, List.set_cons_succ]
      refine wpAnyH_take (i := 4) (v := .pointer (some ⟨g3, 0, none⟩)) rfl (by kernel_rfl) (by kernel_rfl) (by kernel_rfl) (fun _ _ _ h => h) (Or.inl ⟨by rfl, ?_⟩) hHeld ?_
      · intro w hSw
        have q0 := hSw
        simp only [List.getElem_toArray, List.getElem_cons_zero, List.getElem_cons_succ]
        go_simp
      simp only [Act.put, List.getElem_toArray, List.getElem_cons_zero, List.getElem_cons_succ, List.setIfInBounds_toArray, List.set_cons_zero, List.set_cons_succ]
      refine wpAnyH_take (i := 5) (v := .pointer (some ⟨g3, 2, none⟩)) rfl (by kernel_rfl) (by kernel_rfl) (by kernel_rfl) (fun _ _ _ h => h) (Or.inl ⟨by rfl, ?_⟩) hHeld ?_
      · intro w hSw
        have q0 := hSw
        simp only [List.getElem_toArray, List.getElem_cons_zero, List.getElem_cons_succ]
        go_simp
      simp only [Act.put, List.getElem_toArray, List.getElem_cons_zero, List.getElem_cons_succ, List.setIfInBounds_toArray, List.set_cons_zero, List.set_cons_succ]
      refine wpAnyH_take (i := 7) (v := .int .i64 r) rfl (by kernel_rfl) (by kernel_rfl) (by kernel_rfl) (fun _ _ _ h => h) (Or.inl ⟨by rfl, ?_⟩) hHeld ?_
      · intro w hSw
        have q0 := hSw
        simp only [List.getElem_toArray, List.getElem_cons_zero, List.getElem_cons_succ]
        go_simp
      simp only [Act.put, List.getElem_toArray, List.getElem_cons_zero, List.getElem_cons_succ, List.setIfInBounds_toArray, List.set_cons_zero, List.set_cons_succ]
      refine wpAnyH_ready (rs := [6, 8]) (by kernel_rfl) (by simp) ?_
      refine AllReadyH.cons rfl (fun K hK => ?_) (AllReadyH.cons rfl (fun K hK => ?_) (AllReadyH.nil))
      · simp only [List.getElem_toArray, List.getElem_cons_zero, List.getElem_cons_succ]
        go_simp
        refine hK.out _ _ hHeld (fun hHeld => ?_)
        clear hK K
        refine wpAnyH_ready (rs := [8]) (by kernel_rfl) (by simp) ?_
        refine AllReadyH.cons rfl (fun K hK => ?_) AllReadyH.nil
        simp only [List.getElem_toArray, List.getElem_cons_zero, List.getElem_cons_succ]
        go_simp
        refine (HPL.out _).mono ?_
        rintro e w' ⟨rfl, rfl⟩
        refine hK.out _ _ hHeld (fun hHeld => ?_)
        clear hK K
        refine wpAnyH_take (i := 9) (v := .int .i64 (20 + m)) rfl (by kernel_rfl) (by kernel_rfl) (by kernel_rfl) (fun _ _ _ h => h) (Or.inl ⟨by rfl, ?_⟩) hHeld ?_
        · intro w hSw
          have q0 := hSw
          simp only [List.getElem_toArray, List.getElem_cons_zero, List.getElem_cons_succ]
          go_simp
        simp only [Act.put, List.getElem_toArray, List.getElem_cons_zero, List.getElem_cons_succ, List.setIfInBounds_toArray, List.set_cons_zero, List.set_cons_succ]
        refine wpAnyH_take (i := 10) (v := .agg #[.int .i64 (20 + m), .int .i64 0, .int .i64 0, .int .i64 0, .int .i64 0]) rfl (by kernel_rfl) (by kernel_rfl) (by kernel_rfl) (fun _ _ _ h => h) (Or.inl ⟨by rfl, ?_⟩) hHeld ?_
        · intro w hSw
          have q0 := hSw
          simp only [List.getElem_toArray, List.getElem_cons_zero, List.getElem_cons_succ]
          go_simp
        simp only [Act.put, List.getElem_toArray, List.getElem_cons_zero, List.getElem_cons_succ, List.setIfInBounds_toArray, List.set_cons_zero, List.set_cons_succ]
        refine wpAnyH_ready (rs := [11]) (by kernel_rfl) (by simp) ?_
        refine AllReadyH.cons rfl (fun K hK => ?_) AllReadyH.nil
        simp only [List.getElem_toArray, List.getElem_cons_zero, List.getElem_cons_succ]
        go_simp
        refine hK.out _ _ (KS.out _ ((Below.refl w8.heap.size w8).drew.alloc (Nat.le_refl _) _)) (fun hHeld => ?_)
        clear hK K
        refine wpAnyH_ready (rs := [12]) (by kernel_rfl) (by simp) ?_
        refine AllReadyH.cons rfl (fun K hK => ?_) AllReadyH.nil
        simp only [List.getElem_toArray, List.getElem_cons_zero, List.getElem_cons_succ]
        rw [if_pos (by rfl)]
        refine wp_append_lies (w8.drew.alloc (.cells #[.int .i64 (20 + m), .int .i64 0, .int .i64 0, .int .i64 0, .int .i64 0] 32)) _ _ 28 (by rfl) (w6.heap.size + 2) 32 i0 _ 5 40 Tryd.underlying28 hi hza0 hzb hzc rfl (by decide) (.slice FA3 N fcap3) N (codeCells fc) (by rfl) (HOWb.out) ⟨w8.heap.size, 0, none⟩ 1 1 (codeCells [⟨(20 + m), 0, 0, 0, 0⟩]) (by rfl) (by simp [codeCells, Ins.cells]) (World.news_of_block (heap_alloc_new w8.drew _)) (by simp [codeCells, Ins.cells, Value.oneCell']) (by decide) (by unfold maxLen; omega) (by omega) (HBw.out) _ rfl ?_
        intro gg cc wa hown hgr hgg hgl
        have HOWa := Lib.hid hown
        have HGR := Lib.hid hgr
        have HGG := Lib.hid hgg
        have HSA : Hid (wa.cell? ⟨w7.heap.size, 0, none⟩ = some (.slice (some ⟨g3, 0, none⟩) (M + 1) cap3)) := Lib.hid (by
          have hh := KS.out (w8.drew.alloc (.cells #[.int .i64 (20 + m), .int .i64 0, .int .i64 0, .int .i64 0, .int .i64 0] 32)) ((Below.refl w8.heap.size w8).drew.alloc (Nat.le_refl _) _)
          skip
          refine (World.cell?_of_block (hgr.block _ (by simp; omega) (fun e => by have := HLT2.out _ e.symm; (try dsimp only at this); omega))).trans hh)
        refine hK.out _ _ HSA.out (fun hHeld => ?_)
        clear hK K hown hgr hgg hgl
        refine wpAnyH_take (i := 13) (v := .pointer (some ⟨g3, 0, none⟩)) rfl (by kernel_rfl) (by kernel_rfl) (by kernel_rfl) (fun _ _ _ h => h) (Or.inl ⟨by rfl, ?_⟩) hHeld ?_
        · intro w hSw
          have q0 := hSw
          simp only [List.getElem_toArray, List.getElem_cons_zero, List.getElem_cons_succ]
          go_simp
        simp only [Act.put, List.getElem_toArray, List.getElem_cons_zero, List.getElem_cons_succ, List.setIfInBounds_toArray, List.set_cons_zero, List.set_cons_succ]
        refine wpAnyH_take (i := 14) (v := .pointer (some ⟨g3, 2, none⟩)) rfl (by kernel_rfl) (by kernel_rfl) (by kernel_rfl) (fun _ _ _ h => h) (Or.inl ⟨by rfl, ?_⟩) hHeld ?_
        · intro w hSw
          have q0 := hSw
          simp only [List.getElem_toArray, List.getElem_cons_zero, List.getElem_cons_succ]
          go_simp
        simp only [Act.put, List.getElem_toArray, List.getElem_cons_zero, List.getElem_cons_succ, List.setIfInBounds_toArray, List.set_cons_zero, List.set_cons_succ]
        refine wpAnyH_ready (rs := [15]) (by kernel_rfl) (by simp) ?_
        refine AllReadyH.cons rfl (fun K hK => ?_) AllReadyH.nil
        simp only [List.getElem_toArray, List.getElem_cons_zero, List.getElem_cons_succ]
        have hs2 : wa.cell? ⟨g3, 2, none⟩ = some (.slice FA3 N fcap3) := (World.cell?_of_block (HGR.out.block g3 (by have h := HzG.out; simp; omega) (fun e => HNE3.out e.symm))).trans ((((Below.refl w8.heap.size w8).drew.alloc (Nat.le_refl _) _).cell (p := ⟨g3, 2, none⟩) HzG.out).trans E2.out)
        have hs3 : wa.frozen? ⟨g3, 2, none⟩ = false := (World.frozen?_of_block (HGR.out.block g3 (by have h := HzG.out; simp; omega) (fun e => HNE3.out e.symm))).trans ((((Below.refl w8.heap.size w8).drew.alloc (Nat.le_refl _) _).frozen (p := ⟨g3, 2, none⟩) HzG.out).trans EF.out)
        go_simp
        refine hK.out _ _ ((World.cell?_setCell_other _ _ _ _ (by first | (simp; done) | (simp; omega))).trans HSA.out) (fun hHeld => ?_)
        clear hK K hs2 hs3
        clear hHeld
        refine wpAnyH_done (by kernel_rfl) ?_ _
        refine ⟨gg, cc, rfl, ?_, ?_, ?_⟩
        · have h := QAt.more HV3.out (W := (w8.drew.alloc (.cells #[.int .i64 (20 + m), .int .i64 0, .int .i64 0, .int .i64 0, .int .i64 0] 32))) (HB78.out.trans (((Below.refl w8.heap.size w8).drew.alloc (Nat.le_refl _) _).mono HB78.out.size)) HGR.out (gg := gg) (ccap := cc) (x := ⟨(20 + m), 0, 0, 0, 0⟩) (by dsimp only; rw [hN]; exact HOWa.out) HGG.out
          dsimp only at h
          rw [hN] at h
          exact h
        · exact (((HB7.out.trans (HB78.out.mono HB7.out.size)).drew.alloc (Nat.le_trans (HB7.out.trans (HB78.out.mono HB7.out.size)).size (Nat.le_refl _)) _).grown HGR.out (Nat.le_trans (HB7.out.trans (HB78.out.mono HB7.out.size)).size (by simp)) (fun j hj => by have := (HLT2.out j hj).1; omega)).setCell (by show _ ≤ g3; omega) _
        · exact (heap_setCell_ne wa (by omega) _ _).trans ((HGR.out.block _ (by simp; omega) (fun e => by have := HLT2.out _ e.symm; (try dsimp only at this); omega)).trans (((((Below.refl w8.heap.size w8).drew.alloc (Nat.le_refl _) _).block _ hz4)).trans HQB.out))
      · simp only [List.getElem_toArray, List.getElem_cons_zero, List.getElem_cons_succ]
        go_simp
        refine (HPL.out _).mono ?_
        rintro e w' ⟨rfl, rfl⟩
        refine hK.out _ _ hHeld (fun hHeld => ?_)
        clear hK K
        refine wpAnyH_take (i := 9) (v := .int .i64 (20 + m)) rfl (by kernel_rfl) (by kernel_rfl) (by kernel_rfl) (fun _ _ _ h => h) (Or.inl ⟨by rfl, ?_⟩) hHeld ?_
        · intro w hSw
          have q0 := hSw
          simp only [List.getElem_toArray, List.getElem_cons_zero, List.getElem_cons_succ]
          go_simp
        simp only [Act.put, List.getElem_toArray, List.getElem_cons_zero, List.getElem_cons_succ, List.setIfInBounds_toArray, List.set_cons_zero, List.set_cons_succ]
        refine wpAnyH_take (i := 10) (v := .agg #[.int .i64 (20 + m), .int .i64 0, .int .i64 0, .int .i64 0, .int .i64 0]) rfl (by kernel_rfl) (by kernel_rfl) (by kernel_rfl) (fun _ _ _ h => h) (Or.inl ⟨by rfl, ?_⟩) hHeld ?_
        · intro w hSw
          have q0 := hSw
          simp only [List.getElem_toArray, List.getElem_cons_zero, List.getElem_cons_succ]
          go_simp
        simp only [Act.put, List.getElem_toArray, List.getElem_cons_zero, List.getElem_cons_succ, List.setIfInBounds_toArray, List.set_cons_zero, List.set_cons_succ]
        refine wpAnyH_ready (rs := [6, 11]) (by kernel_rfl) (by simp) ?_
        refine AllReadyH.cons rfl (fun K hK => ?_) (AllReadyH.cons rfl (fun K hK => ?_) (AllReadyH.nil))
        · simp only [List.getElem_toArray, List.getElem_cons_zero, List.getElem_cons_succ]
          go_simp
          refine hK.out _ _ hHeld (fun hHeld => ?_)
          clear hK K
          refine wpAnyH_ready (rs := [11]) (by kernel_rfl) (by simp) ?_
          refine AllReadyH.cons rfl (fun K hK => ?_) AllReadyH.nil
          simp only [List.getElem_toArray, List.getElem_cons_zero, List.getElem_cons_succ]
          go_simp
          refine hK.out _ _ (KS.out _ ((Below.refl w8.heap.size w8).drew.alloc (Nat.le_refl _) _)) (fun hHeld => ?_)
          clear hK K
          refine wpAnyH_ready (rs := [12]) (by kernel_rfl) (by simp) ?_
          refine AllReadyH.cons rfl (fun K hK => ?_) AllReadyH.nil
          simp only [List.getElem_toArray, List.getElem_cons_zero, List.getElem_cons_succ]
          rw [if_pos (by rfl)]
          refine wp_append_lies (w8.drew.alloc (.cells #[.int .i64 (20 + m), .int .i64 0, .int .i64 0, .int .i64 0, .int .i64 0] 32)) _ _ 28 (by rfl) (w6.heap.size + 2) 32 i0 _ 5 40 Tryd.underlying28 hi hza0 hzb hzc rfl (by decide) (.slice FA3 N fcap3) N (codeCells fc) (by rfl) (HOWb.out) ⟨w8.heap.size, 0, none⟩ 1 1 (codeCells [⟨(20 + m), 0, 0, 0, 0⟩]) (by rfl) (by simp [codeCells, Ins.cells]) (World.news_of_block (heap_alloc_new w8.drew _)) (by simp [codeCells, Ins.cells, Value.oneCell']) (by decide) (by unfold maxLen; omega) (by omega) (HBw.out) _ rfl ?_
          intro gg cc wa hown hgr hgg hgl
          have HOWa := Lib.hid hown
          have HGR := Lib.hid hgr
          have HGG := Lib.hid hgg
          have HSA : Hid (wa.cell? ⟨w7.heap.size, 0, none⟩ = some (.slice (some ⟨g3, 0, none⟩) (M + 1) cap3)) := Lib.hid (by
            have hh := KS.out (w8.drew.alloc (.cells #[.int .i64 (20 + m), .int .i64 0, .int .i64 0, .int .i64 0, .int .i64 0] 32)) ((Below.refl w8.heap.size w8).drew.alloc (Nat.le_refl _) _)
            skip
            refine (World.cell?_of_block (hgr.block _ (by simp; omega) (fun e => by have := HLT2.out _ e.symm; (try dsimp only at this); omega))).trans hh)
          refine hK.out _ _ HSA.out (fun hHeld => ?_)
          clear hK K hown hgr hgg hgl
          refine wpAnyH_take (i := 13) (v := .pointer (some ⟨g3, 0, none⟩)) rfl (by kernel_rfl) (by kernel_rfl) (by kernel_rfl) (fun _ _ _ h => h) (Or.inl ⟨by rfl, ?_⟩) hHeld ?_
          · intro w hSw
            have q0 := hSw
            simp only [List.getElem_toArray, List.getElem_cons_zero, List.getElem_cons_succ]
            go_simp
          simp only [Act.put, List.getElem_toArray, List.getElem_cons_zero, List.getElem_cons_succ, List.setIfInBounds_toArray, List.set_cons_zero, List.set_cons_succ]
          refine wpAnyH_take (i := 14) (v := .pointer (some ⟨g3, 2, none⟩)) rfl (by kernel_rfl) (by kernel_rfl) (by kernel_rfl) (fun _ _ _ h => h) (Or.inl ⟨by rfl, ?_⟩) hHeld ?_
          · intro w hSw
            have q0 := hSw
            simp only [List.getElem_toArray, List.getElem_cons_zero, List.getElem_cons_succ]
            go_simp
          simp only [Act.put, List.getElem_toArray, List.getElem_cons_zero, List.getElem_cons_succ, List.setIfInBounds_toArray, List.set_cons_zero, List.set_cons_succ]
          refine wpAnyH_ready (rs := [15]) (by kernel_rfl) (by simp) ?_
          refine AllReadyH.cons rfl (fun K hK => ?_) AllReadyH.nil
          simp only [List.getElem_toArray, List.getElem_cons_zero, List.getElem_cons_succ]
          have hs2 : wa.cell? ⟨g3, 2, none⟩ = some (.slice FA3 N fcap3) := (World.cell?_of_block (HGR.out.block g3 (by have h := HzG.out; simp; omega) (fun e => HNE3.out e.symm))).trans ((((Below.refl w8.heap.size w8).drew.alloc (Nat.le_refl _) _).cell (p := ⟨g3, 2, none⟩) HzG.out).trans E2.out)
          have hs3 : wa.frozen? ⟨g3, 2, none⟩ = false := (World.frozen?_of_block (HGR.out.block g3 (by have h := HzG.out; simp; omega) (fun e => HNE3.out e.symm))).trans ((((Below.refl w8.heap.size w8).drew.alloc (Nat.le_refl _) _).frozen (p := ⟨g3, 2, none⟩) HzG.out).trans EF.out)
          go_simp
          refine hK.out _ _ ((World.cell?_setCell_other _ _ _ _ (by first | (simp; done) | (simp; omega))).trans HSA.out) (fun hHeld => ?_)
          clear hK K hs2 hs3
          clear hHeld
          refine wpAnyH_done (by kernel_rfl) ?_ _
          refine ⟨gg, cc, rfl, ?_, ?_, ?_⟩
          · have h := QAt.more HV3.out (W := (w8.drew.alloc (.cells #[.int .i64 (20 + m), .int .i64 0, .int .i64 0, .int .i64 0, .int .i64 0] 32))) (HB78.out.trans (((Below.refl w8.heap.size w8).drew.alloc (Nat.le_refl _) _).mono HB78.out.size)) HGR.out (gg := gg) (ccap := cc) (x := ⟨(20 + m), 0, 0, 0, 0⟩) (by dsimp only; rw [hN]; exact HOWa.out) HGG.out
            dsimp only at h
            rw [hN] at h
            exact h
          · exact (((HB7.out.trans (HB78.out.mono HB7.out.size)).drew.alloc (Nat.le_trans (HB7.out.trans (HB78.out.mono HB7.out.size)).size (Nat.le_refl _)) _).grown HGR.out (Nat.le_trans (HB7.out.trans (HB78.out.mono HB7.out.size)).size (by simp)) (fun j hj => by have := (HLT2.out j hj).1; omega)).setCell (by show _ ≤ g3; omega) _
          · exact (heap_setCell_ne wa (by omega) _ _).trans ((HGR.out.block _ (by simp; omega) (fun e => by have := HLT2.out _ e.symm; (try dsimp only at this); omega)).trans (((((Below.refl w8.heap.size w8).drew.alloc (Nat.le_refl _) _).block _ hz4)).trans HQB.out))
        · simp only [List.getElem_toArray, List.getElem_cons_zero, List.getElem_cons_succ]
          go_simp
          refine hK.out _ _ (KS.out _ ((Below.refl w8.heap.size w8).drew.alloc (Nat.le_refl _) _)) (fun hHeld => ?_)
          clear hK K
          refine wpAnyH_ready (rs := [6]) (by kernel_rfl) (by simp) ?_
          refine AllReadyH.cons rfl (fun K hK => ?_) AllReadyH.nil
          simp only [List.getElem_toArray, List.getElem_cons_zero, List.getElem_cons_succ]
          go_simp
          refine hK.out _ _ hHeld (fun hHeld => ?_)
          clear hK K
          refine wpAnyH_ready (rs := [12]) (by kernel_rfl) (by simp) ?_
          refine AllReadyH.cons rfl (fun K hK => ?_) AllReadyH.nil
          simp only [List.getElem_toArray, List.getElem_cons_zero, List.getElem_cons_succ]
          rw [if_pos (by rfl)]
          refine wp_append_lies (w8.drew.alloc (.cells #[.int .i64 (20 + m), .int .i64 0, .int .i64 0, .int .i64 0, .int .i64 0] 32)) _ _ 28 (by rfl) (w6.heap.size + 2) 32 i0 _ 5 40 Tryd.underlying28 hi hza0 hzb hzc rfl (by decide) (.slice FA3 N fcap3) N (codeCells fc) (by rfl) (HOWb.out) ⟨w8.heap.size, 0, none⟩ 1 1 (codeCells [⟨(20 + m), 0, 0, 0, 0⟩]) (by rfl) (by simp [codeCells, Ins.cells]) (World.news_of_block (heap_alloc_new w8.drew _)) (by simp [codeCells, Ins.cells, Value.oneCell']) (by decide) (by unfold maxLen; omega) (by omega) (HBw.out) _ rfl ?_
          intro gg cc wa hown hgr hgg hgl
          have HOWa := Lib.hid hown
          have HGR := Lib.hid hgr
          have HGG := Lib.hid hgg
          have HSA : Hid (wa.cell? ⟨w7.heap.size, 0, none⟩ = some (.slice (some ⟨g3, 0, none⟩) (M + 1) cap3)) := Lib.hid (by
            have hh := KS.out (w8.drew.alloc (.cells #[.int .i64 (20 + m), .int .i64 0, .int .i64 0, .int .i64 0, .int .i64 0] 32)) ((Below.refl w8.heap.size w8).drew.alloc (Nat.le_refl _) _)
            skip
            refine (World.cell?_of_block (hgr.block _ (by simp; omega) (fun e => by have := HLT2.out _ e.symm; (try dsimp only at this); omega))).trans hh)
          refine hK.out _ _ HSA.out (fun hHeld => ?_)
          clear hK K hown hgr hgg hgl
          refine wpAnyH_take (i := 13) (v := .pointer (some ⟨g3, 0, none⟩)) rfl (by kernel_rfl) (by kernel_rfl) (by kernel_rfl) (fun _ _ _ h => h) (Or.inl ⟨by rfl, ?_⟩) hHeld ?_
          · intro w hSw
            have q0 := hSw
            simp only [List.getElem_toArray, List.getElem_cons_zero, List.getElem_cons_succ]
            go_simp
          simp only [Act.put, List.getElem_toArray, List.getElem_cons_zero, List.getElem_cons_succ, List.setIfInBounds_toArray, List.set_cons_zero, List.set_cons_succ]
          refine wpAnyH_take (i := 14) (v := .pointer (some ⟨g3, 2, none⟩)) rfl (by kernel_rfl) (by kernel_rfl) (by kernel_rfl) (fun _ _ _ h => h) (Or.inl ⟨by rfl, ?_⟩) hHeld ?_
          · intro w hSw
            have q0 := hSw
            simp only [List.getElem_toArray, List.getElem_cons_zero, List.getElem_cons_succ]
            go_simp
          simp only [Act.put, List.getElem_toArray, List.getElem_cons_zero, List.getElem_cons_succ, List.setIfInBounds_toArray, List.set_cons_zero, List.set_cons_succ]
          refine wpAnyH_ready (rs := [15]) (by kernel_rfl) (by simp) ?_
          refine AllReadyH.cons rfl (fun K hK => ?_) AllReadyH.nil
          simp only [List.getElem_toArray, List.getElem_cons_zero, List.getElem_cons_succ]
          have hs2 : wa.cell? ⟨g3, 2, none⟩ = some (.slice FA3 N fcap3) := (World.cell?_of_block (HGR.out.block g3 (by have h := HzG.out; simp; omega) (fun e => HNE3.out e.symm))).trans ((((Below.refl w8.heap.size w8).drew.alloc (Nat.le_refl _) _).cell (p := ⟨g3, 2, none⟩) HzG.out).trans E2.out)
          have hs3 : wa.frozen? ⟨g3, 2, none⟩ = false := (World.frozen?_of_block (HGR.out.block g3 (by have h := HzG.out; simp; omega) (fun e => HNE3.out e.symm))).trans ((((Below.refl w8.heap.size w8).drew.alloc (Nat.le_refl _) _).frozen (p := ⟨g3, 2, none⟩) HzG.out).trans EF.out)
          go_simp
          refine hK.out _ _ ((World.cell?_setCell_other _ _ _ _ (by first | (simp; done) | (simp; omega))).trans HSA.out) (fun hHeld => ?_)
          clear hK K hs2 hs3
          clear hHeld
          refine wpAnyH_done (by kernel_rfl) ?_ _
          refine ⟨gg, cc, rfl, ?_, ?_, ?_⟩
          · have h := QAt.more HV3.out (W := (w8.drew.alloc (.cells #[.int .i64 (20 + m), .int .i64 0, .int .i64 0, .int .i64 0, .int .i64 0] 32))) (HB78.out.trans (((Below.refl w8.heap.size w8).drew.alloc (Nat.le_refl _) _).mono HB78.out.size)) HGR.out (gg := gg) (ccap := cc) (x := ⟨(20 + m), 0, 0, 0, 0⟩) (by dsimp only; rw [hN]; exact HOWa.out) HGG.out
            dsimp only at h
            rw [hN] at h
            exact h
          · exact (((HB7.out.trans (HB78.out.mono HB7.out.size)).drew.alloc (Nat.le_trans (HB7.out.trans (HB78.out.mono HB7.out.size)).size (Nat.le_refl _)) _).grown HGR.out (Nat.le_trans (HB7.out.trans (HB78.out.mono HB7.out.size)).size (by simp)) (fun j hj => by have := (HLT2.out j hj).1; omega)).setCell (by show _ ≤ g3; omega) _
          · exact (heap_setCell_ne wa (by omega) _ _).trans ((HGR.out.block _ (by simp; omega) (fun e => by have := HLT2.out _ e.symm; (try dsimp only at this); omega)).trans (((((Below.refl w8.heap.size w8).drew.alloc (Nat.le_refl _) _).block _ hz4)).trans HQB.out))
    case h2 =>
      intro gg3 cc3 w9 hX
      obtain ⟨hq, hb69, hbox⟩ := hX
      have HQ3 := Lib.hid hq
      have HB69 := Lib.hid hb69
      have hB19 := HB13.out.trans ((HB36.out.trans (hb69.mono z36)).mono HB13.out.size)
      have HB19 := Lib.hid hB19
      have z3 := block_lt hbox
      have x3 := (cell_block hbox 0).trans rfl
      have hbx2 := (hb69.block _ (block_lt HBX2.out)).trans HBX2.out
      have z2 := block_lt hbx2
      have x2 := (cell_block hbx2 0).trans rfl
      have hbx1 := (hb69.block w1.heap.size (by omega)).trans ((HB36.out.block w1.heap.size (by omega)).trans HPB3.out)
      have z1 := block_lt hbx1
      have x1 := (cell_block hbx1 0).trans rfl
      have HQ2' : Hid (QAt w9 g2 fp fr (fc ++ [⟨xo, xd, xa, xb, xm⟩])) := Lib.hid (HQ2.out.keeps hb69)
      have hcl2 := HCL.out
      have HC1 := Lib.hid (check_any (⟨fp, fr, fc⟩ :: p') (.slice (some ⟨g, 0, none⟩) (M + 1) cap1) w9 (HT.out.keeps (HB1.out.trans (hB19.mono HB1.out.size))) (HPV.out.at.keeps hB19) (by simp only [List.length_cons]; omega) (fun f' hf => by have := hcl2 f' hf; omega))
      rw [HPE.out] at HC1
      have HC2 := Lib.hid (fun (W : World) (hb : Below w9.heap.size w9 W) => (HQ2'.out.keeps hb).refused (p := p') (e := 2) HPE.out (HX1.out _ rfl rfl rfl) (by decide) cap2 (HT.out.keeps (HB1.out.trans ((HB19.out.trans (hb.mono HB19.out.size)).mono HB1.out.size))) (by simp; omega) (fun f' hf => hcl2 f' (List.mem_cons_of_mem _ hf)))
      have HC3 := Lib.hid (fun (W : World) (hb : Below w9.heap.size w9 W) => (HQ3.out.keeps hb).refused (p := p') (e := 3) HPE.out (HX2.out _ rfl rfl rfl) (by decide) cap3 (HT.out.keeps (HB1.out.trans ((HB19.out.trans (hb.mono HB19.out.size)).mono HB1.out.size))) (by simp; omega) (fun f' hf => hcl2 f' (List.mem_cons_of_mem _ hf)))
      rw [hM] at HC2 HC3
      clear hq hb69 hbox hbx1 hbx2 hcl2 hB19 e2 hz2 hz4 KS HOWb HBw E2 HE2 HzG EF HLT2 A5
      go_wp2_with fail
      refine HC1.out.mono ?_
      rintro e v1 ⟨rfl, hb1'⟩
      have HV1 := Lib.hid hb1'
      have y2 := (hb1'.cell (p := ⟨w4.heap.size, 0, none⟩) z2).trans x2
      have y3 := (hb1'.cell (p := ⟨w7.heap.size, 0, none⟩) z3).trans x3
      have zz := hb1'.size
      have z2' : w4.heap.size < v1.heap.size := by omega
      have z3' : w7.heap.size < v1.heap.size := by omega
      clear hb1' x1 x2 x3
      go_wp2_with fail
      refine (HC2.out _ HV1.out).mono ?_
      rintro e v2 ⟨rfl, hb2'⟩
      have HV2' := Lib.hid (HV1.out.trans (hb2'.mono HV1.out.size))
      have t3 := (hb2'.cell (p := ⟨w7.heap.size, 0, none⟩) z3').trans y3
      have z3'' : w7.heap.size < v2.heap.size := by have := hb2'.size; omega
      clear hb2' y2 y3
      go_wp2_with fail
      refine (HC3.out _ HV2'.out).mono ?_
      rintro e v3' ⟨rfl, hb3'⟩
      have HV3' := Lib.hid (HV2'.out.trans (hb3'.mono HV2'.out.size))
      clear hb3' t3
      go_wp2_with fail
      go_ret
      exact ⟨rfl, HB1.out.trans ((HB19.out.trans (HV3'.out.mono HB19.out.size)).mono HB1.out.size)⟩
end Go.Proofs.YtmnlbkdkpgfomaaDoor
