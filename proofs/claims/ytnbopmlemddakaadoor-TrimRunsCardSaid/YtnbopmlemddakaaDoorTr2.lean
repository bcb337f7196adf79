/-
  Plain law: the functions that are called, worked off; then the contract of trim.calls.
-/
import Derived.Test.YtnbopmlemddakaaDoorTr1
namespace Tier
open Go Go.RowKit
structure CI (p : List Fnc) (fn pc : Nat) (out : List Bool) (todo : List Nat) : Prop where
  len : out.length = p.length
  mem : ∀ i ∈ todo, i < p.length ∧ cB out i = true
  rch : ∀ i, cB out i = true → Rch p i
  zero : cB out 0 = true
  cl : ∀ (i q : Nat) (F : Fnc) (x : Ins), cB out i = true → i ∉ todo → (i = fn → q < pc) → p[i]? = some F → rchB F q = true → F.code[q]? = some x → x.op = 17 → cB out x.imm.toNat = true
theorem cB_set {out : List Bool} {k : Nat} (hk : k < out.length) (i : Nat) : cB (out.set k true) i = if i = k then true else cB out i := by
  unfold cB
  rw [List.getD_eq_getElem?_getD, List.getD_eq_getElem?_getD, List.getElem?_set]
  by_cases h : k = i
  · subst h; simp [hk]
  · rw [if_neg h, if_neg (fun e => h e.symm)]
def fl (l : List Bool) : Nat := (l.map fun b => if b = true then 0 else 1).sum
theorem fl_set : ∀ (l : List Bool) (k : Nat), k < l.length → cB l k = false → fl (l.set k true) + 1 = fl l
  | [], k, h, _ => by simp at h
  | b :: l, 0, _, h => by
    have hb : b = false := h
    subst hb
    simp [fl]; omega
  | b :: l, k + 1, h, h2 => by
    have := fl_set l k (by simpa using h) h2
    simp [fl] at *; omega
def muC (out : List Bool) (todo : List Nat) : Nat := 2 * fl out + todo.length
section
variable {p : List Fnc} {fn pc : Nat} {out : List Bool} {todo : List Nat}
theorem CI.pop (h : CI p p.length 0 out (todo ++ [fn])) : CI p fn 0 out todo :=
  ⟨h.len, fun i hi => h.mem i (by simp [hi]), h.rch, h.zero, fun i q F x h1 h2 h3 h4 h5 h6 h7 => by
    have hi := (List.getElem?_eq_some_iff.1 h4).1
    refine h.cl i q F x h1 (fun hm => ?_) (fun e => by omega) h4 h5 h6 h7
    rcases List.mem_append.1 hm with hm | hm
    · exact h2 hm
    · have := h3 (List.mem_singleton.1 hm); omega⟩
theorem CI.skip (h : CI p fn pc out todo) (hs : ∀ F x, p[fn]? = some F → rchB F pc = true → F.code[pc]? = some x → x.op = 17 → cB out x.imm.toNat = true) : CI p fn (pc + 1) out todo :=
  ⟨h.len, h.mem, h.rch, h.zero, fun i q F x h1 h2 h3 h4 h5 h6 h7 => by
    by_cases he : i = fn ∧ q = pc
    · obtain ⟨rfl, rfl⟩ := he
      exact hs F x h4 h5 h6 h7
    · exact h.cl i q F x h1 h2 (fun e => by have := h3 e; rcases Nat.lt_or_ge q pc with h | h; exact h; exact absurd ⟨e, by omega⟩ he) h4 h5 h6 h7⟩
theorem CI.push (h : CI p fn pc out todo) {F : Fnc} {x : Ins} (hF : p[fn]? = some F) (hr : rchB F pc = true) (hx : F.code[pc]? = some x) (ho : x.op = 17) (hfn : cB out fn = true) (hk : x.imm.toNat < p.length) : CI p fn (pc + 1) (out.set x.imm.toNat true) (todo ++ [x.imm.toNat]) := by
  have hs := cB_set (out := out) (k := x.imm.toNat) (by rw [h.len]; exact hk)
  have up : ∀ i, cB out i = true → cB (out.set x.imm.toNat true) i = true := fun i hi => by rw [hs]; split <;> simp [hi]
  refine ⟨by simp [h.len], fun i hi => ?_, fun i hi => ?_, up 0 h.zero, fun i q F' x' h1 h2 h3 h4 h5 h6 h7 => ?_⟩
  · rcases List.mem_append.1 hi with hi | hi
    · exact ⟨(h.mem i hi).1, up i (h.mem i hi).2⟩
    · rw [List.mem_singleton.1 hi]; exact ⟨hk, by rw [hs, if_pos rfl]⟩
  · rw [hs] at hi
    split at hi
    · next e => rw [e]; exact .call (h.rch fn hfn) hF hr hx ho
    · exact h.rch i hi
  · have hne : i ≠ x.imm.toNat := fun e => h2 (by rw [e]; simp)
    rw [hs, if_neg hne] at h1
    have hnt : i ∉ todo := fun hm => h2 (by simp [hm])
    by_cases he : i = fn ∧ q = pc
    · obtain ⟨rfl, rfl⟩ := he
      rw [hF] at h4
      obtain rfl := Option.some.inj h4
      rw [hx] at h6
      obtain rfl := Option.some.inj h6
      rw [hs, if_pos rfl]
    · exact up _ (h.cl i q F' x' h1 hnt (fun e => by have := h3 e; rcases Nat.lt_or_ge q pc with h | h; exact h; exact absurd ⟨e, by omega⟩ he) h4 h5 h6 h7)
theorem CI.done (h : CI p fn pc out todo) {F : Fnc} (hF : p[fn]? = some F) (hl : F.code.length ≤ pc) : CI p p.length 0 out todo :=
  ⟨h.len, h.mem, h.rch, h.zero, fun i q F' x h1 h2 _ h4 h5 h6 h7 => h.cl i q F' x h1 h2 (fun e => by
    subst e
    rw [hF] at h4
    obtain rfl := Option.some.inj h4
    have := (List.getElem?_eq_some_iff.1 h6).1; omega) h4 h5 h6 h7⟩
theorem cB_iff {l : List Bool} {i : Nat} : cB l i = true ↔ l[i]? = some true := by
  unfold cB
  rw [List.getD_eq_getElem?_getD]
  cases h : l[i]? with
  | none => simp
  | some b => simp
theorem CI.cld (h : CI p p.length 0 out []) : Cld p out := by
  refine ⟨h.len, fun i _ => ⟨fun hi => h.rch i (cB_iff.2 hi), fun hr => ?_⟩⟩
  rw [← cB_iff]
  induction hr with
  | zero => exact h.zero
  | @call i pc F x _ hF h1 h2 h3 ih =>
    have hi := (List.getElem?_eq_some_iff.1 hF).1
    exact h.cl i pc F x (ih hi) (by simp) (fun e => by omega) hF h1 h2 h3
theorem CI.start (h : 1 ≤ p.length) : CI p p.length 0 ((List.replicate p.length false).set 0 true) [0] := by
  have hs := cB_set (out := List.replicate p.length false) (k := 0) (by simp; omega)
  have h0 : ∀ i, cB (List.replicate p.length false) i = false := fun i => by
    unfold cB; rw [List.getD_eq_getElem?_getD, List.getElem?_replicate]; split <;> rfl
  refine ⟨by simp, fun i hi => ?_, fun i hi => ?_, by rw [hs, if_pos rfl], fun i q F x h1 h2 => ?_⟩
  · rw [List.mem_singleton.1 hi]; exact ⟨by omega, by rw [hs, if_pos rfl]⟩
  · rw [hs, h0] at hi
    split at hi
    · next e => rw [e]; exact .zero
    · cases hi
  · rw [hs, h0] at h1
    split at h1
    · next e => exact absurd (by rw [e]; simp) h2
    · cases h1
theorem mu_start (n : Nat) (h : 1 ≤ n) : muC ((List.replicate n false).set 0 true) [0] + 1 = 2 * n := by
  obtain ⟨m, rfl⟩ : ∃ m, n = m + 1 := ⟨n - 1, by omega⟩
  simp [muC, fl, List.replicate_succ]; omega
theorem mu_push (h : out.length = p.length) {k : Nat} (hk : k < p.length) (hf : cB out k = false) : muC (out.set k true) (todo ++ [k]) + 1 = muC out todo := by
  have := fl_set out k (by omega) hf
  simp [muC]; omega
theorem mu_pop : muC out todo + 1 = muC out (todo ++ [fn]) := by simp [muC]; omega
end
end Tier
namespace Go.Proofs.YtnbopmlemddakaaDoor
open Go.RowKit Tier
def BoolsB (w : World) (b : Nat) (l : List Bool) : Prop := w.heap[b]? = some (.cells (l.map Value.bool).toArray 4 (0, 0))
theorem BoolsB.lt {w : World} {b : Nat} {l : List Bool} (h : BoolsB w b l) : b < w.heap.size := (Array.getElem?_eq_some_iff.1 h).1
theorem BoolsB.cell {w : World} {b : Nat} {l : List Bool} (h : BoolsB w b l) {i : Nat} (hi : i < l.length) : w.cell? ⟨b, i, none⟩ = some (.bool (cB l i)) := by
  rw [cell_block h, List.getElem?_toArray, List.getElem?_map, List.getElem?_eq_getElem hi]
  unfold cB; rw [List.getD_eq_getElem?_getD, List.getElem?_eq_getElem hi]; rfl
theorem BoolsB.frozen {w : World} {b : Nat} {l : List Bool} (h : BoolsB w b l) (i : Nat) : w.frozen? ⟨b, i, none⟩ = false := frozen_block h i
theorem BoolsB.keeps {w w' : World} {b : Nat} {l : List Bool} (h : BoolsB w b l) (hb : Below w.heap.size w w') : BoolsB w' b l := (hb.block _ h.lt).trans h
theorem BoolsB.set {w : World} {b : Nat} {l : List Bool} (h : BoolsB w b l) (i : Nat) (x : Bool) : BoolsB (w.setCell ⟨b, i, none⟩ (.bool x)) b (l.set i x) := by
  unfold BoolsB at *
  simp only [World.setCell, Array.getElem?_modify, if_true, h, Option.map_some]
  simp [List.map_set]
theorem infoBool : (Tryd.prog.info? 4).map (fun i => (i.zero, i.size, i.bytes)) = some (some (.bool false), 1, 1) := by kernel_rfl
theorem make_bools (N : Nat) (hN : N ≤ 40) (w : World) : (Instr.makeSlice 38 (.int .i64 (N : Int)) (.int .i64 (N : Int))).run Tryd.prog w = .ok (.slice (some ⟨w.heap.size, 0, none⟩) N N) (w.alloc (.cells (madeCells #[.bool false] N) 4)) := by
  have := run_make_row' (P := Tryd.prog) 38 4 (.bool false) 1 Tryd.underlying38 infoBool rfl .i64 .i64 N (by omega) (by omega) w
  exact this
theorem made_bools (w : World) (n : Nat) : BoolsB (w.alloc (.cells (madeCells #[.bool false] n) 4)) w.heap.size (List.replicate n false) := by
  unfold BoolsB
  rw [heap_alloc_new]
  congr 2
  apply Array.ext_getElem?
  intro i
  simp only [madeCells, List.map_replicate]
  by_cases h : i < n
  · simp [h, Nat.mod_one]
  · simp [h]
theorem made_b (n : Nat) : madeCells #[Value.bool false] n = ((List.replicate n false).map Value.bool).toArray := by
  apply Array.ext_getElem?
  intro i
  simp only [madeCells, List.map_replicate]
  by_cases h : i < n
  · simp [h, Nat.mod_one]
  · simp [h]
/-- Between two steps: the program's box, which are called, the list that is worked off. -/
structure CW (w wr : World) (pv : Value) (A : Option Addr) (cap : Nat) (out : List Bool) (todo : List Nat) : Prop where
  box : wr.heap[w.heap.size]? = some (.cells #[pv] 25 (0, 0))
  out : BoolsB wr (w.heap.size + 1) out
  todo : wr.ownsRow (w.heap.size + 2) 3 1 (.slice A todo.length cap) todo.length ((natI todo).map (Value.int .i64))
  below : Below w.heap.size w wr
section
variable {w wr : World} {pv : Value} {A : Option Addr} {cap : Nat} {out : List Bool} {todo : List Nat}
theorem CW.size (h : CW w wr pv A cap out todo) : w.heap.size + 1 < wr.heap.size := h.out.lt
theorem CW.keeps {w' : World} (h : CW w wr pv A cap out todo) (hb : Below wr.heap.size wr w') : CW w w' pv A cap out todo :=
  ⟨(hb.block _ (by have := h.size; omega)).trans h.box, h.out.keeps hb, own_below h.todo hb, h.below.trans (hb.mono h.below.size)⟩
theorem CW.start (w : World) (pv : Value) (N : Nat) : CW w (((w.alloc (.cells #[pv] 25)).alloc (.cells ((madeCells #[Value.bool false] N).setIfInBounds 0 (.bool true)) 4)).alloc (.cells #[.int .i64 0] 3)) pv (some ⟨w.heap.size + 1 + 1, 0, none⟩) 1 ((List.replicate N false).set 0 true) [0] := by
  refine ⟨?_, ?_, ?_, ?_⟩
  · rw [Below.heap_alloc _ _ _ (by simp; omega), Below.heap_alloc _ _ _ (by simp)]; exact heap_alloc_new _ _
  · unfold BoolsB
    rw [Below.heap_alloc _ _ _ (by simp)]
    have := heap_alloc_new (w.alloc (.cells #[pv] 25)) (.cells ((madeCells #[Value.bool false] N).setIfInBounds 0 (.bool true)) 4)
    rw [show (w.alloc (.cells #[pv] 25)).heap.size = w.heap.size + 1 by simp] at this
    rw [this, made_b]
    simp [List.map_set]
    rw [← List.toArray_replicate, List.setIfInBounds_toArray]
  · refine ⟨by simp [natI], .inr ⟨w.heap.size + 1 + 1, 1, #[.int .i64 0], rfl, by omega, ?_, by simp, by unfold maxLen; omega, by simp, by simp [natI]⟩⟩
    have := heap_alloc_new ((w.alloc (.cells #[pv] 25)).alloc (.cells ((madeCells #[Value.bool false] N).setIfInBounds 0 (.bool true)) 4)) (.cells #[.int .i64 0] 3)
    simpa using this
  · repeat (first | exact hb | exact Below.refl _ _ | apply Below.drew | apply below_drewN | refine Below.alloc ?_ (by first | omega | (simp; done) | (simp; omega)) _ | refine Below.setCell ?_ (by first | omega | (simp; done) | (simp; omega)) _)
theorem CW.pop {fn : Nat} (h : CW w wr pv A cap out (todo ++ [fn])) : CW w wr pv A cap out todo := by
  refine ⟨h.box, h.out, ?_, h.below⟩
  have := h.todo
  rw [show (todo ++ [fn]).length = todo.length + 1 by simp] at this
  have := own_pop this
  have e : ((natI (todo ++ [fn])).map (Value.int .i64)).take todo.length = (natI todo).map (Value.int .i64) := by
    have e2 : todo.length = ((natI todo).map (Value.int .i64)).length := by simp [natI]
    rw [e2]; simp [natI]
  rw [e] at this; exact this
theorem CW.room (h : CW w wr pv A cap out todo) (hne : todo ≠ []) : todo.length ≤ cap := by
  rcases h.todo.2 with ⟨h2, -⟩ | ⟨g, cap', cur, hv, hg, hh, hn, hc, hs, ht⟩
  · simp only [Value.slice.injEq] at h2; exact absurd (List.eq_nil_of_length_eq_zero h2.2.1) hne
  · simp only [Value.slice.injEq] at hv
    obtain ⟨-, -, rfl⟩ := hv
    exact hn
theorem CW.at {fn : Nat} (h : CW w wr pv A cap out (todo ++ [fn])) : ∃ ga, A = some ⟨ga, 0, none⟩ ∧ ga < wr.heap.size ∧ wr.cell? ⟨ga, todo.length, none⟩ = some (.int .i64 fn) := by
  obtain ⟨A0, cap0, hA0, hA⟩ := own_slice h.todo
  simp only [Value.slice.injEq, true_and] at hA0
  obtain ⟨ga, h1, h2, h3⟩ := hA (by simp)
  refine ⟨ga, by rw [hA0.1, h1], h2, ?_⟩
  rw [h3 todo.length (by simp)]
  simp [natI]
/-- .. and the places of a function. -/
structure CX (w wr : World) (pv : Value) (A : Option Addr) (cap : Nat) (out : List Bool) (todo : List Nat) (b : Nat) (l : List Int) : Prop where
  cw : CW w wr pv A cap out todo
  row : IntsB wr b l
  hi : w.heap.size + 1 < b
  ne : (Value.slice A todo.length cap).ownBlock ≠ some b
theorem CW.old (h : CW w wr pv A cap out todo) : ∀ k, (Value.slice A todo.length cap).ownBlock = some k → k < wr.heap.size := fun k hk => (World.ownsRow.lt h.todo k hk).2
theorem CX.start {w' : World} {b : Nat} {l : List Int} (h : CW w wr pv A cap out todo) (hb : Below wr.heap.size wr w') (hB : wr.heap.size ≤ b) (hr : IntsB w' b l) : CX w w' pv A cap out todo b l :=
  ⟨h.keeps hb, hr, by have := h.size; omega, fun e => by have := h.old _ e; omega⟩
theorem CX.keeps {w' : World} {b : Nat} {l : List Int} (h : CX w wr pv A cap out todo b l) (hb : Below wr.heap.size wr w') : CX w w' pv A cap out todo b l := ⟨h.cw.keeps hb, h.row.keeps hb, h.hi, h.ne⟩
theorem CX.mid {b : Nat} {l : List Int} (h : CX w wr pv A cap out todo b l) (n : Nat) (u : Value) (o : Obj) :
    ((wr.setCell ⟨w.heap.size + 1, n, none⟩ u).alloc o).ownsRow (w.heap.size + 2) 3 1 (.slice A todo.length cap) todo.length ((natI todo).map (Value.int .i64)) :=
  own_below (own_setCell h.cw.todo (by simp) u) ((Below.refl _ _).alloc (Nat.le_refl _) _)
theorem CX.push {b : Nat} {l : List Int} (h : CX w wr pv A cap out todo b l) (n : Nat) {w1 : World} {A' : Option Addr} {cap' : Nat}
    (hg : ((wr.setCell ⟨w.heap.size + 1, n, none⟩ (.bool true)).alloc (.cells #[.int .i64 (n : Int)] 3)).grownBy w1 (Value.slice A todo.length cap).ownBlock)
    (ho : w1.ownsRow (w.heap.size + 2) 3 1 (.slice A' (todo.length + 1) cap') (todo.length + 1) ((natI todo).map (Value.int .i64) ++ [.int .i64 (n : Int)]))
    (hat : (Value.slice A' (todo.length + 1) cap').ownBlock = (Value.slice A todo.length cap).ownBlock ∨ (Value.slice A' (todo.length + 1) cap').ownBlock = some ((wr.setCell ⟨w.heap.size + 1, n, none⟩ (.bool true)).alloc (.cells #[.int .i64 (n : Int)] 3)).heap.size) :
    CX w w1 pv A' cap' (out.set n true) (todo ++ [n]) b l := by
  have hs := h.cw.size
  have hbl := h.row.lt
  have hhi := h.hi
  have hrow : ∀ k, (Value.slice A todo.length cap).ownBlock = some k → w.heap.size + 2 ≤ k := fun k hk => (World.ownsRow.lt h.cw.todo k hk).1
  have hblk : ∀ k, k ≤ w.heap.size + 1 → w1.heap[k]? = (wr.setCell ⟨w.heap.size + 1, n, none⟩ (.bool true)).heap[k]? := fun k hk => by
    rw [hg.block k (by simp; omega) (fun e => by have := hrow k e.symm; omega)]
    exact Below.heap_alloc _ _ _ (by simp; omega)
  have hlen : (todo ++ [n]).length = todo.length + 1 := by simp
  refine ⟨⟨?_, ?_, ?_, ?_⟩, ?_, hhi, ?_⟩
  · rw [hblk _ (by omega), Below.heap_setCell _ _ _ _ (by simp)]; exact h.cw.box
  · have := h.cw.out.set n true
    unfold BoolsB at *
    rw [hblk _ (Nat.le_refl _), this]
  · rw [hlen]; simpa [natI] using ho
  · have hb1 : Below w.heap.size w (wr.setCell ⟨w.heap.size + 1, n, none⟩ (.bool true)) := h.cw.below.setCell (by simp) _
    refine (hb1.alloc (by simp; omega) _).grown hg (by simp; omega) (fun k hk => by have := hrow k hk; omega)
  · unfold IntsB
    rw [hg.block b (by simp; omega) (fun e => h.ne e.symm), Below.heap_alloc _ _ _ (by simpa using hbl), Below.heap_setCell _ _ _ _ (by simp; omega)]
    exact h.row
  · rw [hlen]
    rcases hat with hat | hat
    · rw [hat]; exact h.ne
    · rw [hat]; simp; omega
end
set_option maxRecDepth 100000 in
set_option maxHeartbeats 8000000 in
theorem calls_any (p : List Fnc) (A : Option Addr) (cap : Nat) (w : World) (ht : Tab w) (hp : ProgAt w (.slice A p.length cap) p) (hk : checkP p = 0) :
    Calls Tryd.prog 43 #[.agg #[.slice A p.length cap]] w fun e w' =>
      (∃ b c, e = .returned (.slice (some ⟨b, 0, none⟩) p.length p.length) ∧ w.heap.size ≤ b ∧ BoolsB w' b c ∧ Cld p c) ∧ Below w.heap.size w w' := by
  have hR := right_of hk
  have hE : progE p = 0 := by
    unfold checkP at hk
    by_cases hE : progE p = 0
    · exact hE
    · rw [if_pos hE] at hk; exact absurd hk hE
  have l1 := hR.ok.l1
  have l2 := hR.ok.l2
  obtain ⟨A0, cap0, hA0, hA⟩ := hp.slice
  simp only [Value.slice.injEq, true_and] at hA0
  obtain ⟨g, hAg, hg, hfn⟩ := hA (by omega)
  obtain ⟨rfl, rfl⟩ := hA0
  subst hAg
  have HFN := Lib.hid hfn
  have HWH := Lib.hid (fun (W : World) (h1 : Tab W) (h2 : ProgAt W (.slice (some ⟨g, 0, none⟩) p.length cap) p) (k : Nat) (F : Fnc) (hF : p[k]? = some F) => where_any p (some ⟨g, 0, none⟩) cap k F W h1 h2 hE hF)
  have HT := Lib.hid ht
  have HP := Lib.hid hp
  have HR := Lib.hid hR
  have HST := Lib.hid (CI.start (p := p) l1)
  have HMU := Lib.hid (mu_start p.length l1)
  obtain ⟨i0, hi, hz0, hz1, hz2⟩ := info_parts infoInt
  clear hA hfn hp ht hR hE hk
  obtain ⟨N, hN⟩ : ∃ N, p.length = N := ⟨_, rfl⟩
  have HN := Lib.hid hN
  have hmk := make_bools N (by omega)
  rw [hN] at l1 l2 HP HWH HST HMU ⊢
  clear hN
  have hmz : (madeCells #[Value.bool false] N)[0]? = some (.bool false) := by
    have h1 := (made_bools w N).cell (i := 0) (by simp; omega)
    rw [cell_block (heap_alloc_new w _)] at h1
    rw [h1]
    congr 2
    unfold cB; rw [List.getD_eq_getElem?_getD, List.getElem?_replicate]; split <;> rfl
  go_enter Tryd.func43, Tryd.ntmps43
  go_wp2_with fail
  have HC0 := Lib.hid (CW.start w (.slice (some ⟨g, 0, none⟩) N cap) N)
  clear hmk hmz
  go_loopg [4] (muC ((List.replicate N false).set 0 true) [0]) (fun q v wr => ∃ (A1 : Option Addr) (cap1 : Nat) (out : List Bool) (todo : List Nat), CI p N 0 out todo ∧ muC out todo ≤ 7 ∧ q = muC out todo ∧ v = .slice A1 todo.length cap1 ∧ CW w wr (.slice (some ⟨g, 0, none⟩) N cap) A1 cap1 out todo)
  case atStart => exact ⟨_, 1, _, _, HST.out, by have := HMU.out; omega, rfl, rfl, HC0.out⟩
  case round =>
    obtain ⟨A1, cap1, out, todo, hCI, hmu, rfl, rfl, hW⟩ := hrel
    clear HC0 HST HMU
    have HW := Lib.hid hW
    have HCI := Lib.hid hCI
    have z1 := hW.size
    have z0 : w.heap.size < wr.heap.size := by omega
    rcases List.eq_nil_or_concat todo with he | ⟨l, fn, he⟩
    · subst he
      clear hCI hW hmu
      go_wp2_with fail
      go_ret
      refine ⟨⟨w.heap.size + 1, out, rfl, by omega, HW.out.out, by have := HCI.out; rw [← HN.out] at this; exact this.cld⟩, HW.out.below⟩
    · rw [List.concat_eq_append] at he
      subst he
      have hlen : (l ++ [fn]).length = l.length + 1 := by simp
      obtain ⟨m, hm⟩ : ∃ m, l.length = m := ⟨_, rfl⟩
      have HM := Lib.hid hm
      obtain ⟨ga, hga, hgl, cp⟩ := hW.at
      obtain ⟨hfnN, hfno⟩ := hCI.mem fn (by simp)
      rw [hm] at cp hlen
      have hcap := hW.room (by simp)
      have hmup := mu_pop (out := out) (todo := l) (fn := fn)
      have hml : m ≤ 7 := by simp only [muC] at hmup hmu; omega
      rw [hlen] at hcap ⊢
      have q0 := cell_block hW.box
      have HWP := Lib.hid hW.pop
      have HCP := Lib.hid (show CI p fn 0 out l by have h := hCI; rw [← HN.out] at h; exact h.pop)
      obtain ⟨F, hF⟩ : ∃ F, p[fn]? = some F := ⟨_, List.getElem?_eq_getElem hfnN⟩
      have hfo := HR.out.ok.fn F (List.mem_of_getElem? hF)
      have HFO := Lib.hid hfo
      have hF40 := hfo.c2
      obtain ⟨M, hM⟩ : ∃ M, F.code.length = M := ⟨_, rfl⟩
      obtain ⟨u, hu, d0, d1, d2⟩ := HFN.out fn F hF
      obtain ⟨FA, fcap, rfl, hFA⟩ := hu.slice
      obtain ⟨gc, hgc, hgcl, hins⟩ := hFA (by have := hfo.c1; omega)
      subst hgc
      have HINS := Lib.hid hins
      have HF := Lib.hid hF
      have HMM := Lib.hid hM
      have HWF := Lib.hid (HWH.out)
      rw [hM] at d2 hF40
      rw [HN.out] at hfnN
      have hcap2 : m ≤ cap1 := by omega
      subst hga
      have HBW := Lib.hid hW.below
      have HMUP := Lib.hid hmup
      have HMU7 := Lib.hid hmu
      have HFNO := Lib.hid hfno
      have hfn1 : (fn : Int) < N := by omega
      clear hCI hW hlen hm hmu hmup hfno hF hfo hu hFA hins hM
      go_wp2_with (first | (go_at_call 40; go_must (refine (HWF.out _ (HT.out.keeps HBW.out) (HP.out.keeps HBW.out) fn F HF.out).mono ?_; rintro e w7 ⟨⟨b, rfl, hgb, hIB⟩, hb⟩; have HX0 := Lib.hid (CX.start HWP.out hb hgb hIB); clear hgb hIB hb)))
      rw [HMM.out]
      clear q0 cp z1 z0 hgl
      have HCP2 := Lib.hid (And.intro HCP.out (show cB out fn = true from HFNO.out))
      go_loopw [4, 34] (fun v4 vi wi => ∃ (j : Nat) (A4 : Option Addr) (cap4 : Nat) (out4 : List Bool) (todo4 : List Nat), j ≤ M ∧ vi = .int .i64 (j : Int) ∧ (CI p fn j out4 todo4 ∧ cB out4 fn = true) ∧ muC out4 todo4 ≤ muC out l ∧ v4 = .slice A4 todo4.length cap4 ∧ CX w wi (.slice (some ⟨g, 0, none⟩) N cap) A4 cap4 out4 todo4 b (outL (whF F))) (fun _ vi _ => M - (intOf vi).toNat)
      case atStart => exact ⟨0, _, cap1, out, l, by omega, rfl, HCP2.out, Nat.le_refl _, by rw [HM.out], HX0.out⟩
      case round =>
        obtain ⟨j, A4, cap4, out4, todo4, hj, rfl, hCI, hmu4, rfl, hX⟩ := hrel
        have HCI4 := Lib.hid hCI
        have HX4 := Lib.hid hX
        have HMU4 := Lib.hid hmu4
        clear HX0 HCP2
        obtain ⟨wi, hwi⟩ : ∃ wi : World, wi = wr := ⟨_, rfl⟩
        subst hwi
        by_cases hjM : j = M
        · subst hjM
          clear hCI hX hmu4
          go_wp2_with fail
          go_roundg (muC out4 todo4)
          case rel => exact ⟨A4, cap4, out4, todo4, by have h := HCI4.out.1.done HF.out (by rw [HMM.out]; exact Nat.le_refl _); rw [HN.out] at h; exact h, by have := HMU4.out; have := HMUP.out; have := HMU7.out; omega, rfl, rfl, HX4.out.cw⟩
          case measure => have := HMU4.out; have := HMUP.out; omega
        · have hj1 : (j : Int) < M := by omega
          have hj2 : (0 : Int) ≤ j := by omega
          have z1 := hX.cw.size
          have z0 : w.heap.size < wi.heap.size := by omega
          have q0 := cell_block hX.cw.box
          have hgr : g < wi.heap.size := Nat.lt_of_lt_of_le hg hX.cw.below.size
          have hgcr : gc < wi.heap.size := Nat.lt_of_lt_of_le hgcl hX.cw.below.size
          have hbl := hX.row.lt
          obtain ⟨x, hx⟩ : ∃ x, F.code[j]? = some x := ⟨_, List.getElem?_eq_getElem (by rw [HMM.out]; omega)⟩
          obtain ⟨e0, e1, e2, e3, e4⟩ := HINS.out j x hx
          rw [← hX.cw.below.cell (p := ⟨gc, _, none⟩) hgcl] at e0 e1 e2 e3 e4
          have d3 := (hX.cw.below.cell (p := ⟨g, _, none⟩) hg).trans d2
          have cr := hX.row.cell (outL_get (whF_get F (pc := j) (by rw [HMM.out]; omega)))
          have HXX := Lib.hid hx
          clear hCI hX hmu4
          cases hr : rchB F j with
          | false =>
            rw [hr] at cr
            have hoi : oI (if false = true then some (posF F j) else none) = -1 := rfl
            rw [hoi] at cr
            have HRC := Lib.hid hr
            clear hr hx hoi
            go_wp2_with fail
            go_roundw
            case rel => exact ⟨j + 1, A4, cap4, out4, todo4, by omega, by go_num, ⟨HCI4.out.1.skip (fun F' x' h1 h2 h3 h4 => by rw [HF.out] at h1; obtain rfl := Option.some.inj h1; rw [HRC.out] at h2; cases h2), HCI4.out.2⟩, HMU4.out, rfl, HX4.out.keeps ((Below.refl _ _).alloc (Nat.le_refl _) _)⟩
            case measure => simp [intOf]; omega
          | true =>
            rw [hr] at cr
            have hoi : oI (if true = true then some (posF F j) else none) = (posF F j : Int) := rfl
            rw [hoi] at cr
            have HRC := Lib.hid hr
            have hio := HFO.out.ins x (List.mem_of_getElem? hx)
            have hp0 : (0 : Int) ≤ (posF F j : Int) := by omega
            have hcl := hio.call
            rw [HN.out] at hcl
            clear hr hx hoi hio
            by_cases ho : x.op = 17
            · obtain ⟨c1, c2⟩ := hcl ho
              have HO := Lib.hid ho
              obtain ⟨k, hk⟩ : ∃ k : Nat, x.imm = k := ⟨x.imm.toNat, by omega⟩
              have hkN : k < N := by omega
              rw [hk] at e4
              rw [ho] at e0
              have HK := Lib.hid hk
              have ck := HX4.out.cw.out.cell (i := k) (by rw [HCI4.out.1.len, HN.out]; exact hkN)
              have fk := HX4.out.cw.out.frozen k
              clear hcl c1 c2 ho hk
              cases hc : cB out4 k with
              | true =>
                rw [hc] at ck
                have HC := Lib.hid hc
                clear hc
                go_wp2_with fail
                go_roundw
                case rel => exact ⟨j + 1, A4, cap4, out4, todo4, by omega, by go_num, ⟨HCI4.out.1.skip (fun F' x' h1 h2 h3 h4 => by rw [HF.out] at h1; obtain rfl := Option.some.inj h1; rw [HXX.out] at h3; obtain rfl := Option.some.inj h3; rw [HK.out, Int.toNat_natCast]; exact HC.out), HCI4.out.2⟩, HMU4.out, rfl, HX4.out.keeps ((Below.refl _ _).alloc (Nat.le_refl _) _)⟩
                case measure => simp [intOf]; omega
              | false =>
                rw [hc] at ck
                have HC := Lib.hid hc
                clear hc
                have HXB := Lib.hid (HX4.out.keeps ((Below.refl wi.heap.size wi).alloc (Nat.le_refl _) (.cells #[.int .i64 17, .int .i64 x.dst, .int .i64 x.a, .int .i64 x.b, .int .i64 (k : Int)] 62)))
                have HSW := Lib.hid (World.setCell_alloc_past (w := wi) (.cells #[.int .i64 17, .int .i64 x.dst, .int .i64 x.a, .int .i64 x.b, .int .i64 (k : Int)] 62) (w.heap.size + 1) k (.bool true) z1)
                obtain ⟨T, hT⟩ : ∃ T, todo4.length = T := ⟨_, rfl⟩
                have hT7 : T ≤ 7 := by have h1 := HMU4.out; have h2 := HMUP.out; have h3 := HMU7.out; simp only [muC] at h1 h2 h3; omega
                have HTT := Lib.hid hT
                rw [hT]
                clear hT
                go_wp2_with (first | (at_builtin; go_must (refine wpList_append_own_at _ rfl _ _ 28 rfl (w.heap.size + 2) 3 i0 _ 1 8 Tryd.underlying28 hi hz0 hz1 hz2 rfl (by decide) (.slice A4 T cap4) T ((natI todo4).map (Value.int .i64)) rfl (by have := HXB.out.mid k (.bool true) (.cells #[.int .i64 (k : Int)] 3); rw [HTT.out, HSW.out] at this; exact this) ⟨wi.heap.size + 1, 0, none⟩ 1 1 [.int .i64 (k : Int)] rfl rfl (World.news_of_block (cs := #[.int .i64 (k : Int)]) (t := 3) (fr := (0, 0)) (by simpa using heap_alloc_new ((wi.setCell ⟨w.heap.size + 1, k, none⟩ (.bool true)).alloc (.cells #[.int .i64 17, .int .i64 x.dst, .int .i64 x.a, .int .i64 x.b, .int .i64 (k : Int)] 62)) (.cells #[.int .i64 (k : Int)] 3))) (by simp [Value.oneCell']) (by unfold maxLen; omega) (by omega) (by simp; omega) ?_); intro v6 w6 hown6 hg6 _ hat6; obtain ⟨A6, cap6, hv6, -⟩ := own_slice hown6; rw [hv6] at hown6 hat6; rw [hv6]; have HS6 := Lib.hid (HXB.out.push k (by rw [HTT.out, HSW.out]; exact hg6) (by rw [HTT.out]; exact hown6) (by rw [HTT.out, HSW.out]; exact hat6)); clear hown6 hg6 hat6))
                go_roundw
                case rel =>
                  have hkk : x.imm.toNat = k := by rw [HK.out]; simp
                  have hpu := HCI4.out.1.push HF.out HRC.out HXX.out HO.out HCI4.out.2 (by rw [hkk, HN.out]; exact hkN)
                  rw [hkk] at hpu
                  exact ⟨j + 1, A6, cap6, out4.set k true, todo4 ++ [k], by omega, by go_num, ⟨hpu, by rw [cB_set (by rw [HCI4.out.1.len, HN.out]; exact hkN)]; split; rfl; exact HCI4.out.2⟩, by have h1 := mu_push (p := p) (todo := todo4) HCI4.out.1.len (by rw [HN.out]; exact hkN) HC.out; have h2 := HMU4.out; omega, by simp [HTT.out], HS6.out⟩
                case measure => simp [intOf]; omega
            · have hon : (x.op == 17) = false := by simpa using ho
              have HO := Lib.hid ho
              clear ho hcl
              go_wp2_with fail
              go_roundw
              case rel => exact ⟨j + 1, A4, cap4, out4, todo4, by omega, by go_num, ⟨HCI4.out.1.skip (fun F' x' h1 h2 h3 h4 => by rw [HF.out] at h1; obtain rfl := Option.some.inj h1; rw [HXX.out] at h3; obtain rfl := Option.some.inj h3; exact absurd h4 HO.out), HCI4.out.2⟩, HMU4.out, rfl, HX4.out.keeps ((Below.refl _ _).alloc (Nat.le_refl _) _)⟩
              case measure => simp [intOf]; omega
end Go.Proofs.YtnbopmlemddakaaDoor
