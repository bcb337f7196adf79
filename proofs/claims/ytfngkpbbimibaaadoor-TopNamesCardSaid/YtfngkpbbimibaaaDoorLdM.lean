/-
  What is live, for each function of a right program; a register of a frame in memory, stored into; two states side by side in memory.
-/
import Derived.Test.YtfngkpbbimibaaaDoorLdP
import Derived.Test.YtfngkpbbimibaaaDoorStR
namespace Tier
open Go Go.RowKit
theorem live_ex {p : List Fnc} {F : Fnc} (hp : Right p) (hF : F ∈ p) : ∃ O, LiveOk p F O := by
  have key : ∀ n O, muL O ≤ n → LInv p F O → ∃ O, LiveOk p F O := fun n => by
    induction n with
    | zero =>
      intro O hn h
      refine ⟨O, h, fun pc x hr hx => ?_⟩
      by_cases e : liveV p O x pc = O.getD pc 0
      · exact e.symm
      · have := (h.step hp hF hr hx).2 e; omega
    | succ n ih =>
      intro O hn h
      by_cases hf : FixL p F O
      · exact ⟨O, h, hf⟩
      · have hex : ∃ pc x, rchB F pc = true ∧ F.code[pc]? = some x ∧ liveV p O x pc ≠ O.getD pc 0 := Classical.byContradiction fun hh => hf fun pc x hr hx => Classical.byContradiction fun e => hh ⟨pc, x, hr, hx, fun e2 => e e2.symm⟩
        obtain ⟨pc, x, hr, hx, hne⟩ := hex
        obtain ⟨h1, h2⟩ := h.step hp hF hr hx
        exact ih _ (by have := h2 hne; omega) h1
  exact key _ _ (Nat.le_refl _) (LInv.start hp hF)
open Classical in
noncomputable def liveO (p : List Fnc) (F : Fnc) : List Nat := if h : ∃ O, LiveOk p F O then Classical.choose h else []
theorem liveO_ok {p : List Fnc} {F : Fnc} (hp : Right p) (hF : F ∈ p) : LiveOk p F (liveO p F) := by
  have h := live_ex hp hF
  unfold liveO
  rw [dif_pos h]
  exact Classical.choose_spec h
theorem liveO_eq {p : List Fnc} {F : Fnc} {O : List Nat} (hp : Right p) (hF : F ∈ p) (h : LiveOk p F O) : O = liveO p F := h.unique (liveO_ok hp hF)
noncomputable def liveS (p : List Fnc) (k pc : Nat) : Nat := (liveO p (fnOf p (k : Int))).getD pc 0
theorem liveS_pre {p : List Fnc} (hp : Right p) : ∀ (k : Nat) (F : Fnc), p[k]? = some F → PreL p F (liveS p k) := fun k F hF => by
  have e : fnOf p (k : Int) = F := fnOf_get (by simpa using hF)
  have := (liveO_ok hp (List.mem_of_getElem? hF)).pre
  unfold liveS
  rw [e]
  exact this
theorem SimL.set {S : Nat → Nat → Nat} {l m : List Fr} (h : SimL S l m) : ∀ {i : Nat} {g : Fr} {r : Nat} (v : Int), m[i]? = some g → (S g.fn.toNat g.pc.toNat).testBit r = false → SimL S l (m.set i { g with regs := g.regs.set r v }) := by
  induction h with
  | nil => intro i g r v h; simp at h
  | cons h t ih =>
    rename_i f g0 l m
    intro i g r v hi hr
    cases i with
    | zero =>
      simp at hi; subst hi
      refine .cons ⟨h.fn, h.pc, h.lf, by simp [h.lg], fun q hq => ?_⟩ t
      rw [← h.regs q hq]
      show (g0.regs.set r v).getD q 0 = g0.regs.getD q 0
      rw [List.getD_eq_getElem?_getD, List.getD_eq_getElem?_getD, List.getElem?_set_ne (fun e => by subst e; rw [h.fn, h.pc, hq] at hr; cases hr)]
    | succ i => exact .cons h (ih v (by simpa using hi) hr)
def putR (t : St) (i : Nat) (f : Fr) (r : Nat) (v : Int) : St := { t with frames := t.frames.set i { f with regs := f.regs.set r v } }
theorem SimS.put {S : Nat → Nat → Nat} {s t : St} (h : SimS S s t) {i : Nat} {g : Fr} {r : Nat} (v : Int) (hi : t.frames[i]? = some g) (hr : (S g.fn.toNat g.pc.toNat).testBit r = false) : SimS S s (putR t i g r v) :=
  ⟨h.st, h.val, h.fr.set v hi hr, h.mem, h.fuel, h.ev, h.an⟩
theorem SimS.refl {S : Nat → Nat → Nat} {p : List Fnc} {s : St} (h : StInv p s) : SimS S s s :=
  ⟨rfl, rfl, SimL.of rfl fun i f g hf hg => by
    rw [hf] at hg
    obtain rfl := Option.some.inj hg
    have := (h.fr f (List.mem_of_getElem? hf)).regs
    exact ⟨rfl, rfl, this, this, fun _ _ => rfl⟩, rfl, rfl, rfl, rfl⟩
end Tier
namespace Go.Proofs.YtfngkpbbimibaaaDoor
open Go.RowKit Tier
theorem frCells_set : ∀ (l : List Fr) (i r : Nat) (f : Fr) (v : Int), (∀ x ∈ l, x.regs.length = 12) → l[i]? = some f → r < 12 → (frCells l).set (i * 14 + (2 + r)) (.int .i64 v) = frCells (l.set i { f with regs := f.regs.set r v })
  | [], i, r, f, v, _, h, _ => by simp at h
  | x :: l, 0, r, f, v, hl, h, hr => by
    simp at h; subst h
    have hx := hl x (by simp)
    show (frCell x ++ frCells l).set (0 * 14 + (2 + r)) _ = frCell { x with regs := x.regs.set r v } ++ frCells l
    rw [List.set_append_left _ _ (by rw [frCell_length hx]; omega)]
    congr 1
    unfold frCell
    rw [Nat.zero_mul, Nat.zero_add, List.set_append_right _ _ (by simp)]
    congr 1
    rw [show 2 + r - [Value.int .i64 x.fn, Value.int .i64 x.pc].length = r by simp]
    simp [List.map_set]
  | x :: l, i + 1, r, f, v, hl, h, hr => by
    have ih := frCells_set l i r f v (fun y hy => hl y (by simp [hy])) (by simpa using h) hr
    have hx := hl x (by simp)
    show (frCell x ++ frCells l).set ((i + 1) * 14 + (2 + r)) _ = frCell x ++ frCells (l.set i { f with regs := f.regs.set r v })
    rw [List.set_append_right _ _ (by rw [frCell_length hx]; omega), ← ih, frCell_length hx]
    congr 2
    omega
theorem StRows.setReg {w : World} {B : Nat} {s : St} {ES AS : Value} {g cap : Nat} (h : StRows w B s (.slice (some ⟨g, 0, none⟩) s.frames.length cap) ES AS) (hl : ∀ f ∈ s.frames, f.regs.length = 12) {i r : Nat} {f : Fr} (hf : s.frames[i]? = some f) (hr : r < 12) (v : Int) :
    StRows (w.setCell ⟨g, i * 14 + (2 + r), none⟩ (.int .i64 v)) B (putR s i f r v) (.slice (some ⟨g, 0, none⟩) s.frames.length cap) ES AS := by
  have hst := World.ownsRow.stored h.fr (i * 14 + (2 + r)) (.int .i64 v)
  rw [frCells_set s.frames i r f v hl hf hr] at hst
  have hlen : (s.frames.set i { f with regs := f.regs.set r v }).length = s.frames.length := by simp
  refine ⟨?_, h.ev.kept hst.2 (rows_apart h.ev h.fr (by decide)), ?_, h.ne⟩
  · show World.ownsRow _ _ _ _ _ (s.frames.set i { f with regs := f.regs.set r v }).length (frCells (s.frames.set i { f with regs := f.regs.set r v }))
    rw [hlen]; exact hst.1
  · obtain ⟨A, cp, h1, h2, h3⟩ := h.an
    refine ⟨A, cp, h1, h2, fun hp => ?_⟩
    obtain ⟨b, o, cur, h4, h5, h6, h7⟩ := h3 hp
    refine ⟨b, o, cur, h4, h5, ?_, h7⟩
    rw [Below.heap_setCell _ _ _ _ (fun e => ?_)]
    · exact h6
    · rcases h.fr.2 with ⟨h8, -⟩ | ⟨g', cap9, cur9, hv9, hg9, hh9, -⟩
      · simp at h8
      · simp only [Value.slice.injEq, Option.some.injEq, Addr.mk.injEq, and_true] at hv9
        obtain ⟨rfl, -⟩ := hv9
        have e2 : b = g := e
        rw [e2, hh9] at h6
        simp at h6
/-- Two states side by side: the second lies apart from all that the first is, and is like it at what is live. -/
structure LdW (w4 wr : World) (bt : Nat) (C : List Value) (S : Nat → Nat → Nat) (s1 t : St) : Prop where
  box : wr.heap[bt]? = some (.cells C.toArray 49 (0, 0))
  st : CellsSt C wr w4.heap.size t
  below : Below w4.heap.size w4 wr
  sim : SimS S s1 t
theorem LdW.keeps {w4 wr w' : World} {bt : Nat} {C : List Value} {S : Nat → Nat → Nat} {s1 t : St} (h : LdW w4 wr bt C S s1 t) (hb : Below wr.heap.size wr w') : LdW w4 w' bt C S s1 t :=
  ⟨(hb.block _ (Array.getElem?_eq_some_iff.1 h.box).1).trans h.box, h.st.below hb, h.below.trans (hb.mono h.below.size), h.sim⟩
theorem LdW.put {p : List Fnc} {w4 wr : World} {bt g cap n : Nat} {C : List Value} {S : Nat → Nat → Nat} {s1 t : St} (h : LdW w4 wr bt C S s1 t) (hi1 : StInv p s1) (hC : C[2]? = some (.slice (some ⟨g, 0, none⟩) n cap)) {i r : Nat} {f : Fr} (hf : t.frames[i]? = some f) (hr : r < 12) (v : Int) (hS : (S f.fn.toNat f.pc.toNat).testBit r = false) :
    LdW w4 (wr.setCell ⟨g, i * 14 + (2 + r), none⟩ (.int .i64 v)) bt C S s1 (putR t i f r v) := by
  obtain ⟨FS, ES, AS, rfl, hrow⟩ := h.st
  have hFS : FS = .slice (some ⟨g, 0, none⟩) n cap := by simpa [stCells] using hC
  have hn : n = t.frames.length := by
    have := hrow.fr
    rw [hFS] at this
    rcases this.2 with ⟨h8, -⟩ | ⟨g', cap9, cur9, hv9, -⟩
    · simp at h8
    · simp only [Value.slice.injEq] at hv9
      exact hv9.2.1
  subst hn
  subst hFS
  have hg := World.ownsRow.lt hrow.fr g rfl
  have hne : bt ≠ g := fun e => by
    rcases hrow.fr.2 with ⟨h8, -⟩ | ⟨g', cap9, cur9, hv9, hg9, hh9, -⟩
    · simp at h8
    · simp only [Value.slice.injEq, Option.some.injEq, Addr.mk.injEq, and_true] at hv9
      obtain ⟨rfl, -⟩ := hv9
      have := h.box
      rw [e, hh9] at this
      simp at this
  have hl : ∀ f ∈ t.frames, f.regs.length = 12 := fun f hf => ((h.sim.inv hi1).fr f hf).regs
  refine ⟨(Below.heap_setCell _ _ _ _ hne).trans h.box, ⟨_, ES, AS, rfl, hrow.setReg hl hf hr v⟩, h.below.setCell hg.1 _, h.sim.put v hf hS⟩
end Go.Proofs.YtfngkpbbimibaaaDoor
