/-
  The matrix of clashes in memory, and what apart and together make of it.
-/
import Derived.Test.YtfdppmjoinodgaaDoorOw
import Derived.Test.YtfdppmjoinodgaaDoorBkW
namespace Go.Proofs.YtfdppmjoinodgaaDoor
open Go.RowKit Tier
/-- The matrix with one pair more. -/
def addP (M : Nat → Nat → Bool) (a b : Int) : Nat → Nat → Bool := if a ≠ b ∧ 0 ≤ a ∧ 0 ≤ b then fun x y => M x y || (decide (x = a.toNat ∧ y = b.toNat) || decide (x = b.toNat ∧ y = a.toNat)) else M
/-- The rows: one of rows, and so many of bools. -/
def mRow (N j : Nat) (V : Option Nat → Value) (M : Nat → Nat → Bool) : Option Nat → RowC
  | none => ⟨41, 1, V none, N, (List.range N).map fun a => V (some a)⟩
  | some a => ⟨4, 1, V (some a), if a < j then N else 0, if a < j then (List.range N).map fun b => Value.bool (M a b) else []⟩
theorem mRow_v (N j : Nat) (V : Option Nat → Value) (M : Nat → Nat → Bool) (k : Option Nat) : (mRow N j V M k).v = V k := by cases k <;> rfl
/-- The matrix lies in memory, so many of its rows being made. -/
structure MAt (w : World) (B Lc N j : Nat) (V : Option Nat → Value) (M : Nat → Nat → Bool) : Prop where
  box : w.heap[Lc]? = some (.cells #[V none] 94 (0, 0))
  own : OwnK w B (mRow N j V M)
/-- What a step on the matrix leaves alone. -/
structure FrM (w : World) (B : Nat) (V : Option Nat → Value) (w' : World) : Prop where
  below : Below B w w'
  size : w.heap.size ≤ w'.heap.size
  kept : ∀ g, g < w.heap.size → (∀ k, (V k).ownBlock ≠ some g) → w'.heap[g]? = w.heap[g]?
section
variable {w w1 w' : World} {B Lc N j : Nat} {V : Option Nat → Value} {M : Nat → Nat → Bool}
theorem FrM.refl (w : World) (B : Nat) (V : Option Nat → Value) : FrM w B V w := ⟨Below.refl _ _, Nat.le_refl _, fun _ _ _ => rfl⟩
theorem FrM.trans (h : FrM w B V w1) (h' : FrM w1 B V w') : FrM w B V w' := ⟨h.below.trans h'.below, Nat.le_trans h.size h'.size, fun g h1 h2 => (h'.kept g (Nat.lt_of_lt_of_le h1 h.size) h2).trans (h.kept g h1 h2)⟩
theorem FrM.of_below (hB : B ≤ w.heap.size) (h : Below w.heap.size w w') : FrM w B V w' := ⟨h.mono hB, h.size, fun g h1 _ => h.block g h1⟩
theorem FrM.cell (h : FrM w B V w') {g o : Nat} (hg : g < w.heap.size) (hn : ∀ k, (V k).ownBlock ≠ some g) : w'.cell? ⟨g, o, none⟩ = w.cell? ⟨g, o, none⟩ := World.cell?_of_block (h.kept g hg hn)
theorem MAt.keeps (h : MAt w B Lc N j V M) (hb : Below w.heap.size w w') : MAt w' B Lc N j V M := ⟨(hb.block _ (block_lt h.box)).trans h.box, h.own.keeps hb⟩
theorem MAt.lt (h : MAt w B Lc N j V M) : Lc < w.heap.size := block_lt h.box
theorem MAt.cell (h : MAt w B Lc N j V M) : w.cell? ⟨Lc, 0, none⟩ = some (V none) := cell_block h.box 0
theorem mRow_ne (k : Option Nat) {t : TypeId} (h1 : t ≠ 41) (h2 : t ≠ 4) : (mRow N j V M k).e ≠ t := by
  cases k with
  | none => exact fun e => h1 e.symm
  | some a => exact fun e => h2 e.symm
/-- A block of another type is no row. -/
theorem MAt.free (h : MAt w B Lc N j V M) {g : Nat} {c : Array Value} {t : TypeId} {fr : Nat × Nat} (hg : w.heap[g]? = some (.cells c t fr)) (h1 : t ≠ 41) (h2 : t ≠ 4) (k : Option Nat) : (V k).ownBlock ≠ some g := by
  have := h.own.box hg (fun k => mRow_ne k h1 h2) k
  rw [mRow_v] at this
  exact this
theorem MAt.low (h : MAt w B Lc N j V M) {g : Nat} (hg : g < B) (k : Option Nat) : (V k).ownBlock ≠ some g := fun e => by
  have := h.own.lt (k := k) (b := g) (by rw [mRow_v]; exact e)
  omega
/-- How the row of rows reads. -/
theorem MAt.row0 (h : MAt w B Lc N j V M) (hN : 0 < N) : ∃ g cap, V none = .slice (some ⟨g, 0, none⟩) N cap ∧ g < w.heap.size ∧ (∀ a, a < N → w.cell? ⟨g, a, none⟩ = some (V (some a))) := by
  obtain ⟨A, cap, hv, -, hA⟩ := h.own.slice none
  obtain ⟨g, rfl⟩ := hA hN
  rw [mRow_v] at hv
  refine ⟨g, cap, hv, (h.own.free none (by rw [mRow_v]; exact hv) 0).2, fun a ha => ?_⟩
  refine h.own.cell none (by rw [mRow_v]; exact hv) ?_
  show ((List.range N).map fun a => V (some a))[a]? = _
  rw [List.getElem?_map, List.getElem?_range ha]; rfl
/-- .. and a row of bools. -/
theorem MAt.row (h : MAt w B Lc N j V M) {a : Nat} (ha : a < j) (hN : 0 < N) : ∃ g cap, V (some a) = .slice (some ⟨g, 0, none⟩) N cap ∧ g < w.heap.size ∧ (∀ i, w.frozen? ⟨g, i, none⟩ = false) ∧ (∀ b, b < N → w.cell? ⟨g, b, none⟩ = some (.bool (M a b))) := by
  have hn : (mRow N j V M (some a)).n = N := if_pos ha
  have hx : (mRow N j V M (some a)).xs = (List.range N).map fun b => Value.bool (M a b) := if_pos ha
  obtain ⟨A, cap, hv, -, hA⟩ := h.own.slice (some a)
  rw [hn] at hA hv
  obtain ⟨g, rfl⟩ := hA hN
  rw [mRow_v] at hv
  refine ⟨g, cap, hv, (h.own.free (some a) (by rw [mRow_v]; exact hv) 0).2, fun i => (h.own.free (some a) (by rw [mRow_v]; exact hv) i).1, fun b hb => ?_⟩
  refine h.own.cell (some a) (by rw [mRow_v]; exact hv) ?_
  rw [hx, List.getElem?_map, List.getElem?_range hb]; rfl
theorem MAt.diff (h : MAt w B Lc N j V M) {k k' : Option Nat} (hk : k ≠ k') {g g' n n' c c' : Nat} (h1 : V k = .slice (some ⟨g, 0, none⟩) n c) (h2 : V k' = .slice (some ⟨g', 0, none⟩) n' c') : g ≠ g' := fun e => by
  refine h.own.ap k k' hk g (by rw [mRow_v, h1]; rfl) ?_
  rw [mRow_v, h2, e]; rfl
/-- A cell of a row of bools is set. -/
theorem MAt.set (h : MAt w B Lc N N V M) {a b : Nat} (ha : a < N) (hb : b < N) {g n cap : Nat} (hv : V (some a) = .slice (some ⟨g, 0, none⟩) n cap) :
    MAt (w.setCell ⟨g, b, none⟩ (.bool true)) B Lc N N V (fun x y => M x y || decide (x = a ∧ y = b)) ∧ FrM w B V (w.setCell ⟨g, b, none⟩ (.bool true)) := by
  have hgk : (V (some a)).ownBlock = some g := by rw [hv]; rfl
  have hlt := h.own.lt (k := some a) (b := g) (by rw [mRow_v]; exact hgk)
  have hxl : b < (mRow N N V M (some a)).xs.length := by
    have hx : (mRow N N V M (some a)).xs = (List.range N).map fun b => Value.bool (M a b) := if_pos ha
    rw [hx]; simpa using hb
  have h1 := h.own.set (some a) (by rw [mRow_v]; exact hv) b (.bool true) hxl
  have hne : Lc ≠ g := fun e => by
    have := h.free h.box (by decide) (by decide) (some a)
    rw [e] at this
    exact this hgk
  refine ⟨⟨(Below.heap_setCell _ _ _ _ hne).trans h.box, ?_⟩, (Below.refl _ _).setCell hlt.1 _, by simp [World.setCell], fun g' _ hk => Below.heap_setCell _ _ _ _ (fun e => hk (some a) (by rw [hgk]; exact congrArg some e.symm))⟩
  have e : putK (mRow N N V M) (some a) { mRow N N V M (some a) with xs := (mRow N N V M (some a)).xs.set b (.bool true) } = mRow N N V (fun x y => M x y || decide (x = a ∧ y = b)) := by
    funext k
    cases k with
    | none => rw [putK_ne _ (by simp)]; rfl
    | some x =>
      by_cases ex : x = a
      · subst ex
        rw [putK_self]
        have hx : (mRow N N V M (some x)).xs = (List.range N).map fun b => Value.bool (M x b) := if_pos ha
        have hx2 : (mRow N N V (fun y z => M y z || decide (y = x ∧ z = b)) (some x)).xs = (List.range N).map fun z => Value.bool (M x z || decide (x = x ∧ z = b)) := if_pos ha
        have hxs : (mRow N N V M (some x)).xs.set b (.bool true) = (mRow N N V (fun y z => M y z || decide (y = x ∧ z = b)) (some x)).xs := by
          rw [hx, hx2]
          refine List.ext_getElem? (fun i => ?_)
          rw [List.getElem?_set, List.getElem?_map, List.getElem?_map]
          by_cases ei : b = i
          · subst ei
            rw [if_pos rfl, List.getElem?_range hb]
            simp [hb]
          · rw [if_neg ei]
            by_cases hi : i < N
            · rw [List.getElem?_range hi]
              have e3 : ¬ i = b := fun e => ei e.symm
              simp [e3]
            · rw [List.getElem?_eq_none (by simpa using hi)]; rfl
        have key : ∀ (A C : RowC), A.e = C.e → A.size = C.size → A.v = C.v → A.n = C.n → A.xs = C.xs → A = C := fun A C h1 h2 h3 h4 h5 => by
          cases A; cases C; simp only at h1 h2 h3 h4 h5; subst h1 h2 h3 h4 h5; rfl
        exact key _ _ rfl rfl rfl rfl hxs
      · rw [putK_ne _ (by simpa using ex)]
        have key : ∀ z, (M x z || decide (x = a ∧ z = b)) = M x z := fun z => by simp [ex]
        show (⟨_, _, _, _, _⟩ : RowC) = ⟨_, _, _, _, _⟩
        simp only [key]
  rw [e] at h1
  exact h1
end
/-- A pair is laid into the matrix. -/
theorem MAt.add {w : World} {B Lc N : Nat} {V : Option Nat → Value} {M : Nat → Nat → Bool} (h : MAt w B Lc N N V M) {a b : Nat} (ha : a < N) (hb : b < N) (hab : a ≠ b) {g g' n n' c c' : Nat} (h1 : V (some a) = .slice (some ⟨g, 0, none⟩) n c) (h2 : V (some b) = .slice (some ⟨g', 0, none⟩) n' c') :
    MAt ((w.setCell ⟨g, b, none⟩ (.bool true)).setCell ⟨g', a, none⟩ (.bool true)) B Lc N N V (addP M a b) ∧ FrM w B V ((w.setCell ⟨g, b, none⟩ (.bool true)).setCell ⟨g', a, none⟩ (.bool true)) := by
  obtain ⟨q1, q2⟩ := h.set ha hb h1
  obtain ⟨q3, q4⟩ := q1.set hb ha h2
  refine ⟨?_, q2.trans q4⟩
  have e : addP M (a : Int) (b : Int) = fun x y => (M x y || decide (x = a ∧ y = b)) || decide (x = b ∧ y = a) := by
    unfold addP
    rw [if_pos ⟨by omega, by omega, by omega⟩]
    funext x y
    simp only [Int.toNat_natCast, Bool.or_assoc]
  rw [e]; exact q3
set_option maxRecDepth 100000 in
set_option maxHeartbeats 8000000 in
/-- place.apart. -/
theorem apart_any (B Lc N : Nat) (V : Option Nat → Value) (M : Nat → Nat → Bool) (a b : Int) (w : World) (h : MAt w B Lc N N V M) (hN : N ≤ 100000) (ha : a < N) (hb : b < N) :
    Calls Tryd.prog 84 #[.pointer (some ⟨Lc, 0, none⟩), .int .i64 a, .int .i64 b] w fun e w' => e = .returned (.tuple #[]) ∧ MAt w' B Lc N N V (addP M a b) ∧ FrM w B V w' := by
  have HM := Lib.hid h
  by_cases hc : a ≠ b ∧ 0 ≤ a ∧ 0 ≤ b
  · obtain ⟨hab, ha0, hb0⟩ := hc
    obtain ⟨x, rfl⟩ : ∃ x : Nat, a = x := ⟨a.toNat, by omega⟩
    obtain ⟨y, rfl⟩ : ∃ y : Nat, b = y := ⟨b.toNat, by omega⟩
    have hxN : x < N := by omega
    have hyN : y < N := by omega
    obtain ⟨g0, cp, hv0, zg0, hc0⟩ := h.row0 (by omega)
    obtain ⟨ga, ca, hva, zga, fza, hca⟩ := h.row hxN (by omega)
    obtain ⟨gb, cb, hvb, zgb, fzb, hcb⟩ := h.row hyN (by omega)
    have q0 := h.cell
    have z0 := h.lt
    have q1 := hc0 x hxN
    have q2 := hc0 y hyN
    rw [hv0] at q0
    rw [hva] at q1
    rw [hvb] at q2
    have q3 := hca y hyN
    have q4 := hcb x hxN
    have f3 := fza y
    have f4 := fzb x
    have HNG := Lib.hid (h.diff (k := some x) (k' := some y) (by simp; omega) hva hvb)
    have hbs := (h.own.lt (k := some x) (b := ga) (by rw [mRow_v, hva]; rfl)).1
    have HBS := Lib.hid (show B ≤ w.heap.size by omega)
    clear hbs
    have HADD := Lib.hid (fun (W : World) (hW : MAt W B Lc N N V M) => hW.add hxN hyN (by omega) hva hvb)
    have HV0 := Lib.hid hv0
    have HVA := Lib.hid hva
    have HVB := Lib.hid hvb
    have hab1 : ((x : Int) == y) = false := beq_eq_false_iff_ne.2 hab
    have hab2 : ((x : Int) != y) = true := by rw [bne, hab1]; rfl
    obtain ⟨u3, hu3⟩ : ∃ u, M x y = u := ⟨_, rfl⟩
    obtain ⟨u4, hu4⟩ : ∃ u, M y x = u := ⟨_, rfl⟩
    rw [hu3] at q3
    rw [hu4] at q4
    have KS := Lib.hid (fun (W : World) (hW : ∃ M', MAt W B Lc N N V M') => (by
      obtain ⟨M', h'⟩ := hW
      obtain ⟨g', c', e1, -, e3⟩ := h'.row0 (by omega)
      rw [HV0.out] at e1
      have eg : g0 = g' := by simp only [Value.slice.injEq, Option.some.injEq, Addr.mk.injEq] at e1; exact e1.1.1
      subst eg
      exact ⟨h'.cell.trans (by rw [HV0.out]), (e3 x hxN).trans (by rw [HVA.out]), (e3 y hyN).trans (by rw [HVB.out])⟩ :
      W.cell? ⟨Lc, 0, none⟩ = some (.slice (some ⟨g0, 0, none⟩) N cp) ∧ W.cell? ⟨g0, x, none⟩ = some (.slice (some ⟨ga, 0, none⟩) N ca) ∧ W.cell? ⟨g0, y, none⟩ = some (.slice (some ⟨gb, 0, none⟩) N cb)))
    have HS1 := Lib.hid (fun (W : World) (hW : MAt W B Lc N N V M) => hW.set hxN hyN hva)
    have q4' : ∀ (v : Value), (w.setCell ⟨ga, y, none⟩ v).cell? ⟨gb, x, none⟩ = some (.bool u4) := fun v => (World.cell?_of_block (Below.heap_setCell _ _ _ _ (fun e => HNG.out e.symm))).trans q4
    have f4' : ∀ (v : Value), (w.setCell ⟨ga, y, none⟩ v).frozen? ⟨gb, x, none⟩ = false := fun v => (World.frozen?_of_block (Below.heap_setCell _ _ _ _ (fun e => HNG.out e.symm))).trans f4
    have Q4 := Lib.hid q4'
    have F4 := Lib.hid f4'
    have hx1 : (x : Int) < N := by omega
    have hy1 : (y : Int) < N := by omega
    clear h hc0 hca hcb fza fzb hv0 hva hvb hu3 hu4 q4' f4' hab ha hb
    go_enter Tryd.func84, Tryd.ntmps84
    go_upto_region 1 with fail
    refine wp_region_held_drew (S := fun w' => w'.cell? ⟨Lc, 0, none⟩ = some (.slice (some ⟨g0, 0, none⟩) N cp) ∧ w'.cell? ⟨g0, x, none⟩ = some (.slice (some ⟨ga, 0, none⟩) N ca) ∧ w'.cell? ⟨g0, y, none⟩ = some (.slice (some ⟨gb, 0, none⟩) N cb)) (by kernel_rfl) ⟨q0, q1, q2⟩ (fun hHeld => ?_)
    clear q0 q1 q2
    refine wpAnyH_take (i := 0) (v := .pointer (some ⟨Lc, 0, none⟩)) rfl (by kernel_rfl) (by kernel_rfl) (by kernel_rfl) (fun _ _ _ h => h) (Or.inl ⟨by rfl, ?_⟩) hHeld ?_
    · intro w hSw
      simp only [List.getElem_toArray, List.getElem_cons_zero]
      go_simp
    simp only [Act.put, List.getElem_toArray, List.getElem_cons_zero, List.setIfInBounds_toArray, List.set_cons_zero, List.set_cons_succ]
    refine wpAnyH_take (i := 1) (v := .pointer (some ⟨Lc, 0, none⟩)) rfl (by kernel_rfl) (by kernel_rfl) (by kernel_rfl) (fun _ _ _ h => h) (Or.inl ⟨by rfl, ?_⟩) hHeld ?_
    · intro w hSw
      simp only [List.getElem_toArray, List.getElem_cons_zero, List.getElem_cons_succ]
      go_simp
    simp only [Act.put, List.getElem_toArray, List.getElem_cons_zero, List.getElem_cons_succ, List.setIfInBounds_toArray, List.set_cons_zero, List.set_cons_succ]
    refine wpAnyH_take (i := 2) (v := .pointer (some ⟨Lc, 0, none⟩)) rfl (by kernel_rfl) (by kernel_rfl) (by kernel_rfl) (fun _ _ _ h => h) (Or.inl ⟨by rfl, ?_⟩) hHeld ?_
    · intro w hSw
      simp only [List.getElem_toArray, List.getElem_cons_zero, List.getElem_cons_succ]
      go_simp
    simp only [Act.put, List.getElem_toArray, List.getElem_cons_zero, List.getElem_cons_succ, List.setIfInBounds_toArray, List.set_cons_zero, List.set_cons_succ]
    refine wpAnyH_take (i := 3) (v := .slice (some ⟨g0, 0, none⟩) N cp) rfl (by kernel_rfl) (by kernel_rfl) (by kernel_rfl) (fun _ _ _ h => h) (Or.inl ⟨by rfl, ?_⟩) hHeld ?_
    · intro w hSw
      obtain ⟨p0, p1, p2⟩ := hSw
      simp only [List.getElem_toArray, List.getElem_cons_zero, List.getElem_cons_succ]
      go_simp
    simp only [Act.put, List.getElem_toArray, List.getElem_cons_zero, List.getElem_cons_succ, List.setIfInBounds_toArray, List.set_cons_zero, List.set_cons_succ]
    refine wpAnyH_take (i := 4) (v := .int .i64 (x : Int)) rfl (by kernel_rfl) (by kernel_rfl) (by kernel_rfl) (fun _ _ _ h => h) (Or.inl ⟨by rfl, ?_⟩) hHeld ?_
    · intro w hSw
      simp only [List.getElem_toArray, List.getElem_cons_zero, List.getElem_cons_succ]
      go_simp
    simp only [Act.put, List.getElem_toArray, List.getElem_cons_zero, List.getElem_cons_succ, List.setIfInBounds_toArray, List.set_cons_zero, List.set_cons_succ]
    refine wpAnyH_take (i := 5) (v := .pointer (some ⟨g0, x, none⟩)) rfl (by kernel_rfl) (by kernel_rfl) (by kernel_rfl) (fun _ _ _ h => h) (Or.inl ⟨by rfl, ?_⟩) hHeld ?_
    · intro w hSw
      simp only [List.getElem_toArray, List.getElem_cons_zero, List.getElem_cons_succ]
      go_simp
    simp only [Act.put, List.getElem_toArray, List.getElem_cons_zero, List.getElem_cons_succ, List.setIfInBounds_toArray, List.set_cons_zero, List.set_cons_succ]
    refine wpAnyH_take (i := 6) (v := .slice (some ⟨ga, 0, none⟩) N ca) rfl (by kernel_rfl) (by kernel_rfl) (by kernel_rfl) (fun _ _ _ h => h) (Or.inl ⟨by rfl, ?_⟩) hHeld ?_
    · intro w hSw
      obtain ⟨p0, p1, p2⟩ := hSw
      simp only [List.getElem_toArray, List.getElem_cons_zero, List.getElem_cons_succ]
      go_simp
    simp only [Act.put, List.getElem_toArray, List.getElem_cons_zero, List.getElem_cons_succ, List.setIfInBounds_toArray, List.set_cons_zero, List.set_cons_succ]
    refine wpAnyH_take (i := 7) (v := .int .i64 (y : Int)) rfl (by kernel_rfl) (by kernel_rfl) (by kernel_rfl) (fun _ _ _ h => h) (Or.inl ⟨by rfl, ?_⟩) hHeld ?_
    · intro w hSw
      simp only [List.getElem_toArray, List.getElem_cons_zero, List.getElem_cons_succ]
      go_simp
    simp only [Act.put, List.getElem_toArray, List.getElem_cons_zero, List.getElem_cons_succ, List.setIfInBounds_toArray, List.set_cons_zero, List.set_cons_succ]
    refine wpAnyH_take (i := 8) (v := .pointer (some ⟨Lc, 0, none⟩)) rfl (by kernel_rfl) (by kernel_rfl) (by kernel_rfl) (fun _ _ _ h => h) (Or.inl ⟨by rfl, ?_⟩) hHeld ?_
    · intro w hSw
      simp only [List.getElem_toArray, List.getElem_cons_zero, List.getElem_cons_succ]
      go_simp
    simp only [Act.put, List.getElem_toArray, List.getElem_cons_zero, List.getElem_cons_succ, List.setIfInBounds_toArray, List.set_cons_zero, List.set_cons_succ]
    refine wpAnyH_take (i := 9) (v := .pointer (some ⟨Lc, 0, none⟩)) rfl (by kernel_rfl) (by kernel_rfl) (by kernel_rfl) (fun _ _ _ h => h) (Or.inl ⟨by rfl, ?_⟩) hHeld ?_
    · intro w hSw
      simp only [List.getElem_toArray, List.getElem_cons_zero, List.getElem_cons_succ]
      go_simp
    simp only [Act.put, List.getElem_toArray, List.getElem_cons_zero, List.getElem_cons_succ, List.setIfInBounds_toArray, List.set_cons_zero, List.set_cons_succ]
    refine wpAnyH_take (i := 10) (v := .pointer (some ⟨Lc, 0, none⟩)) rfl (by kernel_rfl) (by kernel_rfl) (by kernel_rfl) (fun _ _ _ h => h) (Or.inl ⟨by rfl, ?_⟩) hHeld ?_
    · intro w hSw
      simp only [List.getElem_toArray, List.getElem_cons_zero, List.getElem_cons_succ]
      go_simp
    simp only [Act.put, List.getElem_toArray, List.getElem_cons_zero, List.getElem_cons_succ, List.setIfInBounds_toArray, List.set_cons_zero, List.set_cons_succ]
    refine wpAnyH_take (i := 11) (v := .slice (some ⟨g0, 0, none⟩) N cp) rfl (by kernel_rfl) (by kernel_rfl) (by kernel_rfl) (fun _ _ _ h => h) (Or.inl ⟨by rfl, ?_⟩) hHeld ?_
    · intro w hSw
      obtain ⟨p0, p1, p2⟩ := hSw
      simp only [List.getElem_toArray, List.getElem_cons_zero, List.getElem_cons_succ]
      go_simp
    simp only [Act.put, List.getElem_toArray, List.getElem_cons_zero, List.getElem_cons_succ, List.setIfInBounds_toArray, List.set_cons_zero, List.set_cons_succ]
    refine wpAnyH_take (i := 12) (v := .int .i64 (y : Int)) rfl (by kernel_rfl) (by kernel_rfl) (by kernel_rfl) (fun _ _ _ h => h) (Or.inl ⟨by rfl, ?_⟩) hHeld ?_
    · intro w hSw
      simp only [List.getElem_toArray, List.getElem_cons_zero, List.getElem_cons_succ]
      go_simp
    simp only [Act.put, List.getElem_toArray, List.getElem_cons_zero, List.getElem_cons_succ, List.setIfInBounds_toArray, List.set_cons_zero, List.set_cons_succ]
    refine wpAnyH_take (i := 13) (v := .pointer (some ⟨g0, y, none⟩)) rfl (by kernel_rfl) (by kernel_rfl) (by kernel_rfl) (fun _ _ _ h => h) (Or.inl ⟨by rfl, ?_⟩) hHeld ?_
    · intro w hSw
      simp only [List.getElem_toArray, List.getElem_cons_zero, List.getElem_cons_succ]
      go_simp
    simp only [Act.put, List.getElem_toArray, List.getElem_cons_zero, List.getElem_cons_succ, List.setIfInBounds_toArray, List.set_cons_zero, List.set_cons_succ]
    refine wpAnyH_take (i := 14) (v := .slice (some ⟨gb, 0, none⟩) N cb) rfl (by kernel_rfl) (by kernel_rfl) (by kernel_rfl) (fun _ _ _ h => h) (Or.inl ⟨by rfl, ?_⟩) hHeld ?_
    · intro w hSw
      obtain ⟨p0, p1, p2⟩ := hSw
      simp only [List.getElem_toArray, List.getElem_cons_zero, List.getElem_cons_succ]
      go_simp
    simp only [Act.put, List.getElem_toArray, List.getElem_cons_zero, List.getElem_cons_succ, List.setIfInBounds_toArray, List.set_cons_zero, List.set_cons_succ]
    refine wpAnyH_take (i := 15) (v := .int .i64 (x : Int)) rfl (by kernel_rfl) (by kernel_rfl) (by kernel_rfl) (fun _ _ _ h => h) (Or.inl ⟨by rfl, ?_⟩) hHeld ?_
    · intro w hSw
      simp only [List.getElem_toArray, List.getElem_cons_zero, List.getElem_cons_succ]
      go_simp
    simp only [Act.put, List.getElem_toArray, List.getElem_cons_zero, List.getElem_cons_succ, List.setIfInBounds_toArray, List.set_cons_zero, List.set_cons_succ]
    refine wpAnyH_take (i := 16) (v := .pointer (some ⟨ga, y, none⟩)) rfl (by kernel_rfl) (by kernel_rfl) (by kernel_rfl) (fun _ _ _ h => h) (Or.inl ⟨by rfl, ?_⟩) hHeld ?_
    · intro w hSw
      simp only [List.getElem_toArray, List.getElem_cons_zero, List.getElem_cons_succ]
      go_simp
    simp only [Act.put, List.getElem_toArray, List.getElem_cons_zero, List.getElem_cons_succ, List.setIfInBounds_toArray, List.set_cons_zero, List.set_cons_succ]
    refine wpAnyH_ready (rs := [17]) (by kernel_rfl) (by simp) ?_
    refine AllReadyH.cons rfl (fun K hK => ?_) AllReadyH.nil
    simp only [List.getElem_toArray, List.getElem_cons_zero, List.getElem_cons_succ]
    go_simp
    refine hK.out _ _ (KS.out _ ⟨_, (HS1.out _ (HM.out.keeps (Below.refl _ _).drew)).1⟩) (fun hHeld => ?_)
    clear hK K
    refine wpAnyH_take (i := 18) (v := .pointer (some ⟨gb, x, none⟩)) rfl (by kernel_rfl) (by kernel_rfl) (by kernel_rfl) (fun _ _ _ h => h) (Or.inl ⟨by rfl, ?_⟩) hHeld ?_
    · intro w hSw
      simp only [List.getElem_toArray, List.getElem_cons_zero, List.getElem_cons_succ]
      go_simp
    simp only [Act.put, List.getElem_toArray, List.getElem_cons_zero, List.getElem_cons_succ, List.setIfInBounds_toArray, List.set_cons_zero, List.set_cons_succ]
    refine wpAnyH_ready (rs := [19]) (by kernel_rfl) (by simp) ?_
    refine AllReadyH.cons rfl (fun K hK => ?_) AllReadyH.nil
    simp only [List.getElem_toArray, List.getElem_cons_zero, List.getElem_cons_succ]
    have q5 := Q4.out (.bool true)
    have f5 := F4.out (.bool true)
    go_simp
    refine hK.out _ _ (KS.out _ ⟨_, (HADD.out _ (HM.out.keeps (Below.refl _ _).drew)).1⟩) (fun hHeld => ?_)
    clear hK K
    clear hHeld
    refine wpAnyH_done (by kernel_rfl) ?_ _
    go_wp2_with fail
    refine bodyPost_end (v := .tuple #[]) (by simp [results, Tryd.results84]) rfl ⟨rfl, (HADD.out _ (HM.out.keeps (Below.refl _ _).drew)).1, (FrM.of_below HBS.out (Below.refl _ _).drew).trans (HADD.out _ (HM.out.keeps (Below.refl _ _).drew)).2⟩
  · have hM : addP M a b = M := if_neg hc
    rw [hM]
    clear h
    go_enter Tryd.func84, Tryd.ntmps84
    by_cases e1 : a = b
    · have h1 : (a == b) = true := beq_iff_eq.2 e1
      have h2 : (a != b) = false := by rw [bne, h1]; rfl
      clear e1 hc
      go_wp2_with fail
      refine bodyPost_end (v := .tuple #[]) (by simp [results, Tryd.results84]) rfl ⟨rfl, HM.out, FrM.refl _ _ _⟩
    · have h1 : (a == b) = false := beq_eq_false_iff_ne.2 e1
      have h2 : (a != b) = true := by rw [bne, h1]; rfl
      by_cases e2 : 0 ≤ a
      · have e3 : ¬ 0 ≤ b := fun h => hc ⟨e1, e2, h⟩
        have d1 : decide (a ≥ 0) = true := decide_eq_true e2
        have d2 : decide (b ≥ 0) = false := decide_eq_false e3
        clear e1 e2 e3 hc
        go_wp2_with fail
        refine bodyPost_end (v := .tuple #[]) (by simp [results, Tryd.results84]) rfl ⟨rfl, HM.out, FrM.refl _ _ _⟩
      · have d1 : decide (a ≥ 0) = false := decide_eq_false e2
        clear e1 e2 hc
        go_wp2_with fail
        refine bodyPost_end (v := .tuple #[]) (by simp [results, Tryd.results84]) rfl ⟨rfl, HM.out, FrM.refl _ _ _⟩
/-- One value with so many of a list. -/
def inTo (M : Nat → Nat → Bool) (z : Int) (l : List Int) (j : Nat) : Nat → Nat → Bool := (List.range j).foldl (fun M j => addP M z (l.getD j 0)) M
theorem inTo_succ (M : Nat → Nat → Bool) (z : Int) (l : List Int) (j : Nat) : inTo M z l (j + 1) = addP (inTo M z l j) z (l.getD j 0) := by
  unfold inTo
  rw [List.range_succ, List.foldl_append]; rfl
/-- The first so many of a list, together. -/
def togTo (M : Nat → Nat → Bool) (l : List Int) (made : Int) : Nat → Nat → Nat → Bool
  | 0 => M
  | i + 1 => inTo (addP (togTo M l made i) (l.getD i 0) made) (l.getD i 0) l i
set_option maxRecDepth 100000 in
set_option maxHeartbeats 8000000 in
/-- place.together. -/
theorem together_any (B Lc N : Nat) (V : Option Nat → Value) (M : Nat → Nat → Bool) (l : List Int) (A : Option Addr) (cap : Nat) (made : Int) (w : World) (h : MAt w B Lc N N V M) (hN : N ≤ 100000)
    (hrow : 0 < l.length → ∃ g, A = some ⟨g, 0, none⟩ ∧ g < w.heap.size ∧ (∀ k, (V k).ownBlock ≠ some g) ∧ ∀ (i : Nat) (z : Int), l[i]? = some z → w.cell? ⟨g, i, none⟩ = some (.int .i64 z)) (hcap : l.length ≤ cap) (hl : l.length ≤ 1000) (hz : ∀ z ∈ l, z < N) (hm : made < N) :
    Calls Tryd.prog 53 #[.pointer (some ⟨Lc, 0, none⟩), .slice A l.length cap, .int .i64 made] w fun e w' => e = .returned (.tuple #[]) ∧ MAt w' B Lc N N V (togTo M l made l.length) ∧ FrM w B V w' := by
  have HM := Lib.hid h
  have HZ := Lib.hid hz
  have HROW := Lib.hid hrow
  have HAP := Lib.hid (fun (W : World) (M' : Nat → Nat → Bool) (hW : MAt W B Lc N N V M') (a b : Int) (ha : a < N) (hb : b < N) => apart_any B Lc N V M' a b W hW hN ha hb)
  obtain ⟨n, hn⟩ : ∃ n, l.length = n := ⟨_, rfl⟩
  rw [hn] at HROW hcap hl ⊢
  have HN := Lib.hid hn
  clear h hrow hz hn
  go_enter Tryd.func53, Tryd.ntmps53
  go_wp2_with fail
  go_loopw [12] (fun v12 wr => ∃ i : Nat, i ≤ n ∧ v12 = .int .i64 (i : Int) ∧ MAt wr B Lc N N V (togTo M l made i) ∧ FrM w B V wr) (fun v12 _ => n - (intOf v12).toNat)
  case atStart => exact ⟨0, by omega, rfl, HM.out, FrM.refl _ _ _⟩
  case round =>
    obtain ⟨i, hi, rfl, hmt, hfr⟩ := hrel
    have HMT := Lib.hid hmt
    have HFR := Lib.hid hfr
    clear hmt
    by_cases hi0 : i = n
    · have hi0' := hi0.symm
      subst hi0'
      clear hfr
      go_wp2_with fail
      refine bodyPost_end (v := .tuple #[]) (by simp [results, Tryd.results53]) rfl ⟨rfl, HMT.out, HFR.out⟩
    · have hi1 : (i : Int) < n := by omega
      have hi2 : (0 : Int) ≤ i := by omega
      obtain ⟨g, rfl, hg, hgk, hgc⟩ := HROW.out (by omega)
      obtain ⟨z, hz⟩ : ∃ z, l[i]? = some z := ⟨_, List.getElem?_eq_getElem (by rw [HN.out]; omega)⟩
      have q0 : wr.cell? ⟨g, i, none⟩ = some (.int .i64 z) := (hfr.cell hg hgk).trans (hgc i z hz)
      have zg := Nat.lt_of_lt_of_le hg hfr.size
      have hzd : l.getD i 0 = z := by rw [List.getD_eq_getElem?_getD, hz]; rfl
      have hzN : z < N := HZ.out z (List.mem_of_getElem? hz)
      have HSU := Lib.hid (show togTo M l made (i + 1) = inTo (addP (togTo M l made i) z made) z l i by show inTo (addP _ (l.getD i 0) made) (l.getD i 0) l i = _; rw [hzd])
      have HGK := Lib.hid hgk
      have HGC := Lib.hid hgc
      have HA1 := Lib.hid (HAP.out wr _ HMT.out z made hzN hm)
      have hic : (i : Int) ≤ cap := by omega
      clear hz hzd hgk hgc hfr hi0
      go_wp2_with (go_at_call 84; go_must (refine HA1.out.mono ?_; rintro e w5 ⟨rfl, hm5, hf5⟩; have HM5 := Lib.hid hm5; have HF5 := Lib.hid (HFR.out.trans hf5); clear hm5 hf5 q0 zg))
      have HI0 := Lib.hid (show inTo (addP (togTo M l made i) z made) z l 0 = addP (togTo M l made i) z made from rfl)
      go_loopw [25] (fun v25 wq => ∃ j : Nat, j ≤ i ∧ v25 = .int .i64 (j : Int) ∧ MAt wq B Lc N N V (inTo (addP (togTo M l made i) z made) z l j) ∧ FrM w B V wq) (fun v25 _ => i - (intOf v25).toNat)
      case atStart => exact ⟨0, by omega, rfl, by rw [HI0.out]; exact HM5.out, HF5.out⟩
      case round =>
        obtain ⟨j, hj, rfl, hmq, hfq⟩ := hrel
        rename World => wq
        have HMQ := Lib.hid hmq
        have HFQ := Lib.hid hfq
        by_cases hj0 : j = i
        · have HJ := Lib.hid hj0
          have hj1 : ¬ (j : Int) < i := by omega
          clear hmq hfq hj0
          go_wp2_with fail
          go_roundw
          case rel => exact ⟨i + 1, by omega, by go_num, by rw [HSU.out, ← HJ.out]; exact HJ.out ▸ HMQ.out, HFQ.out⟩
          case measure => simp [intOf]; omega
        · have hj1 : (j : Int) < i := by omega
          have hj2 : (0 : Int) ≤ j := by omega
          obtain ⟨y, hy⟩ : ∃ z, l[j]? = some z := ⟨_, List.getElem?_eq_getElem (by rw [HN.out]; omega)⟩
          have q0 : wq.cell? ⟨g, j, none⟩ = some (.int .i64 y) := (hfq.cell hg HGK.out).trans (HGC.out j y hy)
          have zg := Nat.lt_of_lt_of_le hg hfq.size
          have hyN : y < N := HZ.out y (List.mem_of_getElem? hy)
          have HSJ := Lib.hid (show inTo (addP (togTo M l made i) z made) z l (j + 1) = addP (inTo (addP (togTo M l made i) z made) z l j) z y by rw [inTo_succ, List.getD_eq_getElem?_getD, hy]; rfl)
          have HA2 := Lib.hid (HAP.out wq _ HMQ.out z y hzN hyN)
          clear hmq hfq hy hj0
          go_wp2_with (go_at_call 84; go_must (refine HA2.out.mono ?_; rintro e w6 ⟨rfl, hm6, hf6⟩; have HM6 := Lib.hid hm6; have HF6 := Lib.hid (HFQ.out.trans hf6); clear hm6 hf6))
          go_roundw
          case rel => exact ⟨j + 1, by omega, by go_num, by rw [HSJ.out]; exact HM6.out, HF6.out⟩
          case measure => simp [intOf]; omega
end Go.Proofs.YtfdppmjoinodgaaDoor
