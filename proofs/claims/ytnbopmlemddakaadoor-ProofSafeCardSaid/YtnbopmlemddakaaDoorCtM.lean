/-
  What profile.Counts' own memory is between two steps: a row of rows of numbers, beside the state.
-/
import Derived.Test.YtnbopmlemddakaaDoorCtP
import Derived.Test.YtnbopmlemddakaaDoorSu3
namespace Go.Proofs.YtnbopmlemddakaaDoor
open Go.RowKit Tier
theorem own_from {w w' : World} {B : Nat} {e : TypeId} {size : Nat} {v : Value} {n : Nat} {xs : List Value} (h : w.ownsRow B e size v n xs) (hk : ∀ (k : Nat) (o : Obj), B ≤ k → w.heap[k]? = some o → w'.heap[k]? = some o) : w'.ownsRow B e size v n xs := by
  obtain ⟨h1, h2⟩ := h
  refine ⟨h1, ?_⟩
  rcases h2 with h2 | ⟨g, cap, cur, hv, hg, hh, r⟩
  · exact .inl h2
  · exact .inr ⟨g, cap, cur, hv, hg, hk g _ hg hh, r⟩
theorem num_from {w w' : World} {B : Nat} {v : Value} {l : List Int} (h : NumAt w B v l) (hk : ∀ (k : Nat) (o : Obj), B ≤ k → w.heap[k]? = some o → w'.heap[k]? = some o) : NumAt w' B v l := by
  obtain ⟨A, cap, h1, h2, h3⟩ := h
  refine ⟨A, cap, h1, h2, fun hl => ?_⟩
  obtain ⟨b, o, cur, h4, h5, h6, h7⟩ := h3 hl
  exact ⟨b, o, cur, h4, h5, hk b _ h5 h6, h7⟩
theorem cells_from {C : List Value} {w w' : World} {B : Nat} {s : St} (h : CellsSt C w B s) (hk : ∀ (k : Nat) (o : Obj), B ≤ k → w.heap[k]? = some o → w'.heap[k]? = some o) : CellsSt C w' B s := by
  obtain ⟨FS, ES, AS, h1, h2⟩ := h
  exact ⟨FS, ES, AS, h1, own_from h2.fr hk, own_from h2.ev hk, num_from h2.an hk, h2.ne⟩
/-- All blocks but X are as they were. -/
def Off (X : List Nat) (w w' : World) : Prop := ∀ (k : Nat) (o : Obj), k ∉ X → w.heap[k]? = some o → w'.heap[k]? = some o
theorem Off.refl (X : List Nat) (w : World) : Off X w w := fun _ _ _ h => h
theorem Off.trans {X : List Nat} {a b c : World} (h1 : Off X a b) (h2 : Off X b c) : Off X a c := fun k o hk h => h2 k o hk (h1 k o hk h)
theorem Off.below {X : List Nat} {w w' : World} (h : Below w.heap.size w w') : Off X w w' := fun k _ _ hk => (h.block k (Array.getElem?_eq_some_iff.1 hk).1).trans hk
theorem heap_setCell_ne (w : World) {b k : Nat} (h : k ≠ b) (i : Nat) (v : Value) : (w.setCell ⟨b, i, none⟩ v).heap[k]? = w.heap[k]? := by
  simp [World.setCell, Array.getElem?_modify, Ne.symm h]
theorem Off.setCell {X : List Nat} {w : World} {b : Nat} (hb : b ∈ X) (i : Nat) (v : Value) : Off X w (w.setCell ⟨b, i, none⟩ v) := fun k o hk h => by
  rw [heap_setCell_ne w (fun e => hk (by rw [e]; exact hb))]; exact h
theorem heap_setCells_ne {b k : Nat} (h : k ≠ b) : ∀ (vs : List Value) (w : World) (i : Nat), (w.setCells b i vs).heap[k]? = w.heap[k]?
  | [], _, _ => rfl
  | v :: vs, w, i => (heap_setCells_ne h vs _ (i + 1)).trans (heap_setCell_ne w h i v)
def outRow (bs : List Nat) (cs : List (List Int)) : List Value := List.zipWith (fun b (c : List Int) => Value.slice (some ⟨b, 0, none⟩) c.length c.length) bs cs
theorem outRow_get {bs : List Nat} {cs : List (List Int)} {i b : Nat} {c : List Int} (hb : bs[i]? = some b) (hc : cs[i]? = some c) : (outRow bs cs)[i]? = some (.slice (some ⟨b, 0, none⟩) c.length c.length) := by
  unfold outRow
  simp [List.getElem?_zipWith, hb, hc]
theorem outRow_set {bs : List Nat} {cs : List (List Int)} {i : Nat} {c c' : List Int} (hc : cs[i]? = some c) (hl : c'.length = c.length) : outRow bs (cs.set i c') = outRow bs cs := by
  unfold outRow
  apply List.ext_getElem?
  intro j
  simp only [List.getElem?_zipWith]
  by_cases hj : i = j
  · subst hj
    rw [List.getElem?_set_self (List.getElem?_eq_some_iff.1 hc).1, hc]
    cases bs[i]? <;> simp [hl]
  · rw [List.getElem?_set_ne hj]
/-- A row of rows of numbers. -/
structure OutAt (w : World) (g : Nat) (bs : List Nat) (cs : List (List Int)) : Prop where
  row : w.heap[g]? = some (.cells (outRow bs cs).toArray 28 (0, 0))
  blen : bs.length = cs.length
  blk : ∀ (i b : Nat) (c : List Int), bs[i]? = some b → cs[i]? = some c → IntsB w b c
theorem OutAt.keeps {w w' : World} {g : Nat} {bs : List Nat} {cs : List (List Int)} (h : OutAt w g bs cs) (hb : Below w.heap.size w w') : OutAt w' g bs cs :=
  ⟨(hb.block _ (block_lt h.row)).trans h.row, h.blen, fun i b c h1 h2 => (h.blk i b c h1 h2).keeps hb⟩
theorem OutAt.of {w : World} {g : Nat} {bs : List Nat} {cs : List (List Int)} (h : OutAt w g bs cs) {i : Nat} {c : List Int} (hc : cs[i]? = some c) : ∃ b, bs[i]? = some b ∧ w.cell? ⟨g, i, none⟩ = some (.slice (some ⟨b, 0, none⟩) c.length c.length) ∧ g < w.heap.size ∧ b < w.heap.size ∧ IntsB w b c := by
  have hi : i < bs.length := by rw [h.blen]; exact (List.getElem?_eq_some_iff.1 hc).1
  refine ⟨bs[i], List.getElem?_eq_getElem hi, ?_, block_lt h.row, (h.blk i _ c (List.getElem?_eq_getElem hi) hc).lt, h.blk i _ c (List.getElem?_eq_getElem hi) hc⟩
  rw [cell_block h.row, List.getElem?_toArray]
  exact outRow_get (List.getElem?_eq_getElem hi) hc
structure CtL (w0 : World) (pb sb g : Nat) (pv : Value) (wr : World) (bs : List Nat) (cs : List (List Int)) (C : List Value) (s : St) : Prop where
  below : Below w0.heap.size w0 wr
  pblk : wr.heap[pb]? = some (.cells #[pv] 25 (0, 0))
  sblk : wr.heap[sb]? = some (.cells C.toArray 50 (0, 0))
  out : OutAt wr g bs cs
  bge : ∀ b ∈ bs, g < b
  inj : bs.Nodup
  lts : w0.heap.size ≤ pb ∧ pb < sb ∧ sb < g
  av : ∀ w', Off (sb :: bs) wr w' → CellsSt C w' w0.heap.size s
section
variable {w0 wr w' : World} {pb sb g : Nat} {pv : Value} {bs : List Nat} {cs : List (List Int)} {C : List Value} {s : St}
theorem CtL.keeps (h : CtL w0 pb sb g pv wr bs cs C s) (hb : Below wr.heap.size wr w') : CtL w0 pb sb g pv w' bs cs C s :=
  ⟨h.below.trans (hb.mono h.below.size), (hb.block _ (block_lt h.pblk)).trans h.pblk, (hb.block _ (block_lt h.sblk)).trans h.sblk, h.out.keeps hb, h.bge, h.inj, h.lts, fun w'' ho => h.av w'' ((Off.below hb).trans ho)⟩
theorem CtL.sx (h : CtL w0 pb sb g pv wr bs cs C s) : Sx w0 pb pv wr [(sb, C, s)] :=
  ⟨h.below, h.pblk, fun x hx => by rw [List.mem_singleton.1 hx]; exact ⟨h.sblk, h.av wr (Off.refl _ _)⟩⟩
theorem CtL.bump (h : CtL w0 pb sb g pv wr bs cs C s) {i b pc : Nat} {c : List Int} (hb : bs[i]? = some b) (hc : cs[i]? = some c) (v : Int) : CtL w0 pb sb g pv (wr.setCell ⟨b, pc, none⟩ (.int .i64 v)) bs (cs.set i (c.set pc v)) C s := by
  have hm : b ∈ bs := List.mem_of_getElem? hb
  have h1 := h.bge b hm
  obtain ⟨l1, l2, l3⟩ := h.lts
  have hi : i < cs.length := (List.getElem?_eq_some_iff.1 hc).1
  refine ⟨h.below.setCell (by show w0.heap.size ≤ b; omega) _, by rw [heap_setCell_ne wr (by omega)]; exact h.pblk, by rw [heap_setCell_ne wr (by omega)]; exact h.sblk, ⟨?_, by simp [h.out.blen], fun j b' c' hj hc' => ?_⟩, h.bge, h.inj, h.lts, fun w'' ho => h.av w'' ((Off.setCell (List.mem_cons_of_mem _ hm) _ _).trans ho)⟩
  · rw [heap_setCell_ne wr (by omega), outRow_set hc (by simp)]; exact h.out.row
  · by_cases hij : i = j
    · subst hij
      rw [hb] at hj; obtain rfl := Option.some.inj hj
      rw [List.getElem?_set_self hi] at hc'; obtain rfl := Option.some.inj hc'
      exact (h.out.blk i b c hb hc).set pc v
    · rw [List.getElem?_set_ne hij] at hc'
      have hne : b' ≠ b := fun e => by
        subst e
        have e1 := (List.getElem?_eq_some_iff.1 hb)
        have e2 := (List.getElem?_eq_some_iff.1 hj)
        obtain ⟨p1, p2⟩ := e1
        obtain ⟨q1, q2⟩ := e2
        exact hij ((List.getElem_inj h.inj).1 (p2.trans q2.symm))
      unfold IntsB
      rw [heap_setCell_ne wr hne]
      exact h.out.blk j b' c' hj hc'
theorem CtL.put (h : CtL w0 pb sb g pv wr bs cs C s) {C2 : List Value} {s2 : St} {wt : World} {Bt : Nat} (hC : CellsSt C2 wt Bt s2) (hB : w0.heap.size ≤ Bt) (hX : ∀ x ∈ sb :: bs, x < Bt) (hag : ∀ (k : Nat) (o : Obj), Bt ≤ k → wt.heap[k]? = some o → wr.heap[k]? = some o) (hl : C.length = 22) (hl2 : C2.length = 22) :
    CtL w0 pb sb g pv (wr.setCells sb 0 C2) bs cs C2 s2 := by
  obtain ⟨l1, l2, l3⟩ := h.lts
  have hne : ∀ k, k ≠ sb → (wr.setCells sb 0 C2).heap[k]? = wr.heap[k]? := fun k hk => heap_setCells_ne hk C2 wr 0
  refine ⟨below_setCells (by omega) _ _ _ h.below, by rw [hne _ (by omega)]; exact h.pblk, block_full h.sblk _ (by simp [hl, hl2]), ⟨by rw [hne _ (by omega)]; exact h.out.row, h.out.blen, fun i b c h1 h2 => ?_⟩, h.bge, h.inj, h.lts, fun w'' ho => ?_⟩
  · have := h.bge b (List.mem_of_getElem? h1)
    unfold IntsB
    rw [hne _ (by omega)]; exact h.out.blk i b c h1 h2
  · refine (cells_from hC fun k o hk hh => ?_).base hB
    have hk' : k ∉ sb :: bs := fun hm => by have := hX k hm; omega
    refine ho k o hk' ?_
    rw [hne k (fun e => hk' (by rw [e]; exact List.mem_cons_self))]
    exact hag k o hk hh
end
/-- While the rows are made: those of the first k functions. -/
structure Ct1 (w3 wr : World) (zs : List (List Int)) (n k : Nat) (bs : List Nat) : Prop where
  below : Below w3.heap.size w3 wr
  row : wr.heap[w3.heap.size]? = some (.cells (outRow bs (zs.take k) ++ List.replicate (n - k) (Value.slice none 0 0)).toArray 28 (0, 0))
  blen : bs.length = k
  blk : ∀ (i b : Nat) (c : List Int), bs[i]? = some b → zs[i]? = some c → IntsB wr b c
  bge : ∀ b ∈ bs, w3.heap.size < b ∧ b < wr.heap.size
  inj : bs.Nodup
theorem Ct1.keeps {w3 wr w' : World} {zs : List (List Int)} {n k : Nat} {bs : List Nat} (h : Ct1 w3 wr zs n k bs) (hb : Below wr.heap.size wr w') : Ct1 w3 w' zs n k bs :=
  ⟨h.below.trans (hb.mono h.below.size), (hb.block _ (block_lt h.row)).trans h.row, h.blen, fun i b c h1 h2 => (h.blk i b c h1 h2).keeps hb, fun b hm => ⟨(h.bge b hm).1, Nat.lt_of_lt_of_le (h.bge b hm).2 hb.size⟩, h.inj⟩
theorem Ct1.step {w3 wr : World} {zs : List (List Int)} {n k : Nat} {bs : List Nat} (h : Ct1 w3 wr zs n k bs) (hk : k < n) (hz : zs.length = n) {b m : Nat} (hb : IntsB wr b (List.replicate m 0)) (hbn : b ∉ bs) (hbg : w3.heap.size < b) (hm : zs[k]? = some (List.replicate m 0)) :
    Ct1 w3 (wr.setCell ⟨w3.heap.size, k, none⟩ (.slice (some ⟨b, 0, none⟩) m m)) zs n (k + 1) (bs ++ [b]) := by
  refine ⟨h.below.setCell (Nat.le_refl _) _, ?_, by simp [h.blen], fun i b' c h1 h2 => ?_, fun b' hm' => ?_, ?_⟩
  · refine (block_put h.row (ds := outRow (bs ++ [b]) (zs.take (k + 1)) ++ List.replicate (n - (k + 1)) (Value.slice none 0 0)) ?_)
    have e1 : outRow (bs ++ [b]) (zs.take (k + 1)) = outRow bs (zs.take k) ++ [.slice (some ⟨b, 0, none⟩) m m] := by
      unfold outRow
      rw [List.take_add_one, hm, List.zipWith_append (by simp [h.blen]; omega)]
      simp
    have hlen : (outRow bs (zs.take k)).length = k := by unfold outRow; simp [h.blen]; omega
    rw [e1, show n - k = (n - (k + 1)) + 1 by omega, List.replicate_succ, List.set_append_right _ _ (by omega), hlen, Nat.sub_self]
    simp
  · by_cases hi : i < k
    · rw [List.getElem?_append_left (by rw [h.blen]; exact hi)] at h1
      have := (h.bge b' (List.mem_of_getElem? h1)).1
      unfold IntsB
      rw [heap_setCell_ne wr (by omega)]; exact h.blk i b' c h1 h2
    · rw [List.getElem?_append_right (by rw [h.blen]; omega), h.blen] at h1
      have e : i = k := by
        have := (List.getElem?_eq_some_iff.1 h1).1; simp at this; omega
      subst e
      simp at h1
      subst h1
      rw [hm] at h2; obtain rfl := Option.some.inj h2
      unfold IntsB
      rw [heap_setCell_ne wr (by omega)]; exact hb
  · have hs : (wr.setCell ⟨w3.heap.size, k, none⟩ (.slice (some ⟨b, 0, none⟩) m m)).heap.size = wr.heap.size := by simp
    rw [hs]
    rcases List.mem_append.1 hm' with h1 | h1
    · exact h.bge b' h1
    · rw [List.mem_singleton.1 h1]; exact ⟨hbg, hb.lt⟩
  · rw [List.nodup_append]
    exact ⟨h.inj, by simp, fun a ha c hc e => hbn (by rw [List.mem_singleton.1 hc] at e; rw [← e]; exact ha)⟩
theorem Ct1.fin {p : List Fnc} {w0 u1 u2 wr : World} {n : Nat} {bs : List Nat} {pv : Value} {C0 : List Value} {s0 : St} (h : Ct1 u2 wr (zeroC p) n n bs) (hn : p.length = n) (hX : Sx w0 w0.heap.size pv u2 [(u1.heap.size, C0, s0)]) (hC : CellsSt C0 u1 w0.heap.size s0) (h12 : Below u1.heap.size u1 u2) (h01 : w0.heap.size < u1.heap.size) :
    CtL w0 w0.heap.size u1.heap.size u2.heap.size pv wr bs (zeroC p) C0 s0 := by
  have hXr := hX.keeps h.below
  have hs := hX.lt (.head _)
  have hzl : (zeroC p).length = n := by simp [zeroC, hn]
  refine ⟨hXr.below, hXr.pblk, (hXr.sts _ (.head _)).1, ⟨?_, by rw [h.blen, hzl], h.blk⟩, fun b hb => (h.bge b hb).1, h.inj, ⟨Nat.le_refl _, h01, hs⟩, fun w' ho => cells_from hC fun k o _ hk => ?_⟩
  · have := h.row
    rw [Nat.sub_self, List.replicate_zero, List.append_nil, List.take_of_length_le (by omega)] at this
    exact this
  · have hk1 : k < u1.heap.size := (Array.getElem?_eq_some_iff.1 hk).1
    refine ho k o (fun hm => ?_) ?_
    · rcases List.mem_cons.1 hm with e | hm
      · omega
      · have := (h.bge k hm).1; omega
    · rw [h.below.block k (by omega), h12.block k hk1]; exact hk
theorem made_nils (w : World) (n : Nat) (zs : List (List Int)) : Ct1 w (w.alloc (.cells (madeCells #[.slice none 0 0] n) 28)) zs n 0 [] := by
  refine ⟨(Below.refl _ _).alloc (Nat.le_refl _) _, ?_, rfl, fun i b c h => by simp at h, fun b hb => by simp at hb, List.nodup_nil⟩
  rw [heap_alloc_new]
  congr 2
  apply Array.ext_getElem?
  intro i
  simp only [madeCells, List.take_zero, outRow, List.zipWith_nil_left, List.nil_append, Nat.sub_zero]
  by_cases h : i < n
  · simp [h, Nat.mod_one]
  · simp [h]
theorem make_nils (n : Nat) (hn : n ≤ 4) (w : World) : (Instr.makeSlice 70 (.int .i64 (n : Int)) (.int .i64 (n : Int))).run Tryd.prog w = .ok (.slice (some ⟨w.heap.size, 0, none⟩) n n) (w.alloc (.cells (madeCells #[.slice none 0 0] n) 28)) :=
  run_make_row' (P := Tryd.prog) 70 28 (.slice none 0 0) 24 Tryd.underlying70 (by kernel_rfl) rfl .i64 .i64 n (by omega) (by omega) w
theorem make_ints0 (N : Nat) (hN : N ≤ 40) (w : World) : (Instr.makeSlice 28 (.int .i64 (N : Int)) (.int .i64 (N : Int))).run Tryd.prog w = .ok (.slice (some ⟨w.heap.size, 0, none⟩) N N) (w.alloc (.cells (madeCells #[.int .i64 0] N) 3)) :=
  run_make_row' (P := Tryd.prog) 28 3 (.int .i64 0) 8 Tryd.underlying28 infoInt rfl .i64 .i64 N (by omega) (by omega) w
end Go.Proofs.YtnbopmlemddakaaDoor
