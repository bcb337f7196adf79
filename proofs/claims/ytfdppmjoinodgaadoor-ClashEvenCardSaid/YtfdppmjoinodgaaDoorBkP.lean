/-
  Plain: the blocks of a function: where they begin and end, where they lead, who leads to them.
-/
import Derived.Test.YtfdppmjoinodgaaDoorBkM
import Derived.Test.YtfdppmjoinodgaaDoorHd
namespace Tier
open Go Go.RowKit Go.Proofs.YtfdppmjoinodgaaDoor
theorem hdL_sorted (F : Fnc) : (hdL F).Pairwise (· < ·) := List.Pairwise.filter _ List.pairwise_lt_range
theorem hdL_mem {F : Fnc} {n : Nat} : n ∈ hdL F ↔ n < F.code.length ∧ hdB F F.code.length n = true := by unfold hdL; simp
def posH (F : Fnc) (n : Nat) : Nat := (List.range n).countP (hdB F F.code.length)
theorem posH_get {F : Fnc} {n : Nat} (h : n ∈ hdL F) : (hdL F)[posH F n]? = some n := by
  obtain ⟨h1, h2⟩ := hdL_mem.1 h
  exact filt_get _ _ _ h1 h2
theorem posH_of {F : Fnc} {k n : Nat} (h : (hdL F)[k]? = some n) : k = posH F n := (filt_inv _ _ _ _ h).2.2
def stopB (F : Fnc) (b : Nat) : Bool := decide (15 ≤ (insAt F (b - 1)).op) || (hdL F).contains b
def toG (F : Fnc) : Nat → Nat → Nat
  | 0, b => b
  | k + 1, b => if stopB F b = true then b else toG F k (b + 1)
def toF (F : Fnc) (a : Nat) : Nat := toG F F.code.length (a + 1)
def nxN (F : Fnc) (a : Nat) : List Nat := nextS (insAt F (toF F a - 1)) (toF F a - 1)
def nxI (F : Fnc) (a : Nat) : List Nat := (nxN F a).map (posH F)
def hdA (F : Fnc) (i : Nat) : Nat := (hdL F).getD i 0
theorem hdA_eq {F : Fnc} {i a : Nat} (h : (hdL F)[i]? = some a) : hdA F i = a := by unfold hdA; rw [List.getD_eq_getElem?_getD, h]; rfl
def pickP (_F : Fnc) (l : List Nat) (q k : Nat) : List Int := (l.filter (· == k)).map fun _ => (q : Int)
def prevTo (F : Fnc) (i t k : Nat) : List Int := (if k = 0 then [-1] else []) ++ ((List.range i).flatMap fun q => pickP F (nxI F (hdA F q)) q k) ++ pickP F ((nxI F (hdA F i)).take t) i k
def prevF (F : Fnc) (k : Nat) : List Int := (if k = 0 then [-1] else []) ++ ((List.range (hdL F).length).flatMap fun q => pickP F (nxI F (hdA F q)) q k)
theorem prevTo_zero (F : Fnc) (i k : Nat) : prevTo F i 0 k = (if k = 0 then [-1] else []) ++ ((List.range i).flatMap fun q => pickP F (nxI F (hdA F q)) q k) := by unfold prevTo pickP; simp
theorem prevTo_next (F : Fnc) (i k : Nat) : prevTo F i (nxI F (hdA F i)).length k = prevTo F (i + 1) 0 k := by
  rw [prevTo_zero]
  unfold prevTo
  rw [List.take_length, List.range_succ, List.flatMap_append]
  simp [List.append_assoc]
theorem prevTo_succ (F : Fnc) (i t k n : Nat) (h : (nxI F (hdA F i))[t]? = some n) : prevTo F i (t + 1) k = prevTo F i t k ++ if n = k then [(i : Int)] else [] := by
  unfold prevTo pickP
  rw [List.take_add_one, h]
  rw [List.append_assoc, List.append_assoc, List.append_assoc]
  congr 2
  rw [List.filter_append, List.map_append]
  congr 1
  by_cases hn : n = k
  · simp [hn]
  · simp [hn]
/-- Blocks below i are done; of block i, so many next ones. -/
structure BkS (F : Fnc) (i t : Nat) (bs : List BR) : Prop where
  len : bs.length = (hdL F).length
  done : ∀ (q : Nat) (r : BR), bs[q]? = some r → q < i → r.fr = (hdA F q : Int) ∧ r.to = (toF F (hdA F q) : Int)
  nl : ∀ (q : Nat) (r : BR), bs[q]? = some r → r.nl = natI (if q < i then nxI F (hdA F q) else if q = i then (nxI F (hdA F i)).take t else [])
  pl : ∀ (q : Nat) (r : BR), bs[q]? = some r → r.pl = prevTo F i t q
structure BlkOk (F : Fnc) (bs : List BR) : Prop where
  len : bs.length = (hdL F).length
  at_ : ∀ (q : Nat) (r : BR), bs[q]? = some r → r.fr = (hdA F q : Int) ∧ r.to = (toF F (hdA F q) : Int) ∧ r.nl = natI (nxI F (hdA F q)) ∧ r.pl = prevF F q
theorem set_get {bs : List BR} {q : Nat} {r r' : BR} (hq : bs[q]? = some r) (i : Nat) : (bs.set q r')[i]? = if i = q then some r' else bs[i]? := by
  rw [List.getElem?_set]
  by_cases e : q = i
  · subst e; rw [if_pos rfl, if_pos (List.getElem?_eq_some_iff.1 hq).1, if_pos rfl]
  · rw [if_neg e, if_neg (fun e' => e e'.symm)]
theorem BkS.bounds {F : Fnc} {i t : Nat} {bs : List BR} (h : BkS F i t bs) {r : BR} (hq : bs[i]? = some r) (x y : Int) : BkS F i t (bs.set i { r with fr := x, to := y }) := by
  have hg := set_get (r' := { r with fr := x, to := y }) hq
  refine ⟨by simp [h.len], fun q s hs hlt => ?_, fun q s hs => ?_, fun q s hs => ?_⟩
  · rw [hg, if_neg (by omega)] at hs; exact h.done q s hs hlt
  · rw [hg] at hs
    split at hs
    · next e => obtain rfl := Option.some.inj hs; rw [e]; exact h.nl i r hq
    · exact h.nl q s hs
  · rw [hg] at hs
    split at hs
    · next e => obtain rfl := Option.some.inj hs; rw [e]; exact h.pl i r hq
    · exact h.pl q s hs
theorem BkS.step {F : Fnc} {i t n : Nat} {bs : List BR} (h : BkS F i t bs) {r : BR} (hq : bs[i]? = some r) (hn : (nxI F (hdA F i))[t]? = some n) {v v' : Value} {r' : BR} (hq' : (bs.set i (r.upd false v (r.lst false ++ [(n : Int)])))[n]? = some r') :
    BkS F i (t + 1) ((bs.set i (r.upd false v (r.lst false ++ [(n : Int)]))).set n (r'.upd true v' (r'.lst true ++ [(i : Int)]))) ∧ ∃ s, ((bs.set i (r.upd false v (r.lst false ++ [(n : Int)]))).set n (r'.upd true v' (r'.lst true ++ [(i : Int)])))[i]? = some s ∧ s.fr = r.fr ∧ s.to = r.to := by
  have g1 := set_get (r' := r.upd false v (r.lst false ++ [(n : Int)])) hq
  have g2 := set_get (r' := r'.upd true v' (r'.lst true ++ [(i : Int)])) hq'
  -- each block, out of the old one
  have key : ∀ (q : Nat) (s : BR), ((bs.set i (r.upd false v (r.lst false ++ [(n : Int)]))).set n (r'.upd true v' (r'.lst true ++ [(i : Int)])))[q]? = some s → ∃ s0, bs[q]? = some s0 ∧ s.fr = s0.fr ∧ s.to = s0.to ∧ s.nl = s0.nl ++ (if q = i then [(n : Int)] else []) ∧ s.pl = s0.pl ++ (if n = q then [(i : Int)] else []) := fun q s hs => by
    rw [g2] at hs
    by_cases e : q = n
    · rw [if_pos e] at hs
      obtain rfl := Option.some.inj hs
      rw [g1] at hq'
      by_cases e2 : n = i
      · rw [if_pos e2] at hq'
        obtain rfl := Option.some.inj hq'
        exact ⟨r, by rw [e, e2]; exact hq, rfl, rfl, by rw [if_pos (by omega)]; rfl, by rw [if_pos (by omega)]; rfl⟩
      · rw [if_neg e2] at hq'
        exact ⟨r', by rw [e]; exact hq', rfl, rfl, by rw [if_neg (by omega), List.append_nil]; rfl, by rw [if_pos (by omega)]; rfl⟩
    · rw [if_neg e, g1] at hs
      by_cases e2 : q = i
      · rw [if_pos e2] at hs
        obtain rfl := Option.some.inj hs
        exact ⟨r, by rw [e2]; exact hq, rfl, rfl, by rw [if_pos e2]; rfl, by rw [if_neg (by omega), List.append_nil]; rfl⟩
      · rw [if_neg e2] at hs
        exact ⟨s, hs, rfl, rfl, by rw [if_neg e2, List.append_nil], by rw [if_neg (by omega), List.append_nil]⟩
  refine ⟨⟨by simp [h.len], fun q s hs hlt => ?_, fun q s hs => ?_, fun q s hs => ?_⟩, ?_⟩
  · obtain ⟨s0, h0, h1, h2, -, -⟩ := key q s hs
    rw [h1, h2]; exact h.done q s0 h0 hlt
  · obtain ⟨s0, h0, -, -, h3, -⟩ := key q s hs
    rw [h3, h.nl q s0 h0]
    by_cases e : q = i
    · subst e
      rw [if_pos rfl, if_neg (by omega), if_pos rfl, if_neg (by omega), if_pos rfl, List.take_add_one, hn]
      simp [natI]
    · simp only [if_neg e, List.append_nil]
  · obtain ⟨s0, h0, -, -, -, h4⟩ := key q s hs
    rw [h4, h.pl q s0 h0, prevTo_succ F i t q n hn]
  · have hil : i < bs.length := (List.getElem?_eq_some_iff.1 hq).1
    obtain ⟨s, hs⟩ : ∃ s, ((bs.set i (r.upd false v (r.lst false ++ [(n : Int)]))).set n (r'.upd true v' (r'.lst true ++ [(i : Int)])))[i]? = some s := ⟨_, List.getElem?_eq_getElem (by simp; exact hil)⟩
    obtain ⟨s0, h0, h1, h2, -, -⟩ := key i s hs
    rw [hq] at h0
    obtain rfl := Option.some.inj h0
    exact ⟨s, hs, h1, h2⟩
theorem BkS.next {F : Fnc} {i : Nat} {bs : List BR} (h : BkS F i (nxI F (hdA F i)).length bs) (hb : ∀ r, bs[i]? = some r → r.fr = (hdA F i : Int) ∧ r.to = (toF F (hdA F i) : Int)) : BkS F (i + 1) 0 bs := by
  refine ⟨h.len, fun q r hq hlt => ?_, fun q r hq => ?_, fun q r hq => ?_⟩
  · by_cases e : q = i
    · subst e; exact hb r hq
    · exact h.done q r hq (by omega)
  · rw [h.nl q r hq, List.take_length]
    by_cases e : q = i
    · subst e; rw [if_neg (by omega), if_pos rfl, if_pos (by omega)]
    · by_cases e2 : q < i
      · rw [if_pos e2, if_pos (by omega)]
      · rw [if_neg e2, if_neg e, if_neg (by omega)]; split <;> simp
  · rw [h.pl q r hq, prevTo_next]
theorem BkS.fin {F : Fnc} {bs : List BR} (h : BkS F (hdL F).length 0 bs) : BlkOk F bs := by
  refine ⟨h.len, fun q r hq => ?_⟩
  have hl : q < (hdL F).length := by rw [← h.len]; exact (List.getElem?_eq_some_iff.1 hq).1
  obtain ⟨h1, h2⟩ := h.done q r hq hl
  refine ⟨h1, h2, ?_, ?_⟩
  · rw [h.nl q r hq, if_pos hl]
  · rw [h.pl q r hq, prevTo_zero]; rfl
section
variable {p : List Fnc} {F : Fnc}
theorem head_rch (hp : Right p) (hF : F ∈ p) {n : Nat} (h : n ∈ hdL F) : n < F.code.length ∧ rchB F n = true := by
  obtain ⟨h1, h2⟩ := hdL_mem.1 h
  refine ⟨h1, ?_⟩
  unfold hdB at h2
  rw [Bool.or_eq_true] at h2
  rcases h2 with h2 | h2
  · have : n = 0 := by simpa using h2
    subst this
    exact rch_zero (hp.ok.fn F hF)
  · rw [List.any_eq_true] at h2
    obtain ⟨q, hq, h3⟩ := h2
    unfold hdOf at h3
    rw [Bool.and_eq_true] at h3
    obtain ⟨h4, h5⟩ := h3
    have hql := List.mem_range.1 hq
    rw [List.getElem?_eq_getElem hql] at h5
    simp only [Bool.and_eq_true, List.contains_iff_mem] at h5
    exact (hp.nextR hF h4 (List.getElem?_eq_getElem hql) ((nextS_mem _ _ _).1 h5.2)).2
theorem zero_head (hp : Right p) (hF : F ∈ p) : (hdL F)[0]? = some 0 := by
  have h0 : 0 ∈ hdL F := hdL_mem.2 ⟨by have := (hp.ok.fn F hF).c1; omega, by simp [hdB]⟩
  have := posH_get h0
  exact this
/-- What is not an end goes on. -/
theorem goes_on (hp : Right p) (hF : F ∈ p) {q : Nat} (hr : rchB F q = true) (hq : q < F.code.length) (ho : ¬ 15 ≤ (insAt F q).op) : q + 1 < F.code.length ∧ rchB F (q + 1) = true := by
  have hx : F.code[q]? = some F.code[q] := List.getElem?_eq_getElem hq
  rw [insAt_eq hx] at ho
  exact hp.nextR hF hr hx (by unfold nextL; rw [if_neg (by omega), if_neg (by omega), if_neg (by omega)]; simp)
theorem toG_spec (hp : Right p) (hF : F ∈ p) : ∀ (k b : Nat), 0 < b → b ≤ F.code.length → rchB F (b - 1) = true → F.code.length ≤ k + b → b ≤ toG F k b ∧ toG F k b ≤ F.code.length ∧ rchB F (toG F k b - 1) = true ∧ stopB F (toG F k b) = true ∧ ∀ q, b ≤ q → q < toG F k b → stopB F q = false ∧ rchB F q = true
  | 0, b, h0, h1, h2, h3 => by
    have hb : b = F.code.length := by omega
    refine ⟨Nat.le_refl _, h1, h2, ?_, fun q h4 h5 => by unfold toG at h5; omega⟩
    unfold toG stopB
    by_cases ho : 15 ≤ (insAt F (b - 1)).op
    · simp [ho]
    · have := (goes_on hp hF h2 (by omega) ho).1; omega
  | k + 1, b, h0, h1, h2, h3 => by
    by_cases hs : stopB F b = true
    · have e : toG F (k + 1) b = b := by unfold toG; rw [if_pos hs]
      rw [e]
      exact ⟨Nat.le_refl _, h1, h2, hs, fun q h4 h5 => by omega⟩
    · have e : toG F (k + 1) b = toG F k (b + 1) := by conv => lhs; unfold toG; rw [if_neg hs]
      have hs' : stopB F b = false := by simpa using hs
      have ho : ¬ 15 ≤ (insAt F (b - 1)).op := by intro h; unfold stopB at hs'; simp [h] at hs'
      obtain ⟨h4, h5⟩ := goes_on hp hF h2 (by omega) ho
      rw [show b - 1 + 1 = b by omega] at h4 h5
      obtain ⟨i1, i2, i3, i4, i5⟩ := toG_spec hp hF k (b + 1) (by omega) (by omega) (by simpa using h5) (by omega)
      rw [e]
      refine ⟨by omega, i2, i3, i4, fun q h6 h7 => ?_⟩
      by_cases hq : q = b
      · subst hq; exact ⟨hs', h5⟩
      · exact i5 q (by omega) h7
theorem toF_spec (hp : Right p) (hF : F ∈ p) {a : Nat} (ha : a ∈ hdL F) : a < toF F a ∧ toF F a ≤ F.code.length ∧ rchB F (toF F a - 1) = true ∧ stopB F (toF F a) = true ∧ ∀ q, a < q → q < toF F a → stopB F q = false ∧ rchB F q = true := by
  obtain ⟨h1, h2⟩ := head_rch hp hF ha
  obtain ⟨i1, i2, i3, i4, i5⟩ := toG_spec hp hF F.code.length (a + 1) (by omega) h1 (by simpa using h2) (by omega)
  exact ⟨i1, i2, i3, i4, fun q h3 h4 => i5 q (by omega) h4⟩
/-- Where a block leads, a block begins. -/
theorem nxN_head (hp : Right p) (hF : F ∈ p) {a n : Nat} (ha : a ∈ hdL F) (hn : n ∈ nxN F a) : n ∈ hdL F := by
  obtain ⟨h1, h2, h3, h4, -⟩ := toF_spec hp hF ha
  unfold nxN at hn
  have hq : toF F a - 1 < F.code.length := by omega
  have hx : F.code[toF F a - 1]? = some F.code[toF F a - 1] := List.getElem?_eq_getElem hq
  have hn2 := (nextS_mem _ _ _).1 hn
  have hnr := hp.nextR hF h3 (x := insAt F (toF F a - 1)) (by rw [insAt_eq hx]; exact hx) hn2
  unfold stopB at h4
  rw [Bool.or_eq_true] at h4
  by_cases ho : 15 ≤ (insAt F (toF F a - 1)).op
  · refine hdL_mem.2 ⟨hnr.1, ?_⟩
    unfold hdB
    rw [Bool.or_eq_true]
    right
    rw [List.any_eq_true]
    refine ⟨toF F a - 1, List.mem_range.2 hq, ?_⟩
    unfold hdOf
    rw [h3, hx, ← insAt_eq hx]
    simp [ho, hn]
  · rcases h4 with h4 | h4
    · simp [ho] at h4
    · have : nextL (insAt F (toF F a - 1)) (toF F a - 1) = [toF F a] := by
        unfold nextL; rw [if_neg (by omega), if_neg (by omega), if_neg (by omega)]; congr 1; omega
      rw [this] at hn2
      rw [List.mem_singleton.1 hn2]
      simpa using h4
end
end Tier
/-
  Plain: the blocks of a function cover the places come to, each once.
-/
namespace Tier
open Go Go.RowKit Go.Proofs.YtfdppmjoinodgaaDoor
inductive Path (F : Fnc) : Nat → Prop
  | zero : Path F 0
  | step {q n : Nat} {x : Ins} (h : Path F q) (hx : F.code[q]? = some x) (hn : n ∈ nextL x q) : Path F n
section
variable {p : List Fnc} {F : Fnc}
theorem rch_path (hp : Right p) (hF : F ∈ p) {n : Nat} (h : rchB F n = true) : Path F n := by
  have hfo := hp.ok.fn F hF
  obtain ⟨m, hm⟩ := rch_of h
  exact sure_ind (fun n _ => Path F n) .zero (fun pc m x n h hx hn => .step h hx hn) (fun _ _ _ h _ => h) (iterS_inv hfo.cok hfo.p2) n m hm
theorem path_rch (hp : Right p) (hF : F ∈ p) {n : Nat} (h : Path F n) : rchB F n = true := by
  induction h with
  | zero => exact rch_zero (hp.ok.fn F hF)
  | step _ hx hn ih => exact (hp.nextR hF ih hx hn).2
theorem rch_back (hp : Right p) (hF : F ∈ p) {n : Nat} (h : rchB F n = true) : n = 0 ∨ ∃ q x, rchB F q = true ∧ F.code[q]? = some x ∧ n ∈ nextL x q := by
  cases rch_path hp hF h with
  | zero => exact .inl rfl
  | step h hx hn => exact .inr ⟨_, _, path_rch hp hF h, hx, hn⟩
theorem rch_step (hp : Right p) (hF : F ∈ p) {n : Nat} (h : rchB F n = true) (hl : n < F.code.length) (hh : n ∉ hdL F) : ∃ q, n = q + 1 ∧ rchB F q = true ∧ (insAt F q).op < 15 := by
  rcases rch_back hp hF h with h0 | ⟨q, x, hq, hx, hn⟩
  · subst h0
    exact absurd (List.mem_of_getElem? (zero_head hp hF)) hh
  · have hql := (List.getElem?_eq_some_iff.1 hx).1
    by_cases ho : 15 ≤ x.op
    · refine absurd (hdL_mem.2 ⟨hl, ?_⟩) hh
      unfold hdB
      rw [Bool.or_eq_true]
      right
      rw [List.any_eq_true]
      refine ⟨q, List.mem_range.2 hql, ?_⟩
      unfold hdOf
      rw [hq, hx]
      have := (nextS_mem x q n).2 hn
      simp [ho, this]
    · have h1 : nextL x q = [q + 1] := by unfold nextL; rw [if_neg (by omega), if_neg (by omega), if_neg (by omega)]
      rw [h1] at hn
      exact ⟨q, List.mem_singleton.1 hn, hq, by rw [insAt_eq hx]; omega⟩
theorem cov_end (hp : Right p) (hF : F ∈ p) {a pc : Nat} (ha : a ∈ hdL F) (h1 : a ≤ pc) (h2 : pc + 1 < toF F a) : (insAt F pc).op < 15 := by
  have := ((toF_spec hp hF ha).2.2.2.2 (pc + 1) (by omega) h2).1
  unfold stopB at this
  rw [Bool.or_eq_false_iff, Nat.add_sub_cancel] at this
  have := this.1
  simp at this; omega
theorem cov_one (hp : Right p) (hF : F ∈ p) {a b pc : Nat} (ha : a ∈ hdL F) (hb : b ∈ hdL F) (h1 : a ≤ pc) (h2 : pc < toF F a) (h3 : b ≤ pc) (h4 : pc < toF F b) : a = b := by
  have key : ∀ {a b : Nat}, a ∈ hdL F → b ∈ hdL F → b ≤ pc → pc < toF F a → ¬ a < b := fun {a b} ha hb h3 h2 hl => by
    have := ((toF_spec hp hF ha).2.2.2.2 b hl (by omega)).1
    unfold stopB at this
    rw [Bool.or_eq_false_iff] at this
    have := this.2
    simp [hb] at this
  have k1 := key ha hb h3 h2
  have k2 := key hb ha h1 h4
  omega
theorem cov_rch (hp : Right p) (hF : F ∈ p) {a pc : Nat} (ha : a ∈ hdL F) (h1 : a ≤ pc) (h2 : pc < toF F a) : rchB F pc = true := by
  by_cases h : a = pc
  · subst h; exact (head_rch hp hF ha).2
  · exact ((toF_spec hp hF ha).2.2.2.2 pc (by omega) h2).2
theorem cov_ex (hp : Right p) (hF : F ∈ p) : ∀ pc, pc < F.code.length → rchB F pc = true → ∃ a, a ∈ hdL F ∧ a ≤ pc ∧ pc < toF F a := by
  intro pc
  induction pc with
  | zero => intro hl hr; exact ⟨0, List.mem_of_getElem? (zero_head hp hF), Nat.le_refl _, (toF_spec hp hF (List.mem_of_getElem? (zero_head hp hF))).1⟩
  | succ q ih =>
    intro hl hr
    by_cases hh : q + 1 ∈ hdL F
    · exact ⟨q + 1, hh, Nat.le_refl _, (toF_spec hp hF hh).1⟩
    · obtain ⟨q', he, hq, ho⟩ := rch_step hp hF hr hl hh
      obtain rfl : q = q' := by omega
      obtain ⟨a, ha, h1, h2⟩ := ih (by omega) hq
      refine ⟨a, ha, by omega, ?_⟩
      by_cases he : toF F a = q + 1
      · have h4 := (toF_spec hp hF ha).2.2.2.1
        rw [he] at h4
        unfold stopB at h4
        rw [Bool.or_eq_true, Nat.add_sub_cancel] at h4
        rcases h4 with h4 | h4
        · simp at h4; omega
        · simp at h4; exact absurd h4 hh
      · omega
def covB (F : Fnc) (pc q : Nat) : Bool := decide (hdA F q ≤ pc) && decide (pc < toF F (hdA F q))
theorem cnt_one (f : Nat → Bool) (k : Nat) : ∀ n, (∀ q, q < n → f q = decide (q = k)) → (List.range n).countP f = if k < n then 1 else 0
  | 0, _ => by simp
  | n + 1, h => by
    rw [cnt_succ, cnt_one f k n (fun q hq => h q (by omega)), h n (by omega)]
    simp only [decide_eq_true_eq]
    split <;> split <;> split <;> omega
theorem cov_count (hp : Right p) (hF : F ∈ p) {pc : Nat} (hl : pc < F.code.length) : (List.range (hdL F).length).countP (covB F pc) = if rchB F pc = true then 1 else 0 := by
  have hget : ∀ q, q < (hdL F).length → ∃ a, (hdL F)[q]? = some a := fun q hq => ⟨_, List.getElem?_eq_getElem hq⟩
  by_cases hr : rchB F pc = true
  · obtain ⟨a, ha, h1, h2⟩ := cov_ex hp hF pc hl hr
    have hk := posH_get ha
    rw [cnt_one (covB F pc) (posH F a) _ (fun q hq => ?_), if_pos (List.getElem?_eq_some_iff.1 hk).1, if_pos hr]
    obtain ⟨b, hb⟩ := hget q hq
    unfold covB
    rw [hdA_eq hb]
    by_cases he : q = posH F a
    · subst he
      rw [hk] at hb
      obtain rfl := Option.some.inj hb
      simp [h1, h2]
    · rw [decide_eq_false he, Bool.eq_false_iff]
      intro hc
      rw [Bool.and_eq_true, decide_eq_true_eq, decide_eq_true_eq] at hc
      have := cov_one hp hF ha (List.mem_of_getElem? hb) h1 h2 hc.1 hc.2
      subst this
      exact he (posH_of hb)
  · rw [if_neg hr, List.countP_eq_zero]
    intro q hq hc
    obtain ⟨b, hb⟩ := hget q (List.mem_range.1 hq)
    unfold covB at hc
    rw [hdA_eq hb, Bool.and_eq_true, decide_eq_true_eq, decide_eq_true_eq] at hc
    exact hr (cov_rch hp hF (List.mem_of_getElem? hb) hc.1 hc.2)
end
end Tier
/-
  Plain: where the blocks of a function lead and who leads to them.
-/
namespace Tier
open Go Go.RowKit Go.Proofs.YtfdppmjoinodgaaDoor
section
variable {p : List Fnc} {F : Fnc}
theorem pick_mem {F : Fnc} {l : List Nat} {q k : Nat} {z : Int} : z ∈ pickP F l q k ↔ k ∈ l ∧ z = (q : Int) := by
  unfold pickP
  rw [List.mem_map]
  constructor
  · rintro ⟨m, hm, rfl⟩
    rw [List.mem_filter] at hm
    obtain ⟨h1, h2⟩ := hm
    have : m = k := by simpa using h2
    subst this
    exact ⟨h1, rfl⟩
  · rintro ⟨h, rfl⟩
    exact ⟨k, List.mem_filter.2 ⟨h, by simp⟩, rfl⟩
theorem prevF_mem {k : Nat} {z : Int} : z ∈ prevF F k ↔ (k = 0 ∧ z = -1) ∨ ∃ q, q < (hdL F).length ∧ k ∈ nxI F (hdA F q) ∧ z = (q : Int) := by
  unfold prevF
  rw [List.mem_append, List.mem_flatMap]
  constructor
  · rintro (h | ⟨q, hq, h⟩)
    · left
      by_cases hk : k = 0
      · rw [if_pos hk] at h; exact ⟨hk, by simpa using h⟩
      · rw [if_neg hk] at h; simp at h
    · obtain ⟨h1, h2⟩ := pick_mem.1 h
      exact .inr ⟨q, List.mem_range.1 hq, h1, h2⟩
  · rintro (⟨rfl, rfl⟩ | ⟨q, hq, h, rfl⟩)
    · left; simp
    · exact .inr ⟨q, List.mem_range.2 hq, pick_mem.2 ⟨h, rfl⟩⟩
/-- The mirror: i leads to k as k is led to by i. -/
theorem meet_eq {i k : Nat} (hi : i < (hdL F).length) : (decide ((k : Int) ∈ natI (nxI F (hdA F i)))) = decide ((i : Int) ∈ prevF F k) := by
  have h1 : (k : Int) ∈ natI (nxI F (hdA F i)) ↔ k ∈ nxI F (hdA F i) := by
    unfold natI
    rw [List.mem_map]
    exact ⟨fun ⟨m, h1, h2⟩ => by
      have : m = k := by omega
      subst this; exact h1, fun h => ⟨k, h, rfl⟩⟩
  rw [decide_eq_decide, h1, prevF_mem]
  constructor
  · intro h; exact .inr ⟨i, hi, h, rfl⟩
  · rintro (⟨-, h⟩ | ⟨q, -, h, he⟩)
    · omega
    · have : i = q := by omega
      subst this; exact h
theorem nextS_sorted (x : Ins) (pc : Nat) : (nextS x pc).Pairwise (· < ·) := by
  unfold nextS
  repeat' split
  all_goals simp
  all_goals omega
theorem nxI_nodup (hp : Right p) (hF : F ∈ p) {a : Nat} (ha : a ∈ hdL F) : (nxI F a).Nodup := by
  have h1 : (nxN F a).Nodup := (nextS_sorted _ _).imp (fun h e => by omega)
  unfold nxI
  rw [List.nodup_iff_pairwise_ne, List.pairwise_map]
  refine List.Pairwise.imp_of_mem (fun {m n} hm hn h e => h ?_) (List.nodup_iff_pairwise_ne.1 h1)
  have k1 := posH_get (nxN_head hp hF ha hm)
  have k2 := posH_get (nxN_head hp hF ha hn)
  rw [e, k2] at k1
  exact (Option.some.inj k1).symm
theorem pick_sorted {l : List Nat} (h : l.Nodup) (q k : Nat) : (pickP F l q k).Pairwise (· < ·) := by
  have h1 : (l.filter (· == k)).Nodup := h.filter _
  have h2 : (pickP F l q k).length ≤ 1 := by
    unfold pickP
    rw [List.length_map]
    have h3 : ∀ m ∈ l.filter (· == k), m = k := fun m hm => by simpa using (List.mem_filter.1 hm).2
    match hl : l.filter (· == k), h1, h3 with
    | [], _, _ => simp
    | [_], _, _ => simp
    | m :: n :: t, h1, h3 =>
      have e1 := h3 m (by simp)
      have e2 := h3 n (by simp)
      simp [e1, e2] at h1
  match hl : pickP F l q k, h2 with
  | [], _ => exact .nil
  | [_], _ => simp
  | _ :: _ :: _, h2 => simp at h2
theorem prevF_sorted (hp : Right p) (hF : F ∈ p) (k : Nat) : (prevF F k).Pairwise (· < ·) := by
  have hn : ∀ n, n ≤ (hdL F).length → ((List.range n).flatMap fun q => pickP F (nxI F (hdA F q)) q k).Pairwise (· < ·) := fun n => by
    induction n with
    | zero => intro _; simp
    | succ n ih =>
      intro hn
      rw [List.range_succ, List.flatMap_append, List.pairwise_append]
      have hget : (hdL F)[n]? = some (hdL F)[n] := List.getElem?_eq_getElem hn
      refine ⟨ih (by omega), ?_, fun a ha b hb => ?_⟩
      · simp only [List.flatMap_cons, List.flatMap_nil, List.append_nil]
        rw [hdA_eq hget]
        exact pick_sorted (nxI_nodup hp hF (List.mem_of_getElem? hget)) n k
      · rw [List.mem_flatMap] at ha
        obtain ⟨q, hq, ha⟩ := ha
        simp only [List.flatMap_cons, List.flatMap_nil, List.append_nil] at hb
        have h1 := (pick_mem.1 ha).2
        have h2 := (pick_mem.1 hb).2
        have := List.mem_range.1 hq
        omega
  unfold prevF
  rw [List.pairwise_append]
  refine ⟨by split <;> simp, hn _ (Nat.le_refl _), fun a ha b hb => ?_⟩
  have h1 : a = -1 := by split at ha <;> simp at ha; exact ha
  rw [List.mem_flatMap] at hb
  obtain ⟨q, hq, hb⟩ := hb
  have h2 := (pick_mem.1 hb).2
  omega
/-- Somebody leads to every block. -/
theorem prevF_some (hp : Right p) (hF : F ∈ p) {k : Nat} (hk : k < (hdL F).length) : 0 < (prevF F k).length := by
  obtain ⟨a, ha⟩ : ∃ a, (hdL F)[k]? = some a := ⟨_, List.getElem?_eq_getElem hk⟩
  have ham := List.mem_of_getElem? ha
  obtain ⟨hal, har⟩ := head_rch hp hF ham
  have hz := zero_head hp hF
  rcases rch_back hp hF har with h0 | ⟨q, x, hq, hx, hn⟩
  · have h1 : k = 0 := by
      subst h0
      have h1 := posH_of ha
      have h2 := posH_of hz
      omega
    exact List.length_pos_of_mem (prevF_mem.2 (.inl ⟨h1, rfl⟩))
  · have hql := (List.getElem?_eq_some_iff.1 hx).1
    obtain ⟨b, hb, h1, h2⟩ := cov_ex hp hF q hql hq
    have hT : toF F b = q + 1 := by
      by_cases h3 : q + 1 < toF F b
      · have h4 := cov_end hp hF hb h1 h3
        rw [insAt_eq hx] at h4
        have h5 : nextL x q = [q + 1] := by unfold nextL; rw [if_neg (by omega), if_neg (by omega), if_neg (by omega)]
        rw [h5] at hn
        have h6 := List.mem_singleton.1 hn
        have h7 := ((toF_spec hp hF hb).2.2.2.2 (q + 1) (by omega) h3).1
        unfold stopB at h7
        rw [Bool.or_eq_false_iff] at h7
        have h8 := h7.2
        rw [← h6] at h8
        simp [ham] at h8
      · omega
    have hm : a ∈ nxN F b := by
      unfold nxN
      rw [hT, Nat.add_sub_cancel, insAt_eq hx]
      exact (nextS_mem _ _ _).2 hn
    have hbg := posH_get hb
    refine List.length_pos_of_mem (prevF_mem.2 (.inr ⟨posH F b, (List.getElem?_eq_some_iff.1 hbg).1, ?_, rfl⟩))
    rw [hdA_eq hbg, posH_of ha]
    exact List.mem_map.2 ⟨a, hm, rfl⟩
/-- The blocks lie in order. -/
theorem ends_before (hp : Right p) (hF : F ∈ p) {i a b : Nat} (ha : (hdL F)[i]? = some a) (hb : (hdL F)[i + 1]? = some b) : toF F a ≤ b := by
  have ham := List.mem_of_getElem? ha
  have hbm := List.mem_of_getElem? hb
  have hlt : a < b := by
    obtain ⟨h1, h2⟩ := List.getElem?_eq_some_iff.1 ha
    obtain ⟨h3, h4⟩ := List.getElem?_eq_some_iff.1 hb
    have := List.pairwise_iff_getElem.1 (hdL_sorted F) i (i + 1) h1 h3 (by omega)
    rw [h2, h4] at this; exact this
  by_cases h : b < toF F a
  · have := ((toF_spec hp hF ham).2.2.2.2 b hlt h).1
    unfold stopB at this
    rw [Bool.or_eq_false_iff] at this
    have := this.2
    simp [hbm] at this
  · omega
end
end Tier
