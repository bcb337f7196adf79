/-
  Plain: the blocks of a function: where they begin and end, where they lead, who leads to them.
-/
import Derived.Test.YtefbdecejoeamaaDoorBkM
import Derived.Test.YtefbdecejoeamaaDoorHd
namespace Tier
open Go Go.RowKit Go.Proofs.YtefbdecejoeamaaDoor
theorem hdL_sorted (F : Fnc) : (hdL F).Pairwise (· < ·) := List.Pairwise.filter _ List.pairwise_lt_range
theorem hdL_mem {F : Fnc} {n : Nat} : n ∈ hdL F ↔ n < F.code.length ∧ hdB F F.code.length n = true := by unfold hdL; simp
def posH (F : Fnc) (n : Nat) : Nat := (List.range n).countP (hdB F F.code.length)
theorem posH_get {F : Fnc} {n : Nat} (h : n ∈ hdL F) : (hdL F)[posH F n]? = some n := by
  obtain ⟨h1, h2⟩ := hdL_mem.1 h
  exact filt_get _ _ _ h1 h2
theorem posH_of {F : Fnc} {k n : Nat} (h : (hdL F)[k]? = some n) : k = posH F n := (filt_inv _ _ _ _ h).2.2
def stopB (F : Fnc) (b : Nat) : Bool := decide (15 ≤ (insAt F (b - 1)).op) || (hdL F).contains b
def toG (F : Fnc) : Nat → Nat → Nat
  | 0, b => b
  | k + 1, b => if stopB F b = true then b else toG F k (b + 1)
def toF (F : Fnc) (a : Nat) : Nat := toG F F.code.length (a + 1)
def nxN (F : Fnc) (a : Nat) : List Nat := nextS (insAt F (toF F a - 1)) (toF F a - 1)
def nxI (F : Fnc) (a : Nat) : List Nat := (nxN F a).map (posH F)
def hdA (F : Fnc) (i : Nat) : Nat := (hdL F).getD i 0
theorem hdA_eq {F : Fnc} {i a : Nat} (h : (hdL F)[i]? = some a) : hdA F i = a := by unfold hdA; rw [List.getD_eq_getElem?_getD, h]; rfl
def pickP (_F : Fnc) (l : List Nat) (q k : Nat) : List Int := (l.filter (· == k)).map fun _ => (q : Int)
def prevTo (F : Fnc) (i t k : Nat) : List Int := (if k = 0 then [-1] else []) ++ ((List.range i).flatMap fun q => pickP F (nxI F (hdA F q)) q k) ++ pickP F ((nxI F (hdA F i)).take t) i k
def prevF (F : Fnc) (k : Nat) : List Int := (if k = 0 then [-1] else []) ++ ((List.range (hdL F).length).flatMap fun q => pickP F (nxI F (hdA F q)) q k)
theorem prevTo_zero (F : Fnc) (i k : Nat) : prevTo F i 0 k = (if k = 0 then [-1] else []) ++ ((List.range i).flatMap fun q => pickP F (nxI F (hdA F q)) q k) := by unfold prevTo pickP; simp
theorem prevTo_next (F : Fnc) (i k : Nat) : prevTo F i (nxI F (hdA F i)).length k = prevTo F (i + 1) 0 k := by
  rw [prevTo_zero]
  unfold prevTo
  rw [List.take_length, List.range_succ, List.flatMap_append]
  simp [List.append_assoc]
theorem prevTo_succ (F : Fnc) (i t k n : Nat) (h : (nxI F (hdA F i))[t]? = some n) : prevTo F i (t + 1) k = prevTo F i t k ++ if n = k then [(i : Int)] else [] := by
  unfold prevTo pickP
  rw [List.take_add_one, h]
  rw [List.append_assoc, List.append_assoc, List.append_assoc]
  congr 2
  rw [List.filter_append, List.map_append]
  congr 1
  by_cases hn : n = k
  · simp [hn]
  · simp [hn]
/-- Blocks below i are done; of block i, so many next ones. -/
structure BkS (F : Fnc) (i t : Nat) (bs : List BR) : Prop where
  len : bs.length = (hdL F).length
  done : ∀ (q : Nat) (r : BR), bs[q]? = some r → q < i → r.fr = (hdA F q : Int) ∧ r.to = (toF F (hdA F q) : Int)
  nl : ∀ (q : Nat) (r : BR), bs[q]? = some r → r.nl = natI (if q < i then nxI F (hdA F q) else if q = i then (nxI F (hdA F i)).take t else [])
  pl : ∀ (q : Nat) (r : BR), bs[q]? = some r → r.pl = prevTo F i t q
structure BlkOk (F : Fnc) (bs : List BR) : Prop where
  len : bs.length = (hdL F).length
  at_ : ∀ (q : Nat) (r : BR), bs[q]? = some r → r.fr = (hdA F q : Int) ∧ r.to = (toF F (hdA F q) : Int) ∧ r.nl = natI (nxI F (hdA F q)) ∧ r.pl = prevF F q
theorem set_get {bs : List BR} {q : Nat} {r r' : BR} (hq : bs[q]? = some r) (i : Nat) : (bs.set q r')[i]? = if i = q then some r' else bs[i]? := by
  rw [List.getElem?_set]
  by_cases e : q = i
  · subst e; rw [if_pos rfl, if_pos (List.getElem?_eq_some_iff.1 hq).1, if_pos rfl]
  · rw [if_neg e, if_neg (fun e' => e e'.symm)]
theorem BkS.bounds {F : Fnc} {i t : Nat} {bs : List BR} (h : BkS F i t bs) {r : BR} (hq : bs[i]? = some r) (x y : Int) : BkS F i t (bs.set i { r with fr := x, to := y }) := by
  have hg := set_get (r' := { r with fr := x, to := y }) hq
  refine ⟨by simp [h.len], fun q s hs hlt => ?_, fun q s hs => ?_, fun q s hs => ?_⟩
  · rw [hg, if_neg (by omega)] at hs; exact h.done q s hs hlt
  · rw [hg] at hs
    split at hs
    · next e => obtain rfl := Option.some.inj hs; rw [e]; exact h.nl i r hq
    · exact h.nl q s hs
  · rw [hg] at hs
    split at hs
    · next e => obtain rfl := Option.some.inj hs; rw [e]; exact h.pl i r hq
    · exact h.pl q s hs
theorem BkS.step {F : Fnc} {i t n : Nat} {bs : List BR} (h : BkS F i t bs) {r : BR} (hq : bs[i]? = some r) (hn : (nxI F (hdA F i))[t]? = some n) {v v' : Value} {r' : BR} (hq' : (bs.set i (r.upd false v (r.lst false ++ [(n : Int)])))[n]? = some r') :
    BkS F i (t + 1) ((bs.set i (r.upd false v (r.lst false ++ [(n : Int)]))).set n (r'.upd true v' (r'.lst true ++ [(i : Int)]))) ∧ ∃ s, ((bs.set i (r.upd false v (r.lst false ++ [(n : Int)]))).set n (r'.upd true v' (r'.lst true ++ [(i : Int)])))[i]? = some s ∧ s.fr = r.fr ∧ s.to = r.to := by
  have g1 := set_get (r' := r.upd false v (r.lst false ++ [(n : Int)])) hq
  have g2 := set_get (r' := r'.upd true v' (r'.lst true ++ [(i : Int)])) hq'
  -- each block, out of the old one
  have key : ∀ (q : Nat) (s : BR), ((bs.set i (r.upd false v (r.lst false ++ [(n : Int)]))).set n (r'.upd true v' (r'.lst true ++ [(i : Int)])))[q]? = some s → ∃ s0, bs[q]? = some s0 ∧ s.fr = s0.fr ∧ s.to = s0.to ∧ s.nl = s0.nl ++ (if q = i then [(n : Int)] else []) ∧ s.pl = s0.pl ++ (if n = q then [(i : Int)] else []) := fun q s hs => by
    rw [g2] at hs
    by_cases e : q = n
    · rw [if_pos e] at hs
      obtain rfl := Option.some.inj hs
      rw [g1] at hq'
      by_cases e2 : n = i
      · rw [if_pos e2] at hq'
        obtain rfl := Option.some.inj hq'
        exact ⟨r, by rw [e, e2]; exact hq, rfl, rfl, by rw [if_pos (by omega)]; rfl, by rw [if_pos (by omega)]; rfl⟩
      · rw [if_neg e2] at hq'
        exact ⟨r', by rw [e]; exact hq', rfl, rfl, by rw [if_neg (by omega), List.append_nil]; rfl, by rw [if_pos (by omega)]; rfl⟩
    · rw [if_neg e, g1] at hs
      by_cases e2 : q = i
      · rw [if_pos e2] at hs
        obtain rfl := Option.some.inj hs
        exact ⟨r, by rw [e2]; exact hq, rfl, rfl, by rw [if_pos e2]; rfl, by rw [if_neg (by omega), List.append_nil]; rfl⟩
      · rw [if_neg e2] at hs
        exact ⟨s, hs, rfl, rfl, by rw [if_neg e2, List.append_nil], by rw [if_neg (by omega), List.append_nil]⟩
  refine ⟨⟨by simp [h.len], fun q s hs hlt => ?_, fun q s hs => ?_, fun q s hs => ?_⟩, ?_⟩
  · obtain ⟨s0, h0, h1, h2, -, -⟩ := key q s hs
    rw [h1, h2]; exact h.done q s0 h0 hlt
  · obtain ⟨s0, h0, -, -, h3, -⟩ := key q s hs
    rw [h3, h.nl q s0 h0]
    by_cases e : q = i
    · subst e
      rw [if_pos rfl, if_neg (by omega), if_pos rfl, if_neg (by omega), if_pos rfl, List.take_add_one, hn]
      simp [natI]
    · simp only [if_neg e, List.append_nil]
  · obtain ⟨s0, h0, -, -, -, h4⟩ := key q s hs
    rw [h4, h.pl q s0 h0, prevTo_succ F i t q n hn]
  · have hil : i < bs.length := (List.getElem?_eq_some_iff.1 hq).1
    obtain ⟨s, hs⟩ : ∃ s, ((bs.set i (r.upd false v (r.lst false ++ [(n : Int)]))).set n (r'.upd true v' (r'.lst true ++ [(i : Int)])))[i]? = some s := ⟨_, List.getElem?_eq_getElem (by simp; exact hil)⟩
    obtain ⟨s0, h0, h1, h2, -, -⟩ := key i s hs
    rw [hq] at h0
    obtain rfl := Option.some.inj h0
    exact ⟨s, hs, h1, h2⟩
theorem BkS.next {F : Fnc} {i : Nat} {bs : List BR} (h : BkS F i (nxI F (hdA F i)).length bs) (hb : ∀ r, bs[i]? = some r → r.fr = (hdA F i : Int) ∧ r.to = (toF F (hdA F i) : Int)) : BkS F (i + 1) 0 bs := by
  refine ⟨h.len, fun q r hq hlt => ?_, fun q r hq => ?_, fun q r hq => ?_⟩
  · by_cases e : q = i
    · subst e; exact hb r hq
    · exact h.done q r hq (by omega)
  · rw [h.nl q r hq, List.take_length]
    by_cases e : q = i
    · subst e; rw [if_neg (by omega), if_pos rfl, if_pos (by omega)]
    · by_cases e2 : q < i
      · rw [if_pos e2, if_pos (by omega)]
      · rw [if_neg e2, if_neg e, if_neg (by omega)]; split <;> simp
  · rw [h.pl q r hq, prevTo_next]
theorem BkS.fin {F : Fnc} {bs : List BR} (h : BkS F (hdL F).length 0 bs) : BlkOk F bs := by
  refine ⟨h.len, fun q r hq => ?_⟩
  have hl : q < (hdL F).length := by rw [← h.len]; exact (List.getElem?_eq_some_iff.1 hq).1
  obtain ⟨h1, h2⟩ := h.done q r hq hl
  refine ⟨h1, h2, ?_, ?_⟩
  · rw [h.nl q r hq, if_pos hl]
  · rw [h.pl q r hq, prevTo_zero]; rfl
section
variable {p : List Fnc} {F : Fnc}
theorem head_rch (hp : Right p) (hF : F ∈ p) {n : Nat} (h : n ∈ hdL F) : n < F.code.length ∧ rchB F n = true := by
  obtain ⟨h1, h2⟩ := hdL_mem.1 h
  refine ⟨h1, ?_⟩
  unfold hdB at h2
  rw [Bool.or_eq_true] at h2
  rcases h2 with h2 | h2
  · have : n = 0 := by simpa using h2
    subst this
    exact rch_zero (hp.ok.fn F hF)
  · rw [List.any_eq_true] at h2
    obtain ⟨q, hq, h3⟩ := h2
    unfold hdOf at h3
    rw [Bool.and_eq_true] at h3
    obtain ⟨h4, h5⟩ := h3
    have hql := List.mem_range.1 hq
    rw [List.getElem?_eq_getElem hql] at h5
    simp only [Bool.and_eq_true, List.contains_iff_mem] at h5
    exact (hp.nextR hF h4 (List.getElem?_eq_getElem hql) ((nextS_mem _ _ _).1 h5.2)).2
theorem zero_head (hp : Right p) (hF : F ∈ p) : (hdL F)[0]? = some 0 := by
  have h0 : 0 ∈ hdL F := hdL_mem.2 ⟨by have := (hp.ok.fn F hF).c1; omega, by simp [hdB]⟩
  have := posH_get h0
  exact this
/-- What is not an end goes on. -/
theorem goes_on (hp : Right p) (hF : F ∈ p) {q : Nat} (hr : rchB F q = true) (hq : q < F.code.length) (ho : ¬ 15 ≤ (insAt F q).op) : q + 1 < F.code.length ∧ rchB F (q + 1) = true := by
  have hx : F.code[q]? = some F.code[q] := List.getElem?_eq_getElem hq
  rw [insAt_eq hx] at ho
  exact hp.nextR hF hr hx (by unfold nextL; rw [if_neg (by omega), if_neg (by omega), if_neg (by omega)]; simp)
theorem toG_spec (hp : Right p) (hF : F ∈ p) : ∀ (k b : Nat), 0 < b → b ≤ F.code.length → rchB F (b - 1) = true → F.code.length ≤ k + b → b ≤ toG F k b ∧ toG F k b ≤ F.code.length ∧ rchB F (toG F k b - 1) = true ∧ stopB F (toG F k b) = true ∧ ∀ q, b ≤ q → q < toG F k b → stopB F q = false ∧ rchB F q = true
  | 0, b, h0, h1, h2, h3 => by
    have hb : b = F.code.length := by omega
    refine ⟨Nat.le_refl _, h1, h2, ?_, fun q h4 h5 => by unfold toG at h5; omega⟩
    unfold toG stopB
    by_cases ho : 15 ≤ (insAt F (b - 1)).op
    · simp [ho]
    · have := (goes_on hp hF h2 (by omega) ho).1; omega
  | k + 1, b, h0, h1, h2, h3 => by
    by_cases hs : stopB F b = true
    · have e : toG F (k + 1) b = b := by unfold toG; rw [if_pos hs]
      rw [e]
      exact ⟨Nat.le_refl _, h1, h2, hs, fun q h4 h5 => by omega⟩
    · have e : toG F (k + 1) b = toG F k (b + 1) := by conv => lhs; unfold toG; rw [if_neg hs]
      have hs' : stopB F b = false := by simpa using hs
      have ho : ¬ 15 ≤ (insAt F (b - 1)).op := by intro h; unfold stopB at hs'; simp [h] at hs'
      obtain ⟨h4, h5⟩ := goes_on hp hF h2 (by omega) ho
      rw [show b - 1 + 1 = b by omega] at h4 h5
      obtain ⟨i1, i2, i3, i4, i5⟩ := toG_spec hp hF k (b + 1) (by omega) (by omega) (by simpa using h5) (by omega)
      rw [e]
      refine ⟨by omega, i2, i3, i4, fun q h6 h7 => ?_⟩
      by_cases hq : q = b
      · subst hq; exact ⟨hs', h5⟩
      · exact i5 q (by omega) h7
theorem toF_spec (hp : Right p) (hF : F ∈ p) {a : Nat} (ha : a ∈ hdL F) : a < toF F a ∧ toF F a ≤ F.code.length ∧ rchB F (toF F a - 1) = true ∧ stopB F (toF F a) = true ∧ ∀ q, a < q → q < toF F a → stopB F q = false ∧ rchB F q = true := by
  obtain ⟨h1, h2⟩ := head_rch hp hF ha
  obtain ⟨i1, i2, i3, i4, i5⟩ := toG_spec hp hF F.code.length (a + 1) (by omega) h1 (by simpa using h2) (by omega)
  exact ⟨i1, i2, i3, i4, fun q h3 h4 => i5 q (by omega) h4⟩
/-- Where a block leads, a block begins. -/
theorem nxN_head (hp : Right p) (hF : F ∈ p) {a n : Nat} (ha : a ∈ hdL F) (hn : n ∈ nxN F a) : n ∈ hdL F := by
  obtain ⟨h1, h2, h3, h4, -⟩ := toF_spec hp hF ha
  unfold nxN at hn
  have hq : toF F a - 1 < F.code.length := by omega
  have hx : F.code[toF F a - 1]? = some F.code[toF F a - 1] := List.getElem?_eq_getElem hq
  have hn2 := (nextS_mem _ _ _).1 hn
  have hnr := hp.nextR hF h3 (x := insAt F (toF F a - 1)) (by rw [insAt_eq hx]; exact hx) hn2
  unfold stopB at h4
  rw [Bool.or_eq_true] at h4
  by_cases ho : 15 ≤ (insAt F (toF F a - 1)).op
  · refine hdL_mem.2 ⟨hnr.1, ?_⟩
    unfold hdB
    rw [Bool.or_eq_true]
    right
    rw [List.any_eq_true]
    refine ⟨toF F a - 1, List.mem_range.2 hq, ?_⟩
    unfold hdOf
    rw [h3, hx, ← insAt_eq hx]
    simp [ho, hn]
  · rcases h4 with h4 | h4
    · simp [ho] at h4
    · have : nextL (insAt F (toF F a - 1)) (toF F a - 1) = [toF F a] := by
        unfold nextL; rw [if_neg (by omega), if_neg (by omega), if_neg (by omega)]; congr 1; omega
      rw [this] at hn2
      rw [List.mem_singleton.1 hn2]
      simpa using h4
end
end Tier
