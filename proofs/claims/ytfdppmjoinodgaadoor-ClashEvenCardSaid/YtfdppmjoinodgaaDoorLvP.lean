/-
  Plain law of live registers: what is wanted ahead of each place, from nothing upwards; the least that is closed. No program is in sight.
-/
import Derived.Test.YtfdppmjoinodgaaDoorFl1
import Derived.Test.YtfdppmjoinodgaaDoorRcP
namespace Tier
open Go Go.RowKit
theorem andnot_bit : ∀ (i a b : Nat), (a - (a &&& b)).testBit i = (a.testBit i && !b.testBit i)
  | 0, a, b => by
    have h1 : (a &&& b) % 2 = (a % 2) &&& (b % 2) := Nat.and_mod_two_pow (n := 1)
    have h2 := Nat.and_le_left (n := a) (m := b)
    simp only [Nat.testBit_zero]
    generalize a &&& b = c at *
    rcases Nat.mod_two_eq_zero_or_one a with ha | ha <;> rcases Nat.mod_two_eq_zero_or_one b with hb | hb <;> rw [ha, hb] at h1
    · have h3 : (a - c) % 2 = 0 := by simp at h1; omega
      rw [ha, hb, h3]; rfl
    · have h3 : (a - c) % 2 = 0 := by simp at h1; omega
      rw [ha, hb, h3]; rfl
    · have h3 : (a - c) % 2 = 1 := by simp at h1; omega
      rw [ha, hb, h3]; rfl
    · have h3 : (a - c) % 2 = 0 := by simp at h1; omega
      rw [ha, hb, h3]; rfl
  | i + 1, a, b => by
    have h1 : (a &&& b) % 2 = (a % 2) &&& (b % 2) := Nat.and_mod_two_pow (n := 1)
    have h2 := Nat.and_le_left (n := a) (m := b)
    have h3 : (a &&& b) / 2 = (a / 2) &&& (b / 2) := Nat.and_div_two_pow (n := 1)
    have h4 := Nat.and_le_left (n := a % 2) (m := b % 2)
    have h5 : (a - (a &&& b)) / 2 = a / 2 - ((a / 2) &&& (b / 2)) := by
      rw [← h3]
      rw [← h1] at h4
      generalize a &&& b = c at *
      clear h1 h3
      omega
    rw [Nat.testBit_succ, h5, andnot_bit i (a / 2) (b / 2), Nat.testBit_succ, Nat.testBit_succ]
def orN (O : List Nat) (l : List Nat) : Nat := l.foldl (fun acc n => acc ||| O.getD n 0) 0
theorem orN_go (O : List Nat) (i : Nat) : ∀ (l : List Nat) (acc : Nat), (l.foldl (fun acc n => acc ||| O.getD n 0) acc).testBit i = (acc.testBit i || l.any fun n => (O.getD n 0).testBit i)
  | [], acc => by simp
  | n :: l, acc => by
    simp only [List.foldl_cons, List.any_cons]
    rw [orN_go O i l, Nat.testBit_or, Bool.or_assoc]
theorem orN_bit (O l : List Nat) (i : Nat) : (orN O l).testBit i = l.any fun n => (O.getD n 0).testBit i := by
  unfold orN; rw [orN_go]; simp
theorem orN_succ (O l : List Nat) (k n : Nat) (h : l[k]? = some n) : orN O (l.take (k + 1)) = orN O (l.take k) ||| O.getD n 0 := by
  unfold orN; rw [List.take_add_one, h]; simp [List.foldl_append]
def liveV (p : List Fnc) (O : List Nat) (x : Ins) (pc : Nat) : Nat := (orN O (nextS x pc) - (orN O (nextS x pc) &&& setM x)) ||| readsM x (parOf p x)
theorem liveV_bit (p : List Fnc) (O : List Nat) (x : Ins) (pc i : Nat) : (liveV p O x pc).testBit i = true ↔ ((∃ n ∈ nextL x pc, (O.getD n 0).testBit i = true) ∧ (setM x).testBit i = false) ∨ (readsM x (parOf p x)).testBit i = true := by
  unfold liveV
  rw [Nat.testBit_or, andnot_bit, orN_bit]
  simp only [Bool.or_eq_true, Bool.and_eq_true, Bool.not_eq_true', List.any_eq_true, nextS_mem]
/-- What is closed: it holds what is read, and what is wanted behind and not set. -/
def PreL (p : List Fnc) (F : Fnc) (S : Nat → Nat) : Prop :=
  ∀ (pc : Nat) (x : Ins), rchB F pc = true → F.code[pc]? = some x → (∀ n ∈ nextL x pc, ∀ i, (S n).testBit i = true → (setM x).testBit i = false → (S pc).testBit i = true) ∧ Sub (readsM x (parOf p x)) (S pc)
structure LInv (p : List Fnc) (F : Fnc) (O : List Nat) : Prop where
  len : O.length = F.code.length
  lt : ∀ m ∈ O, m < 4096
  un : ∀ pc, rchB F pc = false → O.getD pc 0 = 0
  post : ∀ (pc : Nat) (x : Ins), rchB F pc = true → F.code[pc]? = some x → Sub (O.getD pc 0) (liveV p O x pc)
  low : ∀ S, PreL p F S → ∀ pc, Sub (O.getD pc 0) (S pc)
def FixL (p : List Fnc) (F : Fnc) (O : List Nat) : Prop := ∀ (pc : Nat) (x : Ins), rchB F pc = true → F.code[pc]? = some x → O.getD pc 0 = liveV p O x pc
theorem sum_set : ∀ (l : List Nat) (k a v : Nat), l[k]? = some a → (l.set k v).sum + a = l.sum + v
  | [], k, a, v, h => by simp at h
  | b :: l, 0, a, v, h => by simp at h; subst h; simp; omega
  | b :: l, k + 1, a, v, h => by
    have := sum_set l k a v (by simpa using h)
    simp; omega
theorem sum_le (l : List Nat) (h : ∀ m ∈ l, m < 4096) : l.sum ≤ 4096 * l.length := by
  induction l with
  | nil => simp
  | cons a l ih =>
    have h1 := h a (by simp)
    have h2 := ih fun m hm => h m (by simp [hm])
    simp; omega
def muL (O : List Nat) : Nat := 4096 * O.length - O.sum
theorem getD_set {O : List Nat} {k v : Nat} (hk : k < O.length) (i : Nat) : (O.set k v).getD i 0 = if i = k then v else O.getD i 0 := by
  rw [List.getD_eq_getElem?_getD, List.getD_eq_getElem?_getD, List.getElem?_set]
  by_cases h : k = i
  · subst h; simp [hk]
  · rw [if_neg h, if_neg (fun e => h e.symm)]
theorem getD_lt {O : List Nat} (h : ∀ m ∈ O, m < 4096) (i : Nat) : O.getD i 0 < 4096 := by
  rw [List.getD_eq_getElem?_getD]
  cases hh : O[i]? with
  | none => simp
  | some m => exact h m (List.mem_of_getElem? hh)
theorem orN_lt {O : List Nat} (h : ∀ m ∈ O, m < 4096) : ∀ (l : List Nat), orN O l < 4096 := by
  have key : ∀ (l : List Nat) (acc : Nat), acc < 4096 → l.foldl (fun acc n => acc ||| O.getD n 0) acc < 4096 := by
    intro l
    induction l with
    | nil => intro acc ha; exact ha
    | cons n l ih => intro acc ha; exact ih _ (or_lt ha (getD_lt h n))
  exact fun l => key l 0 (by omega)
section
variable {p : List Fnc} {F : Fnc} {O : List Nat}
theorem reads_lt (x : Ins) {regs n funcs : Int} (h : InsOk x regs n funcs) (hr : regs ≤ 12) (k : Int) : readsM x k < 4096 := by
  have ha : 2 ^ x.a.toNat < 4096 := pow_lt (by have := h.a1; have := h.a2; omega)
  have hb : 2 ^ x.b.toNat < 4096 := pow_lt (by have := h.b1; have := h.b2; omega)
  unfold readsM
  repeat' split
  all_goals first | omega | exact or_lt ha hb
theorem liveV_lt (h : LInv p F O) {pc : Nat} {x : Ins} {regs n funcs : Int} (hx : InsOk x regs n funcs) (hr : regs ≤ 12) : liveV p O x pc < 4096 := by
  unfold liveV
  have h1 := orN_lt h.lt (nextS x pc)
  exact or_lt (by omega) (reads_lt x hx hr _)
theorem liveV_mono {O O' : List Nat} (h : ∀ n, Sub (O.getD n 0) (O'.getD n 0)) (x : Ins) (pc : Nat) : Sub (liveV p O x pc) (liveV p O' x pc) := by
  intro i hi
  rw [liveV_bit] at hi ⊢
  rcases hi with ⟨⟨n, hn, h1⟩, h2⟩ | h1
  · exact .inl ⟨⟨n, hn, h n i h1⟩, h2⟩
  · exact .inr h1
theorem LInv.start (hp : Right p) (hF : F ∈ p) : LInv p F (List.replicate F.code.length 0) := by
  have h0 : ∀ pc, (List.replicate F.code.length 0).getD pc 0 = 0 := fun pc => by
    rw [List.getD_eq_getElem?_getD, List.getElem?_replicate]; split <;> rfl
  have _ := hp.ok.fn F hF
  exact ⟨by simp, fun m hm => by rw [(List.mem_replicate.1 hm).2]; omega, fun pc _ => h0 pc, fun pc x _ _ => by rw [h0]; exact sub_zero _, fun S _ pc => by rw [h0]; exact sub_zero _⟩
theorem LInv.step (hp : Right p) (hF : F ∈ p) (h : LInv p F O) {pc : Nat} {x : Ins} (hr : rchB F pc = true) (hx : F.code[pc]? = some x) : LInv p F (O.set pc (liveV p O x pc)) ∧ (liveV p O x pc ≠ O.getD pc 0 → muL (O.set pc (liveV p O x pc)) < muL O) := by
  have hfo := hp.ok.fn F hF
  have hio := hfo.ins x (List.mem_of_getElem? hx)
  have hpc : pc < O.length := by rw [h.len]; exact (List.getElem?_eq_some_iff.1 hx).1
  have hv := liveV_lt (pc := pc) h hio hfo.r2
  have hup : ∀ n, Sub (O.getD n 0) ((O.set pc (liveV p O x pc)).getD n 0) := fun n => by
    rw [getD_set hpc]
    split
    · next e => rw [e]; exact h.post pc x hr hx
    · exact fun i hi => hi
  refine ⟨⟨by simp [h.len], fun m hm => ?_, fun k hk => ?_, fun k y hk hy => ?_, fun S hS k => ?_⟩, fun hne => ?_⟩
  · rcases List.mem_or_eq_of_mem_set hm with hm | rfl
    · exact h.lt m hm
    · exact hv
  · rw [getD_set hpc, if_neg (fun e => by rw [e, hr] at hk; cases hk)]; exact h.un k hk
  · rw [getD_set hpc]
    split
    · next e =>
      subst e
      rw [hx] at hy
      obtain rfl := Option.some.inj hy
      exact liveV_mono hup _ _
    · exact (h.post k y hk hy).trans (liveV_mono hup _ _)
  · rw [getD_set hpc]
    split
    · next e =>
      subst e
      intro i hi
      rw [liveV_bit] at hi
      obtain ⟨h1, h2⟩ := hS k x hr hx
      rcases hi with ⟨⟨n, hn, h3⟩, h4⟩ | h3
      · exact h1 n hn i (h.low S hS n i h3) h4
      · exact h2 i h3
    · exact h.low S hS k
  · have hget : O[pc]? = some (O.getD pc 0) := by rw [List.getD_eq_getElem?_getD, List.getElem?_eq_getElem hpc]; rfl
    have hs := sum_set O pc _ (liveV p O x pc) hget
    have hle : O.getD pc 0 ≤ liveV p O x pc := by
      have h1 := (h.post pc x hr hx).and
      have h2 := Nat.and_le_right (n := O.getD pc 0) (m := liveV p O x pc)
      omega
    have hsum := sum_le (O.set pc (liveV p O x pc)) (fun m hm => by
      rcases List.mem_or_eq_of_mem_set hm with hm | rfl
      · exact h.lt m hm
      · exact hv)
    have hl : (O.set pc (liveV p O x pc)).length = O.length := by simp
    rw [hl] at hsum
    unfold muL
    rw [hl]
    omega
/-- The live registers ahead of each place. -/
structure LiveOk (p : List Fnc) (F : Fnc) (O : List Nat) : Prop where
  inv : LInv p F O
  fix : FixL p F O
theorem LiveOk.pre (h : LiveOk p F O) : PreL p F (fun n => O.getD n 0) := fun pc x hr hx => by
  have hf := h.fix pc x hr hx
  refine ⟨fun n hn i hi hs => ?_, fun i hi => ?_⟩
  · show (O.getD pc 0).testBit i = true
    rw [hf, liveV_bit]; exact .inl ⟨⟨n, hn, hi⟩, hs⟩
  · show (O.getD pc 0).testBit i = true
    rw [hf, liveV_bit]; exact .inr hi
theorem LiveOk.unique {O' : List Nat} (h : LiveOk p F O) (h' : LiveOk p F O') : O = O' := by
  have key : ∀ n, O.getD n 0 = O'.getD n 0 := fun n => by
    have h1 := h.inv.low _ h'.pre n
    have h2 := h'.inv.low _ h.pre n
    apply Nat.eq_of_testBit_eq
    intro i
    cases ha : (O.getD n 0).testBit i with
    | true => rw [h1 i ha]
    | false =>
      cases hb : (O'.getD n 0).testBit i with
      | false => rfl
      | true => rw [h2 i hb] at ha; cases ha
  apply List.ext_getElem
  · rw [h.inv.len, h'.inv.len]
  · intro n h1 h2
    have := key n
    rw [List.getD_eq_getElem?_getD, List.getD_eq_getElem?_getD, List.getElem?_eq_getElem h1, List.getElem?_eq_getElem h2] at this
    exact this
def liveL (F : Fnc) (O : List Nat) : List (Option Nat) := (List.range F.code.length).map fun pc => if rchB F pc = true then some (O.getD pc 0) else none
theorem liveL_length : (liveL F O).length = F.code.length := by simp [liveL]
theorem liveL_get {pc : Nat} (h : pc < F.code.length) : (liveL F O)[pc]? = some (if rchB F pc = true then some (O.getD pc 0) else none) := by
  unfold liveL; rw [List.getElem?_map, List.getElem?_range h]; rfl
/-- WHAT IS LIVE IS SURELY SET. -/
theorem LiveOk.sure (hk : checkP p = 0) (hF : F ∈ p) (h : LiveOk p F O) {pc m : Nat} (hm : (sureF F)[pc]? = some (some m)) : Sub (O.getD pc 0) m := by
  have hp := right_of hk
  have hfo := hp.ok.fn F hF
  let S : Nat → Nat := fun n => (((sureF F)[n]?).getD none).getD 0
  have hS : ∀ {n m : Nat}, (sureF F)[n]? = some (some m) → S n = m := fun h => by show (((sureF F)[_]?).getD none).getD 0 = _; rw [h]; rfl
  have hpre : PreL p F S := fun q x hr hx => by
    obtain ⟨m1, h1⟩ := rch_of hr
    have hb := not_bad hk hF (List.getElem?_eq_some_iff.1 hx).1
    unfold badAt at hb
    rw [hx, h1] at hb
    dsimp only at hb
    refine ⟨fun n hn i hi hs => ?_, ?_⟩
    · obtain ⟨-, m2, h3, h4⟩ := hp.next hF h1 hx hn
      rw [hS h3] at hi
      rw [hS h1]
      have := Sub.of_and h4 i hi
      rw [Nat.testBit_or, hs] at this
      simpa using this
    · rw [hS h1]; exact Sub.of_and (mask_of hb)
  have := h.inv.low S hpre pc
  rw [hS hm] at this
  exact this
end
end Tier
