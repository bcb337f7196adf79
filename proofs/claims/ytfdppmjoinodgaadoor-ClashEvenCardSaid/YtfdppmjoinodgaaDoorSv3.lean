/-
  Plain: what Build makes, read off its parts: numbers are given once, in order.
-/
import Derived.Test.YtfdppmjoinodgaaDoorSsV
namespace Go.Proofs.YtfdppmjoinodgaaDoor
open Go.RowKit Tier
/-- The numbers given in a block's turn lie from here .. -/
def lowB (p : List Fnc) (F : Fnc) (O : List Nat) (bs : List BR) (K j : Nat) : Nat := (bldTo p F O bs (ordL F bs K) ((ordL F bs K).idxOf j)).same.length
/-- .. to here. -/
def higB (p : List Fnc) (F : Fnc) (O : List Nat) (bs : List BR) (K j : Nat) : Nat := (bldTo p F O bs (ordL F bs K) ((ordL F bs K).idxOf j + 1)).same.length
structure Raw (p : List Fnc) (F : Fnc) (O : List Nat) (bs : List BR) (K : Nat) (s : SB) : Prop where
  inv : BInv p F O bs (ordL F bs K) K s
  part : ∀ j, j < bs.length → PartOk p F O bs j (s.part j) (s.began.getD j []) (s.ends.getD j []) (lowB p F O bs K j) (higB p F O bs K j)
  le : ∀ j, j < bs.length → higB p F O bs K j ≤ s.same.length
  ge : ∀ j, j < bs.length → F.params.toNat ≤ lowB p F O bs K j
  ap : ∀ j j', j < bs.length → j' < bs.length → j ≠ j' → higB p F O bs K j ≤ lowB p F O bs K j' ∨ higB p F O bs K j' ≤ lowB p F O bs K j
section
variable {p : List Fnc} {F : Fnc} {O : List Nat} {bs : List BR} {l : List Int} {s s1 s2 : SB} {K : Nat}
theorem raw (hk : checkP p = 0) (hF : F ∈ p) (hO : LiveOk p F O) (hb : BlkOk F bs) (hK : (ordL F bs K).length = K) (hs : bldTo p F O bs (ordL F bs K) K = s) : Raw p F O bs K s := by
  obtain ⟨hB, -⟩ := all_parts hk hF hO hb hK hs
  obtain ⟨h1, h2⟩ := ord_ok hk hF hb K
  have hidx : ∀ j, j < bs.length → (ordL F bs K).idxOf j < K ∧ (ordL F bs K)[(ordL F bs K).idxOf j]? = some j := fun j hj => by
    have hm := ord_all hk hF hb hK j hj
    have hl := List.idxOf_lt_length_of_mem hm
    exact ⟨Nat.lt_of_lt_of_eq hl hK, by rw [List.getElem?_eq_getElem hl, List.getElem_idxOf]⟩
  have hmono : ∀ u u', u < u' → u' < K → ∀ j, (ordL F bs K)[u]? = some j → (bldTo p F O bs (ordL F bs K) (u + 1)).same.length ≤ (bldTo p F O bs (ordL F bs K) u').same.length := fun u u' hu hu' j hj =>
    ((binv hk hF hO hb h1.nodup h1.lt h1.fst h1.beh u' (by rw [hK]; omega)).vis u hu j hj).2
  refine ⟨hB, fun j hj => ?_, fun j hj => ?_, fun j hj => ?_, fun j j' hj hj' hne => ?_⟩
  · obtain ⟨h3, h4⟩ := hidx j hj
    exact (hB.vis _ h3 j h4).1
  · obtain ⟨h3, h4⟩ := hidx j hj
    exact (hB.vis _ h3 j h4).2
  · obtain ⟨h3, h4⟩ := hidx j hj
    exact (binv hk hF hO hb h1.nodup h1.lt h1.fst h1.beh _ (by rw [hK]; omega)).ge
  · obtain ⟨h3, h4⟩ := hidx j hj
    obtain ⟨h5, h6⟩ := hidx j' hj'
    rcases Nat.lt_trichotomy ((ordL F bs K).idxOf j) ((ordL F bs K).idxOf j') with h | h | h
    · exact .inl (hmono _ _ h h5 j h4)
    · rw [h] at h4
      exact absurd (Option.some.inj (h4.symm.trans h6)) hne
    · exact .inr (hmono _ _ h h3 j' h6)
/-! numbers -/
theorem numF_out (P : Nat) (v : Nat) : ∀ (G : List Nat), v ∉ G → (numF P G).1 v = if v < P then (v : Int) else 0 := fun G => by
  induction G using List.rec with
  | nil => intro _; rfl
  | cons a G ih =>
    intro h
    have key : ∀ (G : List Nat) (x : (Nat → Int) × Nat), v ∉ G → (G.foldl (fun (x : (Nat → Int) × Nat) v => (putN x.1 v (x.2 : Int), x.2 + 1)) x).1 v = x.1 v := fun G => by
      induction G with
      | nil => intro x _; rfl
      | cons b G ih2 =>
        intro x hb
        rw [List.foldl_cons, ih2 _ (fun hm => hb (.tail _ hm))]
        show (if v = b then (x.2 : Int) else x.1 v) = x.1 v
        rw [if_neg (fun e => hb (by rw [e]; exact .head _))]
    exact key (a :: G) _ h
theorem numF_get (P : Nat) : ∀ (G : List Nat), G.Nodup → ∀ k (hk : k < G.length), (numF P G).1 (G[k]) = ((P + k : Nat) : Int) := fun G => by
  have key : ∀ (n : Nat) (G : List Nat), G.length = n → G.Nodup → ∀ k (hk : k < G.length), (numF P G).1 (G[k]) = ((P + k : Nat) : Int) := fun n => by
    induction n with
    | zero => intro G hl _ k hk; omega
    | succ n ih =>
      intro G hl hn k hk
      obtain ⟨G', v, rfl⟩ : ∃ G' v, G = G' ++ [v] := ⟨G.dropLast, G.getLast (by intro e; subst e; simp at hl), (List.dropLast_concat_getLast _).symm⟩
      rw [List.length_append, List.length_singleton] at hl hk
      obtain ⟨h1, -, h3⟩ := List.nodup_append.1 hn
      rw [numF_snoc]
      dsimp only
      unfold putN
      by_cases e : k < G'.length
      · rw [List.getElem_append_left e, if_neg (fun e2 => h3 _ (List.getElem_mem e) v (by simp) e2)]
        exact ih G' (by omega) h1 k e
      · obtain rfl : k = G'.length := by omega
        rw [List.getElem_append_right (Nat.le_refl _)]
        simp only [Nat.sub_self, List.getElem_singleton, if_true]
        rw [numF_nx]
  exact key G.length G rfl
/-- A number that is given is none of them all: it is from 0, and below their count. -/
theorem numF_range (P : Nat) (G : List Nat) (hn : G.Nodup) (v : Nat) : 0 ≤ (numF P G).1 v ∧ ((v ∈ G ∨ v < P) → (numF P G).1 v < ((P + G.length : Nat) : Int)) := by
  by_cases h : v ∈ G
  · obtain ⟨k, hk, rfl⟩ := List.getElem_of_mem h
    rw [numF_get P G hn k hk]
    exact ⟨by omega, fun _ => by omega⟩
  · rw [numF_out P v G h]
    by_cases e : v < P
    · rw [if_pos e]; exact ⟨by omega, fun _ => by omega⟩
    · rw [if_neg e]; exact ⟨by omega, fun h2 => by rcases h2 with h2 | h2; exact absurd h2 h; exact absurd h2 e⟩
/-! Build -/
/-- What shrink leaves alone. -/
theorem Shr.out (h : Shr s2 l) {v : Nat} (hv : ∀ i k, i < s2.parts.length → k < (s2.part i).phis.length → (s2.phi i k).id ≠ (v : Int)) : l[v]? = s2.same[v]? := by
  induction h with
  | base => rfl
  | @step l i k d x _ hi hk hd _ _ ih =>
    rw [List.getElem?_set, if_neg (fun e => hv i k hi hk (by rw [hd, e])), ih]
structure BuiltX (p : List Fnc) (F : Fnc) (O : List Nat) (bs : List BR) (K : Nat) (s1 s2 : SB) (l : List Int) (s : SB) : Prop where
  b : Built p F O bs K s2 l s
  hk : checkP p = 0
  hF : F ∈ p
  hs : bldTo p F O bs (ordL F bs K) K = s1
theorem BuiltX.raw (h : BuiltX p F O bs K s1 s2 l s) : Raw p F O bs K s1 := Proofs.YtfdppmjoinodgaaDoor.raw h.hk h.hF h.b.lok h.b.bok h.b.ord h.hs
theorem BuiltX.cls (h : BuiltX p F O bs K s1 s2 l s) : ClsR s1 s2 (prevL bs) bs.length 0 0 := h.hs ▸ h.b.cls
theorem BuiltX.n2 (h : BuiltX p F O bs K s1 s2 l s) : s2.parts.length = bs.length := by rw [h.cls.len, h.raw.inv.n]
theorem BuiltX.phl (h : BuiltX p F O bs K s1 s2 l s) (i : Nat) : (s2.part i).phis.length = (s1.part i).phis.length := (h.cls.part i).2.2.2
theorem BuiltX.ins (h : BuiltX p F O bs K s1 s2 l s) (i : Nat) : (s2.part i).ins = (s1.part i).ins := (h.cls.part i).2.1
theorem BuiltX.len (h : BuiltX p F O bs K s1 s2 l s) : l.length = s1.same.length := by rw [h.b.shr.len, h.cls.same]
theorem BuiltX.fin (h : BuiltX p F O bs K s1 s2 l s) : FinOk F bs s1 := fin_ok h.hk h.hF h.b.lok h.b.bok h.b.ord h.hs
theorem BuiltX.cnt (h : BuiltX p F O bs K s1 s2 l s) : CntOk { s2 with same := l } F.params.toNat := ((h.fin.cls s2 (by rw [h.raw.inv.n]; exact h.cls)).2.2.2.2.2.2.2) l h.b.shr
theorem BuiltX.all (h : BuiltX p F O bs K s1 s2 l s) : AllR l := h.cnt.all
/-- Phis' numbers ahead of the counting. -/
theorem BuiltX.pid (h : BuiltX p F O bs K s1 s2 l s) {i k : Nat} (hi : i < bs.length) (hk : k < (s2.part i).phis.length) : (s2.phi i k).id = ((lowB p F O bs K i + k : Nat) : Int) := by
  rw [(h.cls.phi i k).2]
  exact ((h.raw.part i hi).pid k (by rw [← h.phl]; exact hk)).1
theorem BuiltX.insA (h : BuiltX p F O bs K s1 s2 l s) (i t : Nat) : ({ s2 with same := l } : SB).insA i t = (s1.part i).ins.getD t noIns := by
  show (s2.part i).ins.getD t noIns = _
  rw [h.ins]
/-- What an instruction makes stands for itself. -/
theorem BuiltX.iroot (h : BuiltX p F O bs K s1 s2 l s) {i t : Nat} (hi : i < bs.length) (ht : t < (s1.part i).ins.length) {v : Nat} (hv : ((s1.part i).ins.getD t noIns).id = v) : l[v]? = some (v : Int) ∧ lowB p F O bs K i + (s1.part i).phis.length ≤ v ∧ v < higB p F O bs K i := by
  have hp := h.raw.part i hi
  have hrg : lowB p F O bs K i + (s1.part i).phis.length ≤ v ∧ v < higB p F O bs K i := by
    cases hst : setsB (insAt F (hdA F i + t)) with
    | true =>
      obtain ⟨u, h1, h2, h3⟩ := hp.set t ht hst
      rw [hv] at h1
      have e := Int.ofNat_inj.1 h1
      omega
    | false =>
      rw [hp.non t ht hst] at hv; omega
  refine ⟨?_, hrg⟩
  rw [h.b.shr.out (v := v) (fun i' k hi' hk' e => ?_), h.cls.same]
  · exact h.raw.inv.self v (by have := h.raw.le i hi; omega)
  · rw [h.n2] at hi'
    rw [h.pid hi' hk'] at e
    have e := Int.ofNat_inj.1 e
    have h1 := (h.raw.part i' hi').plo
    rw [h.phl] at hk'
    by_cases e2 : i' = i
    · subst e2; omega
    · rcases h.raw.ap i' i hi' hi e2 with h2 | h2 <;> omega
theorem keptK_mem {s : SB} {i k t : Nat} : t ∈ keptK s i k ↔ t < k ∧ s.same[(s.phi i t).id.toNat]? = some (s.phi i t).id := by
  unfold keptK
  rw [List.mem_filter, List.mem_range]; simp
/-- The numbers of one part rise, and lie in its bounds. -/
theorem BuiltX.partG (h : BuiltX p F O bs K s1 s2 l s) {i : Nat} (hi : i < bs.length) : (partG { s2 with same := l } i).Pairwise (· < ·) ∧ ∀ v ∈ partG { s2 with same := l } i, lowB p F O bs K i ≤ v ∧ v < higB p F O bs K i := by
  have hp := h.raw.part i hi
  have h1 : ∀ t ∈ keptK ({ s2 with same := l } : SB) i (s2.part i).phis.length, t < (s2.part i).phis.length ∧ (({ s2 with same := l } : SB).phi i t).id.toNat = lowB p F O bs K i + t := fun t ht => by
    have h2 := keptK_lt _ _ _ t ht
    refine ⟨h2, ?_⟩
    show (s2.phi i t).id.toNat = _
    rw [h.pid hi h2]; omega
  have h2 : ∀ v ∈ phiG ({ s2 with same := l } : SB) i (s2.part i).phis.length, lowB p F O bs K i ≤ v ∧ v < lowB p F O bs K i + (s1.part i).phis.length := fun v hv => by
    obtain ⟨t, ht, rfl⟩ := List.mem_map.1 hv
    obtain ⟨h3, h4⟩ := h1 t ht
    rw [h4, ← h.phl]; omega
  have hinm : ∀ m, m ≤ (s1.part i).ins.length → (insG ({ s2 with same := l } : SB) i m).Pairwise (· < ·) ∧ ∀ v ∈ insG ({ s2 with same := l } : SB) i m, ∃ t, t < m ∧ ((s1.part i).ins.getD t noIns).id = (v : Int) := fun m => by
    induction m with
    | zero => intro _; exact ⟨List.Pairwise.nil, fun v hv => by cases hv⟩
    | succ m ih =>
      intro hm
      obtain ⟨h3, h4⟩ := ih (by omega)
      rw [insG_succ, h.insA]
      by_cases h0 : 0 ≤ ((s1.part i).ins.getD m noIns).id
      · rw [if_pos h0]
        refine ⟨List.pairwise_append.2 ⟨h3, by simp, fun a ha b hb => ?_⟩, fun v hv => ?_⟩
        · obtain ⟨t, ht, e⟩ := h4 a ha
          have hb : b = ((s1.part i).ins.getD m noIns).id.toNat := by simpa using hb
          have := hp.inc t m ht (by omega) h0
          rw [e] at this
          omega
        · rcases List.mem_append.1 hv with hv | hv
          · obtain ⟨t, ht, e⟩ := h4 v hv
            exact ⟨t, by omega, e⟩
          · have hv : v = ((s1.part i).ins.getD m noIns).id.toNat := by simpa using hv
            exact ⟨m, by omega, by omega⟩
      · rw [if_neg h0, List.append_nil]
        exact ⟨h3, fun v hv => by obtain ⟨t, ht, e⟩ := h4 v hv; exact ⟨t, by omega, e⟩⟩
  have hml : (({ s2 with same := l } : SB).part i).ins.length = (s1.part i).ins.length := by
    show (s2.part i).ins.length = _
    rw [h.ins]
  obtain ⟨h5, h6⟩ := hinm (s1.part i).ins.length (Nat.le_refl _)
  have h7 : ∀ v ∈ insG ({ s2 with same := l } : SB) i (s1.part i).ins.length, lowB p F O bs K i + (s1.part i).phis.length ≤ v ∧ v < higB p F O bs K i := fun v hv => by
    obtain ⟨t, ht, e⟩ := h6 v hv
    exact (h.iroot hi ht e).2
  have hpl := hp.plo
  unfold Proofs.YtfdppmjoinodgaaDoor.partG
  rw [hml]
  refine ⟨List.pairwise_append.2 ⟨?_, h5, fun a ha b hb => ?_⟩, fun v hv => ?_⟩
  · unfold phiG
    rw [List.pairwise_map]
    refine List.Pairwise.imp_of_mem (fun {a b} ha hb hab => ?_) (keptK_sorted _ _ _)
    have h8 := (h1 a ha).2
    have h9 := (h1 b hb).2
    show (({ s2 with same := l } : SB).phi i a).id.toNat < (({ s2 with same := l } : SB).phi i b).id.toNat
    rw [h8, h9]; omega
  · have := (h2 a ha).2
    have := (h7 b hb).1
    omega
  · rcases List.mem_append.1 hv with hv | hv
    · have := h2 v hv; omega
    · have := h7 v hv; omega
theorem BuiltX.nodup (h : BuiltX p F O bs K s1 s2 l s) {n : Nat} (hn : n ≤ bs.length) : (allG { s2 with same := l } n).Nodup ∧ ∀ v ∈ allG { s2 with same := l } n, ∃ i, i < n ∧ lowB p F O bs K i ≤ v ∧ v < higB p F O bs K i := by
  refine ⟨?_, fun v hv => ?_⟩
  · unfold allG List.Nodup
    rw [List.pairwise_flatMap]
    refine ⟨fun i hi => (h.partG (by have := List.mem_range.1 hi; omega)).1.imp (fun h => by omega), ?_⟩
    refine List.Pairwise.imp_of_mem (fun {a b} ha hb hab x hx y hy e => ?_) List.pairwise_lt_range
    have ha' := List.mem_range.1 ha
    have hb' := List.mem_range.1 hb
    have h1 := (h.partG (i := a) (by omega)).2 x hx
    have h2 := (h.partG (i := b) (by omega)).2 y hy
    subst e
    rcases h.raw.ap a b (by omega) (by omega) (by omega) with h3 | h3 <;> omega
  · unfold allG at hv
    obtain ⟨i, hi, hv⟩ := List.mem_flatMap.1 hv
    have hi := List.mem_range.1 hi
    exact ⟨i, hi, (h.partG (by omega)).2 v hv⟩
end
end Go.Proofs.YtfdppmjoinodgaaDoor
/-
  Plain: what Build makes, in the words of the laws.
-/
namespace Go.Proofs.YtfdppmjoinodgaaDoor
open Go.RowKit Tier
section
variable {p : List Fnc} {F : Fnc} {O : List Nat} {bs : List BR} {l : List Int} {s s1 s2 : SB} {K : Nat}
/-- What is found for a value: a number of the new ones. -/
theorem BuiltX.given (h : BuiltX p F O bs K s1 s2 l s) {v : Nat} (hv : l[v]? = some (v : Int)) : v ∈ allG { s2 with same := l } bs.length ∨ v < F.params.toNat := by
  have hvl : v < s1.same.length := by rw [← h.len]; exact (List.getElem?_eq_some_iff.1 hv).1
  by_cases hP : v < F.params.toNat
  · exact .inr hP
  left
  have key : ∀ u, u ≤ K → v < (bldTo p F O bs (ordL F bs K) u).same.length → ∃ u', u' < u ∧ (bldTo p F O bs (ordL F bs K) u').same.length ≤ v ∧ v < (bldTo p F O bs (ordL F bs K) (u' + 1)).same.length := fun u => by
    induction u with
    | zero =>
      intro _ hv0
      exfalso
      have e : (bldTo p F O bs (ordL F bs K) 0).same = natI (List.range F.params.toNat) := rfl
      rw [e] at hv0
      simp [natI] at hv0
      omega
    | succ u ih =>
      intro hu hv0
      by_cases e : v < (bldTo p F O bs (ordL F bs K) u).same.length
      · obtain ⟨u', h1, h2⟩ := ih (by omega) e
        exact ⟨u', by omega, h2⟩
      · exact ⟨u, by omega, by omega, hv0⟩
  obtain ⟨u, hu, h1, h2⟩ := key K (Nat.le_refl _) (by rw [h.hs]; exact hvl)
  have hul : u < (ordL F bs K).length := by rw [h.b.ord]; exact hu
  obtain ⟨ho, -⟩ := ord_ok h.hk h.hF h.b.bok K
  have hj := ho.lt _ (List.getElem_mem hul)
  have hidx : (ordL F bs K).idxOf ((ordL F bs K)[u]) = u := by
    have h3 := List.idxOf_lt_length_of_mem (List.getElem_mem hul)
    have h4 : (ordL F bs K)[(ordL F bs K).idxOf ((ordL F bs K)[u])] = (ordL F bs K)[u] := List.getElem_idxOf h3
    exact (List.getElem_inj (h₀ := h3) (h₁ := hul) ho.nodup).1 h4
  obtain ⟨j, hje⟩ : ∃ j, (ordL F bs K)[u] = j := ⟨_, rfl⟩
  rw [hje] at hj hidx
  have hlo : lowB p F O bs K j ≤ v := by unfold lowB; rw [hidx]; exact h1
  have hhi : v < higB p F O bs K j := by unfold higB; rw [hidx]; exact h2
  have hp := h.raw.part j hj
  unfold allG
  refine List.mem_flatMap.2 ⟨j, List.mem_range.2 hj, ?_⟩
  unfold Proofs.YtfdppmjoinodgaaDoor.partG
  rcases hp.cov v hlo hhi with ⟨k, hk, hid⟩ | ⟨t, ht, hid⟩
  · refine List.mem_append_left _ ?_
    have e : (({ s2 with same := l } : SB).phi j k).id = (v : Int) := ((h.cls.phi j k).2).trans hid
    refine List.mem_map.2 ⟨k, keptK_mem.2 ⟨?_, ?_⟩, ?_⟩
    · show k < (s2.part j).phis.length
      rw [h.phl]; exact hk
    · rw [e, Int.toNat_natCast]; exact hv
    · rw [e, Int.toNat_natCast]
  · refine List.mem_append_right _ ?_
    have e : (({ s2 with same := l } : SB).insA j t).id = (v : Int) := by rw [h.insA]; exact hid
    unfold insG
    refine List.mem_map.2 ⟨t, List.mem_filter.2 ⟨List.mem_range.2 ?_, ?_⟩, ?_⟩
    · show t < (s2.part j).ins.length
      rw [h.ins]; exact ht
    · rw [e]; simp
    · rw [e, Int.toNat_natCast]
def valN (F : Fnc) (bs : List BR) (s2 : SB) (l : List Int) : Nat := F.params.toNat + (allG { s2 with same := l } bs.length).length
noncomputable def numM (F : Fnc) (bs : List BR) (s2 : SB) (l : List Int) : Nat → Int := (numF F.params.toNat (allG { s2 with same := l } bs.length)).1
theorem BuiltX.toV_ge (h : BuiltX p F O bs K s1 s2 l s) {v : Int} (hv : 0 ≤ v) (hl : v < l.length) : 0 ≤ toV l (numM F bs s2 l) v ∧ toV l (numM F bs s2 l) v < (valN F bs s2 l : Int) := by
  unfold toV
  rw [if_neg (by omega)]
  have hn := (h.nodup (Nat.le_refl _)).1
  obtain ⟨h1, h2⟩ := numF_range F.params.toNat _ hn (rt l v.toNat)
  exact ⟨h1, h2 (h.given (h.all.root (by omega)))⟩
theorem toV_neg {l : List Int} {M : Nat → Int} {v : Int} (hv : v < 0) : toV l M v = v := if_pos hv
theorem allG_pre (s : SB) {i n : Nat} (h : i ≤ n) : ∃ r, allG s n = allG s i ++ r := by
  induction n with
  | zero => exact ⟨[], by rw [show i = 0 by omega]; simp⟩
  | succ n ih =>
    by_cases e : i = n + 1
    · exact ⟨[], by rw [e]; simp⟩
    · obtain ⟨r, hr⟩ := ih (by omega)
      exact ⟨r ++ partG s n, by rw [allG_succ, hr, List.append_assoc]⟩
/-- The k-th number of a part is what it is counted as. -/
theorem BuiltX.num (h : BuiltX p F O bs K s1 s2 l s) {i k : Nat} (hi : i < bs.length) (hk : k < (Proofs.YtfdppmjoinodgaaDoor.partG { s2 with same := l } i).length) : numM F bs s2 l ((Proofs.YtfdppmjoinodgaaDoor.partG { s2 with same := l } i)[k]) = ((F.params.toNat + (allG { s2 with same := l } i).length + k : Nat) : Int) := by
  obtain ⟨r, hr⟩ := allG_pre { s2 with same := l } (show i + 1 ≤ bs.length from hi)
  rw [allG_succ, List.append_assoc] at hr
  have hn := (h.nodup (Nat.le_refl _)).1
  have hl : (allG { s2 with same := l } i).length + k < (allG { s2 with same := l } bs.length).length := by
    rw [hr, List.length_append, List.length_append]; omega
  have h1 := numF_get F.params.toNat _ hn _ hl
  have e : (allG { s2 with same := l } bs.length)[(allG { s2 with same := l } i).length + k] = (Proofs.YtfdppmjoinodgaaDoor.partG { s2 with same := l } i)[k] := by
    have h2 : (allG { s2 with same := l } bs.length)[(allG { s2 with same := l } i).length + k]? = (Proofs.YtfdppmjoinodgaaDoor.partG { s2 with same := l } i)[k]? := by
      rw [hr, List.getElem?_append_right (by omega), Nat.add_sub_cancel_left, List.getElem?_append_left hk]
    rw [List.getElem?_eq_getElem hl, List.getElem?_eq_getElem hk] at h2
    exact Option.some.inj h2
  rw [e] at h1
  unfold numM
  rw [h1]; omega
/-- What Build makes, in the words of the laws: g and c count the numbers ahead of a part, ahead of an instruction in its part. -/
structure FinP (p : List Fnc) (F : Fnc) (O : List Nat) (bs : List BR) (s : SB) (vals : Nat) (g : Nat → Nat) (c : Nat → Nat → Nat) : Prop where
  len : s.parts.length = bs.length
  inn : ∀ x ∈ s.parts, x.inn.length = 12
  block : ∀ i, i < bs.length → (s.part i).block = (i : Int)
  il : ∀ i, i < bs.length → (s.part i).ins.length = toF F (hdA F i) - hdA F i
  phl : ∀ i, i < bs.length → (s.part i).phis.length ≤ 12
  pid : ∀ i k, i < bs.length → k < (s.part i).phis.length → (s.phi i k).id = ((F.params.toNat + g i + k : Nat) : Int) ∧ (s.phi i k).args.length = (prevL bs i).length
  preg : ∀ i k, i < bs.length → k < (s.part i).phis.length → ∃ r : Nat, (s.phi i k).reg = r ∧ r < 12 ∧ (O.getD (hdA F i) 0).testBit r = true ∧ (s.part i).inn.getD r 0 = (s.phi i k).id
  pinc : ∀ i k, i < bs.length → k + 1 < (s.part i).phis.length → (s.phi i k).reg < (s.phi i (k + 1)).reg
  pjn : ∀ i, i < bs.length → 0 < (s.part i).phis.length → 1 < (prevL bs i).length
  parg : ∀ i k, i < bs.length → k < (s.part i).phis.length → ∀ a ∈ (s.phi i k).args, 0 ≤ a ∧ a < vals
  iop : ∀ i t, i < bs.length → t < (s.part i).ins.length → (s.insA i t).op = (insAt F (hdA F i + t)).op ∧ (s.insA i t).imm = (insAt F (hdA F i + t)).imm ∧ (s.insA i t).pc = ((hdA F i + t : Nat) : Int)
  iid : ∀ i t, i < bs.length → t < (s.part i).ins.length → (0 ≤ (s.insA i t).id → (s.insA i t).id = ((F.params.toNat + g i + (s.part i).phis.length + c i t : Nat) : Int) ∧ c i (t + 1) = c i t + 1) ∧ ((s.insA i t).id < 0 → c i (t + 1) = c i t)
  iset : ∀ i t, i < bs.length → t < (s.part i).ins.length → (0 ≤ (s.insA i t).id ↔ setsB (insAt F (hdA F i + t)) = true)
  ia : ∀ i t, i < bs.length → t < (s.part i).ins.length → (0 ≤ (s.insA i t).a ↔ useA p (insAt F (hdA F i + t)) = true) ∧ (s.insA i t).a < vals
  ib : ∀ i t, i < bs.length → t < (s.part i).ins.length → (0 ≤ (s.insA i t).b ↔ useB p (insAt F (hdA F i + t)) = true) ∧ (s.insA i t).b < vals
  innl : ∀ i r, i < bs.length → r < 12 → (0 ≤ (s.part i).inn.getD r 0 ↔ (O.getD (hdA F i) 0).testBit r = true) ∧ -1 ≤ (s.part i).inn.getD r 0 ∧ (s.part i).inn.getD r 0 < vals
  g0 : g 0 = 0
  c0 : ∀ i, c i 0 = 0
  gs : ∀ i, i < bs.length → g (i + 1) = g i + (s.part i).phis.length + c i (s.part i).ins.length
  vals : vals = F.params.toNat + g bs.length
theorem getD_map {α β : Type} (f : α → β) (l : List α) (d : α) (d' : β) {k : Nat} (hk : k < l.length) : (l.map f).getD k d' = f (l.getD k d) := by
  rw [List.getD_eq_getElem?_getD, List.getD_eq_getElem?_getD, List.getElem?_map, List.getElem?_eq_getElem hk]; rfl
theorem BuiltX.finP (h : BuiltX p F O bs K s1 s2 l s) : FinP p F O bs s (valN F bs s2 l) (fun i => (allG { s2 with same := l } i).length) (fun i t => (insG { s2 with same := l } i t).length) := by
  have hM : (numF F.params.toNat (allG { s2 with same := l } bs.length)).1 = numM F bs s2 l := rfl
  have hpt : ∀ j, j < bs.length → s.part j = ⟨(s2.part j).block, (keepF { s2 with same := l } j).phis.map (toPhi l (numM F bs s2 l)), (s2.part j).ins.map (toIns l (numM F bs s2 l)), (s2.began.getD j []).map (toV l (numM F bs s2 l))⟩ := h.b.part
  have hlen := h.len
  have hkl : ∀ i, (keepF { s2 with same := l } i).phis.length = (keptK { s2 with same := l } i (s2.part i).phis.length).length := fun i => by
    unfold keepF; rw [List.length_map]; rfl
  -- the k-th phi that stays
  have hph : ∀ i k, i < bs.length → k < (s.part i).phis.length → ∃ t, t < (s1.part i).phis.length ∧ (keptK { s2 with same := l } i (s2.part i).phis.length)[k]? = some t ∧ s.phi i k = toPhi l (numM F bs s2 l) (s2.phi i t) ∧ l[lowB p F O bs K i + t]? = some ((lowB p F O bs K i + t : Nat) : Int) := fun i k hi hk => by
    rw [hpt i hi] at hk
    simp only [List.length_map] at hk
    have hk2 : k < (keptK { s2 with same := l } i (s2.part i).phis.length).length := by rw [← hkl]; exact hk
    have hm := keptK_mem.1 (List.getElem_mem hk2)
    refine ⟨_, by rw [← h.phl]; exact hm.1, List.getElem?_eq_getElem hk2, ?_, ?_⟩
    · unfold SB.phi
      rw [hpt i hi]
      dsimp only
      rw [getD_map _ _ noPhi _ hk]
      congr 1
      unfold keepF
      show (List.map (SB.phi { s2 with same := l } i) (keptK { s2 with same := l } i (s2.part i).phis.length)).getD k noPhi = _
      rw [getD_map _ _ 0 _ hk2, List.getD_eq_getElem?_getD, List.getElem?_eq_getElem hk2]; rfl
    · have h2 := hm.2
      have e : (({ s2 with same := l } : SB).phi i (keptK { s2 with same := l } i (s2.part i).phis.length)[k]).id = ((lowB p F O bs K i + (keptK { s2 with same := l } i (s2.part i).phis.length)[k] : Nat) : Int) := h.pid hi hm.1
      rw [e, Int.toNat_natCast] at h2
      exact h2
  have hins : ∀ i t, i < bs.length → t < (s1.part i).ins.length → s.insA i t = toIns l (numM F bs s2 l) ((s1.part i).ins.getD t noIns) := fun i t hi ht => by
    unfold SB.insA
    rw [hpt i hi]
    dsimp only
    rw [h.ins, getD_map _ _ noIns _ ht]
  have hil : ∀ i, i < bs.length → (s.part i).ins.length = (s1.part i).ins.length := fun i hi => by
    rw [hpt i hi]
    dsimp only
    rw [List.length_map, h.ins]
  have hpl : ∀ i, i < bs.length → (s.part i).phis.length = (keptK { s2 with same := l } i (s2.part i).phis.length).length := fun i hi => by
    rw [hpt i hi]
    dsimp only
    rw [List.length_map, hkl]
  have hphG : ∀ i, (phiG { s2 with same := l } i (s2.part i).phis.length).length = (keptK { s2 with same := l } i (s2.part i).phis.length).length := fun i => by
    unfold phiG; rw [List.length_map]
  have hidv : ∀ i t, i < bs.length → t < (s1.part i).ins.length → ((s1.part i).ins.getD t noIns).id < 0 → toV l (numM F bs s2 l) ((s1.part i).ins.getD t noIns).id < 0 := fun i t _ _ h0 => by rw [toV_neg h0]; exact h0
  have hidp : ∀ i t, i < bs.length → t < (s1.part i).ins.length → 0 ≤ ((s1.part i).ins.getD t noIns).id → toV l (numM F bs s2 l) ((s1.part i).ins.getD t noIns).id = ((F.params.toNat + (allG { s2 with same := l } i).length + (keptK { s2 with same := l } i (s2.part i).phis.length).length + (insG { s2 with same := l } i t).length : Nat) : Int) ∧ (insG { s2 with same := l } i (t + 1)).length = (insG { s2 with same := l } i t).length + 1 := fun i t hi ht h0 => by
    obtain ⟨v, hv⟩ : ∃ v : Nat, ((s1.part i).ins.getD t noIns).id = v := ⟨((s1.part i).ins.getD t noIns).id.toNat, by omega⟩
    have hsu := insG_succ { s2 with same := l } i t
    rw [h.insA, if_pos h0, hv, Int.toNat_natCast] at hsu
    refine ⟨?_, by rw [hsu, List.length_append]; rfl⟩
    obtain ⟨r1, -⟩ := h.iroot hi ht hv
    rw [hv]
    unfold toV
    rw [if_neg (by omega), Int.toNat_natCast, rt_root r1]
    -- v is that number of its part
    have hpre : ∀ m, t + 1 ≤ m → ∃ r, insG { s2 with same := l } i m = insG { s2 with same := l } i (t + 1) ++ r := fun m hm => by
      induction m with
      | zero => omega
      | succ m ih =>
        by_cases e : m = t
        · subst e; exact ⟨[], by simp⟩
        · obtain ⟨r, hr⟩ := ih (by omega)
          exact ⟨_, by rw [insG_succ, hr, List.append_assoc]⟩
    obtain ⟨r, hr⟩ := hpre (s2.part i).ins.length (by rw [h.ins]; exact ht)
    have hg : (Proofs.YtfdppmjoinodgaaDoor.partG { s2 with same := l } i)[(keptK { s2 with same := l } i (s2.part i).phis.length).length + (insG { s2 with same := l } i t).length]? = some v := by
      unfold Proofs.YtfdppmjoinodgaaDoor.partG
      show (phiG { s2 with same := l } i (s2.part i).phis.length ++ insG { s2 with same := l } i (s2.part i).ins.length)[_]? = _
      rw [List.getElem?_append_right (by rw [hphG]; omega), hphG, Nat.add_sub_cancel_left, hr, hsu, List.append_assoc, List.getElem?_append_right (Nat.le_refl _), Nat.sub_self]; rfl
    obtain ⟨hgl, hge⟩ := List.getElem?_eq_some_iff.1 hg
    have h3 := h.num hi hgl
    rw [hge] at h3
    rw [h3]; omega
  have hab : ∀ i t, i < bs.length → t < (s1.part i).ins.length → ∀ v, (v = ((s1.part i).ins.getD t noIns).a ∨ v = ((s1.part i).ins.getD t noIns).b) → -1 ≤ v ∧ v < l.length := fun i t hi ht v hv => by
    have hp := (h.raw.part i hi).ab t ht
    have := h.raw.le i hi
    rcases hv with rfl | rfl <;> omega
  have htv : ∀ v : Int, -1 ≤ v → v < l.length → (0 ≤ toV l (numM F bs s2 l) v ↔ 0 ≤ v) ∧ -1 ≤ toV l (numM F bs s2 l) v ∧ toV l (numM F bs s2 l) v < (valN F bs s2 l : Int) := fun v h1 h2 => by
    by_cases h0 : 0 ≤ v
    · have := h.toV_ge h0 h2
      exact ⟨⟨fun _ => h0, fun _ => this.1⟩, by omega, this.2⟩
    · rw [toV_neg (by omega)]
      exact ⟨Iff.rfl, h1, by omega⟩
  refine ⟨h.b.len, fun x hx => ?_, fun i hi => ?_, fun i hi => ?_, fun i hi => ?_, fun i k hi hk => ?_, fun i k hi hk => ?_, fun i k hi hk => ?_, fun i hi h0 => ?_, fun i k hi hk a ha => ?_, fun i t hi ht => ?_, fun i t hi ht => ?_, fun i t hi ht => ?_, fun i t hi ht => ?_, fun i t hi ht => ?_, fun i r hi hr => ?_, rfl, fun i => rfl, fun i hi => ?_, rfl⟩
  · obtain ⟨j, hj, rfl⟩ := List.getElem_of_mem hx
    have hj' : j < bs.length := by rw [← h.b.len]; exact hj
    have e : s.part j = s.parts[j] := by unfold SB.part; rw [List.getD_eq_getElem?_getD, List.getElem?_eq_getElem hj]; rfl
    rw [← e, hpt j hj']
    show (List.map _ _).length = 12
    rw [List.length_map, h.cls.began]
    exact (h.raw.part j hj').b12
  · rw [hpt i hi]
    show (s2.part i).block = _
    rw [(h.cls.part i).1]; exact (h.raw.part i hi).block
  · rw [hil i hi]; exact (h.raw.part i hi).il
  · rw [hpl i hi]
    have := keptK_len { s2 with same := l } i (s2.part i).phis.length
    have := (h.raw.part i hi).phl
    have := h.phl i
    omega
  · obtain ⟨t, h1, h2, h3, h4⟩ := hph i k hi hk
    rw [h3]
    refine ⟨?_, ?_⟩
    · show toV l (numM F bs s2 l) (s2.phi i t).id = _
      rw [h.pid hi (by rw [h.phl]; exact h1)]
      unfold toV
      rw [if_neg (by omega), Int.toNat_natCast, rt_root h4]
      have hg : (Proofs.YtfdppmjoinodgaaDoor.partG { s2 with same := l } i)[k]? = some (lowB p F O bs K i + t) := by
        obtain ⟨h5, h6⟩ := List.getElem?_eq_some_iff.1 h2
        unfold Proofs.YtfdppmjoinodgaaDoor.partG
        show (phiG { s2 with same := l } i (s2.part i).phis.length ++ _)[k]? = _
        rw [List.getElem?_append_left (by rw [hphG]; exact h5)]
        unfold phiG
        rw [List.getElem?_map, h2]
        show some (s2.phi i t).id.toNat = _
        rw [h.pid hi (by rw [h.phl]; exact h1), Int.toNat_natCast]
      obtain ⟨hgl, hge⟩ := List.getElem?_eq_some_iff.1 hg
      have h7 := h.num hi hgl
      rw [hge] at h7
      rw [h7]
    · show ((s2.phi i t).args.map _).length = _
      rw [List.length_map]
      have h5 := h.cls.arg i t h1
      rw [if_pos (.inl hi), h.fin.arg] at h5
      show (s2.arg i t).length = _
      rw [h5]
      unfold fullA
      simp
  · obtain ⟨t, h1, h2, h3, h4⟩ := hph i k hi hk
    obtain ⟨r, r1, r2, r3, r4, r5⟩ := (h.raw.part i hi).preg t h1
    refine ⟨r, ?_, r2, r4, ?_⟩
    · rw [h3]
      show (s2.phi i t).reg = _
      rw [(h.cls.phi i t).1]; exact r1
    · rw [h3, hpt i hi]
      show ((s2.began.getD i []).map _).getD r 0 = toV l (numM F bs s2 l) (s2.phi i t).id
      rw [h.cls.began, getD_map _ _ 0 _ (by rw [(h.raw.part i hi).b12]; exact r2), r5, (h.cls.phi i t).2]; rfl
  · obtain ⟨t, h1, h2, h3, h4⟩ := hph i k hi (by omega)
    obtain ⟨t', h1', h2', h3', h4'⟩ := hph i (k + 1) hi hk
    rw [h3, h3']
    show (s2.phi i t).reg < (s2.phi i t').reg
    rw [(h.cls.phi i t).1, (h.cls.phi i t').1]
    refine (h.raw.part i hi).pinc t t' ?_ h1'
    obtain ⟨a1, a2⟩ := List.getElem?_eq_some_iff.1 h2
    obtain ⟨b1, b2⟩ := List.getElem?_eq_some_iff.1 h2'
    have := List.pairwise_iff_getElem.1 (keptK_sorted { s2 with same := l } i (s2.part i).phis.length) k (k + 1) a1 b1 (by omega)
    rw [a2, b2] at this
    exact this
  · obtain ⟨t, h1, -⟩ := hph i 0 hi h0
    cases hj : jn bs i with
    | false =>
      have := (h.raw.part i hi).phj hj
      rw [this] at h1; simp at h1
    | true =>
      unfold jn at hj
      have := of_decide_eq_true hj
      omega
  · obtain ⟨t, h1, h2, h3, h4⟩ := hph i k hi hk
    rw [h3] at ha
    obtain ⟨a', ha', rfl⟩ := List.mem_map.1 (show a ∈ (s2.phi i t).args.map (toV l (numM F bs s2 l)) from ha)
    have h5 := h.cls.arg i t h1
    rw [if_pos (.inl hi), h.fin.arg] at h5
    have ha' : a' ∈ s2.arg i t := ha'
    rw [h5] at ha'
    unfold fullA at ha'
    obtain ⟨q, hq, rfl⟩ := List.mem_map.1 (by simpa using ha')
    obtain ⟨r, r1, r2, r3, r4, r5⟩ := (h.raw.part i hi).preg t h1
    have r1 : (s1.phi i t).reg = (r : Int) := r1
    have h6 := comes_ok h.hk h.hF h.b.lok h.b.bok h.b.ord h.hs hi r2 r4 hq
    rw [r1]
    exact h.toV_ge h6.1 (by rw [hlen]; exact h6.2)
  · rw [hil i hi] at ht
    rw [hins i t hi ht]
    exact (h.raw.part i hi).op t ht
  · rw [hil i hi] at ht
    rw [hins i t hi ht, hpl i hi]
    show (0 ≤ toV l (numM F bs s2 l) _ → toV l (numM F bs s2 l) _ = _ ∧ _) ∧ (toV l (numM F bs s2 l) _ < 0 → _)
    by_cases h0 : 0 ≤ ((s1.part i).ins.getD t noIns).id
    · obtain ⟨h1, h2⟩ := hidp i t hi ht h0
      exact ⟨fun _ => ⟨h1, h2⟩, fun h3 => by rw [h1] at h3; omega⟩
    · have h1 := hidv i t hi ht (by omega)
      refine ⟨fun h2 => by omega, fun _ => ?_⟩
      have hsu := insG_succ { s2 with same := l } i t
      rw [h.insA, if_neg h0, List.append_nil] at hsu
      show (insG _ _ _).length = (insG _ _ _).length
      rw [hsu]
  · rw [hil i hi] at ht
    rw [hins i t hi ht]
    show 0 ≤ toV l (numM F bs s2 l) _ ↔ _
    cases hst : setsB (insAt F (hdA F i + t)) with
    | true =>
      obtain ⟨v, h1, -⟩ := (h.raw.part i hi).set t ht hst
      have := (hidp i t hi ht (by omega)).1
      exact ⟨fun _ => rfl, fun _ => by rw [this]; omega⟩
    | false =>
      have h1 := (h.raw.part i hi).non t ht hst
      have := hidv i t hi ht (by omega)
      exact ⟨fun h2 => by omega, fun h2 => by simp at h2⟩
  · rw [hil i hi] at ht
    rw [hins i t hi ht]
    obtain ⟨h1, h2⟩ := hab i t hi ht _ (.inl rfl)
    obtain ⟨h3, h4, h5⟩ := htv _ h1 h2
    obtain ⟨r1, r2, -, -⟩ := (h.raw.part i hi).red t ht
    refine ⟨?_, h5⟩
    show 0 ≤ toV l (numM F bs s2 l) _ ↔ _
    rw [h3]
    cases hu : useA p (insAt F (hdA F i + t)) with
    | true => exact ⟨fun _ => rfl, fun _ => r1 hu⟩
    | false => exact ⟨fun h6 => by rw [r2 hu] at h6; omega, fun h6 => by simp at h6⟩
  · rw [hil i hi] at ht
    rw [hins i t hi ht]
    obtain ⟨h1, h2⟩ := hab i t hi ht _ (.inr rfl)
    obtain ⟨h3, h4, h5⟩ := htv _ h1 h2
    obtain ⟨-, -, r1, r2⟩ := (h.raw.part i hi).red t ht
    refine ⟨?_, h5⟩
    show 0 ≤ toV l (numM F bs s2 l) _ ↔ _
    rw [h3]
    cases hu : useB p (insAt F (hdA F i + t)) with
    | true => exact ⟨fun _ => rfl, fun _ => r1 hu⟩
    | false => exact ⟨fun h6 => by rw [r2 hu] at h6; omega, fun h6 => by simp at h6⟩
  · rw [hpt i hi]
    show (0 ≤ ((s2.began.getD i []).map _).getD r 0 ↔ _) ∧ -1 ≤ ((s2.began.getD i []).map _).getD r 0 ∧ ((s2.began.getD i []).map _).getD r 0 < _
    have hp := h.raw.part i hi
    rw [h.cls.began, getD_map _ _ 0 _ (by rw [hp.b12]; exact hr)]
    have hb := hp.bv _ (getD_mem12 hp.b12 hr)
    have := h.raw.le i hi
    obtain ⟨h3, h4, h5⟩ := htv _ hb.1 (by omega)
    refine ⟨?_, h4, h5⟩
    rw [h3]
    cases hl : (O.getD (hdA F i) 0).testBit r with
    | true => exact ⟨fun _ => rfl, fun _ => hp.live r hl⟩
    | false => exact ⟨fun h6 => by rw [hp.dead r hr hl] at h6; omega, fun h6 => by simp at h6⟩
  · show (allG _ (i + 1)).length = _
    rw [allG_succ, List.length_append]
    unfold Proofs.YtfdppmjoinodgaaDoor.partG
    rw [List.length_append, hpl i hi, hil i hi]
    show _ + ((phiG { s2 with same := l } i (s2.part i).phis.length).length + (insG { s2 with same := l } i (s2.part i).ins.length).length) = _
    rw [hphG, h.ins]; omega
end
end Go.Proofs.YtfdppmjoinodgaaDoor
