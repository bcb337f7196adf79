/-
  Plain: where the blocks of a function lead and who leads to them.
-/
import Derived.Test.YtefbdecejoeamaaDoorBcP
namespace Tier
open Go Go.RowKit Go.Proofs.YtefbdecejoeamaaDoor
section
variable {p : List Fnc} {F : Fnc}
theorem pick_mem {F : Fnc} {l : List Nat} {q k : Nat} {z : Int} : z ∈ pickP F l q k ↔ k ∈ l ∧ z = (q : Int) := by
  unfold pickP
  rw [List.mem_map]
  constructor
  · rintro ⟨m, hm, rfl⟩
    rw [List.mem_filter] at hm
    obtain ⟨h1, h2⟩ := hm
    have : m = k := by simpa using h2
    subst this
    exact ⟨h1, rfl⟩
  · rintro ⟨h, rfl⟩
    exact ⟨k, List.mem_filter.2 ⟨h, by simp⟩, rfl⟩
theorem prevF_mem {k : Nat} {z : Int} : z ∈ prevF F k ↔ (k = 0 ∧ z = -1) ∨ ∃ q, q < (hdL F).length ∧ k ∈ nxI F (hdA F q) ∧ z = (q : Int) := by
  unfold prevF
  rw [List.mem_append, List.mem_flatMap]
  constructor
  · rintro (h | ⟨q, hq, h⟩)
    · left
      by_cases hk : k = 0
      · rw [if_pos hk] at h; exact ⟨hk, by simpa using h⟩
      · rw [if_neg hk] at h; simp at h
    · obtain ⟨h1, h2⟩ := pick_mem.1 h
      exact .inr ⟨q, List.mem_range.1 hq, h1, h2⟩
  · rintro (⟨rfl, rfl⟩ | ⟨q, hq, h, rfl⟩)
    · left; simp
    · exact .inr ⟨q, List.mem_range.2 hq, pick_mem.2 ⟨h, rfl⟩⟩
/-- The mirror: i leads to k as k is led to by i. -/
theorem meet_eq {i k : Nat} (hi : i < (hdL F).length) : (decide ((k : Int) ∈ natI (nxI F (hdA F i)))) = decide ((i : Int) ∈ prevF F k) := by
  have h1 : (k : Int) ∈ natI (nxI F (hdA F i)) ↔ k ∈ nxI F (hdA F i) := by
    unfold natI
    rw [List.mem_map]
    exact ⟨fun ⟨m, h1, h2⟩ => by
      have : m = k := by omega
      subst this; exact h1, fun h => ⟨k, h, rfl⟩⟩
  rw [decide_eq_decide, h1, prevF_mem]
  constructor
  · intro h; exact .inr ⟨i, hi, h, rfl⟩
  · rintro (⟨-, h⟩ | ⟨q, -, h, he⟩)
    · omega
    · have : i = q := by omega
      subst this; exact h
theorem nextS_sorted (x : Ins) (pc : Nat) : (nextS x pc).Pairwise (· < ·) := by
  unfold nextS
  repeat' split
  all_goals simp
  all_goals omega
theorem nxI_nodup (hp : Right p) (hF : F ∈ p) {a : Nat} (ha : a ∈ hdL F) : (nxI F a).Nodup := by
  have h1 : (nxN F a).Nodup := (nextS_sorted _ _).imp (fun h e => by omega)
  unfold nxI
  rw [List.nodup_iff_pairwise_ne, List.pairwise_map]
  refine List.Pairwise.imp_of_mem (fun {m n} hm hn h e => h ?_) (List.nodup_iff_pairwise_ne.1 h1)
  have k1 := posH_get (nxN_head hp hF ha hm)
  have k2 := posH_get (nxN_head hp hF ha hn)
  rw [e, k2] at k1
  exact (Option.some.inj k1).symm
theorem pick_sorted {l : List Nat} (h : l.Nodup) (q k : Nat) : (pickP F l q k).Pairwise (· < ·) := by
  have h1 : (l.filter (· == k)).Nodup := h.filter _
  have h2 : (pickP F l q k).length ≤ 1 := by
    unfold pickP
    rw [List.length_map]
    have h3 : ∀ m ∈ l.filter (· == k), m = k := fun m hm => by simpa using (List.mem_filter.1 hm).2
    match hl : l.filter (· == k), h1, h3 with
    | [], _, _ => simp
    | [_], _, _ => simp
    | m :: n :: t, h1, h3 =>
      have e1 := h3 m (by simp)
      have e2 := h3 n (by simp)
      simp [e1, e2] at h1
  match hl : pickP F l q k, h2 with
  | [], _ => exact .nil
  | [_], _ => simp
  | _ :: _ :: _, h2 => simp at h2
theorem prevF_sorted (hp : Right p) (hF : F ∈ p) (k : Nat) : (prevF F k).Pairwise (· < ·) := by
  have hn : ∀ n, n ≤ (hdL F).length → ((List.range n).flatMap fun q => pickP F (nxI F (hdA F q)) q k).Pairwise (· < ·) := fun n => by
    induction n with
    | zero => intro _; simp
    | succ n ih =>
      intro hn
      rw [List.range_succ, List.flatMap_append, List.pairwise_append]
      have hget : (hdL F)[n]? = some (hdL F)[n] := List.getElem?_eq_getElem hn
      refine ⟨ih (by omega), ?_, fun a ha b hb => ?_⟩
      · simp only [List.flatMap_cons, List.flatMap_nil, List.append_nil]
        rw [hdA_eq hget]
        exact pick_sorted (nxI_nodup hp hF (List.mem_of_getElem? hget)) n k
      · rw [List.mem_flatMap] at ha
        obtain ⟨q, hq, ha⟩ := ha
        simp only [List.flatMap_cons, List.flatMap_nil, List.append_nil] at hb
        have h1 := (pick_mem.1 ha).2
        have h2 := (pick_mem.1 hb).2
        have := List.mem_range.1 hq
        omega
  unfold prevF
  rw [List.pairwise_append]
  refine ⟨by split <;> simp, hn _ (Nat.le_refl _), fun a ha b hb => ?_⟩
  have h1 : a = -1 := by split at ha <;> simp at ha; exact ha
  rw [List.mem_flatMap] at hb
  obtain ⟨q, hq, hb⟩ := hb
  have h2 := (pick_mem.1 hb).2
  omega
/-- Somebody leads to every block. -/
theorem prevF_some (hp : Right p) (hF : F ∈ p) {k : Nat} (hk : k < (hdL F).length) : 0 < (prevF F k).length := by
  obtain ⟨a, ha⟩ : ∃ a, (hdL F)[k]? = some a := ⟨_, List.getElem?_eq_getElem hk⟩
  have ham := List.mem_of_getElem? ha
  obtain ⟨hal, har⟩ := head_rch hp hF ham
  have hz := zero_head hp hF
  rcases rch_back hp hF har with h0 | ⟨q, x, hq, hx, hn⟩
  · have h1 : k = 0 := by
      subst h0
      have h1 := posH_of ha
      have h2 := posH_of hz
      omega
    exact List.length_pos_of_mem (prevF_mem.2 (.inl ⟨h1, rfl⟩))
  · have hql := (List.getElem?_eq_some_iff.1 hx).1
    obtain ⟨b, hb, h1, h2⟩ := cov_ex hp hF q hql hq
    have hT : toF F b = q + 1 := by
      by_cases h3 : q + 1 < toF F b
      · have h4 := cov_end hp hF hb h1 h3
        rw [insAt_eq hx] at h4
        have h5 : nextL x q = [q + 1] := by unfold nextL; rw [if_neg (by omega), if_neg (by omega), if_neg (by omega)]
        rw [h5] at hn
        have h6 := List.mem_singleton.1 hn
        have h7 := ((toF_spec hp hF hb).2.2.2.2 (q + 1) (by omega) h3).1
        unfold stopB at h7
        rw [Bool.or_eq_false_iff] at h7
        have h8 := h7.2
        rw [← h6] at h8
        simp [ham] at h8
      · omega
    have hm : a ∈ nxN F b := by
      unfold nxN
      rw [hT, Nat.add_sub_cancel, insAt_eq hx]
      exact (nextS_mem _ _ _).2 hn
    have hbg := posH_get hb
    refine List.length_pos_of_mem (prevF_mem.2 (.inr ⟨posH F b, (List.getElem?_eq_some_iff.1 hbg).1, ?_, rfl⟩))
    rw [hdA_eq hbg, posH_of ha]
    exact List.mem_map.2 ⟨a, hm, rfl⟩
/-- The blocks lie in order. -/
theorem ends_before (hp : Right p) (hF : F ∈ p) {i a b : Nat} (ha : (hdL F)[i]? = some a) (hb : (hdL F)[i + 1]? = some b) : toF F a ≤ b := by
  have ham := List.mem_of_getElem? ha
  have hbm := List.mem_of_getElem? hb
  have hlt : a < b := by
    obtain ⟨h1, h2⟩ := List.getElem?_eq_some_iff.1 ha
    obtain ⟨h3, h4⟩ := List.getElem?_eq_some_iff.1 hb
    have := List.pairwise_iff_getElem.1 (hdL_sorted F) i (i + 1) h1 h3 (by omega)
    rw [h2, h4] at this; exact this
  by_cases h : b < toF F a
  · have := ((toF_spec hp hF ham).2.2.2.2 b hlt h).1
    unfold stopB at this
    rw [Bool.or_eq_false_iff] at this
    have := this.2
    simp [hbm] at this
  · omega
end
end Tier
