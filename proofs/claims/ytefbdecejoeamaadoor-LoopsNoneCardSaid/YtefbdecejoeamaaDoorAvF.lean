/-
  Plain: the blocks of a function as a graph: each is come to; who leads to whom.
-/
import Derived.Test.YtefbdecejoeamaaDoorAvM
namespace Tier
open Go Go.RowKit Go.Proofs.YtefbdecejoeamaaDoor
/-- Block q leads to block i. -/
def Edg (F : Fnc) (q i : Nat) : Prop := q < (hdL F).length ∧ i ∈ nxI F (hdA F q)
def prevN (F : Fnc) (k : Nat) : List Nat := (List.range (hdL F).length).flatMap fun q => ((nxI F (hdA F q)).filter (· == k)).map fun _ => q
theorem prevN_mem {F : Fnc} {q k : Nat} : q ∈ prevN F k ↔ Edg F q k := by
  unfold prevN Edg
  rw [List.mem_flatMap]
  constructor
  · rintro ⟨m, hm, h⟩
    rw [List.mem_map] at h
    obtain ⟨x, hx, rfl⟩ := h
    rw [List.mem_filter] at hx
    have : x = k := by simpa using hx.2
    subst this
    exact ⟨List.mem_range.1 hm, hx.1⟩
  · rintro ⟨h1, h2⟩
    exact ⟨q, List.mem_range.2 h1, List.mem_map.2 ⟨k, List.mem_filter.2 ⟨h2, by simp⟩, rfl⟩⟩
theorem natI_flat (l : List Nat) (f : Nat → List Nat) : natI (l.flatMap f) = l.flatMap fun q => natI (f q) := by
  unfold natI; rw [List.map_flatMap]
theorem prevF_nat (F : Fnc) (k : Nat) : prevF F k = (if k = 0 then [-1] else []) ++ natI (prevN F k) := by
  unfold prevF prevN
  rw [natI_flat]
  congr 1
  congr 1
  funext q
  unfold pickP natI
  rw [List.map_map]; rfl
theorem prevF_pos {F : Fnc} {k : Nat} (h : k ≠ 0) : prevF F k = natI (prevN F k) := by rw [prevF_nat, if_neg h]; rfl
section
variable {p : List Fnc} {F : Fnc}
theorem nxI_lt (hp : Right p) (hF : F ∈ p) {a i : Nat} (ha : a ∈ hdL F) (h : i ∈ nxI F a) : i < (hdL F).length := by
  unfold nxI at h
  rw [List.mem_map] at h
  obtain ⟨m, hm, rfl⟩ := h
  exact (List.getElem?_eq_some_iff.1 (posH_get (nxN_head hp hF ha hm))).1
theorem hdA_mem {F : Fnc} {q : Nat} (h : q < (hdL F).length) : hdA F q ∈ hdL F ∧ (hdL F)[q]? = some (hdA F q) := by
  have h1 : (hdL F)[q]? = some (hdL F)[q] := List.getElem?_eq_getElem h
  rw [hdA_eq h1]
  exact ⟨List.getElem_mem h, h1⟩
theorem posH_hdA {F : Fnc} {q : Nat} (h : q < (hdL F).length) : posH F (hdA F q) = q := (posH_of (hdA_mem h).2).symm
theorem hdA_posH {F : Fnc} {n : Nat} (h : n ∈ hdL F) : hdA F (posH F n) = n := hdA_eq (posH_get h)
theorem come_cov (hp : Right p) (hF : F ∈ p) {n : Nat} (h : Path F n) : ∃ a, a ∈ hdL F ∧ a ≤ n ∧ n < toF F a ∧ Come (Edg F) (posH F a) := by
  induction h with
  | zero =>
    have hz := zero_head hp hF
    have h0 := List.mem_of_getElem? hz
    refine ⟨0, h0, Nat.le_refl _, (toF_spec hp hF h0).1, ?_⟩
    rw [← posH_of hz]; exact .zero
  | step hq hx hn ih =>
    rename_i q n x
    obtain ⟨a, ha, h1, h2, h3⟩ := ih
    have hqr := path_rch hp hF hq
    by_cases he : q + 1 < toF F a
    · have ho := cov_end hp hF ha h1 he
      rw [insAt_eq hx] at ho
      have h5 : nextL x q = [q + 1] := by unfold nextL; rw [if_neg (by omega), if_neg (by omega), if_neg (by omega)]
      rw [h5] at hn
      obtain rfl := List.mem_singleton.1 hn
      exact ⟨a, ha, by omega, he, h3⟩
    · have hT : toF F a = q + 1 := by omega
      have hm : n ∈ nxN F a := by
        unfold nxN
        rw [hT, Nat.add_sub_cancel, insAt_eq hx]
        exact (nextS_mem _ _ _).2 hn
      have hnh := nxN_head hp hF ha hm
      refine ⟨n, hnh, Nat.le_refl _, (toF_spec hp hF hnh).1, .step h3 ⟨(List.getElem?_eq_some_iff.1 (posH_get ha)).1, ?_⟩⟩
      rw [hdA_posH ha]
      exact List.mem_map.2 ⟨n, hm, rfl⟩
theorem edg_dom (hp : Right p) (hF : F ∈ p) : DomB (Edg F) (hdL F).length := by
  refine ⟨fun i hi => ?_, fun {q i} h => ⟨h.1, nxI_lt hp hF (hdA_mem h.1).1 h.2⟩⟩
  obtain ⟨hm, hg⟩ := hdA_mem hi
  obtain ⟨hl, hr⟩ := head_rch hp hF hm
  obtain ⟨a, ha, h1, h2, h3⟩ := come_cov hp hF (rch_path hp hF hr)
  have he := cov_one hp hF ha hm h1 h2 (Nat.le_refl _) (toF_spec hp hF hm).1
  rw [he, posH_hdA hi] at h3
  exact h3
end
end Tier
