/-
  Plain: places that are come to. No program is in sight.
-/
import Derived.Test.YtefbdecejoeamaaDoorStP
namespace Tier
open Go Go.RowKit
/-- Is a place come to? -/
def rchB (F : Fnc) (pc : Nat) : Bool := (((sureF F)[pc]?).getD none).isSome
theorem rch_of {F : Fnc} {pc : Nat} (h : rchB F pc = true) : ∃ m, (sureF F)[pc]? = some (some m) := by
  unfold rchB at h
  cases h1 : (sureF F)[pc]? with
  | none => rw [h1] at h; simp at h
  | some o => cases o with
    | none => rw [h1] at h; simp at h
    | some m => exact ⟨m, rfl⟩
theorem of_rch {F : Fnc} {pc m : Nat} (h : (sureF F)[pc]? = some (some m)) : rchB F pc = true := by unfold rchB; rw [h]; rfl
theorem not_bad {p : List Fnc} (hc : checkP p = 0) {F : Fnc} (hF : F ∈ p) {pc : Nat} (hp : pc < F.code.length) : badAt p F pc = false := by
  have hE : progE p = 0 := by
    unfold checkP at hc
    by_cases hE : progE p = 0
    · exact hE
    · rw [if_pos hE] at hc; exact absurd hc hE
  unfold checkP at hc
  rw [if_neg (by simp [hE])] at hc
  have h1 := firstE_all hc (fnP p F) (List.mem_map.2 ⟨F, hF, rfl⟩)
  unfold fnP at h1
  by_cases hb : (List.range F.code.length).any (badAt p F) = true
  · rw [if_pos hb] at h1; cases h1
  · have hb' : (List.range F.code.length).any (badAt p F) = false := by simpa using hb
    rw [List.any_eq_false] at hb'
    have := hb' pc (List.mem_range.2 hp)
    simpa using this
/-- Where an instruction that is come to leads. -/
theorem Right.nextR {p : List Fnc} (hp : Right p) {F : Fnc} (hF : F ∈ p) {pc : Nat} {x : Ins} (hr : rchB F pc = true) (hx : F.code[pc]? = some x) {n : Nat} (hn : n ∈ nextL x pc) : n < F.code.length ∧ rchB F n = true := by
  obtain ⟨m, hm⟩ := rch_of hr
  obtain ⟨h1, m', h2, -⟩ := hp.next hF hm hx hn
  exact ⟨h1, of_rch h2⟩
theorem progE_ck {p : List Fnc} (hk : checkP p = 0) : progE p = 0 := by
  unfold checkP at hk
  by_cases hE : progE p = 0
  · exact hE
  · rw [if_pos hE] at hk; exact absurd hk hE
end Tier
