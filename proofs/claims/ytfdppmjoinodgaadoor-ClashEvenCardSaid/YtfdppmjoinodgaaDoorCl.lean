/-
  slices.Clone, of frames and of whole numbers: a row of the call's own of the same elements.
-/
import Derived.Test.YtfdppmjoinodgaaDoorStM
import Derived.Maps.AppendAt
import Derived.Deep.AppendLies
import Derived.Lib.Walk
import Derived.Lib.SliceRun
namespace Go.Proofs.YtfdppmjoinodgaaDoor
open Go.RowKit Tier
theorem infoFr : (Tryd.prog.info? 72).map (fun i => (i.zero, i.size, i.bytes)) = some (some (.agg (frCell ⟨0, 0, List.replicate 12 0⟩).toArray), 14, 112) := by kernel_rfl
theorem infoIn : (Tryd.prog.info? 3).map (fun i => (i.zero, i.size, i.bytes)) = some (some (.int .i64 0), 1, 8) := by kernel_rfl
set_option maxHeartbeats 2000000 in
set_option maxRecDepth 100000 in
theorem clone_num {B : Nat} {v : Value} {l : List Int} (w : World) (h : NumAt w B v l) (hl : l.length ≤ 1000000) :
    Calls Tryd.prog 70 #[v] w fun e w' => (∃ v', e = .returned v' ∧ w'.ownsRow w.heap.size 3 1 v' l.length (intsV l)) ∧ Below w.heap.size w w' := by
  obtain ⟨i0, hi, hz0, hz1, hz2⟩ := info_parts infoIn
  obtain ⟨A, cap, rfl, -, hA⟩ := h
  have q22 : ∀ (w : World) (a : Option Addr) (n c n' c' : Nat), (binOp .eql 37 (.slice a n c) (.slice none n' c')).run Tryd.prog w = .ok (.bool a.isNone) w := fun w a n c n' c' => Lib.run_eql_slice_nil w _ _ a n c n' c' Tryd.underlying37
  cases A with
  | none =>
    have h0 : l.length = 0 := by
      rcases Nat.eq_zero_or_pos l.length with h | h
      · exact h
      · obtain ⟨b, o, cur, h1, -⟩ := hA h; cases h1
    have hl0 : l = [] := List.eq_nil_of_length_eq_zero h0
    subst hl0
    clear hA
    go_enter Tryd.func70, Tryd.ntmps70
    go_wp2_with fail
    go_ret
    exact ⟨⟨_, rfl, World.ownsRow_nil _ _ _ _⟩, Below.refl _ _⟩
  | some a =>
    have HA := Lib.hid (show ∀ j u, (intsV l)[j]? = some u → w.cell? (a.add j) = some u from fun j u hj => by
      have hjl : j < l.length := by
        have := (List.getElem?_eq_some_iff.1 hj).1
        simpa [intsV] using this
      obtain ⟨b, o, cur, h1, h2, h3, h4⟩ := hA (by omega)
      obtain rfl := Option.some.inj h1
      simp only [intsV, List.getElem?_map, List.getElem?_eq_getElem hjl, Option.map_some, Option.some.injEq] at hj
      subst hj
      rw [Addr.add_lit, cell_of_row w b (o + j) cur _ _ h3]
      exact h4 j _ (List.getElem?_eq_getElem hjl))
    have HL := Lib.hid (show (intsV l).length = l.length * 1 by simp [intsV])
    have HO := Lib.hid (show ∀ u ∈ intsV l, u.oneCell' = true from fun u hu => by obtain ⟨x, _, rfl⟩ := List.mem_map.1 hu; rfl)
    clear hA
    generalize l.length = n at *
    generalize intsV l = xs at *
    go_enter Tryd.func70, Tryd.ntmps70
    go_wp2_with (at_builtin; refine wpList_append_own _ rfl _ _ 37 rfl w.heap.size 3 i0 _ 1 8 Tryd.underlying37 hi hz0 hz1 hz2 rfl (by decide) _ _ _ rfl (World.ownsRow_made w #[] 0 (Nat.le_refl _) (Nat.zero_le _) rfl) a n cap xs rfl (by simpa using HL.out) (fun j u hj => Lib.cell?_alloc_some _ (HA.out j u hj)) (by simpa using HO.out) (by unfold maxLen; omega) (by omega) (by simp) ?_)
    intro v' w1 hown hgrow hnil
    go_wp2_with fail
    go_ret
    exact ⟨⟨v', rfl, by simpa using hown⟩, ((Below.refl _ w).alloc (Nat.le_refl _) _).grown hgrow (by simp) (by intro k hk; simp [Value.ownBlock] at hk; omega)⟩
set_option maxHeartbeats 2000000 in
set_option maxRecDepth 100000 in
theorem clone_fr {B : Nat} {v : Value} {n : Nat} {xs : List Value} (w : World) (h : w.ownsRow B 72 14 v n xs) (ho : ∀ u ∈ xs, u.oneCell' = true) (hn : n ≤ 8) :
    Calls Tryd.prog 87 #[v] w fun e w' => (∃ v', e = .returned v' ∧ w'.ownsRow w.heap.size 72 14 v' n xs) ∧ Below w.heap.size w w' := by
  obtain ⟨i0, hi, hz0, hz1, hz2⟩ := info_parts infoFr
  have q22 : ∀ (w : World) (a : Option Addr) (n c n' c' : Nat), (binOp .eql 65 (.slice a n c) (.slice none n' c')).run Tryd.prog w = .ok (.bool a.isNone) w := fun w a n c n' c' => Lib.run_eql_slice_nil w _ _ a n c n' c' Tryd.underlying65
  rcases h.2 with ⟨rfl, rfl⟩ | ⟨g, cap, cur, rfl, hg, hh, hc, hcm, hs, ht⟩
  · have hx : xs = [] := List.eq_nil_of_length_eq_zero (by have := h.1; omega)
    subst hx
    clear h
    go_enter Tryd.func87, Tryd.ntmps87
    go_wp2_with fail
    go_ret
    exact ⟨⟨_, rfl, World.ownsRow_nil _ _ _ _⟩, Below.refl _ _⟩
  · have HA := Lib.hid (show ∀ j u, xs[j]? = some u → w.cell? ((⟨g, 0, none⟩ : Addr).add j) = some u from h.cells rfl)
    have HL := Lib.hid h.1
    have HO := Lib.hid ho
    clear h ho hh hs ht
    go_enter Tryd.func87, Tryd.ntmps87
    go_wp2_with (at_builtin; refine wpList_append_own _ rfl _ _ 65 rfl w.heap.size 72 i0 _ 14 112 Tryd.underlying65 hi hz0 hz1 hz2 rfl (by decide) _ _ _ rfl (World.ownsRow_made w #[] 0 (Nat.le_refl _) (Nat.zero_le _) rfl) ⟨g, 0, none⟩ n cap xs rfl (by simpa using HL.out) (fun j u hj => Lib.cell?_alloc_some _ (HA.out j u hj)) (by simpa using HO.out) (by unfold maxLen; omega) (by omega) (by simp) ?_)
    intro v' w1 hown hgrow hnil
    go_wp2_with fail
    go_ret
    exact ⟨⟨v', rfl, by simpa using hown⟩, ((Below.refl _ w).alloc (Nat.le_refl _) _).grown hgrow (by simp) (by intro k hk; simp [Value.ownBlock] at hk; omega)⟩
end Go.Proofs.YtfdppmjoinodgaaDoor
