/-
  The walk of SsaSays: it returns true.
-/
import Derived.Test.YtlciakkbgaakiaaDoorSv6
import Derived.Test.YtlciakkbgaakiaaDoorPgS
import Derived.Test.YtlciakkbgaakiaaDoorOpn
import Derived.Deep.CutBlock
import Derived.Deep.CutRange
import Derived.Deep.DeepCutAuto
namespace Go.Proofs.YtlciakkbgaakiaaDoor
open Go.RowKit Tier
theorem SbAt.blkCell {w : World} {b : Nat} {c : SC} {s : SB} {V : SK → Value} (h : SbAt w b c s V) (hs : ∀ x ∈ s.parts, x.inn.length = 12) {g n cap : Nat} (hv : V .parts = .slice (some ⟨g, 0, none⟩) n cap) {i : Nat} (hi : i < s.parts.length) : w.cell? ⟨g, i * 15, none⟩ = some (.int .i64 (s.part i).block) := by
  refine h.own.cell .parts (by rw [rowsOf_v]; exact hv) ?_
  show (partsCells s.parts _ _)[i * 15]? = _
  unfold partsCells
  exact flat_at (f := fun j => (s.parts.getD j noPart).cells (V (.phis j)) (V (.ins j))) (t := 0) (fun k hk => part_len hs hk _ _) hi (by omega)
/-- What comes to a phi, but itself, each once. -/
def othL (id : Int) (l : List Int) : List Int := l.foldl (fun o a => if a ≠ id ∧ a ∉ o then o ++ [a] else o) []
theorem othL_snoc (id : Int) (l : List Int) (a : Int) : othL id (l ++ [a]) = if a ≠ id ∧ a ∉ othL id l then othL id l ++ [a] else othL id l := by
  unfold othL
  rw [List.foldl_append]; rfl
theorem othL_len (id : Int) (l : List Int) : (othL id l).length ≤ l.length := by
  have key : ∀ (l o : List Int), (l.foldl (fun o a => if a ≠ id ∧ a ∉ o then o ++ [a] else o) o).length ≤ o.length + l.length := fun l => by
    induction l with
    | nil => intro o; simp
    | cons a l ih =>
      intro o
      rw [List.foldl_cons]
      split
      · have := ih (o ++ [a]); simp at this ⊢; omega
      · have := ih o; simp at this ⊢; omega
  have := key l []
  simpa [othL] using this
theorem othL_mem (id : Int) (l : List Int) {a : Int} (ha : a ∈ l) (hne : a ≠ id) : a ∈ othL id l := by
  have key : ∀ (l o : List Int), (a ∈ o ∨ a ∈ l) → a ∈ l.foldl (fun o a => if a ≠ id ∧ a ∉ o then o ++ [a] else o) o := fun l => by
    induction l with
    | nil => intro o h; rcases h with h | h; exact h; cases h
    | cons b l ih =>
      intro o h
      rw [List.foldl_cons]
      refine ih _ ?_
      rcases h with h | h
      · left; split
        · exact List.mem_append_left _ h
        · exact h
      · rcases List.mem_cons.1 h with rfl | h
        · left
          by_cases ho : a ∈ o
          · rw [if_neg (fun h => h.2 ho)]; exact ho
          · rw [if_pos ⟨hne, ho⟩]; simp
        · exact .inr h
  exact key l [] (.inr ha)
theorem othL_two (id : Int) (l : List Int) {a b : Int} (ha : a ∈ l) (hb : b ∈ l) (h1 : a ≠ id) (h2 : b ≠ id) (h3 : a ≠ b) : 2 ≤ (othL id l).length := by
  have m1 := othL_mem id l ha h1
  have m2 := othL_mem id l hb h2
  generalize othL id l = o at m1 m2
  match o with
  | [] => cases m1
  | [x] =>
    have e1 := List.mem_singleton.1 m1
    have e2 := List.mem_singleton.1 m2
    exact absurd (e1.trans e2.symm) h3
  | _ :: _ :: _ => simp
set_option maxRecDepth 100000 in
set_option maxHeartbeats 8000000 in
theorem ssaSays_walk (A : Option Addr) (l : List Fnc) (cap : Nat) (fn : Int) (w : World) (ht : Tab w) (hraw : RawsAt w A l) (hln : (l.length : Int) ≤ 9223372036854775807) (hfn : In fn) :
    Calls Tryd.prog 5 #[.slice A l.length cap, .int .i64 fn] w fun e w' => e = .returned (.bool true) ∧ Below w.heap.size w w' := by
  have HT := Lib.hid ht
  have HR := Lib.hid hraw
  have HCK := Lib.hid (mkP_right l)
  clear ht hraw
  go_enter Tryd.func5, Tryd.ntmps5
  go_wp2_with fail
  refine (program_any A cap l _ HT.out hln HR.out).mono ?_
  rintro e w1 ⟨⟨A1, cap1, vs, rfl, hpv⟩, hb1⟩
  have HPV := Lib.hid hpv
  have HB1 := Lib.hid hb1
  clear hpv hb1
  generalize mkP l = p at *
  have hRT := right_of HCK.out
  have hE : progE p = 0 := progE_ck HCK.out
  have hl1 := hRT.ok.l1
  have hl2 := hRT.ok.l2
  have hpk := picked_in fn p.length (by omega)
  obtain ⟨k, hk⟩ : ∃ k : Nat, pickedI fn p.length = k := ⟨(pickedI fn p.length).toNat, by omega⟩
  rw [hk] at hpk
  have HPK := Lib.hid (fun (W : World) => picked_any fn p.length W hfn (by omega) (by omega))
  rw [hk] at HPK
  clear hk
  obtain ⟨A0, cap0, hA0, hA⟩ := HPV.out.at.slice
  simp only [Value.slice.injEq, true_and] at hA0
  obtain ⟨g, hAg, hg, hfn'⟩ := hA (by omega)
  obtain ⟨rfl, rfl⟩ := hA0
  have hkl : k < p.length := by omega
  obtain ⟨F, hF⟩ : ∃ f, p[k]? = some f := ⟨p[k], List.getElem?_eq_getElem hkl⟩
  have hfo := hRT.ok.fn F (List.mem_of_getElem? hF)
  obtain ⟨u, hu, c0, c1, c2⟩ := hfn' k F hF
  obtain ⟨FA, fcap, rfl, hFA⟩ := hu.slice
  subst hAg
  have HBU := Lib.hid (fun (W : World) (h1 : Tab W) (h2 : ProgAt W (.slice (some ⟨g, 0, none⟩) p.length cap1) p) => build_all (some ⟨g, 0, none⟩) cap1 k W h1 h2 HCK.out hF)
  have HSL := Lib.hid (sureF_length hfo.cok hfo.p2)
  have HF := Lib.hid hF
  have HFM := Lib.hid (List.mem_of_getElem? hF)
  have HRT := Lib.hid hRT
  have HFO := Lib.hid hfo
  have n1 := hfo.c1
  have n2 := hfo.c2
  have HFA := Lib.hid hFA
  obtain ⟨M, hM⟩ : ∃ M, F.code.length = M := ⟨_, rfl⟩
  have HM := Lib.hid hM
  rw [hM] at  HSL n1 n2 c2
  have hk0 : (0 : Int) ≤ k := by omega
  have hk1 : (k : Int) < p.length := by omega
  clear hA hfn' hF hu hfo hM hRT hFA
  obtain ⟨N, hN⟩ : ∃ N, p.length = N := ⟨_, rfl⟩
  have HN := Lib.hid hN
  rw [hN] at HPK HBU hl1 hl2 hkl hk1 hpk ⊢
  have HPA := Lib.hid (show ProgAt w1 (.slice (some ⟨g, 0, none⟩) N cap1) p from by have := HPV.out.at; rw [hN] at this; exact this)
  clear hN hE
  have HXA := Lib.hid ((Below.refl w1.heap.size w1).alloc (Nat.le_refl _) (.cells #[.slice (some ⟨g, 0, none⟩) N cap1] 25))
  obtain ⟨H, hH⟩ : ∃ H, (hdL F).length = H := ⟨_, rfl⟩
  have HH := Lib.hid hH
  have hHM : H ≤ 40 := by have h1 := hdTo_len F F.code.length; have h2 : hdTo F F.code.length = hdL F := rfl; rw [h2, hH, HM.out] at h1; omega
  have hH1 : 0 < H := by have := (List.getElem?_eq_some_iff.1 (zero_head HRT.out HFM.out)).1; omega
  obtain ⟨gc, hgc, hgcl, hins⟩ := HFA.out (by rw [HM.out]; omega)
  have HGC := Lib.hid hgcl
  have HINS := Lib.hid hins
  subst hgc
  obtain ⟨P, hP⟩ : ∃ n : Nat, F.params = n := ⟨F.params.toNat, by have := HFO.out.p1; omega⟩
  have HPP := Lib.hid hP
  have hP2 : P ≤ 2 := by have := HFO.out.p2; omega
  rw [hP] at c0
  have HC0 := Lib.hid (show w1.cell? ⟨g, k * 3, none⟩ = some (.int .i64 (P : Int)) ∧ w1.cell? ⟨g, k * 3 + 1, none⟩ = some (.int .i64 F.regs) ∧ w1.cell? ⟨g, k * 3 + 2, none⟩ = some (.slice (some ⟨gc, 0, none⟩) M fcap) from ⟨c0, c1, c2⟩)
  clear hH hins hgcl hP c0 c1 c2
  go_upto_region 2 with fail
  obtain ⟨w2, hw2⟩ : ∃ W, w1.alloc (.cells #[.slice (some ⟨g, 0, none⟩) N cap1] 25) = W := ⟨_, rfl⟩
  obtain ⟨Lp, hLp⟩ : ∃ n, w1.heap.size = n := ⟨_, rfl⟩
  have HX2 : Hid (w2.heap[Lp]? = some (.cells #[.slice (some ⟨g, 0, none⟩) N cap1] 25 (0, 0))) := Lib.hid (hw2 ▸ hLp ▸ heap_alloc_new _ _)
  have HS2 : Hid (w2.heap.size = w1.heap.size + 1) := Lib.hid (hw2 ▸ by simp)
  have HLPN : Hid (Lp + 1 = w2.heap.size) := Lib.hid (by rw [HS2.out, hLp])
  rw [hw2] at HXA ⊢
  rw [hLp]
  clear hw2 hLp
  have HW1 := Lib.hid (fun (W : World) (hb : Below w2.heap.size w2 W) => (HXA.out.trans (hb.mono HXA.out.size) : Below w1.heap.size w1 W))
  have KP := Lib.hid (fun (W : World) (hb : Below w2.heap.size w2 W) => ((hb.cell (p := ⟨Lp, _, none⟩) (block_lt HX2.out)).trans (cell_block HX2.out 0) : W.cell? ⟨Lp, 0, none⟩ = some (.slice (some ⟨g, 0, none⟩) N cap1)))
  go_cut [6, 7] from 15 to 24 (fun v6 v7 wx => ∃ (Ls b : Nat) (c : SC) (s : SB) (V : SK → Value) (O : List Nat) (bs : List BR) (K3 : Nat) (s1 s2 : SB) (l : List Int) (gp cp vl : Nat), v6 = .pointer (some ⟨Ls, 0, none⟩) ∧ v7 = .int .i64 0 ∧ wx.heap[Ls]? = some (.cells #[.int .i64 (P : Int), .int .i64 (vl : Int), .slice (some ⟨gp, 0, none⟩) H cp] 36 (0, 0)) ∧ Below w1.heap.size w1 wx ∧ SbAt wx b c s V ∧ V .parts = .slice (some ⟨gp, 0, none⟩) H cp ∧ BuiltX p F O bs K3 s1 s2 l s ∧ bs.length = H ∧ valN F bs s2 l = vl)
  case first =>
    refine wp_region_held_drew (S := fun w' => w'.cell? ⟨Lp, 0, none⟩ = some (.slice (some ⟨g, 0, none⟩) N cap1)) (by kernel_rfl) (cell_block HX2.out 0) (fun hHeld => ?_)
    have HKK := Lib.hid trivial
    refine wpAnyH_take (i := 0) (v := .agg #[.slice (some ⟨g, 0, none⟩) N cap1]) rfl (by kernel_rfl) (by kernel_rfl) (by kernel_rfl) (fun _ _ _ h => h) (Or.inl ⟨by rfl, ?_⟩) hHeld ?_
    · intro w hSw
      have p0 := hSw
      simp only [List.getElem_toArray, List.getElem_cons_zero]
      go_simp
    simp only [Act.put, List.getElem_toArray, List.getElem_cons_zero, List.setIfInBounds_toArray, List.set_cons_zero, List.set_cons_succ]
    refine wpAnyH_take (i := 1) (v := .int .i64 fn) rfl (by kernel_rfl) (by kernel_rfl) (by kernel_rfl) (fun _ _ _ h => h) (Or.inl ⟨by rfl, ?_⟩) hHeld ?_
    · intro w hSw
      simp only [List.getElem_toArray, List.getElem_cons_zero, List.getElem_cons_succ]
      go_simp
    simp only [Act.put, List.getElem_toArray, List.getElem_cons_zero, List.getElem_cons_succ, List.setIfInBounds_toArray, List.set_cons_zero, List.set_cons_succ]
    refine wpAnyH_take (i := 2) (v := .pointer (some ⟨Lp, 0, none⟩)) rfl (by kernel_rfl) (by kernel_rfl) (by kernel_rfl) (fun _ _ _ h => h) (Or.inl ⟨by rfl, ?_⟩) hHeld ?_
    · intro w hSw
      simp only [List.getElem_toArray, List.getElem_cons_zero, List.getElem_cons_succ]
      go_simp
    simp only [Act.put, List.getElem_toArray, List.getElem_cons_zero, List.getElem_cons_succ, List.setIfInBounds_toArray, List.set_cons_zero, List.set_cons_succ]
    refine wpAnyH_take (i := 3) (v := .slice (some ⟨g, 0, none⟩) N cap1) rfl (by kernel_rfl) (by kernel_rfl) (by kernel_rfl) (fun _ _ _ h => h) (Or.inl ⟨by rfl, ?_⟩) hHeld ?_
    · intro w hSw
      have p0 := hSw
      simp only [List.getElem_toArray, List.getElem_cons_zero, List.getElem_cons_succ]
      go_simp
    simp only [Act.put, List.getElem_toArray, List.getElem_cons_zero, List.getElem_cons_succ, List.setIfInBounds_toArray, List.set_cons_zero, List.set_cons_succ]
    refine wpAnyH_take (i := 4) (v := .int .i64 (N : Int)) rfl (by kernel_rfl) (by kernel_rfl) (by kernel_rfl) (fun _ _ _ h => h) (Or.inl ⟨by rfl, ?_⟩) hHeld ?_
    · intro w hSw
      simp only [List.getElem_toArray, List.getElem_cons_zero, List.getElem_cons_succ]
      go_simp
    simp only [Act.put, List.getElem_toArray, List.getElem_cons_zero, List.getElem_cons_succ, List.setIfInBounds_toArray, List.set_cons_zero, List.set_cons_succ]
    refine wpAnyH_ready (rs := [5, 10]) (by kernel_rfl) (by simp) ?_
    refine AllReadyH.cons rfl (fun K hK => ?_) (AllReadyH.cons rfl (fun K hK => ?_) (AllReadyH.nil))
    · simp only [List.getElem_toArray, List.getElem_cons_zero, List.getElem_cons_succ]
      go_simp
      refine (HPK.out _).mono ?_
      rintro e w' ⟨rfl, rfl⟩
      refine hK.out _ _ hHeld (fun hHeld => ?_)
      clear hK K
      refine wpAnyH_ready (rs := [6, 10]) (by kernel_rfl) (by simp) ?_
      refine AllReadyH.cons rfl (fun K hK => ?_) (AllReadyH.cons rfl (fun K hK => ?_) (AllReadyH.nil))
      · simp only [List.getElem_toArray, List.getElem_cons_zero, List.getElem_cons_succ]
        go_simp
        refine (HBU.out _ (HT.out.keeps (HB1.out.trans ((HW1.out _ ((Below.refl w2.heap.size w2).drew)).mono HB1.out.size))) (HPA.out.keeps (HW1.out _ ((Below.refl w2.heap.size w2).drew)))).mono ?_
        rintro e w3 ⟨⟨b, c, s, V, O, bs, K3, s2, l, rfl, hbb, hsb, hbl⟩, hb⟩
        have HBX := Lib.hid (BuiltX.mk hbl HCK.out HFM.out rfl : BuiltX p F O bs K3 _ s2 l s)
        have hbsl : bs.length = H := by rw [hbl.bok.len, HH.out]
        have HBL := Lib.hid hbsl
        obtain ⟨Ap, cp, hvp, -, hpA⟩ := hsb.rowV .parts (n := H) (by show s.parts.length = H; rw [HBX.out.finP.len, hbsl])
        obtain ⟨gp, rfl, -, -⟩ := hpA hH1
        have HVP := Lib.hid hvp
        obtain ⟨vl, hvl⟩ : ∃ v, valN F bs s2 l = v := ⟨_, rfl⟩
        have HVL := Lib.hid hvl
        have HSB := Lib.hid hsb
        have HLB := Lib.hid hbb
        rw [hvp, show ((F.params.toNat + (allG { s2 with same := l } bs.length).length : Nat) : Int) = ((vl : Nat) : Int) from congrArg Int.ofNat hvl, HPP.out]
        have HB13 := Lib.hid (((Below.refl w2.heap.size w2).drew).trans (hb.mono ((Below.refl w2.heap.size w2).drew).size))
        have hp3 := KP.out _ HB13.out
        refine hK.out _ _ hp3 (fun hHeld => ?_)
        clear hK K hbb hsb hbl hb hvp hvl hbsl hpA hp3
        refine wpAnyH_take (i := 7) (v := .tuple #[.agg #[.int .i64 (P : Int), .int .i64 (vl : Int), .slice (some ⟨gp, 0, none⟩) H cp], .int .i64 0]) rfl (by kernel_rfl) (by kernel_rfl) (by kernel_rfl) (fun _ _ _ h => h) (Or.inl ⟨by rfl, ?_⟩) hHeld ?_
        · intro w hSw
          simp only [List.getElem_toArray, List.getElem_cons_zero, List.getElem_cons_succ]
          go_simp
        simp only [Act.put, List.getElem_toArray, List.getElem_cons_zero, List.getElem_cons_succ, List.setIfInBounds_toArray, List.set_cons_zero, List.set_cons_succ]
        refine wpAnyH_take (i := 8) (v := .agg #[.int .i64 (P : Int), .int .i64 (vl : Int), .slice (some ⟨gp, 0, none⟩) H cp]) rfl (by kernel_rfl) (by kernel_rfl) (by kernel_rfl) (fun _ _ _ h => h) (Or.inl ⟨by rfl, ?_⟩) hHeld ?_
        · intro w hSw
          simp only [List.getElem_toArray, List.getElem_cons_zero, List.getElem_cons_succ]
          go_simp
        simp only [Act.put, List.getElem_toArray, List.getElem_cons_zero, List.getElem_cons_succ, List.setIfInBounds_toArray, List.set_cons_zero, List.set_cons_succ]
        refine wpAnyH_take (i := 9) (v := .int .i64 0) rfl (by kernel_rfl) (by kernel_rfl) (by kernel_rfl) (fun _ _ _ h => h) (Or.inl ⟨by rfl, ?_⟩) hHeld ?_
        · intro w hSw
          simp only [List.getElem_toArray, List.getElem_cons_zero, List.getElem_cons_succ]
          go_simp
        simp only [Act.put, List.getElem_toArray, List.getElem_cons_zero, List.getElem_cons_succ, List.setIfInBounds_toArray, List.set_cons_zero, List.set_cons_succ]
        refine wpAnyH_ready (rs := [10]) (by kernel_rfl) (by simp) ?_
        refine AllReadyH.cons rfl (fun K hK => ?_) AllReadyH.nil
        simp only [List.getElem_toArray, List.getElem_cons_zero, List.getElem_cons_succ]
        go_simp
        refine hK.out _ _ (KP.out _ ((HB13.out).alloc HB13.out.size _)) (fun hHeld => ?_)
        clear hK K
        refine wpAnyH_ready (rs := [11]) (by kernel_rfl) (by simp) ?_
        refine AllReadyH.cons rfl (fun K hK => ?_) AllReadyH.nil
        simp only [List.getElem_toArray, List.getElem_cons_zero, List.getElem_cons_succ]
        go_simp
        refine hK.out _ _ (KP.out _ (((HB13.out).alloc HB13.out.size _))) (fun hHeld => ?_)
        clear hK K
        refine wpAnyH_ready (rs := [12]) (by kernel_rfl) (by simp) ?_
        refine AllReadyH.cons rfl (fun K hK => ?_) AllReadyH.nil
        simp only [List.getElem_toArray, List.getElem_cons_zero, List.getElem_cons_succ]
        go_simp
        refine hK.out _ _ hHeld (fun hHeld => ?_)
        clear hK K
        clear hHeld
        refine wpAnyH_done (by kernel_rfl) ?_ _
        go_wp2_with fail
        go_meet
        refine ⟨w3.heap.size, b, c, s, V, O, bs, K3, _, s2, l, gp, cp, vl, rfl, rfl, ?_, HW1.out _ (HB13.out.trans (((Below.refl w3.heap.size w3).alloc (Nat.le_refl _) _).mono HB13.out.size)), (HSB.out.keeps (((Below.refl w3.heap.size w3).alloc (Nat.le_refl _) _))), HVP.out, HBX.out, HBL.out, HVL.out⟩
        exact heap_alloc_new _ _
      · simp only [List.getElem_toArray, List.getElem_cons_zero, List.getElem_cons_succ]
        go_simp
        obtain ⟨wA, hwA⟩ : ∃ W, (w2.alloc (.cells #[.int .i64 0, .int .i64 0, .slice none 0 0] 36)).drew = W := ⟨_, rfl⟩
        have HBA : Hid (Below w2.heap.size w2 wA) := Lib.hid (hwA ▸ ((Below.refl w2.heap.size w2).alloc (Nat.le_refl _) _).drew)
        have HXB : Hid (wA.heap[w2.heap.size]? = some (.cells #[.int .i64 0, .int .i64 0, .slice none 0 0] 36 (0, 0))) := Lib.hid (hwA ▸ heap_alloc_new _ _)
        rw [hwA]
        clear hwA
        refine hK.out _ _ (KP.out _ HBA.out) (fun hHeld => ?_)
        clear hK K
        refine wpAnyH_ready (rs := [6]) (by kernel_rfl) (by simp) ?_
        refine AllReadyH.cons rfl (fun K hK => ?_) AllReadyH.nil
        simp only [List.getElem_toArray, List.getElem_cons_zero, List.getElem_cons_succ]
        go_simp
        refine (HBU.out _ (HT.out.keeps (HB1.out.trans ((HW1.out _ (HBA.out)).mono HB1.out.size))) (HPA.out.keeps (HW1.out _ (HBA.out)))).mono ?_
        rintro e w3 ⟨⟨b, c, s, V, O, bs, K3, s2, l, rfl, hbb, hsb, hbl⟩, hb⟩
        have HBX := Lib.hid (BuiltX.mk hbl HCK.out HFM.out rfl : BuiltX p F O bs K3 _ s2 l s)
        have hbsl : bs.length = H := by rw [hbl.bok.len, HH.out]
        have HBL := Lib.hid hbsl
        obtain ⟨Ap, cp, hvp, -, hpA⟩ := hsb.rowV .parts (n := H) (by show s.parts.length = H; rw [HBX.out.finP.len, hbsl])
        obtain ⟨gp, rfl, -, -⟩ := hpA hH1
        have HVP := Lib.hid hvp
        obtain ⟨vl, hvl⟩ : ∃ v, valN F bs s2 l = v := ⟨_, rfl⟩
        have HVL := Lib.hid hvl
        have HSB := Lib.hid hsb
        have HLB := Lib.hid hbb
        rw [hvp, show ((F.params.toNat + (allG { s2 with same := l } bs.length).length : Nat) : Int) = ((vl : Nat) : Int) from congrArg Int.ofNat hvl, HPP.out]
        have HB13 := Lib.hid ((HBA.out).trans (hb.mono (HBA.out).size))
        have hp3 := KP.out _ HB13.out
        have HTHX : Hid (w3.heap[w2.heap.size]? = some (.cells #[.int .i64 0, .int .i64 0, .slice none 0 0] 36 (0, 0))) := Lib.hid ((hb.block _ (block_lt HXB.out)).trans HXB.out)
        have HLB2 : Hid (w2.heap.size < b) := Lib.hid (Nat.lt_of_lt_of_le (block_lt HXB.out) HLB.out)
        refine hK.out _ _ hp3 (fun hHeld => ?_)
        clear hK K hbb hsb hbl hb hvp hvl hbsl hpA hp3
        refine wpAnyH_take (i := 7) (v := .tuple #[.agg #[.int .i64 (P : Int), .int .i64 (vl : Int), .slice (some ⟨gp, 0, none⟩) H cp], .int .i64 0]) rfl (by kernel_rfl) (by kernel_rfl) (by kernel_rfl) (fun _ _ _ h => h) (Or.inl ⟨by rfl, ?_⟩) hHeld ?_
        · intro w hSw
          simp only [List.getElem_toArray, List.getElem_cons_zero, List.getElem_cons_succ]
          go_simp
        simp only [Act.put, List.getElem_toArray, List.getElem_cons_zero, List.getElem_cons_succ, List.setIfInBounds_toArray, List.set_cons_zero, List.set_cons_succ]
        refine wpAnyH_take (i := 8) (v := .agg #[.int .i64 (P : Int), .int .i64 (vl : Int), .slice (some ⟨gp, 0, none⟩) H cp]) rfl (by kernel_rfl) (by kernel_rfl) (by kernel_rfl) (fun _ _ _ h => h) (Or.inl ⟨by rfl, ?_⟩) hHeld ?_
        · intro w hSw
          simp only [List.getElem_toArray, List.getElem_cons_zero, List.getElem_cons_succ]
          go_simp
        simp only [Act.put, List.getElem_toArray, List.getElem_cons_zero, List.getElem_cons_succ, List.setIfInBounds_toArray, List.set_cons_zero, List.set_cons_succ]
        refine wpAnyH_take (i := 9) (v := .int .i64 0) rfl (by kernel_rfl) (by kernel_rfl) (by kernel_rfl) (fun _ _ _ h => h) (Or.inl ⟨by rfl, ?_⟩) hHeld ?_
        · intro w hSw
          simp only [List.getElem_toArray, List.getElem_cons_zero, List.getElem_cons_succ]
          go_simp
        simp only [Act.put, List.getElem_toArray, List.getElem_cons_zero, List.getElem_cons_succ, List.setIfInBounds_toArray, List.set_cons_zero, List.set_cons_succ]
        refine wpAnyH_ready (rs := [11]) (by kernel_rfl) (by simp) ?_
        refine AllReadyH.cons rfl (fun K hK => ?_) AllReadyH.nil
        simp only [List.getElem_toArray, List.getElem_cons_zero, List.getElem_cons_succ]
        refine wp_store_mid 36 _ _ (by rfl) w2.heap.size 0 #[.int .i64 (P : Int), .int .i64 (vl : Int), .slice (some ⟨gp, 0, none⟩) H cp] (by rfl) (by rfl) (there_mid HTHX.out (by show 0 + 3 ≤ 3; omega)) infoSsa (by simp [Value.oneCell']) ?_
        refine hK.out _ _ ((World.cell?_setCells_out _ _ _ _ _ (fun e _ => absurd e (by have := HLPN.out; show ¬ Lp = w2.heap.size; omega))).trans hHeld) (fun hHeld => ?_)
        clear hK K
        refine wpAnyH_ready (rs := [12]) (by kernel_rfl) (by simp) ?_
        refine AllReadyH.cons rfl (fun K hK => ?_) AllReadyH.nil
        simp only [List.getElem_toArray, List.getElem_cons_zero, List.getElem_cons_succ]
        go_simp
        refine hK.out _ _ hHeld (fun hHeld => ?_)
        clear hK K
        clear hHeld
        refine wpAnyH_done (by kernel_rfl) ?_ _
        go_wp2_with fail
        go_meet
        refine ⟨w2.heap.size, b, c, s, V, O, bs, K3, _, s2, l, gp, cp, vl, rfl, rfl, ?_, ?_, ?_, HVP.out, HBX.out, HBL.out, HVL.out⟩
        · exact block_put (block_put (block_put HTHX.out rfl) rfl) rfl
        · exact below_setCells HXA.out.size _ _ _ (HW1.out _ HB13.out)
        · exact HSB.out.setsLow HLB2.out _ _
    · simp only [List.getElem_toArray, List.getElem_cons_zero, List.getElem_cons_succ]
      go_simp
      obtain ⟨wA, hwA⟩ : ∃ W, (w2.alloc (.cells #[.int .i64 0, .int .i64 0, .slice none 0 0] 36)).drew = W := ⟨_, rfl⟩
      have HBA : Hid (Below w2.heap.size w2 wA) := Lib.hid (hwA ▸ ((Below.refl w2.heap.size w2).alloc (Nat.le_refl _) _).drew)
      have HXB : Hid (wA.heap[w2.heap.size]? = some (.cells #[.int .i64 0, .int .i64 0, .slice none 0 0] 36 (0, 0))) := Lib.hid (hwA ▸ heap_alloc_new _ _)
      rw [hwA]
      clear hwA
      refine hK.out _ _ (KP.out _ HBA.out) (fun hHeld => ?_)
      clear hK K
      refine wpAnyH_ready (rs := [5]) (by kernel_rfl) (by simp) ?_
      refine AllReadyH.cons rfl (fun K hK => ?_) AllReadyH.nil
      simp only [List.getElem_toArray, List.getElem_cons_zero, List.getElem_cons_succ]
      go_simp
      refine (HPK.out _).mono ?_
      rintro e w' ⟨rfl, rfl⟩
      refine hK.out _ _ hHeld (fun hHeld => ?_)
      clear hK K
      refine wpAnyH_ready (rs := [6]) (by kernel_rfl) (by simp) ?_
      refine AllReadyH.cons rfl (fun K hK => ?_) AllReadyH.nil
      simp only [List.getElem_toArray, List.getElem_cons_zero, List.getElem_cons_succ]
      go_simp
      refine (HBU.out _ (HT.out.keeps (HB1.out.trans ((HW1.out _ (HBA.out)).mono HB1.out.size))) (HPA.out.keeps (HW1.out _ (HBA.out)))).mono ?_
      rintro e w3 ⟨⟨b, c, s, V, O, bs, K3, s2, l, rfl, hbb, hsb, hbl⟩, hb⟩
      have HBX := Lib.hid (BuiltX.mk hbl HCK.out HFM.out rfl : BuiltX p F O bs K3 _ s2 l s)
      have hbsl : bs.length = H := by rw [hbl.bok.len, HH.out]
      have HBL := Lib.hid hbsl
      obtain ⟨Ap, cp, hvp, -, hpA⟩ := hsb.rowV .parts (n := H) (by show s.parts.length = H; rw [HBX.out.finP.len, hbsl])
      obtain ⟨gp, rfl, -, -⟩ := hpA hH1
      have HVP := Lib.hid hvp
      obtain ⟨vl, hvl⟩ : ∃ v, valN F bs s2 l = v := ⟨_, rfl⟩
      have HVL := Lib.hid hvl
      have HSB := Lib.hid hsb
      have HLB := Lib.hid hbb
      rw [hvp, show ((F.params.toNat + (allG { s2 with same := l } bs.length).length : Nat) : Int) = ((vl : Nat) : Int) from congrArg Int.ofNat hvl, HPP.out]
      have HB13 := Lib.hid ((HBA.out).trans (hb.mono (HBA.out).size))
      have hp3 := KP.out _ HB13.out
      have HTHX : Hid (w3.heap[w2.heap.size]? = some (.cells #[.int .i64 0, .int .i64 0, .slice none 0 0] 36 (0, 0))) := Lib.hid ((hb.block _ (block_lt HXB.out)).trans HXB.out)
      have HLB2 : Hid (w2.heap.size < b) := Lib.hid (Nat.lt_of_lt_of_le (block_lt HXB.out) HLB.out)
      refine hK.out _ _ hp3 (fun hHeld => ?_)
      clear hK K hbb hsb hbl hb hvp hvl hbsl hpA hp3
      refine wpAnyH_take (i := 7) (v := .tuple #[.agg #[.int .i64 (P : Int), .int .i64 (vl : Int), .slice (some ⟨gp, 0, none⟩) H cp], .int .i64 0]) rfl (by kernel_rfl) (by kernel_rfl) (by kernel_rfl) (fun _ _ _ h => h) (Or.inl ⟨by rfl, ?_⟩) hHeld ?_
      · intro w hSw
        simp only [List.getElem_toArray, List.getElem_cons_zero, List.getElem_cons_succ]
        go_simp
      simp only [Act.put, List.getElem_toArray, List.getElem_cons_zero, List.getElem_cons_succ, List.setIfInBounds_toArray, List.set_cons_zero, List.set_cons_succ]
      refine wpAnyH_take (i := 8) (v := .agg #[.int .i64 (P : Int), .int .i64 (vl : Int), .slice (some ⟨gp, 0, none⟩) H cp]) rfl (by kernel_rfl) (by kernel_rfl) (by kernel_rfl) (fun _ _ _ h => h) (Or.inl ⟨by rfl, ?_⟩) hHeld ?_
      · intro w hSw
        simp only [List.getElem_toArray, List.getElem_cons_zero, List.getElem_cons_succ]
        go_simp
      simp only [Act.put, List.getElem_toArray, List.getElem_cons_zero, List.getElem_cons_succ, List.setIfInBounds_toArray, List.set_cons_zero, List.set_cons_succ]
      refine wpAnyH_take (i := 9) (v := .int .i64 0) rfl (by kernel_rfl) (by kernel_rfl) (by kernel_rfl) (fun _ _ _ h => h) (Or.inl ⟨by rfl, ?_⟩) hHeld ?_
      · intro w hSw
        simp only [List.getElem_toArray, List.getElem_cons_zero, List.getElem_cons_succ]
        go_simp
      simp only [Act.put, List.getElem_toArray, List.getElem_cons_zero, List.getElem_cons_succ, List.setIfInBounds_toArray, List.set_cons_zero, List.set_cons_succ]
      refine wpAnyH_ready (rs := [11]) (by kernel_rfl) (by simp) ?_
      refine AllReadyH.cons rfl (fun K hK => ?_) AllReadyH.nil
      simp only [List.getElem_toArray, List.getElem_cons_zero, List.getElem_cons_succ]
      refine wp_store_mid 36 _ _ (by rfl) w2.heap.size 0 #[.int .i64 (P : Int), .int .i64 (vl : Int), .slice (some ⟨gp, 0, none⟩) H cp] (by rfl) (by rfl) (there_mid HTHX.out (by show 0 + 3 ≤ 3; omega)) infoSsa (by simp [Value.oneCell']) ?_
      refine hK.out _ _ ((World.cell?_setCells_out _ _ _ _ _ (fun e _ => absurd e (by have := HLPN.out; show ¬ Lp = w2.heap.size; omega))).trans hHeld) (fun hHeld => ?_)
      clear hK K
      refine wpAnyH_ready (rs := [12]) (by kernel_rfl) (by simp) ?_
      refine AllReadyH.cons rfl (fun K hK => ?_) AllReadyH.nil
      simp only [List.getElem_toArray, List.getElem_cons_zero, List.getElem_cons_succ]
      go_simp
      refine hK.out _ _ hHeld (fun hHeld => ?_)
      clear hK K
      clear hHeld
      refine wpAnyH_done (by kernel_rfl) ?_ _
      go_wp2_with fail
      go_meet
      refine ⟨w2.heap.size, b, c, s, V, O, bs, K3, _, s2, l, gp, cp, vl, rfl, rfl, ?_, ?_, ?_, HVP.out, HBX.out, HBL.out, HVL.out⟩
      · exact block_put (block_put (block_put HTHX.out rfl) rfl) rfl
      · exact below_setCells HXA.out.size _ _ _ (HW1.out _ HB13.out)
      · exact HSB.out.setsLow HLB2.out _ _
  case rest =>
    obtain ⟨Ls, b, c, s, V, O, bs, K3, s1, s2, l, gp, cp, vl, rfl, rfl, hX, hB, hsb, hvp, hbx, hbl, hvl⟩ := hcut
    rename World => w4
    have HXS := Lib.hid hX
    have HB14 : Hid (Below w1.heap.size w1 w4) := Lib.hid hB
    have HSB4 := Lib.hid hsb
    have HVP := Lib.hid hvp
    have HBX := Lib.hid hbx
    have HBL := Lib.hid hbl
    have hfp := hbx.finP
    rw [hvl] at hfp
    have HFP := Lib.hid hfp
    clear hX hB hsb hvp hbx hbl hvl hfp KP HX2 HS2 HXA HLPN HBU HPK HW1
    have KS := Lib.hid (fun (W : World) (hb : Below w4.heap.size w4 W) => (⟨(hb.cell (p := ⟨Ls, _, none⟩) (block_lt HXS.out)).trans (cell_block HXS.out 1), (hb.cell (p := ⟨Ls, _, none⟩) (block_lt HXS.out)).trans (cell_block HXS.out 2), Nat.lt_of_lt_of_le (block_lt HXS.out) hb.size, Nat.lt_of_lt_of_le (HSB4.out.rlt .parts (g := gp) (by rw [HVP.out]; rfl)).2 hb.size⟩ :
      W.cell? ⟨Ls, 1, none⟩ = some (.int .i64 (vl : Int)) ∧ W.cell? ⟨Ls, 2, none⟩ = some (.slice (some ⟨gp, 0, none⟩) H cp) ∧ Ls < W.heap.size ∧ gp < W.heap.size))
    have KSB := Lib.hid (fun (W : World) (hb : Below w4.heap.size w4 W) => (HSB4.out.keeps hb : SbAt W b c s V))
    have HB45 : Hid (Below w4.heap.size w4 w4) := Lib.hid (Below.refl _ _)
    go_wp2_with fail
    go_loopw [8] (fun v8 wr => ∃ i : Nat, i ≤ H ∧ v8 = .int .i64 (i : Int) ∧ Below w4.heap.size w4 wr) (fun v8 _ => H - (intOf v8).toNat)
    case atStart => exact ⟨0, by omega, rfl, HB45.out⟩
    case round =>
      obtain ⟨i, hiH, rfl, hb⟩ := hrel
      have HB := Lib.hid hb
      obtain ⟨s1', s2', z0, z3⟩ := KS.out wr hb
      by_cases hi0 : i = H
      · have hi0' := hi0.symm
        subst hi0'
        have hz : (0 : Int) < (H : Int) := by omega
        clear s1' z3 hb
        go_wp2_with fail
        go_ret
        exact ⟨rfl, HB1.out.trans ((HB14.out.trans (HB.out.mono HB14.out.size)).mono HB1.out.size)⟩
      · have hi1 : i < H := by omega
        have hi2 : (i : Int) < H := by omega
        have hi3 : (0 : Int) ≤ i := by omega
        have hib : i < bs.length := by rw [HBL.out]; exact hi1
        have his : i < s.parts.length := by rw [HFP.out.len]; exact hib
        obtain ⟨n, hn⟩ : ∃ n, (s.part i).phis.length = n := ⟨_, rfl⟩
        have hn12 : n ≤ 12 := by rw [← hn]; exact HFP.out.phl i hib
        have hsb := KSB.out wr hb
        obtain ⟨Ah, ch, hvh, -, hhA⟩ := hsb.rowV (.phis i) (n := n) hn
        have KP := Lib.hid (fun (W : World) (hb : Below w4.heap.size w4 W) => (by
          have h1 := (KSB.out W hb).partCell HFP.out.inn HVP.out his
          rw [hvh] at h1
          exact h1.1 : W.cell? ⟨gp, i * 15 + 1, none⟩ = some (.slice Ah n ch)))
        have HHA := Lib.hid hhA
        have HVH := Lib.hid hvh
        have HN1 := Lib.hid hn
        have HIB := Lib.hid hib
        clear hsb hvh hhA hn hb hi0 hib his s1'
        go_wp2_with fail
        clear s2' z0 z3
        go_loopw [9] (fun v9 wr => ∃ j : Nat, j ≤ n ∧ v9 = .int .i64 (j : Int) ∧ Below w4.heap.size w4 wr) (fun v9 _ => n - (intOf v9).toNat)
        case atStart => exact ⟨0, by omega, rfl, HB.out⟩
        case round =>
          obtain ⟨j, hjn, rfl, hb⟩ := hrel
          clear HB
          have HB := Lib.hid hb
          obtain ⟨s1', s2', z0, z3⟩ := KS.out wr hb
          have k1 := KP.out wr hb
          by_cases hj0 : j = n
          · have hj0' := hj0.symm
            subst hj0'
            clear s1' hb
            go_wp2_with fail
            go_roundw
            case rel => exact ⟨i + 1, by omega, by go_num, HB.out⟩
            case measure => simp [intOf]; omega
          · have hj1 : j < n := by omega
            have hj2 : (j : Int) < n := by omega
            have hj3 : (0 : Int) ≤ j := by omega
            obtain ⟨gh, rfl, -, -⟩ := HHA.out (by omega)
            have hjl : j < (s.part i).phis.length := by rw [HN1.out]; exact hj1
            obtain ⟨q0, q1, q2⟩ := (KSB.out wr hb).phiCell HVH.out hjl
            obtain ⟨pa, hpa⟩ : ∃ n, (s.arg i j).length = n := ⟨_, rfl⟩
            have HPL := Lib.hid hpa
            obtain ⟨Aa, ca, hva, haA⟩ := (KSB.out wr hb).argCells i j (n := pa) hpa
            have HVA := Lib.hid hva
            obtain ⟨rg, hrg, hr12, hbit, hinn⟩ := HFP.out.preg i j HIB.out hjl
            have hpa3 : pa ≤ 300 := by
              have h1 := (HFP.out.pid i j HIB.out hjl).2
              have h2 := (prevF_len300 HCK.out HFM.out HBX.out.b.bok (by rw [HBL.out]; exact hHM) i).1
              have h3 : (s.phi i j).args.length = pa := hpa
              omega
            rw [hva] at q2
            rw [hrg] at q0
            obtain ⟨id, hid⟩ : ∃ x, (s.phi i j).id = x := ⟨_, rfl⟩
            rw [hid] at q1
            have HTW := Lib.hid (show 2 ≤ (othL id (s.arg i j)).length by
              obtain ⟨a1, m1, a2, m2, n1, n2, n3⟩ := HBX.out.says HIB.out hjl
              rw [hid] at n1 n2
              exact othL_two id _ m1 m2 n1 n2 n3)
            have HAR := Lib.hid (HFP.out.parg i j HIB.out hjl)
            have zgh := Nat.lt_of_lt_of_le (HSB4.out.rlt (.phis i) (g := gh) (by rw [HVH.out]; rfl)).2 hb.size
            obtain ⟨Lb, hLb⟩ : ∃ n, wr.heap.size = n := ⟨_, rfl⟩
            clear hva hrg hid hj0 hjl hbit hinn hpa haA s1' hr12
            go_wp2_with fail
            obtain ⟨w7, hw7⟩ : ∃ W, wr.alloc (.cells #[.int .i64 (rg : Int), .int .i64 id, .slice Aa pa ca] 53) = W := ⟨_, rfl⟩
            have hb7 : Below wr.heap.size wr w7 := hw7 ▸ (Below.refl _ _).alloc (Nat.le_refl _) _
            have hB7 : w7.heap[Lb]? = some (.cells #[.int .i64 (rg : Int), .int .i64 id, .slice Aa pa ca] 53 (0, 0)) := hw7 ▸ hLb ▸ heap_alloc_new _ _
            have HB7 : Hid (Below w4.heap.size w4 w7) := Lib.hid (HB.out.trans (hb7.mono HB.out.size))
            have HX7 := Lib.hid hB7
            have HO7 := Lib.hid (OwnI.nil w7 w7.heap.size)
            rw [hw7]
            clear hw7 hB7 q0 q1 q2 zgh s2' z0 z3 k1 hLb hb7 hb
            go_loopw [11, 12] (fun v11 v12 wx => ∃ (k m : Nat) (A1 : Option Addr) (cq : Nat), k ≤ pa ∧ v12 = .int .i64 (k : Int) ∧ (othL id ((s.arg i j).take k)).length = m ∧ v11 = .slice A1 m cq ∧ OwnI wx w7.heap.size v11 (othL id ((s.arg i j).take k)) ∧ Below w7.heap.size w7 wx) (fun _ v12 _ => pa - (intOf v12).toNat)
            case atStart => exact ⟨0, 0, none, 0, by omega, rfl, rfl, rfl, HO7.out, Below.refl _ _⟩
            case round =>
              obtain ⟨k, m, A1, cq, hkn, rfl, hm, rfl, hO, hb8⟩ := hrel
              rename World => wx
              have HM1 := Lib.hid hm
              have HO := Lib.hid hO
              have HB8 := Lib.hid hb8
              have HBx : Hid (Below w4.heap.size w4 wx) := Lib.hid (HB7.out.trans (hb8.mono HB7.out.size))
              have hbx := (hb8.block Lb (block_lt HX7.out)).trans HX7.out
              have r1 : wx.cell? ⟨Lb, 1, none⟩ = some (.int .i64 id) := cell_block hbx 1
              have r2 : wx.cell? ⟨Lb, 2, none⟩ = some (.slice Aa pa ca) := cell_block hbx 2
              have zL := block_lt hbx
              obtain ⟨s1', s2', z0, z3⟩ := KS.out wx HBx.out
              have hm3 : m ≤ pa := by
                have h1 := othL_len id ((s.arg i j).take k)
                rw [hm, List.length_take, HPL.out] at h1
                omega
              by_cases hk0 : k = pa
              · have hk0' := hk0.symm
                subst hk0'
                have hm2 : 2 ≤ m := by
                  have h1 := HTW.out
                  rw [← hm, List.take_of_length_le (Nat.le_of_eq HPL.out)]
                  exact h1
                have hm4 : ¬ (m : Int) < 2 := by omega
                clear s1' s2' z3 hm hO hb8 hbx
                go_wp2_with fail
                go_roundw
                case rel => exact ⟨j + 1, by omega, by go_num, HBx.out⟩
                case measure => simp [intOf]; omega
              · have hk1 : k < pa := by omega
                have hk2 : (k : Int) < pa := by omega
                have hk3 : (0 : Int) ≤ k := by omega
                obtain ⟨Aa', ca', hva, haA⟩ := (KSB.out wx HBx.out).argCells i j (n := pa) HPL.out
                rw [HVA.out] at hva
                obtain ⟨rfl, -, rfl⟩ : Aa = Aa' ∧ pa = pa ∧ ca = ca' := by simpa using hva
                obtain ⟨ga, rfl, zga, hca⟩ := haA (by omega)
                obtain ⟨a, ha⟩ : ∃ a, (s.arg i j)[k]? = some a := ⟨_, List.getElem?_eq_getElem (by rw [HPL.out]; exact hk1)⟩
                have ra := hca k a ha
                obtain ⟨ha0, ha1⟩ := HAR.out a (List.mem_of_getElem? ha)
                have HTK := Lib.hid (show othL id ((s.arg i j).take (k + 1)) = if a ≠ id ∧ a ∉ othL id ((s.arg i j).take k) then othL id ((s.arg i j).take k) ++ [a] else othL id ((s.arg i j).take k) by rw [List.take_add_one, ha]; exact othL_snoc _ _ _)
                have ha2 : decide (a < 0) = false := by rw [decide_eq_false_iff_not]; omega
                have ha3 : decide ((vl : Int) ≤ a) = false := by rw [decide_eq_false_iff_not]; omega
                obtain ⟨X, hX⟩ : ∃ X, othL id ((s.arg i j).take k) = X := ⟨_, rfl⟩
                rw [hX] at HTK HM1 HO
                clear hm hO hb8 hbx hva hca ha hk0 hX s2' z3
                have KX := Lib.hid (fun (W : World) (hb : Below wx.heap.size wx W) => (⟨(hb.cell (p := ⟨Lb, _, none⟩) zL).trans r1, (hb.cell (p := ⟨Lb, _, none⟩) zL).trans r2, (hb.cell (p := ⟨ga, _, none⟩) zga).trans ra, Nat.lt_of_lt_of_le zL hb.size, Nat.lt_of_lt_of_le zga hb.size⟩ : W.cell? ⟨Lb, 1, none⟩ = some (.int .i64 id) ∧ W.cell? ⟨Lb, 2, none⟩ = some (.slice (some ⟨ga, 0, none⟩) pa ca) ∧ W.cell? ⟨ga, k, none⟩ = some (.int .i64 a) ∧ Lb < W.heap.size ∧ ga < W.heap.size))
                have HHS0 := Lib.hid (fun (W : World) (hb : Below wx.heap.size wx W) => (by
                  obtain ⟨A', c', hv', hr'⟩ := rowI_own (HO.out.keeps hb)
                  have e : A1 = A' ∧ m = X.length ∧ cq = c' := by simpa using hv'
                  have h := has_any X A' c' a W hr' (by rw [HM1.out]; omega)
                  rw [← e.1, ← e.2.2, HM1.out] at h
                  exact h : Calls Tryd.prog 20 #[.slice A1 m cq, .int .i64 a] W fun e w' => e = .returned (.bool (decide (a ∈ X))) ∧ W = w'))
                by_cases hai : a = id
                · have HE := Lib.hid hai
                  have e1 : (a == id) = true := beq_iff_eq.2 hai
                  have e2 : (a != id) = false := by rw [bne, e1]; rfl
                  have e3 : decide (a = id) = true := decide_eq_true hai
                  clear hai HHS0
                  go_wp2_with fail
                  go_quiet (fail)
                  obtain ⟨wy, hwy⟩ : ∃ W, wx.drewN nq = W := ⟨_, rfl⟩
                  have hby : Below wx.heap.size wx wy := hwy ▸ below_drewN (Below.refl _ _) _
                  have HYX := Lib.hid hby
                  rw [hwy]
                  clear hwy hby r1 r2 ra zL zga z0
                  obtain ⟨r1, r2, ra, zL, zga⟩ := KX.out wy HYX.out
                  go_wp2_with fail
                  go_quiet (fail)
                  go_wp2_with fail
                  go_roundw
                  case rel => exact ⟨k + 1, m, A1, cq, by omega, by go_num, by rw [HTK.out, if_neg (fun h => h.1 HE.out)]; exact HM1.out, rfl, by rw [HTK.out, if_neg (fun h => h.1 HE.out)]; exact HO.out.keeps (below_drewN HYX.out _), below_drewN (HB8.out.trans (HYX.out.mono HB8.out.size)) _⟩
                  case measure => simp [intOf]; omega
                · have HE := Lib.hid hai
                  have e1 : (a == id) = false := beq_eq_false_iff_ne.2 hai
                  have e2 : (a != id) = true := by rw [bne, e1]; rfl
                  have e3 : decide (a = id) = false := decide_eq_false hai
                  obtain ⟨bm, hbm⟩ : ∃ b, decide (a ∈ X) = b := ⟨_, rfl⟩
                  rw [hbm] at HHS0
                  have HBM := Lib.hid hbm
                  clear hai hbm
                  cases bm with
                  | true =>
                    go_wp2_with fail
                    go_quiet (fail)
                    obtain ⟨wy, hwy⟩ : ∃ W, wx.drewN nq = W := ⟨_, rfl⟩
                    have hby : Below wx.heap.size wx wy := hwy ▸ below_drewN (Below.refl _ _) _
                    have HYX := Lib.hid hby
                    rw [hwy]
                    clear hwy hby r1 r2 ra zL zga z0
                    obtain ⟨r1, r2, ra, zL, zga⟩ := KX.out wy HYX.out
                    have HHS := Lib.hid (fun (q : Nat) => HHS0.out (wy.drewN q) (below_drewN HYX.out q))
                    clear HHS0
                    go_wp2_with fail
                    go_quiet ((first | (go_at_call 20; with_reducible exact Calls.quiet_of_same ((HHS.out _).mono (fun _ _ h => ⟨h.1, h.2.symm⟩)))))
                    go_wp2_with fail
                    go_roundw
                    case rel => exact ⟨k + 1, m, A1, cq, by omega, by go_num, by rw [HTK.out, if_neg (fun h => h.2 (of_decide_eq_true HBM.out))]; exact HM1.out, rfl, by rw [HTK.out, if_neg (fun h => h.2 (of_decide_eq_true HBM.out))]; exact HO.out.keeps (below_drewN HYX.out _), below_drewN (HB8.out.trans (HYX.out.mono HB8.out.size)) _⟩
                    case measure => simp [intOf]; omega
                  | false =>
                    go_wp2_with fail
                    go_quiet (fail)
                    obtain ⟨wy, hwy⟩ : ∃ W, wx.drewN nq = W := ⟨_, rfl⟩
                    have hby : Below wx.heap.size wx wy := hwy ▸ below_drewN (Below.refl _ _) _
                    have HYX := Lib.hid hby
                    rw [hwy]
                    clear hwy hby r1 r2 ra zL zga z0
                    obtain ⟨r1, r2, ra, zL, zga⟩ := KX.out wy HYX.out
                    have HHS := Lib.hid (fun (q : Nat) => HHS0.out (wy.drewN q) (below_drewN HYX.out q))
                    clear HHS0
                    go_wp2_with fail
                    go_quiet ((first | (go_at_call 20; with_reducible exact Calls.quiet_of_same ((HHS.out _).mono (fun _ _ h => ⟨h.1, h.2.symm⟩)))))
                    obtain ⟨wz, hwz⟩ : ∃ W, wy.drewN nq = W := ⟨_, rfl⟩
                    have hbz : Below wx.heap.size wx wz := hwz ▸ below_drewN HYX.out _
                    have HZX := Lib.hid hbz
                    rw [hwz]
                    clear hwz hbz r1 r2 ra zL zga
                    obtain ⟨r1, r2, ra, zL, zga⟩ := KX.out wz HZX.out
                    have HBY : Hid (Below w7.heap.size w7 wz) := Lib.hid (HB8.out.trans (HZX.out.mono HB8.out.size))
                    have HOW := Lib.hid (show wz.ownsRow w7.heap.size 3 1 (.slice A1 m cq) m (X.map (Value.int .i64)) by have h := HO.out.keeps HZX.out; unfold OwnI at h; rw [HM1.out] at h; exact h)
                    have hw7 := HBY.out.size
                    obtain ⟨i0, hI0, hz0, hz1, hz2⟩ := info_parts infoInt
                    go_wp2_with (at_builtin; go_must (refine wpList_append_own _ rfl _ _ 49 rfl w7.heap.size 3 i0 _ 1 8 Tryd.underlying49 hI0 hz0 hz1 hz2 rfl (by decide) (.slice A1 m cq) m (X.map (Value.int .i64)) rfl (own_below HOW.out ((Below.refl _ _).alloc (Nat.le_refl _) _)) ⟨wz.heap.size, 0, none⟩ 1 1 [.int .i64 a] rfl rfl (World.news_of_block (cs := #[.int .i64 a]) (t := 3) (fr := (0, 0)) (by simpa using heap_alloc_new wz (.cells #[.int .i64 a] 3))) (by simp [Value.oneCell']) (by unfold maxLen; omega) (by omega) (by simp; omega) ?_); intro v9 w9 hown9 hg9 _; obtain ⟨A9, cap9, hv9, -⟩ := own_slice hown9; rw [hv9] at hown9; rw [hv9]; have HB9 := Lib.hid ((HBY.out.alloc HBY.out.size (.cells #[.int .i64 a] 3)).grown hg9 (by simp; omega) (fun k hk => (World.ownsRow.lt HOW.out k hk).1)); have HO9 := Lib.hid hown9; clear hown9 hg9)
                    go_roundw
                    case rel => exact ⟨k + 1, m + 1, A9, cap9, by omega, by go_num, by rw [HTK.out, if_pos ⟨HE.out, of_decide_eq_false HBM.out⟩, List.length_append, HM1.out]; rfl, rfl, by rw [HTK.out, if_pos ⟨HE.out, of_decide_eq_false HBM.out⟩]; unfold OwnI; simp only [List.length_append, List.length_cons, List.length_nil, HM1.out]; have h := HO9.out; simpa using h, HB9.out⟩
                    case measure => simp [intOf]; omega
end Go.Proofs.YtlciakkbgaakiaaDoor
