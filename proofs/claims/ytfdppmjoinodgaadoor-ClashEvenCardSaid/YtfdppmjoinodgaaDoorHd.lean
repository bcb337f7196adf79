/-
  Plain: where blocks begin; then the contracts of flow.ends and flow.heads.
-/
import Derived.Test.YtfdppmjoinodgaaDoorFl2
import Derived.Test.YtfdppmjoinodgaaDoorRcP
import Derived.Test.YtfdppmjoinodgaaDoorPgS
import Derived.Maps.OwnSet
namespace Tier
open Go Go.RowKit
/-- Does the instruction at q end a block, and lead to n? -/
def hdOf (F : Fnc) (q n : Nat) : Bool := rchB F q && match F.code[q]? with
  | some x => decide (15 ≤ x.op) && (nextS x q).contains n
  | none => false
def hdB (F : Fnc) (j n : Nat) : Bool := n == 0 || (List.range j).any fun q => hdOf F q n
theorem hdB_succ (F : Fnc) (j n : Nat) : hdB F (j + 1) n = (hdB F j n || hdOf F j n) := by
  unfold hdB; rw [List.range_succ, List.any_append]; simp [Bool.or_assoc]
def hdL (F : Fnc) : List Nat := (List.range F.code.length).filter (hdB F F.code.length)
def hdTo (F : Fnc) (j : Nat) : List Nat := (List.range j).filter (hdB F F.code.length)
theorem hdTo_succ (F : Fnc) (j : Nat) : hdTo F (j + 1) = hdTo F j ++ if hdB F F.code.length j = true then [j] else [] := by
  unfold hdTo
  rw [List.range_succ, List.filter_append]
  congr 1
  by_cases h : hdB F F.code.length j = true <;> simp [h]
theorem hdTo_len (F : Fnc) (j : Nat) : (hdTo F j).length ≤ j := by
  unfold hdTo; exact Nat.le_trans (List.length_filter_le _ _) (by simp)
end Tier
namespace Go.Proofs.YtfdppmjoinodgaaDoor
open Go.RowKit Tier
theorem ends_any (op : Int) (w : World) : Calls Tryd.prog 46 #[.int .i64 op] w fun e w' => e = .returned (.bool (decide (15 ≤ op))) ∧ w = w' := by
  go_enter Tryd.func46, Tryd.ntmps46
  go_wp2
  go_ret
  exact ⟨rfl, rfl⟩
abbrev mapT : TypeId := 114
theorem lawInt : Maps.Keyed Tryd.prog 3 := Maps.int_keyed Tryd.underlying3
theorem zeroUnit (w : World) : (zeroValue 115).run Tryd.prog w = .ok (.agg #[]) w := by kernel_rfl
def keyN (n : Nat) : Lit := .int .i64 (n : Int)
theorem keyN_wf {n : Nat} (h : n ≤ 1000) : (Lit.int .i64 (n : Int)).wf = true := by
  have h1 : IntKind.i64.min = -9223372036854775808 := rfl
  have h2 : IntKind.i64.max = 9223372036854775807 := rfl
  simp [Lit.wf, h1, h2]; omega
theorem keyN_of {n : Nat} (h : n ≤ 1000) : keyOf Tryd.prog 3 (.int .i64 (n : Int)) = some (keyN n) := Maps.keyOf_int_mk Tryd.underlying3 (keyN_wf h)
/-- The map in block b holds just what S says. -/
def SetAt (w : World) (b n : Nat) (S : Nat → Bool) : Prop :=
  ∃ D : DataW Unit, w.ownsMap Tryd.prog 3 unitElem b n D ∧ Maps.IsMap D ∧ ∀ m : Nat, m ≤ 1000 → Maps.has D (keyN m) = S m
theorem SetAt.keeps {w w' : World} {b n : Nat} {S : Nat → Bool} (h : SetAt w b n S) (hb : Below w.heap.size w w') : SetAt w' b n S := by
  obtain ⟨D, ⟨es, clock, h1, r⟩, h2, h3⟩ := h
  exact ⟨D, ⟨es, clock, (hb.block _ (block_lt h1)).trans h1, r⟩, h2, h3⟩
theorem SetAt.lt {w : World} {b n : Nat} {S : Nat → Bool} (h : SetAt w b n S) : b < w.heap.size := by
  obtain ⟨D, ⟨es, clock, h1, r⟩, -, -⟩ := h
  exact block_lt h1
theorem SetAt.made (w : World) : SetAt (w.alloc (.map #[] 0)) w.heap.size 0 (fun _ => false) :=
  ⟨_, World.ownsMap_made _ _ _ _, Maps.isMap_empty, fun _ _ => rfl⟩
theorem SetAt.put {w' : World} {b n k : Nat} {S : Nat → Bool} {D : DataW Unit} (hI : Maps.IsMap D) (hS : ∀ m : Nat, m ≤ 1000 → Maps.has D (keyN m) = S m) (h : w'.ownsMap Tryd.prog 3 unitElem b n (D.put (keyN k) (.agg []))) : SetAt w' b n (fun m => S m || m == k) := by
  refine ⟨_, h, hI.put _ _, fun m hm => ?_⟩
  by_cases he : m = k
  · subst he
    rw [Maps.has_put_same hI (by unfold keyN; trivial)]; simp
  · rw [Maps.has_put_other (fun e => he (by unfold keyN at e; injection e with _ e2; omega)), hS m hm]
    simp [he]
theorem SetAt.ext {w : World} {b n n' : Nat} {S S' : Nat → Bool} (h : SetAt w b n S) (hn : n ≤ n') (he : ∀ m, S m = S' m) : SetAt w b n' S' := by
  obtain ⟨D, h1, h2, h3⟩ := h
  exact ⟨D, h1.mono hn, h2, fun m hm => (h3 m hm).trans (he m)⟩
/-- The function's box, the map of where blocks begin. -/
structure HW (w wr : World) (fp fr : Int) (fv : Value) (n : Nat) (S : Nat → Bool) : Prop where
  box : wr.heap[w.heap.size]? = some (.cells #[.int .i64 fp, .int .i64 fr, fv] 57 (0, 0))
  map : SetAt wr (w.heap.size + 1) n S
  below : Below w.heap.size w wr
section
variable {w wr w' : World} {fp fr : Int} {fv : Value} {n : Nat} {S : Nat → Bool}
theorem HW.keeps (h : HW w wr fp fr fv n S) (hb : Below wr.heap.size wr w') : HW w w' fp fr fv n S :=
  ⟨(hb.block _ (block_lt h.box)).trans h.box, h.map.keeps hb, h.below.trans (hb.mono h.below.size)⟩
theorem HW.ext {n' : Nat} {S' : Nat → Bool} (h : HW w wr fp fr fv n S) (hn : n ≤ n') (he : ∀ m, S m = S' m) : HW w wr fp fr fv n' S' := ⟨h.box, h.map.ext hn he, h.below⟩
theorem HW.put {k : Nat} {D : DataW Unit} (h : HW w wr fp fr fv n S) (hI : Maps.IsMap D) (hS : ∀ m : Nat, m ≤ 1000 → Maps.has D (keyN m) = S m) (hm : w'.ownsMap Tryd.prog 3 unitElem (w.heap.size + 1) (n + 1) (D.put (keyN k) (.agg []))) (hg : wr.grownBy w' (some (w.heap.size + 1))) : HW w w' fp fr fv (n + 1) (fun m => S m || m == k) := by
  refine ⟨?_, SetAt.put hI hS hm, h.below.grown hg h.below.size (fun k hk => by simp at hk; omega)⟩
  rw [hg.block _ (block_lt h.box) (by simp)]; exact h.box
end
theorem HW.grown {w wr w' : World} {fp fr : Int} {fv : Value} {n : Nat} {S : Nat → Bool} {row : Option Nat} (h : HW w wr fp fr fv n S) (hg : wr.grownBy w' row) (hr : ∀ k, row = some k → w.heap.size + 2 ≤ k) : HW w w' fp fr fv n S := by
  refine ⟨?_, ?_, h.below.grown hg h.below.size (fun k hk => by have := hr k hk; omega)⟩
  · rw [hg.block _ (block_lt h.box) (fun e => by have := hr _ e.symm; omega)]; exact h.box
  · obtain ⟨D, ⟨es, clock, h1, r⟩, h2, h3⟩ := h.map
    exact ⟨D, ⟨es, clock, (hg.block _ (block_lt h1) (fun e => by have := hr _ e.symm; omega)).trans h1, r⟩, h2, h3⟩
theorem cell_eqH {W W2 : World} {b : Nat} (h : W.heap[b]? = W2.heap[b]?) {o : Nat} : W.cell? ⟨b, o, none⟩ = W2.cell? ⟨b, o, none⟩ := by simp only [World.cell?, h]
theorem heads_start (w : World) (fp fr : Int) (fv : Value) : HW w ((w.alloc (.cells #[.int .i64 fp, .int .i64 fr, fv] 57)).alloc (.map #[] 0)) fp fr fv 0 (fun _ => false) := by
  refine ⟨?_, ?_, ?_⟩
  · rw [Below.heap_alloc _ _ _ (by simp)]; exact heap_alloc_new _ _
  · have := SetAt.made (w.alloc (.cells #[.int .i64 fp, .int .i64 fr, fv] 57))
    simpa using this
  · repeat (first | exact hb | exact Below.refl _ _ | apply Below.drew | apply below_drewN | refine Below.alloc ?_ (by first | omega | (simp; done) | (simp; omega)) _ | refine Below.setCell ?_ (by first | omega | (simp; done) | (simp; omega)) _)
set_option maxRecDepth 100000 in
set_option maxHeartbeats 8000000 in
theorem heads_any (p : List Fnc) (F : Fnc) (FA : Option Addr) (fcap b : Nat) (w : World) (hp : Right p) (hF : F ∈ p) (hc : CodeAt w (.slice FA F.code.length fcap) F.code) (hs : IntsB w b (outL (sureF F))) :
    Calls Tryd.prog 45 #[.agg #[.int .i64 F.params, .int .i64 F.regs, .slice FA F.code.length fcap], .slice (some ⟨b, 0, none⟩) F.code.length F.code.length] w fun e w' =>
      (∃ v, e = .returned v ∧ OwnI w' w.heap.size v (natI (hdL F))) ∧ Below w.heap.size w w' := by
  have hfo := hp.ok.fn F hF
  have n1 := hfo.c1
  have n2 := hfo.c2
  obtain ⟨A0, cap0, hA0, hA⟩ := hc.slice
  simp only [Value.slice.injEq, true_and] at hA0
  obtain ⟨gc, hgc, hgl, hins⟩ := hA (by omega)
  obtain ⟨rfl, rfl⟩ := hA0
  subst hgc
  have HC := Lib.hid hc
  have HS := Lib.hid hs
  have HP := Lib.hid hp
  have HF := Lib.hid hF
  have HFO := Lib.hid hfo
  have HINS := Lib.hid hins
  have HSL := Lib.hid (sureF_length hfo.cok hfo.p2)
  have HNX := Lib.hid (fun (W : World) (pc : Nat) (x : Ins) (hx : F.code[pc]? = some x) (hc : CodeAt W (.slice (some ⟨gc, 0, none⟩) F.code.length fcap) F.code) => fnext_any F (some ⟨gc, 0, none⟩) fcap pc x W hx hc hfo.c2 (fun h => by have h1 := (hfo.ins x (List.mem_of_getElem? hx)).jump h; have h2 := hfo.c2; omega))
  obtain ⟨M, hM⟩ : ∃ M, F.code.length = M := ⟨_, rfl⟩
  have HM := Lib.hid hM
  rw [hM] at n1 n2 HC HNX HSL ⊢
  clear hA hins hc hs hp hF hfo hM
  have hmm := @run_makeMap Tryd.prog
  obtain ⟨i0, hi, hz0, hz1, hz2⟩ := info_parts infoInt
  have hk0 := keyN_of (n := 0) (by omega)
  go_enter Tryd.func45, Tryd.ntmps45
  go_wp2_with (at_mapUpdate; go_must (refine wpList_mapUpdate_own _ rfl _ _ _ mapT rfl 3 115 lawInt Tryd.underlying114 unitElem (w.heap.size + 1) 0 _ rfl (by have := World.ownsMap_made (H := Unit) (w.alloc (.cells #[.int .i64 F.params, .int .i64 F.regs, .slice (some ⟨gc, 0, none⟩) M fcap] 57)) Tryd.prog 3 unitElem; simpa using this) (by unfold maxLen; omega) _ _ _ rfl rfl hk0 _ [] unitElem_mk ?_; intro w1 hown1 hg1; have HH := Lib.hid ((heads_start w F.params F.regs (.slice (some ⟨gc, 0, none⟩) M fcap)).put (k := 0) Maps.isMap_empty (fun _ _ => rfl) hown1 hg1); have q1 := cell_block HH.out.box; have z1 := block_lt HH.out.box; clear hown1 hg1))
  clear q1 z1 hmm hk0
  have HH0 := Lib.hid (HH.out.ext (n' := 1) (S' := hdB F 0) (Nat.le_refl _) (fun m => by simp [hdB]))
  clear HH
  have HBL := Lib.hid HS.out.lt
  go_loopw [20] (fun v wr => ∃ j : Nat, j ≤ M ∧ v = .int .i64 (j : Int) ∧ HW w wr F.params F.regs (.slice (some ⟨gc, 0, none⟩) M fcap) (1 + 3 * j) (hdB F j)) (fun v _ => M - (intOf v).toNat)
  case atStart => exact ⟨0, by omega, rfl, HH0.out⟩
  case round =>
    obtain ⟨j, hj, rfl, hH⟩ := hrel
    obtain ⟨wo, hwo⟩ : ∃ wo : World, wo = wr := ⟨_, rfl⟩
    subst hwo
    clear HH0
    have HH := Lib.hid hH
    have q1 := cell_block hH.box
    have z1 := block_lt hH.box
    by_cases hjM : j = M
    · obtain rfl : M = j := hjM.symm
      obtain ⟨N0, hN0⟩ : ∃ n, n = M := ⟨_, rfl⟩
      subst hN0
      clear hH
      go_wp2_with fail
      clear q1 z1
      have hhd : ∀ n, hdB F N0 n = hdB F F.code.length n := fun n => by rw [HM.out]
      have HHD := Lib.hid hhd
      clear hhd
      have HL0 := Lib.hid (OwnI.nil wo (w.heap.size + 2))
      go_loopw [10, 52] (fun vl v wr => ∃ (j : Nat) (A1 : Option Addr) (cap1 : Nat), j ≤ N0 ∧ v = .int .i64 (j : Int) ∧ vl = .slice A1 (hdTo F j).length cap1 ∧ OwnI wr (w.heap.size + 2) (.slice A1 (hdTo F j).length cap1) (natI (hdTo F j)) ∧ HW w wr F.params F.regs (.slice (some ⟨gc, 0, none⟩) N0 fcap) (1 + 3 * N0) (hdB F N0)) (fun _ v _ => N0 - (intOf v).toNat)
      case atStart => exact ⟨0, none, 0, by omega, rfl, rfl, HL0.out, HH.out⟩
      case round =>
        obtain ⟨j, A1, cap1, hjj, rfl, rfl, hO, hH⟩ := hrel
        have HO := Lib.hid hO
        have HH3 := Lib.hid hH
        clear hO hH
        by_cases hjN : j = N0
        · obtain rfl : N0 = j := hjN.symm
          go_wp2_with fail
          go_ret
          exact ⟨⟨_, rfl, by have h := own_base (B' := w.heap.size) HO.out (by omega); rw [show hdL F = hdTo F N0 by unfold hdL hdTo; rw [HM.out]]; exact h⟩, HH3.out.below⟩
        · have hj1 : (j : Int) < N0 := by omega
          have hj2 : (0 : Int) ≤ j := by omega
          obtain ⟨D, hD1, hD2, hD3⟩ := HH3.out.map
          have HD1 := Lib.hid hD1
          have hhas := hD3 j (by omega)
          have hkey := keyN_of (n := j) (by omega)
          have hts := hdTo_succ F j
          rw [← HHD.out j] at hts
          have hlen := hdTo_len F j
          have zm := HH3.out.map.lt
          have zu := fun W => zeroUnit W
          have HZU := Lib.hid zu
          clear hD1 hD2 hD3 zu
          cases hc : hdB F N0 j with
          | false =>
            rw [hc] at hhas hts
            have HTS := Lib.hid (show hdTo F (j + 1) = hdTo F j by rw [hts]; simp)
            have HAS := Lib.hid hhas
            clear hc hts hhas
            go_wp2_with (at_lookup; go_must (refine wpList_lookup_own_unit _ rfl _ _ mapT rfl 3 115 lawInt Tryd.underlying114 (HZU.out _) (w.heap.size + 1) (1 + 3 * N0) D rfl HD1.out _ _ rfl hkey ?_; rw [HAS.out]))
            go_roundw
            case rel => exact ⟨j + 1, A1, cap1, by omega, by go_num, by rw [HTS.out], by rw [HTS.out]; exact HO.out.keeps ((Below.refl _ _).alloc (Nat.le_refl _) _), HH3.out.keeps ((Below.refl _ _).alloc (Nat.le_refl _) _)⟩
            case measure => simp [intOf]; omega
          | true =>
            rw [hc] at hhas hts
            have HTS := Lib.hid (show hdTo F (j + 1) = hdTo F j ++ [j] by rw [hts]; rfl)
            have HAS := Lib.hid hhas
            clear hc hts hhas
            have HO2 := Lib.hid (HO.out.keeps ((Below.refl _ _).alloc (Nat.le_refl _) (.cells #[] 115)))
            go_wp2_with (first | (at_lookup; go_must (refine wpList_lookup_own_unit _ rfl _ _ mapT rfl 3 115 lawInt Tryd.underlying114 (HZU.out _) (w.heap.size + 1) (1 + 3 * N0) D rfl HD1.out _ _ rfl hkey ?_; rw [HAS.out])) | (at_builtin; go_must (refine wpList_append_own _ rfl _ _ 37 rfl (w.heap.size + 2) 3 i0 _ 1 8 Tryd.underlying37 hi hz0 hz1 hz2 rfl (by decide) (.slice A1 (hdTo F j).length cap1) (hdTo F j).length ((natI (hdTo F j)).map (Value.int .i64)) rfl (by have h := HO2.out; unfold OwnI at h; rw [natI_length] at h; exact own_below h ((Below.refl _ _).alloc (Nat.le_refl _) _)) ⟨wr.heap.size + 1, 0, none⟩ 1 1 [.int .i64 (j : Int)] rfl rfl (World.news_of_block (cs := #[.int .i64 (j : Int)]) (t := 3) (fr := (0, 0)) (by simpa using heap_alloc_new (wr.alloc (.cells #[] 115)) (.cells #[.int .i64 (j : Int)] 3))) (by simp [Value.oneCell']) (by unfold maxLen; omega) (by omega) (by simp; omega) ?_); intro v9 w9 hown9 hg9 _; obtain ⟨A9, cap9, hv9, -⟩ := own_slice hown9; rw [hv9] at hown9; rw [hv9]; have HH9 := Lib.hid (((HH3.out.keeps ((Below.refl _ _).alloc (Nat.le_refl _) _)).keeps ((Below.refl _ _).alloc (Nat.le_refl _) _)).grown hg9 (fun k hk => (World.ownsRow.lt HO.out k hk).1)); have HO9 := Lib.hid hown9; clear hown9 hg9))
            go_roundw
            case rel => exact ⟨j + 1, A9, cap9, by omega, by go_num, by rw [HTS.out]; simp, by rw [HTS.out]; unfold OwnI; simp only [natI_length, List.length_append, List.length_cons, List.length_nil]; have h := HO9.out; simpa [natI] using h, HH9.out⟩
            case measure => simp [intOf]; omega
    · have hj1 : (j : Int) < M := by omega
      have hj2 : (0 : Int) ≤ j := by omega
      obtain ⟨x, hx⟩ : ∃ x, F.code[j]? = some x := ⟨_, List.getElem?_eq_getElem (by rw [HM.out]; omega)⟩
      obtain ⟨e0, e1, e2, e3, e4⟩ := HINS.out j x hx
      rw [← hH.below.cell (p := ⟨gc, _, none⟩) hgl] at e0 e1 e2 e3 e4
      have zgc : gc < wo.heap.size := Nat.lt_of_lt_of_le hgl hH.below.size
      obtain ⟨o, ho⟩ : ∃ o, (sureF F)[j]? = some o := ⟨_, List.getElem?_eq_getElem (by rw [HSL.out]; omega)⟩
      have cb := (hH.below.cell (p := ⟨b, j, none⟩) HBL.out).trans (HS.out.cell (outL_get ho))
      have zb : b < wo.heap.size := Nat.lt_of_lt_of_le HBL.out hH.below.size
      have HSUC := Lib.hid (fun m => hdB_succ F j m)
      have HXX := Lib.hid hx
      clear hH
      cases ho2 : o with
      | none =>
        have hr : rchB F j = false := by unfold rchB; rw [ho, ho2]; rfl
        rw [ho2] at cb
        have hoi : oI none = -1 := rfl
        rw [hoi] at cb
        have HNO := Lib.hid (fun m => show hdOf F j m = false by unfold hdOf; rw [hr]; rfl)
        clear hr ho ho2 hoi hx
        go_wp2_with fail
        go_roundw
        case rel => exact ⟨j + 1, by omega, by go_num, (HH.out.ext (by omega) (fun m => by rw [HSUC.out, HNO.out]; simp)).keeps ((Below.refl _ _).alloc (Nat.le_refl _) _)⟩
        case measure => simp [intOf]; omega
      | some m =>
        have hr : rchB F j = true := by unfold rchB; rw [ho, ho2]; rfl
        rw [ho2] at cb
        have hoi : oI (some m) = (m : Int) := rfl
        rw [hoi] at cb
        have hm0 : ¬ ((m : Int) < 0) := by omega
        have HEN := Lib.hid (fun (W : World) => ends_any x.op W)
        by_cases he : 15 ≤ x.op
        · have HOF := Lib.hid (fun m => show hdOf F j m = (nextS x j).contains m by unfold hdOf; rw [hr, hx]; simp [he])
          have HNL := Lib.hid (fun (n : Nat) (hn : n ∈ nextS x j) => (HP.out.nextR HF.out hr hx ((nextS_mem x j n).1 hn)).1)
          have HN1 := Lib.hid (fun W hc => HNX.out W j x hx hc)
          have hln2 := nextS_length x j
          obtain ⟨L, hL⟩ : ∃ L, nextS x j = L := ⟨_, rfl⟩
          rw [hL] at HOF HNL HN1 hln2
          have hed : decide (15 ≤ x.op) = true := by simpa using he
          rw [hed] at HEN
          have HHA := Lib.hid (HH.out.keeps ((Below.refl _ _).alloc (Nat.le_refl _) (.cells #[.int .i64 x.op, .int .i64 x.dst, .int .i64 x.a, .int .i64 x.b, .int .i64 x.imm] 54)))
          clear hr ho ho2 hoi hx he hed hL
          go_wp2_with (first | (go_at_call 46; go_must (refine (HEN.out _).mono ?_; rintro e w' ⟨rfl, rfl⟩)) | (go_at_call 48; go_must (refine (HN1.out _ (HC.out.keeps HHA.out.below)).mono ?_; rintro e w7 ⟨⟨vv, rfl, hov⟩, hb7⟩; obtain ⟨Av, capv, hvv, hcv⟩ := own_slice hov; rw [natI_length] at hvv hcv; subst hvv; have HH7 := Lib.hid (HHA.out.keeps hb7); have HCV := Lib.hid hcv; have HVB := Lib.hid (fun k hk => (World.ownsRow.lt hov k hk).1); clear hov hb7 hcv)))
          obtain ⟨ln, hln⟩ : ∃ n, L.length = n := ⟨_, rfl⟩
          have HLN := Lib.hid hln
          rw [hln] at HCV hln2 ⊢
          clear hln q1 z1 e0 e1 e2 e3 e4 zgc zb cb
          go_loopw [40] (fun v wr => ∃ i : Nat, i ≤ ln ∧ v = .int .i64 (i : Int) ∧ HW w wr F.params F.regs (.slice (some ⟨gc, 0, none⟩) M fcap) (1 + 3 * j + i) (fun m => hdB F j m || (L.take i).contains m) ∧ (∀ gv : Nat, Av = some ⟨gv, 0, none⟩ → w.heap.size + 1 < gv → gv < w7.heap.size → wr.heap[gv]? = w7.heap[gv]?)) (fun v _ => ln - (intOf v).toNat)
          case atStart => exact ⟨0, by omega, rfl, HH7.out.ext (by omega) (fun m => by simp), fun _ _ _ _ => rfl⟩
          case round =>
            obtain ⟨i, hi, rfl, hHi, hrow⟩ := hrel
            have HHI := Lib.hid hHi
            have HROW := Lib.hid hrow
            clear hHi hrow
            by_cases hil : i = ln
            · obtain rfl : ln = i := hil.symm
              go_wp2_with fail
              go_roundw
              case rel => exact ⟨j + 1, by omega, by go_num, HHI.out.ext (by omega) (fun m => by rw [HSUC.out, HOF.out, List.take_of_length_le (by rw [HLN.out]; exact Nat.le_refl _)])⟩
              case measure => simp [intOf]; omega
            · have hi1 : (i : Int) < ln := by omega
              have hi2 : (0 : Int) ≤ i := by omega
              obtain ⟨n, hn⟩ : ∃ n, L[i]? = some n := ⟨L[i]'(by rw [HLN.out]; omega), List.getElem?_eq_getElem _⟩
              obtain ⟨gv, hgv, hgl2, hcc⟩ := HCV.out (by omega)
              have hgv1 : w.heap.size + 1 < gv := by
                have h1 := HVB.out gv (by rw [hgv]; rfl)
                have h2 := HHA.out.map.lt
                omega
              have hrg := HROW.out gv hgv hgv1 hgl2
              have cn := hcc i (by omega) |>.trans (show _ = some (Value.int .i64 (n : Int)) by simp [natI, hn])
              rw [← cell_eqH hrg] at cn
              have zgv : gv < wr.heap.size := World.block_lt_of_cell? _ _ cn
              have hnM := HNL.out n (List.mem_of_getElem? hn)
              rw [HM.out] at hnM
              have hkey := keyN_of (n := n) (by omega)
              obtain ⟨D, hD1, hD2, hD3⟩ := HHI.out.map
              have HD2 := Lib.hid hD2
              have HD3 := Lib.hid hD3
              have HD1 := Lib.hid hD1
              have HLT := Lib.hid (show (L.take (i + 1)) = L.take i ++ [n] by rw [List.take_add_one, hn]; rfl)
              have HROW2 := Lib.hid (fun (W : World) (hg : wr.grownBy W (some (w.heap.size + 1))) => fun (g' : Nat) (h1 : Av = some ⟨g', 0, none⟩) (h2 : w.heap.size + 1 < g') (h3 : g' < w7.heap.size) => (hg.block g' (by rw [hgv] at h1; simp at h1; omega) (by simp; omega)).trans (HROW.out g' h1 h2 h3))
              subst hgv
              clear hcc hn hil hD2 hD3 hD1 hrg
              go_wp2_with (at_mapUpdate; go_must (refine wpList_mapUpdate_own _ rfl _ _ _ mapT rfl 3 115 lawInt Tryd.underlying114 unitElem (w.heap.size + 1) (1 + 3 * j + i) D rfl HD1.out (by unfold maxLen; omega) _ _ _ rfl rfl hkey _ [] unitElem_mk ?_; intro w9 hown9 hg9; have HH9 := Lib.hid (HHI.out.put HD2.out HD3.out hown9 hg9); have HR9 := Lib.hid (HROW2.out _ hg9); clear hown9 hg9))
              go_roundw
              case rel => exact ⟨i + 1, by omega, by go_num, HH9.out.ext (by omega) (fun m => by rw [HLT.out, Bool.or_assoc]; congr 1; rw [Bool.eq_iff_iff]; simp), HR9.out⟩
              case measure => simp [intOf]; omega
        · have HNO := Lib.hid (fun m => show hdOf F j m = false by unfold hdOf; rw [hr, hx]; simp [he])
          have hed : decide (15 ≤ x.op) = false := by simpa using he
          rw [hed] at HEN
          clear hr ho ho2 hoi hx he hed
          go_wp2_with (first | (go_at_call 46; go_must (refine (HEN.out _).mono ?_; rintro e w' ⟨rfl, rfl⟩)))
          go_roundw
          case rel => exact ⟨j + 1, by omega, by go_num, (HH.out.ext (by omega) (fun m => by rw [HSUC.out, HNO.out]; simp)).keeps ((Below.refl _ _).alloc (Nat.le_refl _) _)⟩
          case measure => simp [intOf]; omega
end Go.Proofs.YtfdppmjoinodgaaDoor
