/-
  place.Clash: for each value those with which it clashes, in rows.
-/
import Derived.Test.YtfdppmjoinodgaaDoorGa
namespace Go.Proofs.YtfdppmjoinodgaaDoor
open Go.RowKit Tier
/-- The values below some bound that clash with one. -/
def clsL (M : Nat → Nat → Bool) (j a : Nat) : List Nat := (List.range j).filter fun b => M a b
theorem clsL_succ (M : Nat → Nat → Bool) (j a : Nat) : clsL M (j + 1) a = clsL M j a ++ if M a j = true then [j] else [] := by
  unfold clsL
  rw [List.range_succ, List.filter_append]
  congr 1
  cases e : M a j with
  | true => simp [e]
  | false => simp [e]
theorem clsL_len (M : Nat → Nat → Bool) (j a : Nat) : (clsL M j a).length ≤ j := by
  unfold clsL
  exact Nat.le_trans (List.length_filter_le _ _) (by simp)
theorem clsL_mem {M : Nat → Nat → Bool} {j a b : Nat} : b ∈ clsL M j a ↔ b < j ∧ M a b = true := by
  unfold clsL
  rw [List.mem_filter, List.mem_range]
theorem clsL_sorted (M : Nat → Nat → Bool) (j a : Nat) : (clsL M j a).Pairwise (· < ·) := List.Pairwise.filter _ List.pairwise_lt_range
/-- .. when so many rows are done, and of the next one so many columns. -/
def clTo (M : Nat → Nat → Bool) (N a j x : Nat) : List Nat := if x < a then clsL M N x else if x = a then clsL M j a else []
def clRow (N : Nat) (U : Option Nat → Value) (R : Nat → List Nat) : Option Nat → RowC
  | none => ⟨37, 1, U none, N, (List.range N).map fun a => U (some a)⟩
  | some a => ⟨3, 1, U (some a), (R a).length, intsV (natI (R a))⟩
theorem clRow_v (N : Nat) (U : Option Nat → Value) (R : Nat → List Nat) (k : Option Nat) : (clRow N U R k).v = U k := by cases k <;> rfl
theorem infoIs : (Tryd.prog.info? 37).map (fun i => (i.zero, i.size, i.bytes)) = some (some (.slice none 0 0), 1, 24) := by kernel_rfl
theorem make_rowsI (n : Nat) (hn : n ≤ 100000) (w : World) : (Instr.makeSlice 28 (.int .i64 (n : Int)) (.int .i64 (n : Int))).run Tryd.prog w = .ok (.slice (some ⟨w.heap.size, 0, none⟩) n n) (w.alloc (.cells (List.replicate n (Value.slice none 0 0)).toArray 37)) := by
  have := run_make_row' (P := Tryd.prog) 28 37 (.slice none 0 0) 24 Tryd.underlying28 infoIs rfl .i64 .i64 n (by omega) (by omega) w
  rw [madeCells_one] at this
  exact this
def clU (g N : Nat) : Option Nat → Value := fun k => if k = none then .slice (some ⟨g, 0, none⟩) N N else .slice none 0 0
theorem cl_start {w : World} {B N : Nat} (hB : B ≤ w.heap.size) (hN : N ≤ 100000) : OwnK (w.alloc (.cells (List.replicate N (Value.slice none 0 0)).toArray 37)) B (clRow N (clU w.heap.size N) fun _ => []) := by
  refine ⟨fun k => ?_, fun k k' hk b h1 h2 => ?_⟩
  · cases k with
    | none =>
      refine ⟨by simp [clRow], .inr ⟨w.heap.size, N, (List.replicate N (Value.slice none 0 0)).toArray, rfl, hB, heap_alloc_new w _, Nat.le_refl _, by unfold maxLen; omega, by simp [clRow], ?_⟩⟩
      show ((List.replicate N (Value.slice none 0 0)).take (N * 1)) = (List.range N).map fun _ => _
      rw [List.take_of_length_le (by simp)]
      exact List.ext_getElem (by simp) (fun i h1 h2 => by simp [clU])
    | some a => exact ⟨rfl, .inl ⟨rfl, rfl⟩⟩
  · rw [clRow_v] at h1 h2
    cases k with
    | none =>
      cases k' with
      | none => exact hk rfl
      | some a => simp [clU, Value.ownBlock] at h2
    | some a => simp [clU, Value.ownBlock] at h1
theorem rowC_ext : ∀ (A C : RowC), A.e = C.e → A.size = C.size → A.v = C.v → A.n = C.n → A.xs = C.xs → A = C := fun A C h1 h2 h3 h4 h5 => by
  cases A; cases C; simp only at h1 h2 h3 h4 h5; subst h1 h2 h3 h4 h5; rfl
/-- A row of numbers grows by one. -/
theorem cl_push {w w1 : World} {B N : Nat} {U : Option Nat → Value} {R : Nat → List Nat} (h : OwnK w B (clRow N U R)) (o : Obj) (x : Nat) {a : Nat} (ha : a < N) {g m cap H g0 cp : Nat} (hg : (w.alloc o).grownBy w1 (U (some a)).ownBlock) (hm : m = (R a).length + 1)
    (ho : w1.ownsRow B 3 1 (.slice (some ⟨g, 0, none⟩) m cap) m (intsV (natI (R a)) ++ [.int .i64 (x : Int)])) (hat : (U (some a)).ownBlock = some g ∨ g = H) (hH : w.heap.size ≤ H) (h0 : U none = .slice (some ⟨g0, 0, none⟩) N cp) :
    OwnK (w1.setCell ⟨g0, a, none⟩ (.slice (some ⟨g, 0, none⟩) m cap)) B (clRow N (fun k => if k = some a then .slice (some ⟨g, 0, none⟩) m cap else U k) (fun c => if c = a then R a ++ [x] else R c)) := by
  have hv : (clRow N U R (some a)).v.ownBlock = (U (some a)).ownBlock := by rw [clRow_v]
  have h1 := h.app (some a) o (by rw [hv]; exact hg) ho (by rw [hv]; exact hat) hH
  have h2 := h1.set none (g := g0) (n := N) (cap := cp) (by rw [putK_ne _ (by simp), clRow_v]; exact h0) a (.slice (some ⟨g, 0, none⟩) m cap) (by rw [putK_ne _ (by simp)]; show a < ((List.range N).map _).length; simpa using ha)
  refine (congrArg (fun r => OwnK _ B r) (funext fun k => ?_)).mp h2
  cases k with
  | none =>
    rw [putK_self, putK_ne _ (by simp)]
    refine rowC_ext _ _ rfl rfl rfl rfl ?_
    show ((List.range N).map fun a => U (some a)).set a _ = (List.range N).map fun c => if some c = some a then _ else U (some c)
    refine List.ext_getElem? (fun i => ?_)
    rw [List.getElem?_set, List.getElem?_map, List.getElem?_map]
    by_cases ei : a = i
    · subst ei
      rw [if_pos rfl, List.getElem?_range ha]
      simp [ha]
    · rw [if_neg ei]
      by_cases hi : i < N
      · rw [List.getElem?_range hi]
        show some (U (some i)) = some (if some i = some a then _ else U (some i))
        rw [if_neg (by simpa using fun e : i = a => ei e.symm)]
      · rw [List.getElem?_eq_none (by simpa using hi)]; rfl
  | some c =>
    rw [putK_ne _ (by simp)]
    by_cases e : c = a
    · subst e
      rw [putK_self]
      refine rowC_ext _ _ rfl rfl ?_ ?_ ?_
      · show _ = if some c = some c then _ else _
        rw [if_pos rfl]
      · show m = (if c = c then R c ++ [x] else R c).length
        rw [if_pos rfl, hm]; simp
      · show _ = intsV (natI (if c = c then R c ++ [x] else R c))
        rw [if_pos rfl]; simp [intsV, natI]
    · rw [putK_ne _ (by simpa using e)]
      refine rowC_ext _ _ rfl rfl ?_ ?_ ?_
      · show U (some c) = if some c = some a then _ else _
        rw [if_neg (by simpa using e)]
      · show (R c).length = (if c = a then R a ++ [x] else R c).length
        rw [if_neg e]
      · show intsV (natI (R c)) = intsV (natI (if c = a then R a ++ [x] else R c))
        rw [if_neg e]
theorem clTo_push {M : Nat → Nat → Bool} {N a j : Nat} (hm : M a j = true) : (fun c => if c = a then clTo M N a j a ++ [j] else clTo M N a j c) = clTo M N a (j + 1) := by
  funext c
  unfold clTo
  by_cases e : c = a
  · subst e
    rw [if_pos rfl, if_neg (Nat.lt_irrefl _), if_pos rfl, if_neg (Nat.lt_irrefl _), if_pos rfl, clsL_succ, if_pos hm]
  · rw [if_neg e, if_neg e, if_neg e]
theorem clTo_skip {M : Nat → Nat → Bool} {N a j : Nat} (hm : M a j = false) : clTo M N a j = clTo M N a (j + 1) := by
  have e : clsL M (j + 1) a = clsL M j a := by rw [clsL_succ, hm]; simp
  funext c
  unfold clTo
  rw [e]
theorem clTo_next (M : Nat → Nat → Bool) (N a : Nat) : clTo M N a N = clTo M N (a + 1) 0 := by
  funext c
  unfold clTo
  have h0 : clsL M 0 (a + 1) = [] := rfl
  by_cases e : c < a
  · rw [if_pos e, if_pos (by omega)]
  · rw [if_neg e]
    by_cases e2 : c = a
    · subst e2; rw [if_pos rfl, if_pos (by omega)]
    · rw [if_neg e2, if_neg (by omega)]
      split
      · exact h0.symm
      · rfl
theorem clTo_zero (M : Nat → Nat → Bool) (N : Nat) : clTo M N 0 0 = fun _ => [] := by
  funext c
  unfold clTo
  rw [if_neg (Nat.not_lt_zero _)]
  split <;> rfl
theorem BuiltX.vl_small {p : List Fnc} {F : Fnc} {O : List Nat} {bs : List BR} {K : Nat} {s1 s2 s : SB} {l : List Int} (h : BuiltX p F O bs K s1 s2 l s) : valN F bs s2 l ≤ 10000 := by
  have hR := right_of h.hk
  have hfo := hR.ok.fn F h.hF
  have hb := h.b.bok.len
  have hH : bs.length ≤ 40 := bs_le h.hk h.hF h.b.bok
  refine h.finP.small (by have h1 := hfo.p1; have h2 := hfo.p2; omega) hH (fun i hi => ?_)
  rw [h.finP.il i hi]
  have := (toF_spec hR h.hF (hdA_mem2 (show i < (hdL F).length by rw [← hb]; exact hi)).1).2.1
  have := hfo.c2
  omega
def ClashRet (p : List Fnc) (F : Fnc) (B : Nat) (e : Ending) (w' : World) : Prop := ∃ s O bs K s1 s2 l U g cp, e = .returned (.tuple #[.slice (some ⟨g, 0, none⟩) (valN F bs s2 l) cp, .int .i64 0]) ∧ U none = .slice (some ⟨g, 0, none⟩) (valN F bs s2 l) cp ∧ BuiltX p F O bs K s1 s2 l s ∧ OwnK w' B (clRow (valN F bs s2 l) U (clTo (gatTo F O s bs.length) (valN F bs s2 l) (valN F bs s2 l) 0))
set_option maxRecDepth 100000 in
set_option maxHeartbeats 8000000 in
theorem clash_any (p : List Fnc) (F : Fnc) (A : Option Addr) (cap1 k : Nat) (w1 : World) (ht : Tab w1) (hp : ProgAt w1 (.slice A p.length cap1) p) (hk : checkP p = 0) (hf : p[k]? = some F) :
    Calls Tryd.prog 14 #[.agg #[.slice A p.length cap1], .int .i64 (k : Int)] w1 fun e w' => ClashRet p F w1.heap.size e w' ∧ Below w1.heap.size w1 w' := by
  have HBU := Lib.hid (fun (W : World) (h1 : Tab W) (h2 : ProgAt W (.slice A p.length cap1) p) => build_all A cap1 k W h1 h2 hk hf)
  have HGA := Lib.hid (fun (W : World) (h1 : Tab W) (h2 : ProgAt W (.slice A p.length cap1) p) => @gather_any p F A cap1 k W h1 h2 hk hf)
  have HT := Lib.hid ht
  have HCK := Lib.hid hk
  have HFM := Lib.hid (List.mem_of_getElem? hf)
  have HRT := Lib.hid (right_of hk)
  obtain ⟨P, hP⟩ : ∃ n : Nat, F.params = n := ⟨F.params.toNat, by have := ((right_of hk).ok.fn F (List.mem_of_getElem? hf)).p1; omega⟩
  have HPP := Lib.hid hP
  have HFO := Lib.hid ((right_of hk).ok.fn F (List.mem_of_getElem? hf))
  obtain ⟨N, hN⟩ : ∃ N, p.length = N := ⟨_, rfl⟩
  rw [hN] at HBU HGA hp ⊢
  have HPA := Lib.hid hp
  have hH1 : 0 < (hdL F).length := (List.getElem?_eq_some_iff.1 (zero_head HRT.out HFM.out)).1
  obtain ⟨H, hH⟩ : ∃ H, (hdL F).length = H := ⟨_, rfl⟩
  have HH := Lib.hid hH
  rw [hH] at hH1
  clear ht hp hk hf hP hN hH
  have hmk := make_rowsI
  go_enter Tryd.func14, Tryd.ntmps14
  have HXA := Lib.hid ((Below.refl w1.heap.size w1).alloc (Nat.le_refl _) (.cells #[.slice A N cap1] 25))
  go_wp2_with (go_at_call 15; go_must (refine (HBU.out _ (HT.out.keeps HXA.out) (HPA.out.keeps HXA.out)).mono ?_; rintro e w3 ⟨⟨b, c, s, V, O, bs, K, s2, l, rfl, hbb, hsb, hbl⟩, hb⟩; have HBX := Lib.hid (BuiltX.mk hbl HCK.out HFM.out rfl : BuiltX p F O bs K _ s2 l s); have hbsl : bs.length = H := (by rw [hbl.bok.len, HH.out]); have HBL := Lib.hid hbsl; obtain ⟨Ap, cp, hvp, -, hpA⟩ := hsb.rowV .parts (n := H) (by show s.parts.length = H; rw [HBX.out.finP.len, hbsl]); obtain ⟨gp, rfl, -, -⟩ := hpA hH1; have HVP := Lib.hid hvp; obtain ⟨vl, hvl⟩ : ∃ v, valN F bs s2 l = v := ⟨_, rfl⟩; have HVL := Lib.hid hvl; rw [hvp, show ((F.params.toNat + (allG { s2 with same := l } bs.length).length : Nat) : Int) = ((vl : Nat) : Int) from congrArg Int.ofNat hvl, HPP.out]; have HB13 := Lib.hid (HXA.out.trans (hb.mono HXA.out.size)); have HX1 := Lib.hid ((hb.block w1.heap.size (by simp)).trans (heap_alloc_new w1 _)); have HSB := Lib.hid hsb; have q3 := cell_block HX1.out 0; have z3 := block_lt HX1.out; clear hbb hsb hbl hb hvp hvl hbsl hpA))
  have hvl2 : vl ≤ 10000 := by rw [← HVL.out]; exact HBX.out.vl_small
  go_wp2_with (go_at_call 28; go_must (obtain ⟨w4, hw4⟩ : ∃ W, w3.alloc (.cells #[.int .i64 (P : Int), .int .i64 (vl : Int), .slice (some ⟨gp, 0, none⟩) H cp] 34) = W := ⟨_, rfl⟩; have HB34 : Hid (Below w3.heap.size w3 w4) := Lib.hid (hw4 ▸ (Below.refl _ _).alloc (Nat.le_refl _) _); have HXS : Hid (w4.heap[w3.heap.size]? = some (.cells #[.int .i64 (P : Int), .int .i64 (vl : Int), .slice (some ⟨gp, 0, none⟩) H cp] 34 (0, 0))) := Lib.hid (hw4 ▸ heap_alloc_new _ _); have HB14 := Lib.hid (HB13.out.trans (HB34.out.mono HB13.out.size)); rw [hw4]; clear hw4 q3 z3; refine (HGA.out w4 (HT.out.keeps HB14.out) (HPA.out.keeps HB14.out) HBX.out (HSB.out.keeps HB34.out) HVP.out HBL.out HVL.out).mono ?_; rintro e w5 ⟨⟨Lc, G, rfl, hLc, hmt⟩, hb⟩; have HM5 := Lib.hid hmt; have HB45 := Lib.hid hb; have HLC := Lib.hid hLc; have q5 : w5.cell? ⟨w3.heap.size, 1, none⟩ = some (.int .i64 (vl : Int)) := (hb.cell (p := ⟨w3.heap.size, _, none⟩) (block_lt HXS.out)).trans (cell_block HXS.out 1); have z5 := Nat.lt_of_lt_of_le (block_lt HXS.out) hb.size; clear hmt hb hLc; have hmk1 := hmk vl (by omega); clear hmk))
  have HB15 := Lib.hid (HB14.out.trans (HB45.out.mono HB14.out.size))
  obtain ⟨M, hM⟩ : ∃ M, gatTo F O s H = M := ⟨_, rfl⟩
  have HMG := Lib.hid hM
  rw [hM] at HM5
  have HS6 := Lib.hid (cl_start (w := w5) (B := w5.heap.size) (N := vl) (Nat.le_refl _) (by omega))
  obtain ⟨w6, hw6⟩ : ∃ W, w5.alloc (.cells (Array.replicate vl (Value.slice none 0 0)) 37) = W := ⟨_, rfl⟩
  rw [List.toArray_replicate, hw6] at HS6
  have HB56 : Hid (Below w5.heap.size w5 w6) := Lib.hid (hw6 ▸ (Below.refl _ _).alloc (Nat.le_refl _) _)
  obtain ⟨g0, hg0⟩ : ∃ n, w5.heap.size = n := ⟨_, rfl⟩
  have HG0 := Lib.hid hg0
  have HU0 : Hid (clU w5.heap.size vl none = .slice (some ⟨g0, 0, none⟩) vl vl) := Lib.hid (by rw [hg0]; rfl)
  have HKM := Lib.hid (fun (W : World) (hb : Below w5.heap.size w5 W) => (HM5.out.keeps hb : MAt W w4.heap.size Lc vl vl G M))
  rw [hw6]
  clear hw6 hM q5 z5 hg0
  rw [HG0.out]
  go_loopw [31] (fun v31 wr => ∃ (a : Nat) (U : Option Nat → Value), a ≤ vl ∧ v31 = .int .i64 (a : Int) ∧ OwnK wr w5.heap.size (clRow vl U (clTo M vl a 0)) ∧ U none = .slice (some ⟨g0, 0, none⟩) vl vl ∧ Below w5.heap.size w5 wr) (fun v31 _ => vl - (intOf v31).toNat)
  case atStart => exact ⟨0, _, by omega, rfl, by rw [clTo_zero]; exact HS6.out, HU0.out, HB56.out⟩
  case round =>
    obtain ⟨a, U, ha, rfl, hown, hu0, hb⟩ := hrel
    have HO := Lib.hid hown
    have HU := Lib.hid hu0
    have HB := Lib.hid hb
    by_cases ha0 : a = vl
    · have ha0' := ha0.symm
      subst ha0'
      clear hown hu0 hb
      go_wp2_with fail
      refine bodyPost_ret (v := .tuple #[.slice (some ⟨g0, 0, none⟩) vl vl, .int .i64 0]) (by simp [results, Tryd.results14]) rfl ?_
      refine ⟨⟨s, O, bs, K, _, s2, l, U, g0, vl, by rw [HVL.out], by rw [HVL.out]; exact HU.out, HBX.out, ?_⟩, HB15.out.trans (HB.out.mono HB15.out.size)⟩
      rw [HVL.out, HBL.out, HMG.out]
      exact ⟨fun k => own_base (HO.out.own k) HB15.out.size, HO.out.ap⟩
    · have ha1 : (a : Int) < vl := by omega
      have ha2 : (0 : Int) ≤ a := by omega
      have ha3 : a < vl := by omega
      have hm := HKM.out wr hb
      obtain ⟨gm, cm, e1, e2, e3⟩ := hm.row0 (by omega)
      have x0 : wr.cell? ⟨Lc, 0, none⟩ = some (.slice (some ⟨gm, 0, none⟩) vl cm) := by rw [← e1]; exact hm.cell
      have x1 := hm.lt
      obtain ⟨ga, ca, r1, r2, r3, r4⟩ := hm.row ha3 (by omega)
      have x2 := e3 a ha3
      rw [r1] at x2
      have HRA := Lib.hid r1
      have HGA0 := Lib.hid r2
      clear hm e1 e3 r1 r3 r4 hown hu0 hb ha0
      go_wp2_with fail
      clear x0 x1 x2 e2 r2
      go_loopw [42] (fun v42 wq => ∃ (j : Nat) (U : Option Nat → Value), j ≤ vl ∧ v42 = .int .i64 (j : Int) ∧ OwnK wq w5.heap.size (clRow vl U (clTo M vl a j)) ∧ U none = .slice (some ⟨g0, 0, none⟩) vl vl ∧ Below w5.heap.size w5 wq) (fun v42 _ => vl - (intOf v42).toNat)
      case atStart => exact ⟨0, U, by omega, rfl, HO.out, HU.out, HB.out⟩
      case round =>
        clear HO HU HB
        rename World => wq
        obtain ⟨j, U, hj, rfl, hown, hu0, hb⟩ := hrel
        have HO := Lib.hid hown
        have HU := Lib.hid hu0
        have HB := Lib.hid hb
        by_cases hj0 : j = vl
        · have hj0' := hj0.symm
          subst hj0'
          clear hown hu0 hb
          go_wp2_with fail
          go_roundw
          case rel => exact ⟨a + 1, U, by omega, by go_num, by rw [← clTo_next]; exact HO.out, HU.out, HB.out⟩
          case measure => simp [intOf]; omega
        · have hj1 : (j : Int) < vl := by omega
          have hj2 : (0 : Int) ≤ j := by omega
          have hj3 : j < vl := by omega
          have hm := HKM.out wq hb
          obtain ⟨ga', ca', r1, r2, r3, r4⟩ := hm.row ha3 (by omega)
          have eg : ga = ga' := by
            rw [HRA.out] at r1
            simp only [Value.slice.injEq, Option.some.injEq, Addr.mk.injEq] at r1; exact r1.1.1
          subst eg
          have x4 := r4 j hj3
          clear hm r1 r3 r4
          by_cases hmj : M a j = true
          · rw [hmj] at x4
            have HMJ := Lib.hid hmj
            have c0 : wq.cell? ⟨g0, a, none⟩ = some (U (some a)) := hown.cell none (by rw [clRow_v]; exact hu0) (show ((List.range vl).map fun a => U (some a))[a]? = _ from by rw [List.getElem?_map, List.getElem?_range ha3]; rfl)
            obtain ⟨fz0, zg0⟩ := hown.free none (g := g0) (n := vl) (cap := vl) (by rw [clRow_v]; exact hu0) a
            obtain ⟨A7, c7, hv7, hc7, -⟩ := hown.slice (some a)
            rw [clRow_v] at hv7
            have hn7 : (clRow vl U (clTo M vl a j) (some a)).n = (clTo M vl a j a).length := rfl
            rw [hn7] at hv7 hc7
            obtain ⟨L7, hL7⟩ : ∃ L, clTo M vl a j a = L := ⟨_, rfl⟩
            have hl7 : L7.length ≤ j := by
              rw [← hL7]; unfold clTo
              rw [if_neg (Nat.lt_irrefl _), if_pos rfl]; exact clsL_len _ _ _
            have hrow : wq.ownsRow w5.heap.size 3 1 (U (some a)) L7.length (intsV (natI L7)) := by
              have h := hown.own (some a)
              rw [← hL7]; exact h
            have hap : (U (some a)).ownBlock ≠ some g0 := by
              have h := hown.ap none (some a) (by simp) g0 (by rw [clRow_v, hu0]; rfl)
              rw [clRow_v] at h; exact h
            rw [hL7] at hv7 hc7
            obtain ⟨n7, hn7'⟩ : ∃ n, L7.length = n := ⟨_, rfl⟩
            rw [hn7'] at hv7 hc7 hl7 hrow
            have HL7 := Lib.hid hL7
            have HN7 := Lib.hid hn7'
            have HV7 := Lib.hid hv7
            have HAP := Lib.hid hap
            rw [hv7] at c0 hrow
            have HOW := Lib.hid hrow
            have hws := hb.size
            obtain ⟨i0, hI0, hz0, hz1, hz2⟩ := info_parts infoInt
            clear hown hu0 hb hn7 hL7 hn7' hv7 hrow hap hmj
            go_wp2_with (first | (at_builtin; go_must (refine wpList_append_lies _ rfl _ _ 37 rfl w5.heap.size 3 i0 _ 1 8 Tryd.underlying37 hI0 hz0 hz1 hz2 rfl (by decide) (.slice A7 n7 c7) n7 (intsV (natI L7)) rfl (own_below HOW.out ((Below.refl _ _).alloc (Nat.le_refl _) _)) ⟨wq.heap.size, 0, none⟩ 1 1 [.int .i64 (j : Int)] rfl rfl (cell_one_new _ _ _) (by simp [Value.oneCell']) (by omega) (by unfold maxLen; omega) (by omega) (by simp; omega) _ rfl ?_); intro g9 cap9 w9 hown9 hg9 hat9 _; have hpush := cl_push HO.out _ j ha3 (by rw [HV7.out]; exact hg9) (by rw [HL7.out, HN7.out]) (by rw [HL7.out]; exact hown9) (by rw [HV7.out]; exact hat9) (by simp) HU.out; have hbk := hg9.block g0 (by simp; omega) (fun e => HAP.out (by rw [HV7.out]; exact e.symm)); have u9 := (World.cell?_of_block hbk).trans ((((Below.refl wq.heap.size wq).alloc (Nat.le_refl _) _).cell (p := ⟨g0, _, none⟩) zg0).trans c0); have f9 := (World.frozen?_of_block hbk).trans ((((Below.refl wq.heap.size wq).alloc (Nat.le_refl _) _).frozen (p := ⟨g0, _, none⟩) zg0).trans fz0); have zg9 : g0 < w9.heap.size := (by have := hg9.size; simp at this; omega); have HP := Lib.hid hpush; have HB9 := Lib.hid ((HB.out.alloc HB.out.size (.cells #[.int .i64 (j : Int)] 3)).grown hg9 (by simp; omega) (fun k hk => (World.ownsRow.lt HOW.out k hk).1)); clear hown9 hg9 hat9 hpush hbk c0 fz0))
            go_roundw
            case rel => exact ⟨j + 1, _, by omega, by go_num, by rw [← clTo_push HMJ.out]; exact HP.out, by simpa using HU.out, HB9.out.setCell (by rw [HG0.out]; exact Nat.le_refl _) _⟩
            case measure => simp [intOf]; omega
          · have hmf : M a j = false := by simpa using hmj
            rw [hmf] at x4
            have HMJ := Lib.hid hmf
            clear hmj hmf hown hu0 hb
            go_wp2_with fail
            go_roundw
            case rel => exact ⟨j + 1, U, by omega, by go_num, by rw [← clTo_skip HMJ.out]; exact HO.out, HU.out, HB.out⟩
            case measure => simp [intOf]; omega
end Go.Proofs.YtfdppmjoinodgaaDoor
