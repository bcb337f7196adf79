/-
  place.gather: the matrix of clashes of a function.
-/
import Derived.Test.YtfdppmjoinodgaaDoorGm
namespace Go.Proofs.YtfdppmjoinodgaaDoor
open Go.RowKit Tier
theorem index_row (cs : Array Value) (r : Nat) {x : Int} (hr : r < 12) (h : cs[r]? = some (.int .i64 x)) (W : World) : (Instr.index 48 (.agg cs) (.int .i64 (r : Int))).run Tryd.prog W = .ok (.int .i64 x) W := by
  have h1 : (0 : Int) ≤ r ∧ (r : Int) < 12 := by omega
  simp [Instr.index, run_underlying Tryd.underlying48, asIntOf, h1, hr, go_sem, h]
theorem own_cap {w : World} {B n c m : Nat} {e : TypeId} {size : Nat} {A : Option Addr} {xs : List Value} (h : w.ownsRow B e size (.slice A n c) m xs) : n ≤ c := by
  rcases h.2 with ⟨h1, -⟩ | ⟨g, cap, cur, h1, -, -, h2, -⟩
  · simp only [Value.slice.injEq] at h1; omega
  · simp only [Value.slice.injEq] at h1; omega
/-- There are not too many values. -/
theorem FinP.small {p : List Fnc} {F : Fnc} {O : List Nat} {bs : List BR} {s : SB} {vals : Nat} {g : Nat → Nat} {c : Nat → Nat → Nat} (hf : FinP p F O bs s vals g c) (hp : F.params.toNat ≤ 12) (hb : bs.length ≤ 40) (hl : ∀ i, i < bs.length → (s.part i).ins.length ≤ 40) : vals ≤ 10000 := by
  have hc : ∀ i, i < bs.length → ∀ t, t ≤ (s.part i).ins.length → c i t ≤ t := fun i hi t => by
    induction t with
    | zero => intro _; rw [hf.c0]; exact Nat.le_refl _
    | succ t ih =>
      intro ht
      have h1 := hf.iid i t hi (by omega)
      have h2 := ih (by omega)
      by_cases e : 0 ≤ (s.insA i t).id
      · have := (h1.1 e).2; omega
      · have := h1.2 (by omega); omega
  have hg : ∀ i, i ≤ bs.length → g i ≤ 52 * i := fun i => by
    induction i with
    | zero => intro _; rw [hf.g0]; omega
    | succ i ih =>
      intro hi
      have h1 := ih (by omega)
      have h2 := hf.gs i (by omega)
      have h3 := hf.phl i (by omega)
      have h4 := hc i (by omega) _ (Nat.le_refl _)
      have h5 := hl i (by omega)
      omega
  have := hg bs.length (Nat.le_refl _)
  rw [hf.vals]
  omega
theorem MAt.base {w : World} {B B' Lc N j : Nat} {V : Option Nat → Value} {M : Nat → Nat → Bool} (h : MAt w B Lc N j V M) (hB : B' ≤ B) : MAt w B' Lc N j V M := ⟨h.box, ⟨fun k => own_base (h.own.own k) hB, h.own.ap⟩⟩
theorem FinP.id_lt {p : List Fnc} {F : Fnc} {O : List Nat} {bs : List BR} {s : SB} {vals : Nat} {g : Nat → Nat} {c : Nat → Nat → Nat} (hf : FinP p F O bs s vals g c) {i t : Nat} (hi : i < bs.length) (ht : t < (s.part i).ins.length) : (s.insA i t).id < vals := by
  have hm : ∀ i, i < bs.length → ∀ t u, t ≤ u → u ≤ (s.part i).ins.length → c i t ≤ c i u := fun i hi t u htu => by
    induction u with
    | zero => intro _; rw [show t = 0 by omega]; exact Nat.le_refl _
    | succ u ih =>
      intro hu
      by_cases e : t = u + 1
      · rw [e]; exact Nat.le_refl _
      · have h1 := ih (by omega) (by omega)
        have h2 := hf.iid i u hi (by omega)
        by_cases e2 : 0 ≤ (s.insA i u).id
        · have := (h2.1 e2).2; omega
        · have := h2.2 (by omega); omega
  have hg : ∀ j k, j ≤ k → k ≤ bs.length → g j ≤ g k := fun j k hjk => by
    induction k with
    | zero => intro _; rw [show j = 0 by omega]; exact Nat.le_refl _
    | succ k ih =>
      intro hk
      by_cases e : j = k + 1
      · rw [e]; exact Nat.le_refl _
      · have h1 := ih (by omega) (by omega)
        have h2 := hf.gs k (by omega)
        omega
  by_cases e : 0 ≤ (s.insA i t).id
  · have h1 := (hf.iid i t hi ht).1 e
    have h2 := hf.gs i hi
    have h3 := hg (i + 1) bs.length (by omega) (Nat.le_refl _)
    have h4 := hm i hi (t + 1) _ (by omega) (Nat.le_refl _)
    rw [h1.1, hf.vals]
    omega
  · have : (0 : Int) ≤ vals := by omega
    omega
theorem FinP.atR_lt {p : List Fnc} {F : Fnc} {O : List Nat} {bs : List BR} {s : SB} {vals : Nat} {g : Nat → Nat} {c : Nat → Nat → Nat} (hf : FinP p F O bs s vals g c) {i : Nat} (hi : i < bs.length) : ∀ t, t ≤ (s.part i).ins.length → ∀ z ∈ atR s F i t, z < vals
  | 0, _, z, hz => by
    have hz' : z ∈ (s.part i).inn := hz
    obtain ⟨r, hr, e⟩ := List.getElem_of_mem hz'
    have hl : (s.part i).inn.length = 12 := by
      unfold SB.part
      rw [List.getD_eq_getElem?_getD, List.getElem?_eq_getElem (by rw [hf.len]; exact hi)]
      exact hf.inn _ (List.getElem_mem _)
    have h := (hf.innl i r hi (by omega)).2.2
    rw [List.getD_eq_getElem?_getD, List.getElem?_eq_getElem hr] at h
    rw [← e]; exact h
  | t + 1, ht, z, hz => by
    unfold atR at hz
    by_cases e : 0 ≤ (s.insA i t).id
    · rw [if_pos e] at hz
      rcases List.mem_or_eq_of_mem_set hz with h | h
      · exact hf.atR_lt hi t (by omega) z h
      · rw [h]; exact hf.id_lt hi (by omega)
    · rw [if_neg e] at hz
      exact hf.atR_lt hi t (by omega) z hz
/-- .. of so many registers. -/
def leftR (m : Nat) (R : List Int) (r : Nat) : List Int := ((List.range r).filter fun r => m.testBit r).map fun r => R.getD r 0
theorem leftR_succ (m : Nat) (R : List Int) (r : Nat) : leftR m R (r + 1) = leftR m R r ++ if m.testBit r = true then [R.getD r 0] else [] := by
  unfold leftR
  rw [List.range_succ, List.filter_append, List.map_append]
  congr 1
  cases e : m.testBit r with
  | true => simp [e]
  | false => simp [e]
theorem leftR_len (m : Nat) (R : List Int) (r : Nat) : (leftR m R r).length ≤ r := by
  unfold leftR
  rw [List.length_map]
  exact Nat.le_trans (List.length_filter_le _ _) (by simp)
theorem leftTo_succ (O : List Nat) (R : List Int) {L : List Nat} {q n : Nat} (h : L[q]? = some n) : leftTo O R L (q + 1) = leftTo O R L q ++ leftL (O.getD n 0) R := by
  unfold leftTo
  rw [List.take_add_one, h, List.flatMap_append]
  simp
theorem leftTo_len (O : List Nat) (R : List Int) (L : List Nat) : ∀ q, (leftTo O R L q).length ≤ 12 * q
  | 0 => by simp [leftTo]
  | q + 1 => by
    have ih := leftTo_len O R L q
    cases h : L[q]? with
    | none =>
      have e : leftTo O R L (q + 1) = leftTo O R L q := by
        unfold leftTo
        rw [List.take_add_one, h]; simp
      rw [e]; omega
    | some n =>
      rw [leftTo_succ O R h, List.length_append]
      have : (leftL (O.getD n 0) R).length ≤ 12 := leftR_len _ _ _
      omega
theorem leftTo_mem {O : List Nat} {R : List Int} {L : List Nat} {q : Nat} (hR : R.length = 12) {z : Int} (h : z ∈ leftTo O R L q) : z ∈ R := by
  unfold leftTo at h
  obtain ⟨n, _, hz⟩ := List.mem_flatMap.1 h
  unfold leftL at hz
  obtain ⟨r, hr, e⟩ := List.mem_map.1 hz
  have hr2 := List.mem_range.1 (List.mem_filter.1 hr).1
  rw [← e, List.getD_eq_getElem?_getD, List.getElem?_eq_getElem (by omega)]
  exact List.getElem_mem _
theorem behL_next {p : List Fnc} {F : Fnc} (hp : Right p) (hF : F ∈ p) {i pc n : Nat} (hi : i < (hdL F).length) (h1 : hdA F i ≤ pc) (h2 : pc < toF F (hdA F i)) (hn : n ∈ behL F i pc) : n < F.code.length ∧ rchB F n = true := by
  have ha := (hdA_mem2 hi).1
  have hs := toF_spec hp hF ha
  have hrc := cov_rch hp hF ha h1 h2
  unfold behL at hn
  by_cases e : pc + 1 < toF F (hdA F i)
  · rw [if_pos e] at hn
    have : n = pc + 1 := by simpa using hn
    rw [this]
    exact ⟨by omega, cov_rch hp hF ha (by omega) e⟩
  · rw [if_neg e] at hn
    obtain ⟨q, hq, eq⟩ := List.mem_map.1 hn
    unfold nxI at hq
    obtain ⟨x, hx, ex⟩ := List.mem_map.1 hq
    have hh := nxN_head hp hF ha hx
    rw [← eq, ← ex, hdA_posH2 hh]
    exact head_rch hp hF hh
theorem behL_len (F : Fnc) (i pc : Nat) : (behL F i pc).length ≤ 2 := by
  unfold behL
  split
  · simp
  · rw [List.length_map]; exact nxI_len _ _
set_option maxRecDepth 100000 in
set_option maxHeartbeats 8000000 in
theorem gather_any (p : List Fnc) (F : Fnc) (A : Option Addr) (cap1 k : Nat) (w1 : World) (ht : Tab w1) (hp : ProgAt w1 (.slice A p.length cap1) p) (hk : checkP p = 0) (hf : p[k]? = some F) {O : List Nat} {bs : List BR} {K b : Nat} {s1 s2 s : SB} {l : List Int} {c : SC} {V : SK → Value} (hbx : BuiltX p F O bs K s1 s2 l s) (hsb : SbAt w1 b c s V) {gp H cp vl P : Nat} (hvp : V .parts = .slice (some ⟨gp, 0, none⟩) H cp) (hbl : bs.length = H) (hvl : valN F bs s2 l = vl) :
    Calls Tryd.prog 28 #[.agg #[.slice A p.length cap1], .int .i64 (k : Int), .agg #[.int .i64 (P : Int), .int .i64 (vl : Int), .slice (some ⟨gp, 0, none⟩) H cp]] w1 fun e w' => (∃ Lc U, e = .returned (.pointer (some ⟨Lc, 0, none⟩)) ∧ w1.heap.size ≤ Lc ∧ MAt w' w1.heap.size Lc vl vl U (gatTo F O s H)) ∧ Below w1.heap.size w1 w' := by
  have hR := right_of hk
  have hFm := List.mem_of_getElem? hf
  have hfo := hR.ok.fn F hFm
  have hkl := (List.getElem?_eq_some_iff.1 hf).1
  obtain ⟨A0, cap0, hA0, hA⟩ := hp.slice
  simp only [Value.slice.injEq, true_and] at hA0
  obtain ⟨g, hAg, hg, hfn⟩ := hA (by omega)
  obtain ⟨rfl, rfl⟩ := hA0
  subst hAg
  obtain ⟨u, hu, c0, c1, c2⟩ := hfn k F hf
  obtain ⟨FA, fcap, rfl, hFA⟩ := hu.slice
  have HBK := Lib.hid (fun (W : World) (h1 : Tab W) (h2 : ProgAt W (.slice (some ⟨g, 0, none⟩) p.length cap1) p) => blocks_any p (some ⟨g, 0, none⟩) cap1 k F W h1 h2 hk hf)
  have HLV := Lib.hid (fun (W : World) (h1 : Tab W) (h2 : ProgAt W (.slice (some ⟨g, 0, none⟩) p.length cap1) p) => live_any p (some ⟨g, 0, none⟩) cap1 k F W h1 h2 hk hf)
  have HT := Lib.hid ht
  have HFM := Lib.hid hFm
  have HRT := Lib.hid hR
  have HFO := Lib.hid hfo
  have n1 := hfo.c1
  have n2 := hfo.c2
  obtain ⟨M, hM⟩ : ∃ M, F.code.length = M := ⟨_, rfl⟩
  have HM := Lib.hid hM
  rw [hM] at n1 n2 c2
  have hk0 : (0 : Int) ≤ k := by omega
  obtain ⟨N, hN⟩ : ∃ N, p.length = N := ⟨_, rfl⟩
  have hk1 : (k : Int) < N := by omega
  rw [hN] at HBK HLV hp ⊢
  have HPA := Lib.hid hp
  obtain ⟨gc, rfl, hgc, hins⟩ := hFA (by rw [hM]; omega)
  have HGC := Lib.hid hgc
  have HINS := Lib.hid hins
  have hbH := hbx.b.bok.len
  rw [hbl] at hbH
  have HH := Lib.hid hbH.symm
  have hHM : H ≤ 40 := by have h1 := hdTo_len F F.code.length; have h2 : hdTo F F.code.length = hdL F := rfl; rw [h2, ← hbH, hM] at h1; omega
  have hH1 : 0 < H := by have := (List.getElem?_eq_some_iff.1 (zero_head hR hFm)).1; omega
  have HBX := Lib.hid hbx
  have HSB := Lib.hid hsb
  have HVP := Lib.hid hvp
  have HBL := Lib.hid hbl
  have hfp := hbx.finP
  rw [hvl] at hfp
  have HFP := Lib.hid hfp
  have hvl2 : vl ≤ 10000 := hfp.small (by have h1 := hfo.p1; have h2 := hfo.p2; omega) (by rw [hbl]; exact hHM) (fun i hi => by
    rw [hfp.il i hi]
    have := (toF_spec hR hFm (hdA_mem2 (show i < (hdL F).length by rw [← hbH, ← hbl]; exact hi)).1).2.1
    rw [hM] at this
    omega)
  have HC0 := Lib.hid (show w1.cell? ⟨g, k * 3 + 2, none⟩ = some (.slice (some ⟨gc, 0, none⟩) M fcap) from c2)
  clear hA hfn hu hFA hM hR hFm hfo hkl ht hp hk hf hN c0 c1 c2 hbx hsb hvp hbl hvl hfp hbH hins hgc
  have hmk1 := make_rowsB vl (by omega)
  have hmk2 := make_boolB vl (by omega)
  go_enter Tryd.func28, Tryd.ntmps28
  obtain ⟨w2, hw2⟩ : ∃ W, (w1.alloc (.cells #[.slice (some ⟨g, 0, none⟩) N cap1] 25)).alloc (.cells #[.int .i64 (P : Int), .int .i64 (vl : Int), .slice (some ⟨gp, 0, none⟩) H cp] 34) = W := ⟨_, rfl⟩
  have HX1 : Hid (w2.heap[w1.heap.size]? = some (.cells #[.slice (some ⟨g, 0, none⟩) N cap1] 25 (0, 0))) := Lib.hid (hw2 ▸ (Below.heap_alloc _ _ _ (by simp)).trans (heap_alloc_new _ _))
  have HX2 : Hid (w2.heap[w1.heap.size + 1]? = some (.cells #[.int .i64 (P : Int), .int .i64 (vl : Int), .slice (some ⟨gp, 0, none⟩) H cp] 34 (0, 0))) := Lib.hid (hw2 ▸ heap_alloc_new1 _ _ _)
  have HB12 : Hid (Below w1.heap.size w1 w2) := Lib.hid (hw2 ▸ ((Below.refl w1.heap.size w1).alloc (Nat.le_refl _) _).alloc (by simp) _)
  have HS2 : Hid (w2.heap.size = w1.heap.size + 2) := Lib.hid (hw2 ▸ by simp)
  go_upto_region 1 with fail
  obtain ⟨Lp, hLp⟩ : ∃ n, w1.heap.size = n := ⟨_, rfl⟩
  obtain ⟨Ls, hLs⟩ : ∃ n, w1.heap.size + 1 = n := ⟨_, rfl⟩
  rw [hLs]
  rw [hLs] at HX2
  have HLS := Lib.hid (show Ls < w2.heap.size by rw [HS2.out]; omega)
  have HLP1 := Lib.hid (show Lp < w2.heap.size by rw [HS2.out]; omega)
  rw [hLp]
  rw [hLp] at HX1
  have HLP := Lib.hid hLp
  clear hw2 hLs hLp
  -- what lies below
  have KS := Lib.hid (fun (W : World) (hb : Below w2.heap.size w2 W) => (⟨(hb.cell (p := ⟨Ls, _, none⟩) HLS.out).trans (cell_block HX2.out 1), (hb.cell (p := ⟨Ls, _, none⟩) HLS.out).trans (cell_block HX2.out 2), (hb.cell (p := ⟨Lp, _, none⟩) HLP1.out).trans (cell_block HX1.out 0), (hb.cell (p := ⟨g, _, none⟩) (Nat.lt_of_lt_of_le hg HB12.out.size)).trans ((HB12.out.cell (p := ⟨g, _, none⟩) hg).trans HC0.out), Nat.lt_of_lt_of_le HLS.out hb.size, Nat.lt_of_lt_of_le HLP1.out hb.size, Nat.lt_of_lt_of_le (Nat.lt_of_lt_of_le hg HB12.out.size) hb.size, Nat.lt_of_lt_of_le (HSB.out.rlt .parts (g := gp) (by rw [HVP.out]; rfl)).2 (Nat.le_trans HB12.out.size hb.size)⟩ :
    W.cell? ⟨Ls, 1, none⟩ = some (.int .i64 (vl : Int)) ∧ W.cell? ⟨Ls, 2, none⟩ = some (.slice (some ⟨gp, 0, none⟩) H cp) ∧ W.cell? ⟨Lp, 0, none⟩ = some (.slice (some ⟨g, 0, none⟩) N cap1) ∧ W.cell? ⟨g, k * 3 + 2, none⟩ = some (.slice (some ⟨gc, 0, none⟩) M fcap) ∧ Ls < W.heap.size ∧ Lp < W.heap.size ∧ g < W.heap.size ∧ gp < W.heap.size))
  have KSB := Lib.hid (fun (W : World) (hb : Below w2.heap.size w2 W) => (HSB.out.keeps (HB12.out.trans (hb.mono HB12.out.size)) : SbAt W b c s V))
  have KT := Lib.hid (fun (W : World) (hb : Below w2.heap.size w2 W) => (⟨HT.out.keeps (HB12.out.trans (hb.mono HB12.out.size)), HPA.out.keeps (HB12.out.trans (hb.mono HB12.out.size))⟩ : Tab W ∧ ProgAt W (.slice (some ⟨g, 0, none⟩) N cap1) p))
  have HMS := Lib.hid (MAt.start (w := w2) (B := w2.heap.size) (N := vl) (Nat.le_refl _) (by omega))
  obtain ⟨w3, hw3⟩ : ∃ W, (w2.alloc (.cells (Array.replicate vl (Value.slice none 0 0)) 41)).alloc (.cells #[.slice (some ⟨w2.heap.size, 0, none⟩) vl vl] 94) = W := ⟨_, rfl⟩
  have HB23 : Hid (Below w2.heap.size w2 w3) := Lib.hid (hw3 ▸ ((Below.refl w2.heap.size w2).alloc (Nat.le_refl _) _).alloc (by simp) _)
  obtain ⟨y1, y2, y3, y4, y5, y6, y7, y8⟩ := KS.out w2 (Below.refl _ _)
  clear y2 y3 y4 y6 y7 y8
  go_upto_region 2 with fail
  rw [List.toArray_replicate, hw3] at HMS
  obtain ⟨g0, hg0⟩ : ∃ n, w2.heap.size = n := ⟨_, rfl⟩
  obtain ⟨Lc, hLc⟩ : ∃ n, w2.heap.size + 1 = n := ⟨_, rfl⟩
  have HLC := Lib.hid (show w2.heap.size < Lc by omega)
  rw [hLc]
  rw [hLc] at HMS
  have HM3 : Hid (∃ U : Option Nat → Value, MAt w3 w2.heap.size Lc vl 0 U zM ∧ U none = .slice (some ⟨g0, 0, none⟩) vl vl) := Lib.hid ⟨_, HMS.out, by rw [if_pos rfl, hg0]⟩
  have x0 : w3.cell? ⟨Lc, 0, none⟩ = some (.slice (some ⟨g0, 0, none⟩) vl vl) := by
    obtain ⟨U, h1, h2⟩ := HM3.out
    rw [← h2]; exact h1.cell
  have x1 : Lc < w3.heap.size := by obtain ⟨U, h1, h2⟩ := HM3.out; exact h1.lt
  clear hw3 hLc hg0 y1 y5 HMS
  go_wp2_with fail
  clear x0 x1
  go_loopw [33] (fun v33 wr => ∃ (j : Nat) (U : Option Nat → Value), j ≤ vl ∧ v33 = .int .i64 (j : Int) ∧ MAt wr w2.heap.size Lc vl j U zM ∧ U none = .slice (some ⟨g0, 0, none⟩) vl vl ∧ Below w2.heap.size w2 wr) (fun v33 _ => vl - (intOf v33).toNat)
  case atStart =>
    obtain ⟨U, h1, h2⟩ := HM3.out
    exact ⟨0, U, by omega, rfl, h1, h2, HB23.out⟩
  case round =>
    obtain ⟨j, U, hj, rfl, hmt, hu0, hb⟩ := hrel
    have HMT := Lib.hid hmt
    have HU0 := Lib.hid hu0
    have HB := Lib.hid hb
    by_cases hj0 : j = vl
    · have hj0' := hj0.symm
      subst hj0'
      clear hmt hu0 hb HM3 HB23
      obtain ⟨y1, y2, y3, y4, y5, y6, y7, y8⟩ := KS.out wr HB.out
      clear y1 y2 y4 y5 y7 y8
      go_upto_region 9 with (first | (go_at_call 24; go_must (refine (HBK.out _ (KT.out _ HB.out).1 (KT.out _ HB.out).2).mono ?_; rintro e w5 ⟨⟨gb, Bb, bs2, rfl, hgb, hBK, hOK⟩, hb⟩; rw [HH.out]; have HB25 : Hid (Below w2.heap.size w2 w5) := Lib.hid (HB.out.trans (hb.mono HB.out.size)); have HMT5 := Lib.hid (HMT.out.keeps hb); have HBLK5 := Lib.hid hBK; have HOK2 := Lib.hid hOK; obtain ⟨y1, y2, y3', y4, y5, y6', y7, y8⟩ := KS.out w5 HB25.out; clear hgb hBK hOK hb y1 y2 y4 y5 y7 y8 y3 y6)) | (go_at_call 29; go_must (refine (HLV.out _ (KT.out _ HB25.out).1 (KT.out _ HB25.out).2).mono ?_; rintro e w4 ⟨⟨lb, O2, rfl, hlb, hint, hlok⟩, hb⟩; rw [HM.out]; have hOO : O2 = O := hlok.unique HBX.out.b.lok; subst hOO; have HINT := Lib.hid hint; have HB24 : Hid (Below w2.heap.size w2 w4) := Lib.hid (HB25.out.trans (hb.mono HB25.out.size)); have HM4 := Lib.hid (HMT5.out.keeps hb); have HBLK := Lib.hid (HBLK5.out.keeps hb); clear hlb hint hlok hb y3' y6')))
      have HG0 := Lib.hid (show gatTo F O2 s 0 = zM from rfl)
      have HF4 := Lib.hid (FrM.refl w4 w2.heap.size U)
      -- what lies where it lay
      have KQ := Lib.hid (fun (W : World) (hf : FrM w4 w2.heap.size U W) => (HB24.out.trans hf.below : Below w2.heap.size w2 W))
      have KBQ := Lib.hid (fun (W : World) (hf : FrM w4 w2.heap.size U W) => (hf.blk HM4.out HBLK.out : BlkB W gb Bb bs2))
      have KLQ := Lib.hid (fun (W : World) (hf : FrM w4 w2.heap.size U W) => (hf.box HM4.out HINT.out (by decide) (by decide) : IntsB W lb (outL (liveL F O2))))
      have KB := Lib.hid (fun (i : Nat) (hi : i < H) => (by
        obtain ⟨r, hr⟩ : ∃ r, bs2[i]? = some r := ⟨_, List.getElem?_eq_getElem (by rw [HOK2.out.len, HH.out]; exact hi)⟩
        obtain ⟨e1, e2, -, -⟩ := HOK2.out.at_ i r hr
        obtain ⟨PA, pcap, hpv, -⟩ := own_slice (HBLK.out.rows.own i r true hr)
        obtain ⟨NA, ncap, hnv, -⟩ := own_slice (HBLK.out.rows.own i r false hr)
        exact ⟨r, PA, r.pl.length, pcap, NA, r.nl.length, ncap, hr, e1, e2, hnv, hpv⟩ :
        ∃ r PA pn pcap NA nn ncap, bs2[i]? = some r ∧ r.fr = (hdA F i : Int) ∧ r.to = (toF F (hdA F i) : Int) ∧ r.nv = .slice NA nn ncap ∧ r.pv = .slice PA pn pcap))
      go_wp2_with fail
      go_loopw [60] (fun v60 wr => ∃ i : Nat, i ≤ H ∧ v60 = .int .i64 (i : Int) ∧ MAt wr w2.heap.size Lc vl vl U (gatTo F O2 s i) ∧ FrM w4 w2.heap.size U wr) (fun v60 _ => H - (intOf v60).toNat)
      case atStart => exact ⟨0, by omega, rfl, by rw [HG0.out]; exact HM4.out, HF4.out⟩
      case round =>
        obtain ⟨i, hiH, rfl, hmt, hfr⟩ := hrel
        clear HMT HB
        have HMT := Lib.hid hmt
        have HFR := Lib.hid hfr
        clear hmt hfr
        by_cases hi0 : i = H
        · have hi0' := hi0.symm
          subst hi0'
          clear hi0
          go_wp2_with fail
          go_ret
          exact ⟨⟨Lc, U, rfl, by have h1 := HLC.out; have h2 := HB12.out.size; omega, HMT.out.base HB12.out.size⟩, HB12.out.trans ((KQ.out _ HFR.out).mono HB12.out.size)⟩
        · have hi1 : i < H := by omega
          have hi2 : (i : Int) < H := by omega
          have hi3 : (0 : Int) ≤ i := by omega
          have hib : i < bs.length := by rw [HBL.out]; exact hi1
          have his : i < s.parts.length := by rw [HFP.out.len]; exact hib
          have HIB := Lib.hid hib
          have HIS := Lib.hid his
          obtain ⟨r, PA, pn, pcap, NA, nn, ncap, hr, e1, e2, e3, e4⟩ := KB.out i hi1
          obtain ⟨a, ha⟩ : ∃ a, hdA F i = a := ⟨_, rfl⟩
          obtain ⟨tf, htf⟩ : ∃ t, toF F a = t := ⟨_, rfl⟩
          rw [ha] at e1 e2
          rw [htf] at e2
          have HAE := Lib.hid ha
          have HTF := Lib.hid htf
          have hblk := KBQ.out wr HFR.out
          have x0 : wr.cell? ⟨gb, i * 4, none⟩ = some (.int .i64 (a : Int)) := (hblk.cell hr (j := 0) (by omega)).trans (by show some (Value.int .i64 r.fr) = _; rw [e1])
          have x1 : wr.cell? ⟨gb, i * 4 + 1, none⟩ = some (.int .i64 (tf : Int)) := (hblk.cell hr (j := 1) (by omega)).trans (by show some (Value.int .i64 r.to) = _; rw [e2])
          have x2 : wr.cell? ⟨gb, i * 4 + 2, none⟩ = some (.slice NA nn ncap) := (hblk.cell hr (j := 2) (by omega)).trans (by show some r.nv = _; rw [e3])
          have x3 : wr.cell? ⟨gb, i * 4 + 3, none⟩ = some (.slice PA pn pcap) := (hblk.cell hr (j := 3) (by omega)).trans (by show some r.pv = _; rw [e4])
          have zgb := block_lt hblk.blk
          have HBH := Lib.hid (fun (W : World) (hW : FrM w4 w2.heap.size U W) (pt : Nat) (hpt : pt ≤ 1000) => behind_any F bs2 gb Bb i pt r W (KBQ.out W hW) HOK2.out hr hpt (Nat.le_trans (nxI_len _ _) (by omega)) (by
            intro n hn
            rw [HOK2.out.len]
            exact nxI_lt2 HRT.out HFM.out (hdA_mem2 (show i < (hdL F).length by rw [HH.out]; exact hi1)).1 hn))
          have hb2H : bs2.length = H := by rw [HOK2.out.len, HH.out]
          rw [e1, e2, e3, e4, hb2H] at HBH
          obtain ⟨Lb, hLb⟩ : ∃ n, wr.heap.size = n := ⟨_, rfl⟩
          clear e1 e2 e3 e4 hr ha htf hblk hi0 hib his hb2H
          go_upto_region 12 with fail
          obtain ⟨wb, hwb⟩ : ∃ W, wr.alloc (.cells #[.int .i64 (a : Int), .int .i64 (tf : Int), .slice NA nn ncap, .slice PA pn pcap] 84) = W := ⟨_, rfl⟩
          have hbb : Below wr.heap.size wr wb := hwb ▸ (Below.refl _ _).alloc (Nat.le_refl _) _
          have HXB : Hid (wb.heap[Lb]? = some (.cells #[.int .i64 (a : Int), .int .i64 (tf : Int), .slice NA nn ncap, .slice PA pn pcap] 84 (0, 0))) := Lib.hid (hwb ▸ hLb ▸ heap_alloc_new _ _)
          have HFB : Hid (FrM w4 w2.heap.size U wb) := Lib.hid (HFR.out.trans (FrM.of_below (Nat.le_trans HB24.out.size HFR.out.size) hbb))
          have HMB : Hid (MAt wb w2.heap.size Lc vl vl U (gatTo F O2 s i)) := Lib.hid (HMT.out.keeps hbb)
          have HL4b := Lib.hid (show w4.heap.size ≤ Lb by rw [← hLb]; exact HFR.out.size)
          rw [hwb]
          clear hwb hbb x0 x1 x2 x3 zgb hLb
          have hsb := KSB.out wb (KQ.out _ HFB.out)
          obtain ⟨m, hm⟩ : ∃ n, (s.part i).ins.length = n := ⟨_, rfl⟩
          have hmt2 : m = tf - a := by rw [← hm, HFP.out.il i HIB.out, HAE.out, HTF.out]
          obtain ⟨Ai, ci, hvi, -, hiA⟩ := hsb.rowV (.ins i) (n := m) hm
          have hato := toF_spec HRT.out HFM.out (hdA_mem2 (F := F) (show i < (hdL F).length by rw [HH.out]; exact hi1)).1
          rw [HAE.out, HTF.out, HM.out] at hato
          have hta := hato.1
          have htfM := hato.2.1
          have hm40 : m ≤ 40 := by omega
          obtain ⟨gi, rfl, -, -⟩ := hiA (by omega)
          have HVI := Lib.hid hvi
          have HMT2 := Lib.hid hmt2
          have HM1 := Lib.hid hm
          have hR12 : (s.part i).inn.length = 12 := by
            unfold SB.part
            rw [List.getD_eq_getElem?_getD, List.getElem?_eq_getElem HIS.out]
            exact HFP.out.inn _ (List.getElem_mem HIS.out)
          have hrg := hsb.innRange HFP.out.inn HVP.out HIS.out
          have HAT0 := Lib.hid (show atR s F i 0 = (s.part i).inn from rfl)
          have HGI0 := Lib.hid (show gInTo F O2 s i (gatTo F O2 s i) 0 = togTo (gatTo F O2 s i) (s.part i).inn (-1) (s.part i).inn.length from rfl)
          have HGI1 := Lib.hid (show ∀ t : Nat, gInTo F O2 s i (gatTo F O2 s i) (t + 1) = insM F O2 s i (gInTo F O2 s i (gatTo F O2 s i) t) t from fun _ => rfl)
          have HGE := Lib.hid (show gatTo F O2 s (i + 1) = gInTo F O2 s i (gatTo F O2 s i) m by rw [← hm]; rfl)
          have HRLT := Lib.hid (fun (t : Nat) (ht : t ≤ m) => HFP.out.atR_lt HIB.out t (by rw [hm]; exact ht))
          have HRLE := Lib.hid (fun (t : Nat) => (atR_len hR12 t : (atR s F i t).length = 12))
          obtain ⟨R0, hR0⟩ : ∃ R, (s.part i).inn = R := ⟨_, rfl⟩
          rw [hR0] at hR12 hrg HAT0 HGI0
          have HRG := Lib.hid hrg
          have HR12 := Lib.hid hR12
          obtain ⟨Gi, hGi⟩ : ∃ G, gatTo F O2 s i = G := ⟨_, rfl⟩
          rw [hGi] at HMB HGI0 HGI1 HGE
          rw [hR12] at HGI0
          obtain ⟨y1, y2, y3, y4, y5, y6, y7, y8⟩ := KS.out wb (KQ.out _ HFB.out)
          obtain ⟨Lr, hLr⟩ : ∃ n, wb.heap.size = n := ⟨_, rfl⟩
          have HLR := Lib.hid (show w4.heap.size ≤ Lr by rw [← hLr]; exact HFB.out.size)
          have HLRE := Lib.hid hLr
          have HLBR := Lib.hid (show Lb < Lr by rw [← hLr]; exact block_lt HXB.out)
          have HLC4 := Lib.hid (show Lc < w4.heap.size from HM4.out.lt)
          have HTG0 := Lib.hid (fun (W : World) (hW : MAt W w2.heap.size Lc vl vl U Gi) (hx : W.heap[Lr]? = some (boxI R0)) => (by
            have h := together_any w2.heap.size Lc vl U Gi R0 (some ⟨Lr, 0, none⟩) 12 (-1) W hW (by omega) (fun _ => ⟨Lr, rfl, block_lt hx, hW.free hx (by decide) (by decide), fun q z hz => by
              have h1 := boxI_cell hx (j := q) (List.getElem?_eq_some_iff.1 hz).1
              rw [List.getD_eq_getElem?_getD, hz] at h1
              exact h1⟩) (Nat.le_of_eq HR12.out) (by rw [HR12.out]; omega) (fun z hz => by have := HRLT.out 0 (by omega) z (by rw [HAT0.out]; exact hz); exact this) (by omega)
            rw [HR12.out] at h
            exact h : Calls Tryd.prog 53 #[.pointer (some ⟨Lc, 0, none⟩), .slice (some ⟨Lr, 0, none⟩) 12 12, .int .i64 (-1)] W fun e w' => e = .returned (.tuple #[]) ∧ MAt w' w2.heap.size Lc vl vl U (togTo Gi R0 (-1) 12) ∧ FrM W w2.heap.size U w'))
          clear hsb hvi hiA hm hmt2 hR0 hR12 hrg hGi hLr hato y1 y3 y4 y6 y7
          go_wp2_with (first | (refine wpList_load_mid (by rfl) 48 _ (by rfl) gp (i * 15 + 3) (by rfl) (intsV R0) _ HRG.out Tryd.underlying48 (by rfl) (boxI_info HR12.out) ?_) | (refine wpList_store_mid (by rfl) 48 _ _ (by rfl) wb.heap.size 0 (intsV R0).toArray (by rfl) (by rfl) (there_block (heap_alloc_new wb _) (by simp [intsV, HR12.out])) (by simpa using boxI_info HR12.out) (boxI_one R0) ?_; obtain ⟨wc, hwc⟩ : ∃ W, (wb.alloc (.cells #[.int .i64 0, .int .i64 0, .int .i64 0, .int .i64 0, .int .i64 0, .int .i64 0, .int .i64 0, .int .i64 0, .int .i64 0, .int .i64 0, .int .i64 0, .int .i64 0] 48)).setCells wb.heap.size 0 (intsV R0).toArray.toList = W := ⟨_, rfl⟩; have HXR : Hid (wc.heap[Lr]? = some (boxI R0)) := Lib.hid (hwc ▸ HLRE.out ▸ box_fill (heap_alloc_new wb _) R0 (by simp [intsV, HR12.out])); have hbc : Below wb.heap.size wb wc := hwc ▸ below_setCells (Nat.le_refl _) _ _ _ ((Below.refl _ _).alloc (Nat.le_refl _) _); have HFC : Hid (FrM w4 w2.heap.size U wc) := Lib.hid (HFB.out.trans (FrM.of_below (Nat.le_trans HB24.out.size HFB.out.size) hbc)); have HMC : Hid (MAt wc w2.heap.size Lc vl vl U Gi) := Lib.hid (HMB.out.keeps hbc); have HXBc := Lib.hid ((hbc.block Lb (block_lt HXB.out)).trans HXB.out); rw [hwc, HLRE.out]; clear hwc hbc y2 y5 y8) | (go_at_call 53; go_must (refine (HTG0.out _ HMC.out HXR.out).mono ?_; rintro e wd ⟨rfl, hmd, hfd⟩; have HMD := Lib.hid hmd; have HFD := Lib.hid (HFC.out.trans hfd); have HXRd := Lib.hid (hfd.box HMC.out HXR.out (by decide) (by decide)); have HXBd := Lib.hid (hfd.box HMC.out HXBc.out (by decide) (by decide)); have hcell : wd.cell? ⟨gp, i * 15 + 2, none⟩ = some (.slice (some ⟨gi, 0, none⟩) m ci) := (((KSB.out wd (KQ.out _ HFD.out)).partCell HFP.out.inn HVP.out HIS.out).2).trans (by rw [HVI.out]); obtain ⟨y1, y2, y3, y4, y5, y6, y7, y8⟩ := KS.out wd (KQ.out _ HFD.out); clear hmd hfd y1 y3 y4 y6 y7)))
          clear hcell y2 y5 y8
          go_loopw [81] (fun v81 wr => ∃ t : Nat, t ≤ m ∧ v81 = .int .i64 (t : Int) ∧ MAt wr w2.heap.size Lc vl vl U (gInTo F O2 s i Gi t) ∧ FrM w4 w2.heap.size U wr ∧ wr.heap[Lr]? = some (boxI (atR s F i t)) ∧ wr.heap[Lb]? = some (.cells #[.int .i64 (a : Int), .int .i64 (tf : Int), .slice NA nn ncap, .slice PA pn pcap] 84 (0, 0))) (fun v81 _ => m - (intOf v81).toNat)
          case atStart => exact ⟨0, by omega, rfl, by rw [HGI0.out]; exact HMD.out, HFD.out, by rw [HAT0.out]; exact HXRd.out, HXBd.out⟩
          case round =>
            obtain ⟨t, htm, rfl, hmt, hfr, hxr, hxb⟩ := hrel
            clear HMT HFR
            have HMT := Lib.hid hmt
            have HFR := Lib.hid hfr
            have HXR := Lib.hid hxr
            have HXB := Lib.hid hxb
            by_cases ht0 : t = m
            · have ht0' := ht0.symm
              subst ht0'
              clear hmt hfr hxr hxb ht0
              go_wp2_with fail
              go_roundw
              case rel => exact ⟨i + 1, by omega, by go_num, by rw [HGE.out]; exact HMT.out, HFR.out⟩
              case measure => simp [intOf]; omega
            · have ht1 : (t : Int) < m := by omega
              have ht3 : t < m := by omega
              have ht2 : (0 : Int) ≤ t := by omega
              have htl : t < (s.part i).ins.length := by rw [HM1.out]; omega
              obtain ⟨q0, q1, q2, q3, q4, q5⟩ := (KSB.out wr (KQ.out _ hfr)).insCell (k := t) HVI.out htl
              have hpx := (HFP.out.iop i t HIB.out htl).2.2
              rw [HAE.out] at hpx
              rw [hpx] at q5
              obtain ⟨pt, hpt⟩ : ∃ n, a + t = n := ⟨_, rfl⟩
              rw [hpt] at q5
              have HATS := Lib.hid (show atR s F i (t + 1) = if 0 ≤ (s.insA i t).id then (atR s F i t).set (insAt F (hdA F i + t)).dst.toNat (s.insA i t).id else atR s F i t from rfl)
              have HINM := Lib.hid (show insM F O2 s i (gInTo F O2 s i Gi t) t = if (s.insA i t).id < 0 then gInTo F O2 s i Gi t else togTo (gInTo F O2 s i Gi t) (leftTo O2 (atR s F i (t + 1)) (behL F i (hdA F i + t)) (behL F i (hdA F i + t)).length) (s.insA i t).id (leftTo O2 (atR s F i (t + 1)) (behL F i (hdA F i + t)) (behL F i (hdA F i + t)).length).length from rfl)
              rw [HAE.out, hpt] at HATS HINM
              have hidl := HFP.out.id_lt HIB.out htl
              obtain ⟨jo, hjo⟩ : ∃ x, (s.insA i t).op = x := ⟨_, rfl⟩
              obtain ⟨jd, hjd⟩ : ∃ x, (s.insA i t).id = x := ⟨_, rfl⟩
              obtain ⟨ja, hja⟩ : ∃ x, (s.insA i t).a = x := ⟨_, rfl⟩
              obtain ⟨jb, hjb⟩ : ∃ x, (s.insA i t).b = x := ⟨_, rfl⟩
              obtain ⟨jm, hjm⟩ : ∃ x, (s.insA i t).imm = x := ⟨_, rfl⟩
              rw [hjo] at q0
              rw [hjd] at q1 HATS HINM hidl
              rw [hja] at q2
              rw [hjb] at q3
              rw [hjm] at q4
              obtain ⟨Rt, hRt⟩ : ∃ R, atR s F i t = R := ⟨_, rfl⟩
              have hRtl : Rt.length = 12 := by rw [← hRt]; exact HRLE.out t
              rw [hRt] at HATS HXR
              have HRL := Lib.hid hRtl
              have hptM : pt < M := by have := HMT2.out; omega
              have zgi := Nat.lt_of_lt_of_le (HSB.out.rlt (.ins i) (g := gi) (by rw [HVI.out]; rfl)).2 (Nat.le_trans HB12.out.size (KQ.out _ hfr).size)
              obtain ⟨Lx, hLx⟩ : ∃ n, wr.heap.size = n := ⟨_, rfl⟩
              have HLX := Lib.hid (show Lr < Lx by rw [← hLx]; exact block_lt hxr)
              have HPT := Lib.hid hpt
              clear hjo hjd hja hjb hjm hRt hRtl hxr hxb hpx htl hmt hfr hpt ht0
              go_upto_region 17 with fail
              obtain ⟨wx, hwx⟩ : ∃ W, wr.alloc (.cells #[.int .i64 jo, .int .i64 jd, .int .i64 ja, .int .i64 jb, .int .i64 jm, .int .i64 (pt : Int)] 52) = W := ⟨_, rfl⟩
              have hbx : Below wr.heap.size wr wx := hwx ▸ (Below.refl _ _).alloc (Nat.le_refl _) _
              have HFx : Hid (FrM w4 w2.heap.size U wx) := Lib.hid (HFR.out.trans (FrM.of_below (Nat.le_trans HB24.out.size HFR.out.size) hbx))
              have HMx : Hid (MAt wx w2.heap.size Lc vl vl U (gInTo F O2 s i Gi t)) := Lib.hid (HMT.out.keeps hbx)
              have HXX : Hid (wx.heap[Lx]? = some (.cells #[.int .i64 jo, .int .i64 jd, .int .i64 ja, .int .i64 jb, .int .i64 jm, .int .i64 (pt : Int)] 52 (0, 0))) := Lib.hid (hwx ▸ hLx ▸ heap_alloc_new _ _)
              have HXRx : Hid (wx.heap[Lr]? = some (boxI Rt)) := Lib.hid ((hbx.block Lr (block_lt HXR.out)).trans HXR.out)
              have HXBx : Hid (wx.heap[Lb]? = some (.cells #[.int .i64 (a : Int), .int .i64 (tf : Int), .slice NA nn ncap, .slice PA pn pcap] 84 (0, 0))) := Lib.hid ((hbx.block Lb (block_lt HXB.out)).trans HXB.out)
              rw [hwx]
              clear hwx hbx q0 q1 q2 q3 q4 q5 zgi hLx
              have r5 : wx.cell? ⟨Lx, 5, none⟩ = some (.int .i64 (pt : Int)) := cell_block HXX.out 5
              have r1 : wx.cell? ⟨Lx, 1, none⟩ = some (.int .i64 jd) := cell_block HXX.out 1
              have zLx := block_lt HXX.out
              by_cases hjd0 : jd < 0
              · rw [if_neg (by omega)] at HATS
                rw [if_pos hjd0] at HINM
                go_wp2_with fail
                go_roundw
                case rel => exact ⟨t + 1, by omega, by go_num, by rw [HGI1.out, HINM.out]; exact HMx.out, HFx.out, by rw [HATS.out]; exact HXRx.out, HXBx.out⟩
                case measure => simp [intOf]; omega
              · rw [if_pos (by omega)] at HATS
                rw [if_neg hjd0] at HINM
                have hpr := HINS.out pt (insAt F pt) (by unfold insAt; rw [List.getD_eq_getElem?_getD, List.getElem?_eq_getElem (by rw [HM.out]; exact hptM)]; rfl)
                have hio := HFO.out.ins _ (List.mem_of_getElem? (show F.code[pt]? = some (insAt F pt) by unfold insAt; rw [List.getD_eq_getElem?_getD, List.getElem?_eq_getElem (by rw [HM.out]; exact hptM)]; rfl))
                obtain ⟨dd, hdd⟩ : ∃ n : Nat, (insAt F pt).dst = n := ⟨(insAt F pt).dst.toNat, by have := hio.dst1; omega⟩
                have hdd12 : dd < 12 := by have h1 := hio.dst2; have h2 := HFO.out.r2; omega
                rw [hdd, Int.toNat_natCast] at HATS
                have hdd1 : (dd : Int) < 12 := by omega
                have hdd0 : (0 : Int) ≤ dd := by omega
                have hpt1 : (pt : Int) < M := by omega
                have hpt0 : (0 : Int) ≤ pt := by omega
                have hb := KQ.out _ HFx.out
                have HGD := Lib.hid (fun (W : World) (hW : FrM w4 w2.heap.size U W) => (by
                  have h1 := hpr.2.1
                  rw [hdd] at h1
                  exact ((KQ.out _ hW).cell (p := ⟨gc, _, none⟩) (Nat.lt_of_lt_of_le HGC.out HB12.out.size)).trans ((HB12.out.cell (p := ⟨gc, _, none⟩) HGC.out).trans h1) : W.cell? ⟨gc, pt * 5 + 1, none⟩ = some (.int .i64 (dd : Int))))
                have gd := HGD.out _ HFx.out
                have zgc : gc < wx.heap.size := Nat.lt_of_lt_of_le (Nat.lt_of_lt_of_le HGC.out HB12.out.size) hb.size
                obtain ⟨y1, y2, y3, y4, y5, y6, y7, y8⟩ := KS.out wx hb
                have cbL := boxI_cell HXRx.out (j := dd) (by rw [HRL.out]; exact hdd12)
                have fbL := frozen_block HXRx.out
                have zL := block_lt HXRx.out
                have HFxd : Hid (FrM w4 w2.heap.size U wx.drew) := Lib.hid (HFx.out.trans (FrM.of_below (Nat.le_trans HB24.out.size HFx.out.size) (Below.refl _ _).drew))
                have HFy : Hid (FrM w4 w2.heap.size U (wx.setCell ⟨Lr, dd, none⟩ (.int .i64 jd)).drew) := Lib.hid (HFxd.out.setNew HB24.out.size HLR.out dd _)
                have HMy : Hid (MAt (wx.setCell ⟨Lr, dd, none⟩ (.int .i64 jd)).drew w2.heap.size Lc vl vl U (gInTo F O2 s i Gi t)) := Lib.hid ((HMx.out.keeps (Below.refl _ _).drew).setOut (L := Lr) HXRx.out (by decide) (by decide) (by have h1 := HLC4.out; have h2 := HLR.out; omega) dd _)
                have HXRy : Hid ((wx.setCell ⟨Lr, dd, none⟩ (.int .i64 jd)).drew.heap[Lr]? = some (boxI (Rt.set dd jd))) := Lib.hid (box_put HXRx.out dd jd)
                have HXXy : Hid ((wx.setCell ⟨Lr, dd, none⟩ (.int .i64 jd)).drew.heap[Lx]? = some (.cells #[.int .i64 jo, .int .i64 jd, .int .i64 ja, .int .i64 jb, .int .i64 jm, .int .i64 (pt : Int)] 52 (0, 0))) := Lib.hid (block_set_ne (b' := Lr) HXX.out (Nat.ne_of_lt HLX.out) dd (.int .i64 jd))
                have HXBy : Hid ((wx.setCell ⟨Lr, dd, none⟩ (.int .i64 jd)).drew.heap[Lb]? = some (.cells #[.int .i64 (a : Int), .int .i64 (tf : Int), .slice NA nn ncap, .slice PA pn pcap] 84 (0, 0))) := Lib.hid (block_set_ne (b' := Lr) HXBx.out (Nat.ne_of_gt HLBR.out) dd (.int .i64 jd))
                have HKS : Hid ((wx.setCell ⟨Lr, dd, none⟩ (.int .i64 jd)).drew.cell? ⟨Lp, 0, none⟩ = some (.slice (some ⟨g, 0, none⟩) N cap1) ∧ (wx.setCell ⟨Lr, dd, none⟩ (.int .i64 jd)).drew.cell? ⟨g, k * 3 + 2, none⟩ = some (.slice (some ⟨gc, 0, none⟩) M fcap) ∧ (wx.setCell ⟨Lr, dd, none⟩ (.int .i64 jd)).drew.cell? ⟨Lx, 5, none⟩ = some (.int .i64 (pt : Int)) ∧ (wx.setCell ⟨Lr, dd, none⟩ (.int .i64 jd)).drew.cell? ⟨gc, pt * 5 + 1, none⟩ = some (.int .i64 (dd : Int)) ∧ (wx.setCell ⟨Lr, dd, none⟩ (.int .i64 jd)).drew.cell? ⟨Lx, 1, none⟩ = some (.int .i64 jd)) := Lib.hid (by
                  have hy := KS.out _ (KQ.out _ HFy.out)
                  exact ⟨hy.2.2.1, hy.2.2.2.1, cell_block HXXy.out 5, HGD.out _ HFy.out, cell_block HXXy.out 1⟩)
                clear hpr hio hb
                go_upto_region 18 with fail
                refine wp_region_held_drew (S := fun W' => W'.cell? ⟨Lp, 0, none⟩ = some (.slice (some ⟨g, 0, none⟩) N cap1) ∧ W'.cell? ⟨g, k * 3 + 2, none⟩ = some (.slice (some ⟨gc, 0, none⟩) M fcap) ∧ W'.cell? ⟨Lx, 5, none⟩ = some (.int .i64 (pt : Int)) ∧ W'.cell? ⟨gc, pt * 5 + 1, none⟩ = some (.int .i64 (dd : Int)) ∧ W'.cell? ⟨Lx, 1, none⟩ = some (.int .i64 jd)) (by kernel_rfl) ⟨y3, y4, r5, gd, r1⟩ (fun hHeld => ?_)
                clear y1 y2 y3 y4 y5 y8 r5 r1 gd
                refine wpAnyH_take (i := 0) (v := .pointer (some ⟨Lp, 0, none⟩)) rfl (by kernel_rfl) (by kernel_rfl) (by kernel_rfl) (fun _ _ _ h => h) (Or.inl ⟨by rfl, ?_⟩) hHeld ?_
                · intro w hSw
                  simp only [List.getElem_toArray, List.getElem_cons_zero]
                  go_simp
                simp only [Act.put, List.getElem_toArray, List.getElem_cons_zero, List.setIfInBounds_toArray, List.set_cons_zero, List.set_cons_succ]
                refine wpAnyH_take (i := 1) (v := .slice (some ⟨g, 0, none⟩) N cap1) rfl (by kernel_rfl) (by kernel_rfl) (by kernel_rfl) (fun _ _ _ h => h) (Or.inl ⟨by rfl, ?_⟩) hHeld ?_
                · intro w hSw
                  obtain ⟨p0, p1, p2, p3, p4⟩ := hSw
                  simp only [List.getElem_toArray, List.getElem_cons_zero, List.getElem_cons_succ]
                  go_simp
                simp only [Act.put, List.getElem_toArray, List.getElem_cons_zero, List.getElem_cons_succ, List.setIfInBounds_toArray, List.set_cons_zero, List.set_cons_succ]
                refine wpAnyH_take (i := 2) (v := .int .i64 (k : Int)) rfl (by kernel_rfl) (by kernel_rfl) (by kernel_rfl) (fun _ _ _ h => h) (Or.inl ⟨by rfl, ?_⟩) hHeld ?_
                · intro w hSw
                  simp only [List.getElem_toArray, List.getElem_cons_zero, List.getElem_cons_succ]
                  go_simp
                simp only [Act.put, List.getElem_toArray, List.getElem_cons_zero, List.getElem_cons_succ, List.setIfInBounds_toArray, List.set_cons_zero, List.set_cons_succ]
                refine wpAnyH_take (i := 3) (v := .pointer (some ⟨g, k * 3, none⟩)) rfl (by kernel_rfl) (by kernel_rfl) (by kernel_rfl) (fun _ _ _ h => h) (Or.inl ⟨by rfl, ?_⟩) hHeld ?_
                · intro w hSw
                  simp only [List.getElem_toArray, List.getElem_cons_zero, List.getElem_cons_succ]
                  go_simp
                simp only [Act.put, List.getElem_toArray, List.getElem_cons_zero, List.getElem_cons_succ, List.setIfInBounds_toArray, List.set_cons_zero, List.set_cons_succ]
                refine wpAnyH_take (i := 4) (v := .pointer (some ⟨g, k * 3 + 2, none⟩)) rfl (by kernel_rfl) (by kernel_rfl) (by kernel_rfl) (fun _ _ _ h => h) (Or.inl ⟨by rfl, ?_⟩) hHeld ?_
                · intro w hSw
                  simp only [List.getElem_toArray, List.getElem_cons_zero, List.getElem_cons_succ]
                  go_simp
                simp only [Act.put, List.getElem_toArray, List.getElem_cons_zero, List.getElem_cons_succ, List.setIfInBounds_toArray, List.set_cons_zero, List.set_cons_succ]
                refine wpAnyH_take (i := 5) (v := .slice (some ⟨gc, 0, none⟩) M fcap) rfl (by kernel_rfl) (by kernel_rfl) (by kernel_rfl) (fun _ _ _ h => h) (Or.inl ⟨by rfl, ?_⟩) hHeld ?_
                · intro w hSw
                  obtain ⟨p0, p1, p2, p3, p4⟩ := hSw
                  simp only [List.getElem_toArray, List.getElem_cons_zero, List.getElem_cons_succ]
                  go_simp
                simp only [Act.put, List.getElem_toArray, List.getElem_cons_zero, List.getElem_cons_succ, List.setIfInBounds_toArray, List.set_cons_zero, List.set_cons_succ]
                refine wpAnyH_take (i := 6) (v := .pointer (some ⟨Lx, 5, none⟩)) rfl (by kernel_rfl) (by kernel_rfl) (by kernel_rfl) (fun _ _ _ h => h) (Or.inl ⟨by rfl, ?_⟩) hHeld ?_
                · intro w hSw
                  simp only [List.getElem_toArray, List.getElem_cons_zero, List.getElem_cons_succ]
                  go_simp
                simp only [Act.put, List.getElem_toArray, List.getElem_cons_zero, List.getElem_cons_succ, List.setIfInBounds_toArray, List.set_cons_zero, List.set_cons_succ]
                refine wpAnyH_take (i := 7) (v := .int .i64 (pt : Int)) rfl (by kernel_rfl) (by kernel_rfl) (by kernel_rfl) (fun _ _ _ h => h) (Or.inl ⟨by rfl, ?_⟩) hHeld ?_
                · intro w hSw
                  obtain ⟨p0, p1, p2, p3, p4⟩ := hSw
                  simp only [List.getElem_toArray, List.getElem_cons_zero, List.getElem_cons_succ]
                  go_simp
                simp only [Act.put, List.getElem_toArray, List.getElem_cons_zero, List.getElem_cons_succ, List.setIfInBounds_toArray, List.set_cons_zero, List.set_cons_succ]
                refine wpAnyH_take (i := 8) (v := .pointer (some ⟨gc, pt * 5, none⟩)) rfl (by kernel_rfl) (by kernel_rfl) (by kernel_rfl) (fun _ _ _ h => h) (Or.inl ⟨by rfl, ?_⟩) hHeld ?_
                · intro w hSw
                  simp only [List.getElem_toArray, List.getElem_cons_zero, List.getElem_cons_succ]
                  go_simp
                simp only [Act.put, List.getElem_toArray, List.getElem_cons_zero, List.getElem_cons_succ, List.setIfInBounds_toArray, List.set_cons_zero, List.set_cons_succ]
                refine wpAnyH_take (i := 9) (v := .pointer (some ⟨gc, pt * 5 + 1, none⟩)) rfl (by kernel_rfl) (by kernel_rfl) (by kernel_rfl) (fun _ _ _ h => h) (Or.inl ⟨by rfl, ?_⟩) hHeld ?_
                · intro w hSw
                  simp only [List.getElem_toArray, List.getElem_cons_zero, List.getElem_cons_succ]
                  go_simp
                simp only [Act.put, List.getElem_toArray, List.getElem_cons_zero, List.getElem_cons_succ, List.setIfInBounds_toArray, List.set_cons_zero, List.set_cons_succ]
                refine wpAnyH_take (i := 10) (v := .int .i64 (dd : Int)) rfl (by kernel_rfl) (by kernel_rfl) (by kernel_rfl) (fun _ _ _ h => h) (Or.inl ⟨by rfl, ?_⟩) hHeld ?_
                · intro w hSw
                  obtain ⟨p0, p1, p2, p3, p4⟩ := hSw
                  simp only [List.getElem_toArray, List.getElem_cons_zero, List.getElem_cons_succ]
                  go_simp
                simp only [Act.put, List.getElem_toArray, List.getElem_cons_zero, List.getElem_cons_succ, List.setIfInBounds_toArray, List.set_cons_zero, List.set_cons_succ]
                refine wpAnyH_take (i := 11) (v := .pointer (some ⟨Lx, 1, none⟩)) rfl (by kernel_rfl) (by kernel_rfl) (by kernel_rfl) (fun _ _ _ h => h) (Or.inl ⟨by rfl, ?_⟩) hHeld ?_
                · intro w hSw
                  simp only [List.getElem_toArray, List.getElem_cons_zero, List.getElem_cons_succ]
                  go_simp
                simp only [Act.put, List.getElem_toArray, List.getElem_cons_zero, List.getElem_cons_succ, List.setIfInBounds_toArray, List.set_cons_zero, List.set_cons_succ]
                refine wpAnyH_take (i := 12) (v := .int .i64 jd) rfl (by kernel_rfl) (by kernel_rfl) (by kernel_rfl) (fun _ _ _ h => h) (Or.inl ⟨by rfl, ?_⟩) hHeld ?_
                · intro w hSw
                  obtain ⟨p0, p1, p2, p3, p4⟩ := hSw
                  simp only [List.getElem_toArray, List.getElem_cons_zero, List.getElem_cons_succ]
                  go_simp
                simp only [Act.put, List.getElem_toArray, List.getElem_cons_zero, List.getElem_cons_succ, List.setIfInBounds_toArray, List.set_cons_zero, List.set_cons_succ]
                refine wpAnyH_take (i := 13) (v := .pointer (some ⟨Lr, dd, none⟩)) rfl (by kernel_rfl) (by kernel_rfl) (by kernel_rfl) (fun _ _ _ h => h) (Or.inl ⟨by rfl, ?_⟩) hHeld ?_
                · intro w hSw
                  simp only [List.getElem_toArray, List.getElem_cons_zero, List.getElem_cons_succ]
                  go_simp
                simp only [Act.put, List.getElem_toArray, List.getElem_cons_zero, List.getElem_cons_succ, List.setIfInBounds_toArray, List.set_cons_zero, List.set_cons_succ]
                refine wpAnyH_ready (rs := [14]) (by kernel_rfl) (by simp) ?_
                refine AllReadyH.cons rfl (fun K hK => ?_) AllReadyH.nil
                simp only [List.getElem_toArray, List.getElem_cons_zero, List.getElem_cons_succ]
                go_simp
                refine hK.out _ _ HKS.out (fun hHeld => ?_)
                clear hK K
                clear hHeld
                refine wpAnyH_done (by kernel_rfl) ?_ _
                obtain ⟨wy, hwy⟩ : ∃ W, (wx.setCell ⟨Lr, dd, none⟩ (.int .i64 jd)).drew = W := ⟨_, rfl⟩
                rw [hwy] at HFy HMy HXRy HXXy HXBy ⊢
                clear hwy HKS HGD zgc y6 y7 cbL fbL zL zLx HFxd
                obtain ⟨BL, hBL⟩ : ∃ L, behL F i pt = L := ⟨_, rfl⟩
                obtain ⟨RN, hRN⟩ : ∃ R, Rt.set dd jd = R := ⟨_, rfl⟩
                have hRNl : RN.length = 12 := by rw [← hRN, List.length_set]; exact HRL.out
                rw [hRN] at HATS HXRy
                rw [HATS.out, hBL] at HINM
                have HRNL := Lib.hid hRNl
                have HRNV := Lib.hid (fun (z : Int) (hz : z ∈ RN) => (by have h := HRLT.out (t + 1) (by omega) z (by rw [HATS.out]; exact hz); exact h : z < vl))
                have hBn := behL_len F i pt
                rw [hBL] at hBn
                have HBN := Lib.hid (fun (n : Nat) (hn : n ∈ BL) => (by
                  rw [← hBL] at hn
                  exact behL_next HRT.out HFM.out (show i < (hdL F).length by rw [HH.out]; exact hi1) (by rw [HAE.out]; have := HPT.out; omega) (by rw [HAE.out, HTF.out]; have := HPT.out; have := HMT2.out; omega) hn : n < F.code.length ∧ rchB F n = true))
                have HB8 := Lib.hid (HBH.out wy HFy.out pt (by omega))
                rw [hBL] at HB8
                obtain ⟨n5, hn5⟩ : ∃ n, BL.length = n := ⟨_, rfl⟩
                have HN5 := Lib.hid hn5
                have r0 : wy.cell? ⟨Lb, 0, none⟩ = some (.int .i64 (a : Int)) := cell_block HXBy.out 0
                have r1 : wy.cell? ⟨Lb, 1, none⟩ = some (.int .i64 (tf : Int)) := cell_block HXBy.out 1
                have r2 : wy.cell? ⟨Lb, 2, none⟩ = some (.slice NA nn ncap) := cell_block HXBy.out 2
                have r3 : wy.cell? ⟨Lb, 3, none⟩ = some (.slice PA pn pcap) := cell_block HXBy.out 3
                have r5 : wy.cell? ⟨Lx, 5, none⟩ = some (.int .i64 (pt : Int)) := cell_block HXXy.out 5
                have zLb := block_lt HXBy.out
                have zLx := block_lt HXXy.out
                rw [hn5] at hBn
                clear hBL hRN hRNl hn5
                go_wp2_with (go_at_call 54; go_must (refine HB8.out.mono ?_; rintro e w8 ⟨⟨v, rfl, ho⟩, hb⟩; obtain ⟨A5, c5, rfl, hrw⟩ := rowI_own ho; rw [natI_length, HN5.out]; have HRW := Lib.hid hrw; have HF8 := Lib.hid (HFy.out.trans (FrM.of_below (Nat.le_trans HB24.out.size HFy.out.size) hb)); have HM8 := Lib.hid (HMy.out.keeps hb); have HXR8 := Lib.hid ((hb.block _ (block_lt HXRy.out)).trans HXRy.out); have HXX8 := Lib.hid ((hb.block _ (block_lt HXXy.out)).trans HXXy.out); have HXB8 := Lib.hid ((hb.block _ (block_lt HXBy.out)).trans HXBy.out); clear ho hb hrw r0 r1 r2 r3 r5 zLb zLx))
                have HL0 := Lib.hid (show leftTo O2 RN BL 0 = [] from rfl)
                have HO0 := Lib.hid (OwnI.nil w8 w8.heap.size)
                have HB88 : Hid (Below w8.heap.size w8 w8) := Lib.hid (Below.refl _ _)
                obtain ⟨i0, hI0, hz0, hz1, hz2⟩ := info_parts infoInt
                go_loopw [18, 108] (fun v18 v108 wq => ∃ (q n6 : Nat) (A6 : Option Addr) (c6 : Nat), q ≤ n5 ∧ v108 = .int .i64 (q : Int) ∧ (leftTo O2 RN BL q).length = n6 ∧ v18 = .slice A6 n6 c6 ∧ OwnI wq w8.heap.size v18 (leftTo O2 RN BL q) ∧ Below w8.heap.size w8 wq) (fun _ v108 _ => n5 - (intOf v108).toNat)
                case atStart => exact ⟨0, 0, none, 0, by omega, rfl, by rw [HL0.out]; rfl, rfl, by rw [HL0.out]; exact HO0.out, HB88.out⟩
                case round =>
                  obtain ⟨q, n6, A6, c6, hq, rfl, hn6, rfl, hO, hbq⟩ := hrel
                  rename World => wq
                  have HN6 := Lib.hid hn6
                  have HO := Lib.hid hO
                  have HBQ := Lib.hid hbq
                  have hn6l : n6 ≤ 12 * q := by rw [← hn6]; exact leftTo_len _ _ _ _
                  have HX8Q := Lib.hid ((hbq.block _ (block_lt HXX8.out)).trans HXX8.out)
                  have HR8Q := Lib.hid ((hbq.block _ (block_lt HXR8.out)).trans HXR8.out)
                  clear hn6 hO
                  by_cases hq0 : q = n5
                  · have hq0' := hq0.symm
                    subst hq0'
                    have r1 : wq.cell? ⟨Lx, 1, none⟩ = some (.int .i64 jd) := cell_block HX8Q.out 1
                    have zLx := block_lt HX8Q.out
                    have HMQ := Lib.hid (HM8.out.keeps hbq)
                    have HFQ := Lib.hid (HF8.out.trans (FrM.of_below (Nat.le_trans HB24.out.size HF8.out.size) hbq))
                    have HTG := Lib.hid (by
                      obtain ⟨A', c', hv', hr'⟩ := rowI_own HO.out
                      have e : A6 = A' ∧ n6 = (leftTo O2 RN BL n5).length ∧ c6 = c' := by simpa using hv'
                      obtain ⟨rfl, -, rfl⟩ := e
                      have hcc := own_cap (show wq.ownsRow w8.heap.size 3 1 _ _ _ from HO.out)
                      have h := together_any w2.heap.size Lc vl U (gInTo F O2 s i Gi t) (leftTo O2 RN BL n5) A6 c6 jd wq HMQ.out (by omega) (fun h0 => by
                        obtain ⟨gl, e1, e2, e3⟩ := hr' h0
                        refine ⟨gl, e1, e2, ?_, e3⟩
                        rcases HO.out.2 with ⟨h5, -⟩ | ⟨g', cap', cur, h5, -, h6, -⟩
                        · rw [e1] at h5; cases h5
                        · rw [e1] at h5
                          have eg : gl = g' := by simp only [Value.slice.injEq, Option.some.injEq, Addr.mk.injEq] at h5; exact h5.1.1
                          subst eg
                          exact HMQ.out.free h6 (by decide) (by decide)) (by rw [HN6.out]; exact hcc) (by rw [HN6.out]; omega) (fun z hz => HRNV.out z (leftTo_mem HRNL.out hz)) hidl
                      rw [HN6.out] at h
                      exact h : Calls Tryd.prog 53 #[.pointer (some ⟨Lc, 0, none⟩), .slice A6 n6 c6, .int .i64 jd] wq fun e w' => e = .returned (.tuple #[]) ∧ MAt w' w2.heap.size Lc vl vl U (togTo (gInTo F O2 s i Gi t) (leftTo O2 RN BL n5) jd n6) ∧ FrM wq w2.heap.size U w')
                    have HXB9 := Lib.hid ((hbq.block _ (block_lt HXB8.out)).trans HXB8.out)
                    clear hbq hq0
                    go_wp2_with (go_at_call 53; go_must (refine HTG.out.mono ?_; rintro e we ⟨rfl, hme, hfe⟩; have HME := Lib.hid hme; have HFE := Lib.hid (HFQ.out.trans hfe); have HXRe := Lib.hid (hfe.box HMQ.out HR8Q.out (by decide) (by decide)); have HXBe := Lib.hid (hfe.box HMQ.out HXB9.out (by decide) (by decide)); clear hme hfe r1 zLx))
                    go_roundw
                    case rel => exact ⟨t + 1, by omega, by go_num, by rw [HGI1.out, HINM.out, HN5.out, HN6.out]; exact HME.out, HFE.out, by rw [HATS.out]; exact HXRe.out, HXBe.out⟩
                    case measure => simp [intOf]; omega
                  · have hq1 : (q : Int) < n5 := by omega
                    have hq2 : (0 : Int) ≤ q := by omega
                    obtain ⟨n, hn⟩ : ∃ n, BL[q]? = some n := ⟨_, List.getElem?_eq_getElem (by rw [HN5.out]; omega)⟩
                    obtain ⟨hnl, hnr⟩ := HBN.out n (List.mem_of_getElem? hn)
                    obtain ⟨g5, rfl, zg5, hg5⟩ := HRW.out (by rw [natI_length, HN5.out]; omega)
                    have x5 : wq.cell? ⟨g5, q, none⟩ = some (.int .i64 (n : Int)) := (hbq.cell (p := ⟨g5, _, none⟩) zg5).trans (hg5 q n (by simp [natI, hn]))
                    have zg5' := Nat.lt_of_lt_of_le zg5 hbq.size
                    obtain ⟨Lm, hLm⟩ : ∃ x, O2.getD n 0 = x := ⟨_, rfl⟩
                    have HLS := Lib.hid (show leftTo O2 RN BL (q + 1) = leftTo O2 RN BL q ++ leftR Lm RN 12 by rw [leftTo_succ O2 RN hn, hLm]; rfl)
                    have KL := Lib.hid (fun (W : World) (hW : Below w8.heap.size w8 W) => (by
                      have h : IntsB W lb (outL (liveL F O2)) := KLQ.out W (HF8.out.trans (FrM.of_below (Nat.le_trans HB24.out.size HF8.out.size) hW))
                      have h1 := h.cell (outL_get (liveL_get hnl))
                      rw [hnr, if_pos rfl, hLm] at h1
                      exact ⟨h1, h.lt⟩ : W.cell? ⟨lb, n, none⟩ = some (.int .i64 (Lm : Int)) ∧ lb < W.heap.size))
                    have hnM : (n : Int) < M := by rw [HM.out] at hnl; omega
                    have hn0 : (0 : Int) ≤ n := by omega
                    obtain ⟨L0, hL0⟩ : ∃ L, leftTo O2 RN BL q = L := ⟨_, rfl⟩
                    rw [hL0] at HN6 HO HLS
                    have HX0 := Lib.hid (show L0 ++ leftR Lm RN 0 = L0 by simp [leftR])
                    clear hn hnl hnr hLm hL0 hbq hg5 zg5 hq0
                    go_wp2_with (refine wpList_load_mid (by rfl) 48 _ (by rfl) Lr 0 (by rfl) (intsV RN) _ (boxI_range HR8Q.out) Tryd.underlying48 (by rfl) (boxI_info HRNL.out) ?_)
                    clear x5 zg5'
                    go_loopw [18, 113] (fun v18 v113 wz => ∃ (r n7 : Nat) (A7 : Option Addr) (c7 : Nat), r ≤ 12 ∧ v113 = .int .i64 (r : Int) ∧ (L0 ++ leftR Lm RN r).length = n7 ∧ v18 = .slice A7 n7 c7 ∧ OwnI wz w8.heap.size v18 (L0 ++ leftR Lm RN r) ∧ Below w8.heap.size w8 wz) (fun _ v113 _ => 12 - (intOf v113).toNat)
                    case atStart => exact ⟨0, n6, A6, c6, by omega, rfl, by rw [HX0.out]; exact HN6.out, rfl, by rw [HX0.out]; exact HO.out, HBQ.out⟩
                    case round =>
                      obtain ⟨r', n7, A7, c7, hr, rfl, hn7, rfl, hO7, hbz⟩ := hrel
                      rename World => wz
                      have HBZ := Lib.hid hbz
                      have hn7l : n7 ≤ 36 := by
                        rw [← hn7, List.length_append, HN6.out]
                        have := leftR_len Lm RN r'
                        omega
                      have HN7 := Lib.hid hn7
                      have HO7 := Lib.hid hO7
                      obtain ⟨el, zl⟩ := KL.out wz hbz
                      by_cases hr0 : r' = 12
                      · subst hr0
                        clear hn7 hO7 el zl
                        go_wp2_with fail
                        go_roundw
                        case rel => exact ⟨q + 1, n7, A7, c7, by omega, by go_num, by rw [HLS.out]; exact HN7.out, rfl, by rw [HLS.out]; exact HO7.out, HBZ.out⟩
                        case measure => simp [intOf]; omega
                      · have hr1 : (r' : Int) < 12 := by omega
                        have hr2 : (0 : Int) ≤ r' := by omega
                        have hr3 : r' < 12 := by omega
                        obtain ⟨z, hz⟩ : ∃ z, RN.getD r' 0 = z := ⟨_, rfl⟩
                        have hrz : RN[r']? = some z := by rw [← hz, List.getD_eq_getElem?_getD, List.getElem?_eq_getElem (by rw [HRNL.out]; exact hr3)]; rfl
                        have hsu := leftR_succ Lm RN r'
                        rw [hz] at hsu
                        have hdv : (Lm : Int) / 2 ^ r' = ((Lm / 2 ^ r' : Nat) : Int) := by push_cast; rfl
                        have hba := live_nat3 Lm r'
                        have htb : Lm.testBit r' = decide (Lm / 2 ^ r' % 2 = 1) := Nat.testBit_eq_decide_div_mod_eq
                        obtain ⟨d, hd⟩ : ∃ d, Lm / 2 ^ r' = d := ⟨_, rfl⟩
                        rw [hd] at hdv hba htb
                        have hiv : (intsV RN)[r']? = some (.int .i64 z) := by simp [intsV, hrz]
                        have hix : ∀ W : World, (Instr.index 48 (.agg (intsV RN).toArray) (.int .i64 (r' : Int))).run Tryd.prog W = .ok (.int .i64 z) W := fun W => index_row _ r' hr3 (by simpa using hiv) W
                        obtain ⟨X, hX⟩ : ∃ X, L0 ++ leftR Lm RN r' = X := ⟨_, rfl⟩
                        rw [hX] at HN7 HO7
                        clear hiv hd hz hrz hn7 hO7
                        by_cases hbit : d % 2 = 1
                        · have hba1 : bits .and .i64 (d : Int) 1 = 1 := by rw [hba, hbit]; rfl
                          have HXE := Lib.hid (show L0 ++ leftR Lm RN (r' + 1) = X ++ [z] by rw [hsu, if_pos (by rw [htb, hbit]; rfl), ← List.append_assoc, hX])
                          have HOW := Lib.hid (show wz.ownsRow w8.heap.size 3 1 (.slice A7 n7 c7) n7 (X.map (Value.int .i64)) by have h := HO7.out; unfold OwnI at h; rw [HN7.out] at h; exact h)
                          have hws := hbz.size
                          clear hba htb hbit hsu hX hbz
                          go_wp2_with (at_builtin; go_must (refine wpList_append_own _ rfl _ _ 37 rfl w8.heap.size 3 i0 _ 1 8 Tryd.underlying37 hI0 hz0 hz1 hz2 rfl (by decide) (.slice A7 n7 c7) n7 (X.map (Value.int .i64)) rfl (own_below HOW.out ((Below.refl _ _).alloc (Nat.le_refl _) _)) ⟨wz.heap.size, 0, none⟩ 1 1 [.int .i64 z] rfl rfl (World.news_of_block (cs := #[.int .i64 z]) (t := 3) (fr := (0, 0)) (by simpa using heap_alloc_new wz (.cells #[.int .i64 z] 3))) (by simp [Value.oneCell']) (by unfold maxLen; omega) (by omega) (by simp; omega) ?_); intro v9 w9 hown9 hg9 _; obtain ⟨A9, cap9, hv9, -⟩ := own_slice hown9; rw [hv9] at hown9; rw [hv9]; have HB9 := Lib.hid ((HBZ.out.alloc HBZ.out.size (.cells #[.int .i64 z] 3)).grown hg9 (by simp; omega) (fun k hk => (World.ownsRow.lt HOW.out k hk).1)); have HO9 := Lib.hid hown9; clear hown9 hg9)
                          go_roundw
                          case rel => exact ⟨r' + 1, n7 + 1, A9, cap9, by omega, by go_num, by rw [HXE.out, List.length_append, HN7.out]; rfl, rfl, by rw [HXE.out]; unfold OwnI; simp only [List.length_append, List.length_cons, List.length_nil, HN7.out]; have h := HO9.out; simpa using h, HB9.out⟩
                          case measure => simp [intOf]; omega
                        · have hba1 : bits .and .i64 (d : Int) 1 = 0 := by rw [hba, show d % 2 = 0 by omega]; rfl
                          have HXE := Lib.hid (show L0 ++ leftR Lm RN (r' + 1) = X by rw [hsu, if_neg (by rw [htb]; simpa using hbit), List.append_nil, hX])
                          clear hba htb hbit hsu hX hbz
                          go_wp2_with fail
                          go_roundw
                          case rel => exact ⟨r' + 1, n7, A7, c7, by omega, by go_num, by rw [HXE.out]; exact HN7.out, rfl, by rw [HXE.out]; exact HO7.out, HBZ.out⟩
                          case measure => simp [intOf]; omega
    · have hj1 : (j : Int) < vl := by omega
      have hj2 : (0 : Int) ≤ j := by omega
      obtain ⟨y1, y2, y3, y4, y5, y6, y7, y8⟩ := KS.out wr hb
      have x0 : wr.cell? ⟨Lc, 0, none⟩ = some (.slice (some ⟨g0, 0, none⟩) vl vl) := by rw [← hu0]; exact hmt.cell
      have x1 := hmt.lt
      obtain ⟨g', c', e1, e2, e3⟩ := hmt.row0 (by omega)
      rw [hu0] at e1
      have eg : g0 = g' := by simp only [Value.slice.injEq, Option.some.injEq, Addr.mk.injEq] at e1; exact e1.1.1
      subst eg
      have x2 := e3 j (by omega)
      have x3 := (hmt.own.free none (g := g0) (n := vl) (cap := vl) (by rw [mRow_v]; exact hu0) j).1
      have HJ := Lib.hid (show j < vl by omega)
      have HMM := Lib.hid (fun (W : World) (hW : MAt W w2.heap.size Lc vl j U zM) (hB : w2.heap.size ≤ W.heap.size) => hW.made HJ.out hB (by omega) HU0.out)
      have hbs := hb.size
      obtain ⟨gn, hgn⟩ : ∃ n, wr.heap.size = n := ⟨_, rfl⟩
      have HGN := Lib.hid hgn
      have HG0 := Lib.hid e2
      clear hmt hu0 hb e1 e3 y2 y3 y4 y6 y7 y8 hj0 hgn
      go_upto_region 5 with fail
      refine wp_region_held_drew (S := fun w' => w'.cell? ⟨Lc, 0, none⟩ = some (.slice (some ⟨g0, 0, none⟩) vl vl) ∧ w'.cell? ⟨Ls, 1, none⟩ = some (.int .i64 (vl : Int))) (by kernel_rfl) ⟨x0, y1⟩ (fun hHeld => ?_)
      refine wpAnyH_take (i := 0) (v := .pointer (some ⟨Lc, 0, none⟩)) rfl (by kernel_rfl) (by kernel_rfl) (by kernel_rfl) (fun _ _ _ h => h) (Or.inl ⟨by rfl, ?_⟩) hHeld ?_
      · intro w hSw
        simp only [List.getElem_toArray, List.getElem_cons_zero]
        go_simp
      simp only [Act.put, List.getElem_toArray, List.getElem_cons_zero, List.setIfInBounds_toArray, List.set_cons_zero, List.set_cons_succ]
      refine wpAnyH_take (i := 1) (v := .pointer (some ⟨Lc, 0, none⟩)) rfl (by kernel_rfl) (by kernel_rfl) (by kernel_rfl) (fun _ _ _ h => h) (Or.inl ⟨by rfl, ?_⟩) hHeld ?_
      · intro w hSw
        simp only [List.getElem_toArray, List.getElem_cons_zero, List.getElem_cons_succ]
        go_simp
      simp only [Act.put, List.getElem_toArray, List.getElem_cons_zero, List.getElem_cons_succ, List.setIfInBounds_toArray, List.set_cons_zero, List.set_cons_succ]
      refine wpAnyH_take (i := 2) (v := .pointer (some ⟨Lc, 0, none⟩)) rfl (by kernel_rfl) (by kernel_rfl) (by kernel_rfl) (fun _ _ _ h => h) (Or.inl ⟨by rfl, ?_⟩) hHeld ?_
      · intro w hSw
        simp only [List.getElem_toArray, List.getElem_cons_zero, List.getElem_cons_succ]
        go_simp
      simp only [Act.put, List.getElem_toArray, List.getElem_cons_zero, List.getElem_cons_succ, List.setIfInBounds_toArray, List.set_cons_zero, List.set_cons_succ]
      refine wpAnyH_take (i := 3) (v := .slice (some ⟨g0, 0, none⟩) vl vl) rfl (by kernel_rfl) (by kernel_rfl) (by kernel_rfl) (fun _ _ _ h => h) (Or.inl ⟨by rfl, ?_⟩) hHeld ?_
      · intro w hSw
        obtain ⟨p0, p1⟩ := hSw
        simp only [List.getElem_toArray, List.getElem_cons_zero, List.getElem_cons_succ]
        go_simp
      simp only [Act.put, List.getElem_toArray, List.getElem_cons_zero, List.getElem_cons_succ, List.setIfInBounds_toArray, List.set_cons_zero, List.set_cons_succ]
      refine wpAnyH_take (i := 4) (v := .int .i64 (j : Int)) rfl (by kernel_rfl) (by kernel_rfl) (by kernel_rfl) (fun _ _ _ h => h) (Or.inl ⟨by rfl, ?_⟩) hHeld ?_
      · intro w hSw
        simp only [List.getElem_toArray, List.getElem_cons_zero, List.getElem_cons_succ]
        go_simp
      simp only [Act.put, List.getElem_toArray, List.getElem_cons_zero, List.getElem_cons_succ, List.setIfInBounds_toArray, List.set_cons_zero, List.set_cons_succ]
      refine wpAnyH_take (i := 5) (v := .pointer (some ⟨Ls, 1, none⟩)) rfl (by kernel_rfl) (by kernel_rfl) (by kernel_rfl) (fun _ _ _ h => h) (Or.inl ⟨by rfl, ?_⟩) hHeld ?_
      · intro w hSw
        simp only [List.getElem_toArray, List.getElem_cons_zero, List.getElem_cons_succ]
        go_simp
      simp only [Act.put, List.getElem_toArray, List.getElem_cons_zero, List.getElem_cons_succ, List.setIfInBounds_toArray, List.set_cons_zero, List.set_cons_succ]
      refine wpAnyH_take (i := 6) (v := .int .i64 (vl : Int)) rfl (by kernel_rfl) (by kernel_rfl) (by kernel_rfl) (fun _ _ _ h => h) (Or.inl ⟨by rfl, ?_⟩) hHeld ?_
      · intro w hSw
        obtain ⟨p0, p1⟩ := hSw
        simp only [List.getElem_toArray, List.getElem_cons_zero, List.getElem_cons_succ]
        go_simp
      simp only [Act.put, List.getElem_toArray, List.getElem_cons_zero, List.getElem_cons_succ, List.setIfInBounds_toArray, List.set_cons_zero, List.set_cons_succ]
      refine wpAnyH_ready (rs := [7]) (by kernel_rfl) (by simp) ?_
      refine AllReadyH.cons rfl (fun K hK => ?_) AllReadyH.nil
      simp only [List.getElem_toArray, List.getElem_cons_zero, List.getElem_cons_succ]
      go_simp
      have HDR := Lib.hid ((HMT.out.keeps (Below.refl _ _).drew).keeps ((Below.refl _ _).alloc (Nat.le_refl _) (.cells (Array.replicate vl (Value.bool false)) 4)))
      have HDB := Lib.hid (HB.out.drew.alloc HB.out.drew.size (.cells (Array.replicate vl (Value.bool false)) 4))
      refine hK.out _ _ ⟨by have h := HDR.out.cell; rw [HU0.out] at h; exact h, (KS.out _ HDB.out).1⟩ (fun hHeld => ?_)
      clear hK K
      have x4 : ((wr.alloc (.cells (Array.replicate vl (Value.bool false)) 4)).drew).cell? ⟨g0, j, none⟩ = some (U (some j)) := (((Below.refl wr.heap.size wr).alloc (Nat.le_refl _) (.cells (Array.replicate vl (Value.bool false)) 4)).drew.cell (p := ⟨g0, _, none⟩) HG0.out).trans x2
      have x5 : ((wr.alloc (.cells (Array.replicate vl (Value.bool false)) 4)).drew).frozen? ⟨g0, j, none⟩ = false := (((Below.refl wr.heap.size wr).alloc (Nat.le_refl _) (.cells (Array.replicate vl (Value.bool false)) 4)).drew.frozen (p := ⟨g0, _, none⟩) HG0.out).trans x3
      refine wpAnyH_take (i := 8) (v := .pointer (some ⟨g0, j, none⟩)) rfl (by kernel_rfl) (by kernel_rfl) (by kernel_rfl) (fun _ _ _ h => h) (Or.inl ⟨by rfl, ?_⟩) hHeld ?_
      · intro w hSw
        simp only [List.getElem_toArray, List.getElem_cons_zero, List.getElem_cons_succ]
        go_simp
      simp only [Act.put, List.getElem_toArray, List.getElem_cons_zero, List.getElem_cons_succ, List.setIfInBounds_toArray, List.set_cons_zero, List.set_cons_succ]
      refine wpAnyH_ready (rs := [9]) (by kernel_rfl) (by simp) ?_
      refine AllReadyH.cons rfl (fun K hK => ?_) AllReadyH.nil
      simp only [List.getElem_toArray, List.getElem_cons_zero, List.getElem_cons_succ]
      go_simp
      obtain ⟨wn, hwn⟩ : ∃ W, ((wr.setCell ⟨g0, j, none⟩ (.slice (some ⟨wr.heap.size, 0, none⟩) vl vl)).alloc (.cells (Array.replicate vl (Value.bool false)) 4)).drew = W := ⟨_, rfl⟩
      have hpast : (wr.alloc (.cells (Array.replicate vl (Value.bool false)) 4)).setCell ⟨g0, j, none⟩ (.slice (some ⟨wr.heap.size, 0, none⟩) vl vl) = (wr.setCell ⟨g0, j, none⟩ (.slice (some ⟨wr.heap.size, 0, none⟩) vl vl)).alloc (.cells (Array.replicate vl (Value.bool false)) 4) := World.setCell_alloc_past _ _ _ _ HG0.out
      have HMN : Hid (MAt wn w2.heap.size Lc vl (j + 1) (fun k => if k = some j then .slice (some ⟨wr.heap.size, 0, none⟩) vl vl else U k) zM) := Lib.hid (by have h := (HMM.out wr HMT.out HB.out.size).keeps (Below.refl _ _).drew; rw [List.toArray_replicate, hpast] at h; exact hwn ▸ h)
      have HBN : Hid (Below w2.heap.size w2 wn) := Lib.hid (by have h := ((HB.out.alloc HB.out.size (.cells (Array.replicate vl (Value.bool false)) 4)).setCell (p := ⟨g0, j, none⟩) (HMT.out.own.lt (k := none) (b := g0) (by rw [mRow_v, HU0.out]; rfl)).1 (.slice (some ⟨wr.heap.size, 0, none⟩) vl vl)).drew; rw [hpast] at h; exact hwn ▸ h)
      rw [hwn]
      refine hK.out _ _ ⟨by have h := HMN.out.cell; rw [if_neg (by simp), HU0.out] at h; exact h, (KS.out _ HBN.out).1⟩ (fun hHeld => ?_)
      clear hK K x4 x5 hwn hpast
      clear hHeld
      refine wpAnyH_done (by kernel_rfl) ?_ _
      go_wp2_with fail
      go_roundw
      case rel => exact ⟨j + 1, _, by omega, by go_num, HMN.out, by rw [if_neg (by simp)]; exact HU0.out, HBN.out⟩
      case measure => simp [intOf]; omega
end Go.Proofs.YtfdppmjoinodgaaDoor
