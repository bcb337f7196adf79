/-
  ssa.At at a place that is come to: which value each register is ahead of it.
-/
import Derived.Test.YtfdppmjoinodgaaDoorSv5
import Derived.Deep.CutBlock
import Derived.Deep.CutRange
import Derived.Deep.DeepCutAuto
namespace Go.Proofs.YtfdppmjoinodgaaDoor
open Go.RowKit Tier
/-- The registers' values ahead of the t-th instruction of a part. -/
def atR (s : SB) (F : Fnc) (i : Nat) : Nat → List Int
  | 0 => (s.part i).inn
  | t + 1 => if 0 ≤ (s.insA i t).id then (atR s F i t).set (insAt F (hdA F i + t)).dst.toNat (s.insA i t).id else atR s F i t
theorem atR_len {s : SB} {F : Fnc} {i : Nat} (h : (s.part i).inn.length = 12) : ∀ t, (atR s F i t).length = 12
  | 0 => h
  | t + 1 => by
    unfold atR
    split
    · rw [List.length_set]; exact atR_len h t
    · exact atR_len h t
/-- The first r of them without what is not live. -/
def hidR (m : Nat) (R : List Int) (r : Nat) : List Int := (List.range 12).map fun j => if j < r ∧ m.testBit j = false then -1 else R.getD j 0
theorem hidR_len (m : Nat) (R : List Int) (r : Nat) : (hidR m R r).length = 12 := by simp [hidR]
theorem hidR_get (m : Nat) (R : List Int) (r : Nat) {j : Nat} (hj : j < 12) : (hidR m R r)[j]? = some (if j < r ∧ m.testBit j = false then -1 else R.getD j 0) := by
  unfold hidR
  rw [List.getElem?_map, List.getElem?_range hj]; rfl
theorem hidR_zero (m : Nat) {R : List Int} (h : R.length = 12) : hidR m R 0 = R := by
  refine List.ext_getElem? (fun j => ?_)
  by_cases hj : j < 12
  · rw [hidR_get m R 0 hj, if_neg (by omega), List.getD_eq_getElem?_getD, List.getElem?_eq_getElem (by omega)]; rfl
  · rw [List.getElem?_eq_none (by rw [hidR_len]; omega), List.getElem?_eq_none (by omega)]
theorem hidR_live (m : Nat) (R : List Int) {r : Nat} (h : m.testBit r = true) : hidR m R (r + 1) = hidR m R r := by
  refine List.ext_getElem? (fun j => ?_)
  by_cases hj : j < 12
  · rw [hidR_get m R _ hj, hidR_get m R _ hj]
    by_cases e : j = r
    · subst e; simp [h]
    · have e2 : (j < r + 1) ↔ (j < r) := by omega
      simp only [e2]
  · rw [List.getElem?_eq_none (by rw [hidR_len]; omega), List.getElem?_eq_none (by rw [hidR_len]; omega)]
theorem hidR_dead (m : Nat) (R : List Int) {r : Nat} (_hr : r < 12) (h : m.testBit r = false) : hidR m R (r + 1) = (hidR m R r).set r (-1) := by
  refine List.ext_getElem? (fun j => ?_)
  by_cases hj : j < 12
  · rw [hidR_get m R _ hj, List.getElem?_set, hidR_get m R _ hj, hidR_len]
    by_cases e : r = j
    · subst e; rw [if_pos rfl, if_pos hj, if_pos ⟨by omega, h⟩]
    · have e2 : (j < r + 1) ↔ (j < r) := by omega
      rw [if_neg e]; simp only [e2]
  · rw [List.getElem?_eq_none (by rw [hidR_len]; omega), List.getElem?_eq_none (by rw [List.length_set, hidR_len]; omega)]
theorem box_put {W : World} {L : Nat} {R : List Int} (h : W.heap[L]? = some (boxI R)) (j : Nat) (v : Int) : (W.setCell ⟨L, j, none⟩ (.int .i64 v)).heap[L]? = some (boxI (R.set j v)) := by
  unfold boxI at h ⊢
  rw [block_set h]
  simp [intsV, List.map_set]
theorem box_fill {W : World} {L : Nat} {cs : Array Value} (h : W.heap[L]? = some (.cells cs 48 (0, 0))) (R : List Int) (hl : (intsV R).length = cs.size) : (W.setCells L 0 (intsV R)).heap[L]? = some (boxI R) := block_full h _ hl
theorem SbAt.innRange {w : World} {b : Nat} {c : SC} {s : SB} {V : SK → Value} (h : SbAt w b c s V) (hs : ∀ x ∈ s.parts, x.inn.length = 12) {g n cap : Nat} (hv : V .parts = .slice (some ⟨g, 0, none⟩) n cap) {i : Nat} (hi : i < s.parts.length) : w.rangeAt g (i * 15 + 3) (intsV (s.part i).inn) := fun j v hj => by
  have hl : (s.part i).inn.length = 12 := by
    unfold SB.part
    rw [List.getD_eq_getElem?_getD, List.getElem?_eq_getElem hi]
    exact hs _ (List.getElem_mem hi)
  have hj2 := (List.getElem?_eq_some_iff.1 hj).1
  have hj3 : j < 12 := by simpa [intsV, hl] using hj2
  rw [Nat.add_assoc, h.innCell hs hv hi hj3]
  unfold intsV at hj
  rw [List.getElem?_map] at hj
  rw [List.getD_eq_getElem?_getD]
  cases e : (s.part i).inn[j]? with
  | none => rw [e] at hj; cases hj
  | some a => rw [e] at hj; simpa using hj
/-- What At says of a place. -/
def AtRet (p : List Fnc) (F : Fnc) (pc B : Nat) (e : Ending) (w' : World) : Prop := ∃ (O : List Nat) (bs : List BR) (K : Nat) (s1 s2 : SB) (l : List Int) (s : SB) (i ga ca : Nat), BuiltX p F O bs K s1 s2 l s ∧ i < bs.length ∧ hdA F i ≤ pc ∧ pc < toF F (hdA F i) ∧ e = .returned (.tuple #[.slice (some ⟨ga, 0, none⟩) 12 ca, .int .i64 0]) ∧ B ≤ ga ∧ ga < w'.heap.size ∧ ∀ r, r < 12 → w'.cell? ⟨ga, r, none⟩ = some (.int .i64 (if (O.getD pc 0).testBit r = true then (atR s F i (pc - hdA F i)).getD r 0 else -1))
set_option maxRecDepth 100000 in
set_option maxHeartbeats 8000000 in
theorem at_any (p : List Fnc) (A : Option Addr) (cap1 k : Nat) (F : Fnc) (pc : Nat) (w1 : World) (ht : Tab w1) (hp : ProgAt w1 (.slice A p.length cap1) p) (hk : checkP p = 0) (hf : p[k]? = some F) (hpl : pc < F.code.length) (hrc : rchB F pc = true) :
    Calls Tryd.prog 20 #[.agg #[.slice A p.length cap1], .int .i64 (k : Int), .int .i64 (pc : Int)] w1 fun e w' => AtRet p F pc w1.heap.size e w' ∧ Below w1.heap.size w1 w' := by
  have hR := right_of hk
  have hFm := List.mem_of_getElem? hf
  have hfo := hR.ok.fn F hFm
  have hkl := (List.getElem?_eq_some_iff.1 hf).1
  obtain ⟨A0, cap0, hA0, hA⟩ := hp.slice
  simp only [Value.slice.injEq, true_and] at hA0
  obtain ⟨g, hAg, hg, hfn⟩ := hA (by omega)
  obtain ⟨rfl, rfl⟩ := hA0
  subst hAg
  obtain ⟨u, hu, c0, c1, c2⟩ := hfn k F hf
  obtain ⟨FA, fcap, rfl, hFA⟩ := hu.slice
  have HBU := Lib.hid (fun (W : World) (h1 : Tab W) (h2 : ProgAt W (.slice (some ⟨g, 0, none⟩) p.length cap1) p) => build_all (some ⟨g, 0, none⟩) cap1 k W h1 h2 hk hf)
  have HBK := Lib.hid (fun (W : World) (h1 : Tab W) (h2 : ProgAt W (.slice (some ⟨g, 0, none⟩) p.length cap1) p) => blocks_any p (some ⟨g, 0, none⟩) cap1 k F W h1 h2 hk hf)
  have HLV := Lib.hid (fun (W : World) (h1 : Tab W) (h2 : ProgAt W (.slice (some ⟨g, 0, none⟩) p.length cap1) p) => live_any p (some ⟨g, 0, none⟩) cap1 k F W h1 h2 hk hf)
  have HT := Lib.hid ht
  have HCK := Lib.hid hk
  have HFM := Lib.hid hFm
  have HRT := Lib.hid hR
  have HFO := Lib.hid hfo
  have HFA := Lib.hid hFA
  have HB1 : Hid (Below w1.heap.size w1 w1) := Lib.hid (Below.refl _ _)
  have n1 := hfo.c1
  have n2 := hfo.c2
  obtain ⟨M, hM⟩ : ∃ M, F.code.length = M := ⟨_, rfl⟩
  have HM := Lib.hid hM
  rw [hM] at n1 n2 c2
  have HRC := Lib.hid hrc
  have HPC := Lib.hid hpl
  have hpm : pc < M := by rw [← hM]; exact hpl
  have hpm1 : (pc : Int) < M := by omega
  have hpm0 : (0 : Int) ≤ pc := by omega
  have hk0 : (0 : Int) ≤ k := by omega
  obtain ⟨N, hN⟩ : ∃ N, p.length = N := ⟨_, rfl⟩
  have hk1 : (k : Int) < N := by omega
  rw [hN] at HBU HBK HLV hp ⊢
  have HPA := Lib.hid hp
  have HXA := Lib.hid ((Below.refl w1.heap.size w1).alloc (Nat.le_refl _) (.cells #[.slice (some ⟨g, 0, none⟩) N cap1] 25))
  clear hA hfn hu hFA hM hR hFm hfo hkl ht hp hk hf hpl hrc hN
  obtain ⟨H, hH⟩ : ∃ H, (hdL F).length = H := ⟨_, rfl⟩
  have HH := Lib.hid hH
  have hHM : H ≤ 40 := by have h1 := hdTo_len F F.code.length; have h2 : hdTo F F.code.length = hdL F := rfl; rw [h2, hH, HM.out] at h1; omega
  have hH1 : 0 < H := by have := (List.getElem?_eq_some_iff.1 (zero_head HRT.out HFM.out)).1; omega
  obtain ⟨gc, hgc, hgcl, hins⟩ := HFA.out (by rw [HM.out]; omega)
  have HGC := Lib.hid hgcl
  have HINS := Lib.hid hins
  subst hgc
  obtain ⟨P, hP⟩ : ∃ n : Nat, F.params = n := ⟨F.params.toNat, by have := HFO.out.p1; omega⟩
  have HPP := Lib.hid hP
  have hP2 : P ≤ 2 := by have := HFO.out.p2; omega
  rw [hP] at c0
  have HC0 := Lib.hid (show w1.cell? ⟨g, k * 3, none⟩ = some (.int .i64 (P : Int)) ∧ w1.cell? ⟨g, k * 3 + 1, none⟩ = some (.int .i64 F.regs) ∧ w1.cell? ⟨g, k * 3 + 2, none⟩ = some (.slice (some ⟨gc, 0, none⟩) M fcap) from ⟨c0, c1, c2⟩)
  clear hH hins hgcl hP c0 c1 c2
  go_enter Tryd.func20, Tryd.ntmps20
  go_upto_region 2 with ((go_at_call 15; go_must (refine (HBU.out _ (HT.out.keeps (HB1.out.alloc HB1.out.size _)) (HPA.out.keeps HXA.out)).mono ?_; rintro e w2 ⟨⟨b, c, s, V, O, bs, K, s2, l, rfl, hbb, hsb, hbl⟩, hb⟩; have HBX := Lib.hid (BuiltX.mk hbl HCK.out HFM.out rfl : BuiltX p F O bs K _ s2 l s); have HFP := Lib.hid HBX.out.finP; have hbsl : bs.length = H := (by rw [hbl.bok.len, HH.out]); have HBL := Lib.hid hbsl; obtain ⟨Ap, cp, hvp, -, hpA⟩ := hsb.rowV .parts (n := H) (by show s.parts.length = H; rw [HFP.out.len, hbsl]); obtain ⟨gp, rfl, -, -⟩ := hpA hH1; have HVP := Lib.hid hvp; obtain ⟨vl, hvl⟩ : ∃ v, valN F bs s2 l = v := ⟨_, rfl⟩; have HVL := Lib.hid hvl; have HSB := Lib.hid hsb; have HBB := Lib.hid hbb; rw [hvp, show ((F.params.toNat + (allG { s2 with same := l } bs.length).length : Nat) : Int) = ((vl : Nat) : Int) from congrArg Int.ofNat hvl, HPP.out]; rw [hvl] at HFP; have HB12 := Lib.hid (HXA.out.trans (hb.mono HXA.out.size)); have HX2 := Lib.hid ((hb.block w1.heap.size (by simp)).trans (heap_alloc_new w1 _)); have q2 := cell_block HX2.out; have z2 := block_lt HX2.out; clear hbb hsb hbl hb hvp hvl hbsl hpA)))
  obtain ⟨w3, hw3⟩ : ∃ W, w2.alloc (.cells #[.int .i64 (P : Int), .int .i64 (vl : Int), .slice (some ⟨gp, 0, none⟩) H cp] 34) = W := ⟨_, rfl⟩
  have HXS : Hid (w3.heap[w2.heap.size]? = some (.cells #[.int .i64 (P : Int), .int .i64 (vl : Int), .slice (some ⟨gp, 0, none⟩) H cp] 34 (0, 0))) := Lib.hid (hw3 ▸ heap_alloc_new _ _)
  have HB23 : Hid (Below w2.heap.size w2 w3) := Lib.hid (hw3 ▸ (Below.refl _ _).alloc (Nat.le_refl _) _)
  have HB13 : Hid (Below w1.heap.size w1 w3) := Lib.hid (HB12.out.trans (HB23.out.mono HB12.out.size))
  have HXP : Hid (w3.heap[w1.heap.size]? = some (.cells #[.slice (some ⟨g, 0, none⟩) N cap1] 25 (0, 0))) := Lib.hid ((HB23.out.block _ (block_lt HX2.out)).trans HX2.out)
  rw [hw3]
  obtain ⟨Lp, hLp⟩ : ∃ n, w1.heap.size = n := ⟨_, rfl⟩
  obtain ⟨Ls, hLs⟩ : ∃ n, w2.heap.size = n := ⟨_, rfl⟩
  have HLP := Lib.hid hLp
  have HLS := Lib.hid hLs
  rw [hLp, hLs]
  rw [hLp] at HXP
  rw [hLs] at HXS
  have p3 : w3.cell? ⟨Lp, 0, none⟩ = some (.slice (some ⟨g, 0, none⟩) N cap1) := cell_block HXP.out 0
  have zp3 := block_lt HXP.out
  clear hw3 q2 z2 hLp hLs
  have d0 : w3.cell? ⟨g, k * 3, none⟩ = some (.int .i64 (P : Int)) := (HB13.out.cell (p := ⟨g, _, none⟩) hg).trans HC0.out.1
  have d1 : w3.cell? ⟨g, k * 3 + 1, none⟩ = some (.int .i64 F.regs) := (HB13.out.cell (p := ⟨g, _, none⟩) hg).trans HC0.out.2.1
  have d2 : w3.cell? ⟨g, k * 3 + 2, none⟩ = some (.slice (some ⟨gc, 0, none⟩) M fcap) := (HB13.out.cell (p := ⟨g, _, none⟩) hg).trans HC0.out.2.2
  have zg3 := Nat.lt_of_lt_of_le hg HB13.out.size
  go_upto_region 7 with fail
  obtain ⟨w5, hw5⟩ : ∃ W, w3.alloc (.cells #[.int .i64 (P : Int), .int .i64 F.regs, .slice (some ⟨gc, 0, none⟩) M fcap] 57) = W := ⟨_, rfl⟩
  have HXF : Hid (w5.heap[w3.heap.size]? = some (.cells #[.int .i64 (P : Int), .int .i64 F.regs, .slice (some ⟨gc, 0, none⟩) M fcap] 57 (0, 0))) := Lib.hid (hw5 ▸ heap_alloc_new _ _)
  have HB35 : Hid (Below w3.heap.size w3 w5) := Lib.hid (hw5 ▸ (Below.refl _ _).alloc (Nat.le_refl _) _)
  have HB15 : Hid (Below w1.heap.size w1 w5) := Lib.hid (HB13.out.trans (HB35.out.mono HB13.out.size))
  rw [hw5]
  obtain ⟨Lf, hLf⟩ : ∃ n, w3.heap.size = n := ⟨_, rfl⟩
  rw [hLf]
  rw [hLf] at HXF
  have p5 : w5.cell? ⟨Lp, 0, none⟩ = some (.slice (some ⟨g, 0, none⟩) N cap1) := (HB35.out.cell (p := ⟨Lp, _, none⟩) zp3).trans p3
  have zp5 := Nat.lt_of_lt_of_le zp3 HB35.out.size
  clear hw5 hLf p3 zp3 d0 d1 d2 zg3
  go_wp2_with (first | (go_at_call 29; go_must (refine (HLV.out _ (HT.out.keeps HB15.out) (HPA.out.keeps HB15.out)).mono ?_; rintro e w6 ⟨⟨lb, O2, rfl, hlb, hint, hlok⟩, hb⟩; rw [HM.out]; have HB56 := Lib.hid hb; have hOO : O2 = O := hlok.unique HBX.out.b.lok; subst hOO; have HINT := Lib.hid hint; obtain ⟨Lm, hLm⟩ : ∃ x, O2.getD pc 0 = x := ⟨_, rfl⟩; have el := hint.cell (outL_get (liveL_get HPC.out)); rw [HRC.out, if_pos rfl, hLm] at el; have HLM := Lib.hid hLm; have zlb := hint.lt; have hl0 : ¬ ((Lm : Nat) : Int) < 0 := (by omega); have p6 : w6.cell? ⟨Lp, 0, none⟩ = some (.slice (some ⟨g, 0, none⟩) N cap1) := (hb.cell (p := ⟨Lp, _, none⟩) zp5).trans p5; have zp6 := Nat.lt_of_lt_of_le zp5 hb.size; clear hlb hint hlok hb hLm p5 zp5)) | (go_at_call 24; go_must (refine (HBK.out _ (HT.out.keeps (HB15.out.trans (HB56.out.mono HB15.out.size))) (HPA.out.keeps (HB15.out.trans (HB56.out.mono HB15.out.size)))).mono ?_; rintro e w4 ⟨⟨gb, Bb, bs2, rfl, hgb, hBK, hOK⟩, hb⟩; rw [HH.out]; have HB64 := Lib.hid hb; have HBLK := Lib.hid hBK; have HOK2 := Lib.hid hOK; have el4 : w4.cell? ⟨lb, pc, none⟩ = some (.int .i64 (Lm : Int)) := (hb.cell (p := ⟨lb, _, none⟩) zlb).trans el; have zlb4 := Nat.lt_of_lt_of_le zlb hb.size; clear hgb hBK hOK hb p6 zp6 el zlb hl0)))
  have HB34 : Hid (Below w3.heap.size w3 w4) := Lib.hid (HB35.out.trans ((HB56.out.trans (HB64.out.mono HB56.out.size)).mono HB35.out.size))
  have HBF : Hid (Below w5.heap.size w5 w4) := Lib.hid (HB56.out.trans (HB64.out.mono HB56.out.size))
  have HB14 : Hid (Below w1.heap.size w1 w4) := Lib.hid (HB13.out.trans (HB34.out.mono HB13.out.size))
  have HB24 : Hid (Below w2.heap.size w2 w4) := Lib.hid (HB23.out.trans (HB34.out.mono HB23.out.size))
  have HSB4 : Hid (SbAt w4 b c s V) := Lib.hid (HSB.out.keeps HB24.out)
  have KS := Lib.hid (fun (W : World) (hb : Below w4.heap.size w4 W) => (⟨(hb.cell (p := ⟨Ls, _, none⟩) (Nat.lt_of_lt_of_le (block_lt HXS.out) HB34.out.size)).trans ((HB34.out.cell (p := ⟨Ls, _, none⟩) (block_lt HXS.out)).trans (cell_block HXS.out 0)), (hb.cell (p := ⟨Ls, _, none⟩) (Nat.lt_of_lt_of_le (block_lt HXS.out) HB34.out.size)).trans ((HB34.out.cell (p := ⟨Ls, _, none⟩) (block_lt HXS.out)).trans (cell_block HXS.out 1)), (hb.cell (p := ⟨Ls, _, none⟩) (Nat.lt_of_lt_of_le (block_lt HXS.out) HB34.out.size)).trans ((HB34.out.cell (p := ⟨Ls, _, none⟩) (block_lt HXS.out)).trans (cell_block HXS.out 2)), (hb.cell (p := ⟨Lp, _, none⟩) (Nat.lt_of_lt_of_le (block_lt HXP.out) HB34.out.size)).trans ((HB34.out.cell (p := ⟨Lp, _, none⟩) (block_lt HXP.out)).trans (cell_block HXP.out 0)), (hb.cell (p := ⟨g, _, none⟩) (Nat.lt_of_lt_of_le hg HB14.out.size)).trans ((HB14.out.cell (p := ⟨g, _, none⟩) hg).trans HC0.out.1), (hb.cell (p := ⟨g, _, none⟩) (Nat.lt_of_lt_of_le hg HB14.out.size)).trans ((HB14.out.cell (p := ⟨g, _, none⟩) hg).trans HC0.out.2.2), Nat.lt_of_lt_of_le (Nat.lt_of_lt_of_le (block_lt HXS.out) HB34.out.size) hb.size, Nat.lt_of_lt_of_le (Nat.lt_of_lt_of_le (block_lt HXP.out) HB34.out.size) hb.size, Nat.lt_of_lt_of_le (Nat.lt_of_lt_of_le hg HB14.out.size) hb.size, Nat.lt_of_lt_of_le (HSB4.out.rlt .parts (g := gp) (by rw [HVP.out]; rfl)).2 hb.size⟩ :
    W.cell? ⟨Ls, 0, none⟩ = some (.int .i64 (P : Int)) ∧ W.cell? ⟨Ls, 1, none⟩ = some (.int .i64 (vl : Int)) ∧ W.cell? ⟨Ls, 2, none⟩ = some (.slice (some ⟨gp, 0, none⟩) H cp) ∧ W.cell? ⟨Lp, 0, none⟩ = some (.slice (some ⟨g, 0, none⟩) N cap1) ∧ W.cell? ⟨g, k * 3, none⟩ = some (.int .i64 (P : Int)) ∧ W.cell? ⟨g, k * 3 + 2, none⟩ = some (.slice (some ⟨gc, 0, none⟩) M fcap) ∧ Ls < W.heap.size ∧ Lp < W.heap.size ∧ g < W.heap.size ∧ gp < W.heap.size))
  have KSB := Lib.hid (fun (W : World) (hb : Below w4.heap.size w4 W) => (HSB4.out.keeps hb : SbAt W b c s V))
  have KB := Lib.hid (fun (W : World) (hb : Below w4.heap.size w4 W) (i : Nat) (hi : i < H) => (by
    obtain ⟨r, hr⟩ : ∃ r, bs2[i]? = some r := ⟨_, List.getElem?_eq_getElem (by rw [HOK2.out.len, HH.out]; exact hi)⟩
    obtain ⟨e1, e2, -, e4⟩ := HOK2.out.at_ i r hr
    obtain ⟨PA, pcap, hpv, -⟩ := own_slice (HBLK.out.rows.own i r true hr)
    have hpv' : r.pv = .slice PA r.pl.length pcap := hpv
    have zb := block_lt HBLK.out.blk
    have hpl : prevL bs i = prevF F i := prevL_eq HBX.out.b.bok (by rw [HBL.out]; exact hi)
    obtain ⟨NA, ncap, hnv, -⟩ := own_slice (HBLK.out.rows.own i r false hr)
    have hnv' : r.nv = .slice NA r.nl.length ncap := hnv
    exact ⟨PA, pcap, NA, r.nl.length, ncap, (hb.cell (p := ⟨gb, _, none⟩) zb).trans ((HBLK.out.cell hr (j := 0) (by omega)).trans (by show some (Value.int .i64 r.fr) = _; rw [e1])), (hb.cell (p := ⟨gb, _, none⟩) zb).trans ((HBLK.out.cell hr (j := 1) (by omega)).trans (by show some (Value.int .i64 r.to) = _; rw [e2])), (hb.cell (p := ⟨gb, _, none⟩) zb).trans ((HBLK.out.cell hr (j := 2) (by omega)).trans (by show some r.nv = _; rw [hnv'])), (hb.cell (p := ⟨gb, _, none⟩) zb).trans ((HBLK.out.cell hr (j := 3) (by omega)).trans (by show some r.pv = _; rw [hpv', e4, ← hpl])), Nat.lt_of_lt_of_le zb hb.size⟩ :
    ∃ PA pcap NA nn ncap, W.cell? ⟨gb, i * 4, none⟩ = some (.int .i64 (hdA F i : Int)) ∧ W.cell? ⟨gb, i * 4 + 1, none⟩ = some (.int .i64 (toF F (hdA F i) : Int)) ∧ W.cell? ⟨gb, i * 4 + 2, none⟩ = some (.slice NA nn ncap) ∧ W.cell? ⟨gb, i * 4 + 3, none⟩ = some (.slice PA (prevL bs i).length pcap) ∧ gb < W.heap.size))
  have KF := Lib.hid (fun (W : World) (hb : Below w4.heap.size w4 W) => (⟨(hb.cell (p := ⟨Lf, _, none⟩) (Nat.lt_of_lt_of_le (block_lt HXF.out) HBF.out.size)).trans ((HBF.out.cell (p := ⟨Lf, _, none⟩) (block_lt HXF.out)).trans (cell_block HXF.out 2)), Nat.lt_of_lt_of_le (Nat.lt_of_lt_of_le (block_lt HXF.out) HBF.out.size) hb.size, (hb.cell (p := ⟨lb, _, none⟩) zlb4).trans el4, Nat.lt_of_lt_of_le zlb4 hb.size⟩ :
    W.cell? ⟨Lf, 2, none⟩ = some (.slice (some ⟨gc, 0, none⟩) M fcap) ∧ Lf < W.heap.size ∧ W.cell? ⟨lb, pc, none⟩ = some (.int .i64 (Lm : Int)) ∧ lb < W.heap.size))
  have HB45 : Hid (Below w4.heap.size w4 w4) := Lib.hid (Below.refl _ _)
  clear el4 zlb4
  go_loopw [63] (fun v63 wr => ∃ i : Nat, i ≤ H ∧ v63 = .int .i64 (i : Int) ∧ (∀ j, j < i → ¬ (hdA F j ≤ pc ∧ pc < toF F (hdA F j))) ∧ Below w4.heap.size w4 wr) (fun v63 _ => H - (intOf v63).toNat)
  case atStart => exact ⟨0, by omega, rfl, fun j hj => by omega, HB45.out⟩
  case round =>
    obtain ⟨i, hiH, rfl, hno, hb⟩ := hrel
    have HB := Lib.hid hb
    have HNO := Lib.hid hno
    by_cases hi0 : i = H
    · exfalso
      obtain ⟨a, ha, h1, h2⟩ := cov_ex HRT.out HFM.out pc HPC.out HRC.out
      obtain ⟨j, hj, he⟩ := List.getElem_of_mem ha
      have hja : hdA F j = a := by unfold hdA; rw [List.getD_eq_getElem?_getD, List.getElem?_eq_getElem hj, he]; rfl
      exact hno j (by rw [hi0, ← HH.out]; exact hj) (by rw [hja]; exact ⟨h1, h2⟩)
    · have hi1 : i < H := by omega
      have hi2 : (i : Int) < H := by omega
      have hi3 : (0 : Int) ≤ i := by omega
      obtain ⟨PA, pcap, NA, nn, ncap, e0, e1, e2, e3, zgb⟩ := KB.out wr hb i hi1
      obtain ⟨a, ha⟩ : ∃ a, hdA F i = a := ⟨_, rfl⟩
      obtain ⟨tf, htf⟩ : ∃ t, toF F a = t := ⟨_, rfl⟩
      rw [ha] at e0 e1
      rw [htf] at e1
      have HAE := Lib.hid ha
      have HTF := Lib.hid htf
      obtain ⟨pn, hpn⟩ : ∃ n, (prevL bs i).length = n := ⟨_, rfl⟩
      rw [hpn] at e3
      clear hb hno hi0 ha htf hpn
      by_cases hin : a ≤ pc ∧ pc < tf
      · have hin1 : ¬ (pc : Int) < a := by omega
        have hin2 : ¬ (tf : Int) ≤ pc := by omega
        have hin3 := hin.1
        have HIN := Lib.hid hin
        clear hin
        go_upto_region 15 with fail
        obtain ⟨wb, hwb⟩ : ∃ W, wr.alloc (.cells #[.int .i64 (a : Int), .int .i64 (tf : Int), .slice NA nn ncap, .slice PA pn pcap] 84) = W := ⟨_, rfl⟩
        have HBb : Hid (Below w4.heap.size w4 wb) := Lib.hid (hwb ▸ HB.out.alloc HB.out.size _)
        rw [hwb]
        clear hwb e0 e1 e2 e3 zgb
        have hib : i < bs.length := by rw [HBL.out]; exact hi1
        have his : i < s.parts.length := by rw [HFP.out.len]; exact hib
        have hsb := KSB.out wb HBb.out
        obtain ⟨m, hm⟩ : ∃ n, (s.part i).ins.length = n := ⟨_, rfl⟩
        have hmt : m = tf - a := by rw [← hm, HFP.out.il i hib, HAE.out, HTF.out]
        obtain ⟨Ai, ci, hvi, -, hiA⟩ := hsb.rowV (.ins i) (n := m) hm
        obtain ⟨gi, rfl, -, -⟩ := hiA (by have := HIN.out.2; omega)
        have HVI := Lib.hid hvi
        have k2 := (hsb.partCell HFP.out.inn HVP.out his).2
        rw [hvi] at k2
        have hR12 : (s.part i).inn.length = 12 := by
          unfold SB.part
          rw [List.getD_eq_getElem?_getD, List.getElem?_eq_getElem his]
          exact HFP.out.inn _ (List.getElem_mem his)
        have hrg := hsb.innRange HFP.out.inn HVP.out his
        have HAT0 := Lib.hid (show atR s F i 0 = (s.part i).inn from rfl)
        obtain ⟨R0, hR0⟩ : ∃ R, (s.part i).inn = R := ⟨_, rfl⟩
        rw [hR0] at hR12 hrg HAT0
        have HRG := Lib.hid hrg
        have HR12 := Lib.hid hR12
        have HMT := Lib.hid hmt
        have HIB := Lib.hid hib
        have HIS := Lib.hid his
        have HM1 := Lib.hid hm
        obtain ⟨s0, s1', s2', s3, s4, s5, z0, z1, z2, z3⟩ := KS.out wb HBb.out
        clear hsb hvi hiA hib his hm hR0 hR12 hrg s0 s1' s3 s4 s5 z1 z2
        obtain ⟨Lr, hLr⟩ : ∃ n, wb.heap.size = n := ⟨_, rfl⟩
        have HLR := Lib.hid (show w4.heap.size ≤ Lr by rw [← hLr]; exact HBb.out.size)
        have HLRE := Lib.hid hLr
        clear hLr
        go_wp2_with (first | (refine wpList_load_mid (by rfl) 48 _ (by rfl) gp (i * 15 + 3) (by rfl) (intsV R0) _ HRG.out Tryd.underlying48 (by rfl) (boxI_info HR12.out) ?_) | (refine wpList_store_mid (by rfl) 48 _ _ (by rfl) wb.heap.size 0 (intsV R0).toArray (by rfl) (by rfl) (there_block (heap_alloc_new wb _) (by simp [intsV, HR12.out])) (by simpa using boxI_info HR12.out) (boxI_one R0) ?_; obtain ⟨wc, hwc⟩ : ∃ W, (wb.alloc (.cells #[.int .i64 0, .int .i64 0, .int .i64 0, .int .i64 0, .int .i64 0, .int .i64 0, .int .i64 0, .int .i64 0, .int .i64 0, .int .i64 0, .int .i64 0, .int .i64 0] 48)).setCells wb.heap.size 0 (intsV R0).toArray.toList = W := ⟨_, rfl⟩; have HXR : Hid (wc.heap[Lr]? = some (boxI R0)) := Lib.hid (hwc ▸ HLRE.out ▸ box_fill (heap_alloc_new wb _) R0 (by simp [intsV, HR12.out])); have HBc : Hid (Below w4.heap.size w4 wc) := Lib.hid (hwc ▸ below_setCells HBb.out.size _ _ _ (HBb.out.alloc HBb.out.size _)); have hcell : wc.cell? ⟨gp, i * 15 + 2, none⟩ = some (.slice (some ⟨gi, 0, none⟩) m ci) := (((KSB.out wc HBc.out).partCell HFP.out.inn HVP.out HIS.out).2).trans (by rw [HVI.out]); rw [hwc, HLRE.out]; clear hwc k2 s2' z0 z3; obtain ⟨s0, s1', s2', s3, s4, s5, z0, z1, z2, z3⟩ := KS.out wc HBc.out; clear s0 s1' s3 s4 s5 z1 z2))
        clear hcell s2' z0 z3
        go_loopw [91] (fun v91 wr => ∃ t : Nat, t ≤ pc - a ∧ v91 = .int .i64 (t : Int) ∧ wr.heap[Lr]? = some (boxI (atR s F i t)) ∧ Below w4.heap.size w4 wr) (fun v91 _ => m - (intOf v91).toNat)
        case atStart => exact ⟨0, by omega, rfl, by rw [HAT0.out]; exact HXR.out, HBc.out⟩
        case round =>
          obtain ⟨t, htp, rfl, hxr, hb⟩ := hrel
          clear HXR
          have HXR := Lib.hid hxr
          have HBd := Lib.hid hb
          have htm : t < m := by have := HIN.out.2; omega
          have ht1 : (t : Int) < m := by omega
          have ht0 : (0 : Int) ≤ t := by omega
          have htl : t < (s.part i).ins.length := by rw [HM1.out]; exact htm
          obtain ⟨q0, q1, q2, q3, q4, q5⟩ := (KSB.out wr hb).insCell (k := t) HVI.out htl
          have hpx := (HFP.out.iop i t HIB.out htl).2.2
          rw [HAE.out] at hpx
          rw [hpx] at q5
          have HSET := Lib.hid (HFP.out.iset i t HIB.out htl)
          have HATS := Lib.hid (show atR s F i (t + 1) = if 0 ≤ (s.insA i t).id then (atR s F i t).set (insAt F (hdA F i + t)).dst.toNat (s.insA i t).id else atR s F i t from rfl)
          rw [HAE.out] at HATS HSET
          obtain ⟨jo, hjo⟩ : ∃ x, (s.insA i t).op = x := ⟨_, rfl⟩
          obtain ⟨jd, hjd⟩ : ∃ x, (s.insA i t).id = x := ⟨_, rfl⟩
          obtain ⟨ja, hja⟩ : ∃ x, (s.insA i t).a = x := ⟨_, rfl⟩
          obtain ⟨jb, hjb⟩ : ∃ x, (s.insA i t).b = x := ⟨_, rfl⟩
          obtain ⟨jm, hjm⟩ : ∃ x, (s.insA i t).imm = x := ⟨_, rfl⟩
          rw [hjo] at q0
          rw [hjd] at q1 HATS HSET
          rw [hja] at q2
          rw [hjb] at q3
          rw [hjm] at q4
          obtain ⟨Rt, hRt⟩ : ∃ R, atR s F i t = R := ⟨_, rfl⟩
          have hRtl : Rt.length = 12 := by rw [← hRt]; exact atR_len (by
            unfold SB.part
            rw [List.getD_eq_getElem?_getD, List.getElem?_eq_getElem HIS.out]
            exact HFP.out.inn _ (List.getElem_mem HIS.out)) t
          rw [hRt] at HATS HXR
          have HRT2 := Lib.hid hRt
          have HRL := Lib.hid hRtl
          have zgi := Nat.lt_of_lt_of_le (HSB4.out.rlt (.ins i) (g := gi) (by rw [HVI.out]; rfl)).2 hb.size
          obtain ⟨Lx, hLx⟩ : ∃ n, wr.heap.size = n := ⟨_, rfl⟩
          have HLX := Lib.hid (show Lr < Lx by rw [← hLx]; exact block_lt hxr)
          clear hjo hjd hja hjb hjm hRt hRtl hxr hpx htl
          by_cases hbr : t = pc - a
          · have hpc : a + t = pc := by omega
            rw [hpc] at q5
            have HBR := Lib.hid hbr
            clear hbr hpc
            go_upto_region 19 with fail
            obtain ⟨wx, hwx⟩ : ∃ W, wr.alloc (.cells #[.int .i64 jo, .int .i64 jd, .int .i64 ja, .int .i64 jb, .int .i64 jm, .int .i64 (pc : Int)] 52) = W := ⟨_, rfl⟩
            have hbx : Below wr.heap.size wr wx := hwx ▸ (Below.refl _ _).alloc (Nat.le_refl _) _
            have HBx : Hid (Below w4.heap.size w4 wx) := Lib.hid (HBd.out.trans (hbx.mono HBd.out.size))
            have HXX : Hid (wx.heap[Lx]? = some (.cells #[.int .i64 jo, .int .i64 jd, .int .i64 ja, .int .i64 jb, .int .i64 jm, .int .i64 (pc : Int)] 52 (0, 0))) := Lib.hid (hwx ▸ hLx ▸ heap_alloc_new _ _)
            have HXRx : Hid (wx.heap[Lr]? = some (boxI Rt)) := Lib.hid ((hbx.block Lr (block_lt HXR.out)).trans HXR.out)
            rw [hwx]
            clear hwx hbx q0 q1 q2 q3 q4 q5 zgi hLx
            have r5 : wx.cell? ⟨Lx, 5, none⟩ = some (.int .i64 (pc : Int)) := cell_block HXX.out 5
            have r1 : wx.cell? ⟨Lx, 1, none⟩ = some (.int .i64 jd) := cell_block HXX.out 1
            have zLx := block_lt HXX.out
            clear r1 hb ht1 ht0
            go_wp2_with fail
            clear r5 zLx
            have HRB := Lib.hid (show atR s F i (pc - a) = Rt by rw [← HBR.out]; exact HRT2.out)
            go_loopw [113] (fun v113 wy => ∃ r : Nat, r ≤ 12 ∧ v113 = .int .i64 (r : Int) ∧ wy.heap[Lr]? = some (boxI (hidR Lm Rt r)) ∧ Below w4.heap.size w4 wy) (fun v113 _ => 12 - (intOf v113).toNat)
            case atStart => exact ⟨0, by omega, rfl, by rw [hidR_zero Lm HRL.out]; exact HXRx.out, HBx.out⟩
            case round =>
              obtain ⟨r, hr12, rfl, hxy, hby⟩ := hrel
              rename World => wy
              have HXY := Lib.hid hxy
              have HBY := Lib.hid hby
              have zLr := block_lt hxy
              by_cases hr0 : r = 12
              · subst hr0
                have HYL := Lib.hid (hidR_len Lm Rt 12)
                obtain ⟨RF, hRF⟩ : ∃ R, hidR Lm Rt 12 = R := ⟨_, rfl⟩
                rw [hRF] at HXY HYL
                have HRF := Lib.hid hRF
                obtain ⟨i0, hI0, hz0, hz1, hz2⟩ := info_parts infoInt
                clear hxy hby hRF
                go_wp2_with (at_builtin; go_must (refine wpList_append_own _ rfl _ _ 37 rfl wy.heap.size 3 i0 _ 1 8 Tryd.underlying37 hI0 hz0 hz1 hz2 rfl (by decide) (.slice none 0 0) 0 [] rfl (World.ownsRow_nil _ _ _ _) ⟨Lr, 0, none⟩ 12 12 (intsV RF) rfl (by simp [intsV, HYL.out]) (World.news_of_block (cs := (intsV RF).toArray) (t := 48) (fr := (0, 0)) HXY.out) (by simp [intsV, Value.oneCell']) (by unfold maxLen; omega) (by omega) (Nat.le_refl _) ?_); intro v9 w9 hown9 hg9 _; have HO9 := Lib.hid hown9; have HB9 := Lib.hid (HBY.out.grown hg9 HBY.out.size (fun k hk => by cases hk)); clear hown9 hg9)
                obtain ⟨A9, cap9, hv9, hA9⟩ := own_slice HO9.out
                obtain ⟨g9, rfl, hg9, hcell⟩ := hA9 (by omega)
                have hlo := World.ownsRow.lt HO9.out g9 (by rw [hv9]; rfl)
                subst hv9
                refine bodyPost_ret (v := .tuple #[.slice (some ⟨g9, 0, none⟩) 12 cap9, .int .i64 0]) (by simp [results, Tryd.results20]) rfl ⟨⟨O2, bs, _, _, s2, l, s, i, g9, cap9, HBX.out, HIB.out, by rw [HAE.out]; exact HIN.out.1, by rw [HAE.out, HTF.out]; exact HIN.out.2, rfl, by have h1 := HB14.out.size; have h2 := HBY.out.size; omega, hlo.2, fun r hr => ?_⟩, HB14.out.trans (HB9.out.mono HB14.out.size)⟩
                rw [hcell r (by omega), List.nil_append, ← HRF.out]
                unfold intsV
                rw [List.getElem?_map, hidR_get Lm Rt 12 hr, HAE.out, HRB.out, HLM.out]
                show some (Value.int .i64 _) = _
                cases Lm.testBit r with
                | true => rw [if_neg (fun h => by cases h.2), if_pos rfl]
                | false => rw [if_pos ⟨hr, rfl⟩, if_neg (by simp)]
              · have hr1 : (r : Int) < 12 := by omega
                have hr2 : (0 : Int) ≤ r := by omega
                have hr3 : r < 12 := by omega
                have hdv : (Lm : Int) / 2 ^ r = ((Lm / 2 ^ r : Nat) : Int) := by push_cast; rfl
                have hba := live_nat3 Lm r
                have htb : Lm.testBit r = decide (Lm / 2 ^ r % 2 = 1) := Nat.testBit_eq_decide_div_mod_eq
                obtain ⟨d, hd⟩ : ∃ d, Lm / 2 ^ r = d := ⟨_, rfl⟩
                rw [hd] at hdv hba htb
                obtain ⟨f2, zf, el, zlb⟩ := KF.out wy HBY.out
                clear hd hby f2 zf
                by_cases hbit : d % 2 = 1
                · have hba1 : bits .and .i64 (d : Int) 1 = 1 := by rw [hba, hbit]; rfl
                  have HTB := Lib.hid (show Lm.testBit r = true by rw [htb, hbit]; rfl)
                  clear hba htb hbit
                  go_wp2_with fail
                  go_roundw
                  case rel => exact ⟨r + 1, by omega, by go_num, by rw [hidR_live Lm Rt HTB.out]; exact HXY.out, HBY.out⟩
                  case measure => simp [intOf]; omega
                · have hba1 : bits .and .i64 (d : Int) 1 = 0 := by rw [hba, show d % 2 = 0 by omega]; rfl
                  have HTB := Lib.hid (show Lm.testBit r = false by rw [htb]; exact decide_eq_false hbit)
                  have cbL := boxI_cell hxy (j := r) (by rw [hidR_len]; exact hr3)
                  have fbL := frozen_block hxy
                  clear hba htb hbit hxy
                  go_wp2_with fail
                  go_roundw
                  case rel => exact ⟨r + 1, by omega, by go_num, by rw [hidR_dead Lm Rt hr3 HTB.out]; exact box_put HXY.out r (-1), HBY.out.setCell HLR.out _⟩
                  case measure => simp [intOf]; omega
          · have hne : ¬ ((a + t : Nat) : Int) = pc := by omega
            obtain ⟨pt, hpt⟩ : ∃ n, a + t = n := ⟨_, rfl⟩
            rw [hpt] at q5 hne HATS HSET
            have e1 : (((pt : Nat) : Int) == (pc : Int)) = false := beq_eq_false_iff_ne.2 hne
            have e2 : decide ((pt : Nat) = pc) = false := decide_eq_false (by omega)
            have e3 : decide (((pt : Nat) : Int) = (pc : Int)) = false := decide_eq_false hne
            have hptM : pt < M := by omega
            have HPT := Lib.hid hpt
            have HBR := Lib.hid (show t < pc - a by omega)
            clear hbr hpt
            go_upto_region 19 with fail
            obtain ⟨wx, hwx⟩ : ∃ W, wr.alloc (.cells #[.int .i64 jo, .int .i64 jd, .int .i64 ja, .int .i64 jb, .int .i64 jm, .int .i64 (pt : Int)] 52) = W := ⟨_, rfl⟩
            have hbx : Below wr.heap.size wr wx := hwx ▸ (Below.refl _ _).alloc (Nat.le_refl _) _
            have HBx : Hid (Below w4.heap.size w4 wx) := Lib.hid (HBd.out.trans (hbx.mono HBd.out.size))
            have HXX : Hid (wx.heap[Lx]? = some (.cells #[.int .i64 jo, .int .i64 jd, .int .i64 ja, .int .i64 jb, .int .i64 jm, .int .i64 (pt : Int)] 52 (0, 0))) := Lib.hid (hwx ▸ hLx ▸ heap_alloc_new _ _)
            have HXRx : Hid (wx.heap[Lr]? = some (boxI Rt)) := Lib.hid ((hbx.block Lr (block_lt HXR.out)).trans HXR.out)
            rw [hwx]
            clear hwx hbx q0 q1 q2 q3 q4 q5 zgi hLx
            have r5 : wx.cell? ⟨Lx, 5, none⟩ = some (.int .i64 (pt : Int)) := cell_block HXX.out 5
            have r1 : wx.cell? ⟨Lx, 1, none⟩ = some (.int .i64 jd) := cell_block HXX.out 1
            have zLx := block_lt HXX.out
            by_cases hjd0 : 0 ≤ jd
            · have hjd1 : decide (jd ≥ 0) = true := decide_eq_true hjd0
              have hpr := HINS.out pt (insAt F pt) (by unfold insAt; rw [List.getD_eq_getElem?_getD, List.getElem?_eq_getElem (by rw [HM.out]; exact hptM)]; rfl)
              have hio := HFO.out.ins _ (List.mem_of_getElem? (show F.code[pt]? = some (insAt F pt) by unfold insAt; rw [List.getD_eq_getElem?_getD, List.getElem?_eq_getElem (by rw [HM.out]; exact hptM)]; rfl))
              obtain ⟨dd, hdd⟩ : ∃ n : Nat, (insAt F pt).dst = n := ⟨(insAt F pt).dst.toNat, by have := hio.dst1; omega⟩
              have hdd12 : dd < 12 := by have h1 := hio.dst2; have h2 := HFO.out.r2; omega
              rw [hdd, if_pos hjd0] at HATS
              have hdd1 : (dd : Int) < 12 := by omega
              have hdd0 : (0 : Int) ≤ dd := by omega
              have hpt1 : (pt : Int) < M := by omega
              have hpt0 : (0 : Int) ≤ pt := by omega
              have gd : wx.cell? ⟨gc, pt * 5 + 1, none⟩ = some (.int .i64 (dd : Int)) := by
                have h1 := hpr.2.1
                rw [hdd] at h1
                exact (HBx.out.cell (p := ⟨gc, _, none⟩) (Nat.lt_of_lt_of_le HGC.out HB14.out.size)).trans ((HB14.out.cell (p := ⟨gc, _, none⟩) HGC.out).trans h1)
              have zgc : gc < wx.heap.size := Nat.lt_of_lt_of_le (Nat.lt_of_lt_of_le HGC.out HB14.out.size) HBx.out.size
              have HGCN := Lib.hid (show Lr ≠ gc by have h1 := HLR.out; have h2 := Nat.lt_of_lt_of_le HGC.out HB14.out.size; omega)
              obtain ⟨f2, zf, el, zlb⟩ := KF.out wx HBx.out
              have cbL := boxI_cell HXRx.out (j := dd) (by rw [HRL.out]; exact hdd12)
              have fbL := frozen_block HXRx.out
              have zL := block_lt HXRx.out
              have HKS : Hid ((wx.drew.setCell ⟨Lr, dd, none⟩ (.int .i64 jd)).cell? ⟨Lf, 2, none⟩ = some (.slice (some ⟨gc, 0, none⟩) M fcap) ∧ (wx.drew.setCell ⟨Lr, dd, none⟩ (.int .i64 jd)).cell? ⟨Lx, 5, none⟩ = some (.int .i64 (pt : Int)) ∧ (wx.drew.setCell ⟨Lr, dd, none⟩ (.int .i64 jd)).cell? ⟨gc, pt * 5 + 1, none⟩ = some (.int .i64 (dd : Int)) ∧ (wx.drew.setCell ⟨Lr, dd, none⟩ (.int .i64 jd)).cell? ⟨Lx, 1, none⟩ = some (.int .i64 jd)) := Lib.hid (by
                have hB : Below w4.heap.size w4 (wx.drew.setCell ⟨Lr, dd, none⟩ (.int .i64 jd)) := HBx.out.drew.setCell HLR.out _
                have hX : (wx.drew.setCell ⟨Lr, dd, none⟩ (.int .i64 jd)).heap[Lx]? = _ := block_set_ne (b' := Lr) HXX.out (Nat.ne_of_lt HLX.out) dd (.int .i64 jd)
                refine ⟨(KF.out _ hB).1, cell_block hX 5, ?_, cell_block hX 1⟩
                have h1 := hpr.2.1
                rw [hdd] at h1
                exact (hB.cell (p := ⟨gc, _, none⟩) (Nat.lt_of_lt_of_le HGC.out HB14.out.size)).trans ((HB14.out.cell (p := ⟨gc, _, none⟩) HGC.out).trans h1))
              clear hpr hio hb el zlb
              go_upto_region 21 with fail
              refine wp_region_held_drew (S := fun w' => w'.cell? ⟨Lf, 2, none⟩ = some (.slice (some ⟨gc, 0, none⟩) M fcap) ∧ w'.cell? ⟨Lx, 5, none⟩ = some (.int .i64 (pt : Int)) ∧ w'.cell? ⟨gc, pt * 5 + 1, none⟩ = some (.int .i64 (dd : Int)) ∧ w'.cell? ⟨Lx, 1, none⟩ = some (.int .i64 jd)) (by kernel_rfl) ⟨f2, r5, gd, r1⟩ (fun hHeld => ?_)
              refine wpAnyH_take (i := 0) (v := .pointer (some ⟨Lf, 2, none⟩)) rfl (by kernel_rfl) (by kernel_rfl) (by kernel_rfl) (fun _ _ _ h => h) (Or.inl ⟨by rfl, ?_⟩) hHeld ?_
              · intro w hSw
                simp only [List.getElem_toArray, List.getElem_cons_zero]
                go_simp
              simp only [Act.put, List.getElem_toArray, List.getElem_cons_zero, List.setIfInBounds_toArray, List.set_cons_zero, List.set_cons_succ]
              refine wpAnyH_take (i := 1) (v := .slice (some ⟨gc, 0, none⟩) M fcap) rfl (by kernel_rfl) (by kernel_rfl) (by kernel_rfl) (fun _ _ _ h => h) (Or.inl ⟨by rfl, ?_⟩) hHeld ?_
              · intro w hSw
                obtain ⟨p0, p1, p2, p3⟩ := hSw
                simp only [List.getElem_toArray, List.getElem_cons_zero, List.getElem_cons_succ]
                go_simp
              simp only [Act.put, List.getElem_toArray, List.getElem_cons_zero, List.getElem_cons_succ, List.setIfInBounds_toArray, List.set_cons_zero, List.set_cons_succ]
              refine wpAnyH_take (i := 2) (v := .pointer (some ⟨Lx, 5, none⟩)) rfl (by kernel_rfl) (by kernel_rfl) (by kernel_rfl) (fun _ _ _ h => h) (Or.inl ⟨by rfl, ?_⟩) hHeld ?_
              · intro w hSw
                simp only [List.getElem_toArray, List.getElem_cons_zero, List.getElem_cons_succ]
                go_simp
              simp only [Act.put, List.getElem_toArray, List.getElem_cons_zero, List.getElem_cons_succ, List.setIfInBounds_toArray, List.set_cons_zero, List.set_cons_succ]
              refine wpAnyH_take (i := 3) (v := .int .i64 (pt : Int)) rfl (by kernel_rfl) (by kernel_rfl) (by kernel_rfl) (fun _ _ _ h => h) (Or.inl ⟨by rfl, ?_⟩) hHeld ?_
              · intro w hSw
                obtain ⟨p0, p1, p2, p3⟩ := hSw
                simp only [List.getElem_toArray, List.getElem_cons_zero, List.getElem_cons_succ]
                go_simp
              simp only [Act.put, List.getElem_toArray, List.getElem_cons_zero, List.getElem_cons_succ, List.setIfInBounds_toArray, List.set_cons_zero, List.set_cons_succ]
              refine wpAnyH_take (i := 4) (v := .pointer (some ⟨gc, pt * 5, none⟩)) rfl (by kernel_rfl) (by kernel_rfl) (by kernel_rfl) (fun _ _ _ h => h) (Or.inl ⟨by rfl, ?_⟩) hHeld ?_
              · intro w hSw
                simp only [List.getElem_toArray, List.getElem_cons_zero, List.getElem_cons_succ]
                go_simp
              simp only [Act.put, List.getElem_toArray, List.getElem_cons_zero, List.getElem_cons_succ, List.setIfInBounds_toArray, List.set_cons_zero, List.set_cons_succ]
              refine wpAnyH_take (i := 5) (v := .pointer (some ⟨gc, pt * 5 + 1, none⟩)) rfl (by kernel_rfl) (by kernel_rfl) (by kernel_rfl) (fun _ _ _ h => h) (Or.inl ⟨by rfl, ?_⟩) hHeld ?_
              · intro w hSw
                simp only [List.getElem_toArray, List.getElem_cons_zero, List.getElem_cons_succ]
                go_simp
              simp only [Act.put, List.getElem_toArray, List.getElem_cons_zero, List.getElem_cons_succ, List.setIfInBounds_toArray, List.set_cons_zero, List.set_cons_succ]
              refine wpAnyH_take (i := 6) (v := .int .i64 (dd : Int)) rfl (by kernel_rfl) (by kernel_rfl) (by kernel_rfl) (fun _ _ _ h => h) (Or.inl ⟨by rfl, ?_⟩) hHeld ?_
              · intro w hSw
                obtain ⟨p0, p1, p2, p3⟩ := hSw
                simp only [List.getElem_toArray, List.getElem_cons_zero, List.getElem_cons_succ]
                go_simp
              simp only [Act.put, List.getElem_toArray, List.getElem_cons_zero, List.getElem_cons_succ, List.setIfInBounds_toArray, List.set_cons_zero, List.set_cons_succ]
              refine wpAnyH_take (i := 7) (v := .pointer (some ⟨Lx, 1, none⟩)) rfl (by kernel_rfl) (by kernel_rfl) (by kernel_rfl) (fun _ _ _ h => h) (Or.inl ⟨by rfl, ?_⟩) hHeld ?_
              · intro w hSw
                simp only [List.getElem_toArray, List.getElem_cons_zero, List.getElem_cons_succ]
                go_simp
              simp only [Act.put, List.getElem_toArray, List.getElem_cons_zero, List.getElem_cons_succ, List.setIfInBounds_toArray, List.set_cons_zero, List.set_cons_succ]
              refine wpAnyH_take (i := 8) (v := .int .i64 jd) rfl (by kernel_rfl) (by kernel_rfl) (by kernel_rfl) (fun _ _ _ h => h) (Or.inl ⟨by rfl, ?_⟩) hHeld ?_
              · intro w hSw
                obtain ⟨p0, p1, p2, p3⟩ := hSw
                simp only [List.getElem_toArray, List.getElem_cons_zero, List.getElem_cons_succ]
                go_simp
              simp only [Act.put, List.getElem_toArray, List.getElem_cons_zero, List.getElem_cons_succ, List.setIfInBounds_toArray, List.set_cons_zero, List.set_cons_succ]
              refine wpAnyH_take (i := 9) (v := .pointer (some ⟨Lr, dd, none⟩)) rfl (by kernel_rfl) (by kernel_rfl) (by kernel_rfl) (fun _ _ _ h => h) (Or.inl ⟨by rfl, ?_⟩) hHeld ?_
              · intro w hSw
                simp only [List.getElem_toArray, List.getElem_cons_zero, List.getElem_cons_succ]
                go_simp
              simp only [Act.put, List.getElem_toArray, List.getElem_cons_zero, List.getElem_cons_succ, List.setIfInBounds_toArray, List.set_cons_zero, List.set_cons_succ]
              refine wpAnyH_ready (rs := [10]) (by kernel_rfl) (by simp) ?_
              refine AllReadyH.cons rfl (fun K hK => ?_) AllReadyH.nil
              simp only [List.getElem_toArray, List.getElem_cons_zero, List.getElem_cons_succ]
              go_simp
              refine hK.out _ _ HKS.out (fun hHeld => ?_)
              clear hK K
              clear hHeld
              refine wpAnyH_done (by kernel_rfl) ?_ _
              go_wp2_with fail
              go_roundw
              case rel => exact ⟨t + 1, by have := HBR.out; omega, by go_num, by rw [HATS.out]; exact box_put HXRx.out dd jd, HBx.out.drew.setCell HLR.out _⟩
              case measure => simp [intOf]; omega
            · have hjd1 : decide (jd ≥ 0) = false := decide_eq_false hjd0
              rw [if_neg hjd0] at HATS
              clear hb
              go_wp2_with fail
              go_roundw
              case rel => exact ⟨t + 1, by have := HBR.out; omega, by go_num, by rw [HATS.out]; exact HXRx.out, HBx.out⟩
              case measure => simp [intOf]; omega
      · by_cases hpa : (pc : Int) < a
        · have HIN := Lib.hid hin
          clear hin
          go_wp2_with fail
          go_roundw
          case rel => exact ⟨i + 1, by omega, by go_num, fun j hj => by
            by_cases e : j = i
            · subst e; rw [HAE.out, HTF.out]; exact HIN.out
            · exact HNO.out j (by omega), HB.out.alloc HB.out.size _⟩
          case measure => simp [intOf]; omega
        · have hpt : (tf : Int) ≤ pc := by omega
          have HIN := Lib.hid hin
          clear hin
          go_wp2_with fail
          go_roundw
          case rel => exact ⟨i + 1, by omega, by go_num, fun j hj => by
            by_cases e : j = i
            · subst e; rw [HAE.out, HTF.out]; exact HIN.out
            · exact HNO.out j (by omega), HB.out.alloc HB.out.size _⟩
          case measure => simp [intOf]; omega
end Go.Proofs.YtfdppmjoinodgaaDoor
