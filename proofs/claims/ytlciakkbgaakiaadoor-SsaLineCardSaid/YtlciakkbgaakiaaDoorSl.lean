/-
  The walk of SsaLine: it returns true.
-/
import Derived.Test.YtlciakkbgaakiaaDoorSlP
import Derived.Test.YtlciakkbgaakiaaDoorMd
import Derived.Test.YtlciakkbgaakiaaDoorPgS
import Derived.Test.YtlciakkbgaakiaaDoorOpn
namespace Go.Proofs.YtlciakkbgaakiaaDoor
open Go.RowKit Tier
theorem codeCells_get {l : List Ins} {q : Nat} {x : Ins} (h : l[q]? = some x) {t : Nat} (ht : t < 5) : (codeCells l)[q * 5 + t]? = x.cells[t]? := by
  rw [codeCells, flat_get Ins.cells 5 l (fun _ _ => rfl) q t ht, h]; rfl
theorem linC_len (c : List Ins) : (linC c).length ≤ c.length := List.length_filter_le _ _
theorem setN_len (c : List Ins) : setN c ≤ c.length := List.countP_le_length
theorem setN_snoc (c : List Ins) (x : Ins) : setN (c ++ [x]) = setN c + if x.op = 14 then 0 else 1 := by
  unfold setN
  rw [List.countP_append]
  by_cases e : x.op = 14
  · rw [if_pos e]; simp [e]
  · rw [if_neg e]; simp [e]
set_option maxRecDepth 100000 in
set_option maxHeartbeats 8000000 in
theorem ssaLine_walk (A : Option Addr) (l : List Fnc) (cap : Nat) (w : World) (ht : Tab w) (hraw : RawsAt w A l) (hln : (l.length : Int) ≤ 9223372036854775807) :
    Calls Tryd.prog 3 #[.slice A l.length cap] w fun e w' => e = .returned (.bool true) ∧ Below w.heap.size w w' := by
  have HT := Lib.hid ht
  have HR := Lib.hid hraw
  have HCK := Lib.hid (mkP_right l)
  clear ht hraw
  go_enter Tryd.func3, Tryd.ntmps3
  go_wp2_with fail
  refine (program_any A cap l _ HT.out hln HR.out).mono ?_
  rintro e w1 ⟨⟨A1, cap1, vs, rfl, hpv⟩, hb1⟩
  have HB1 := Lib.hid hb1
  clear hb1
  generalize mkP l = p at *
  have hok := (right_of HCK.out).ok
  have hl1 := hok.l1
  have hl2 := hok.l2
  obtain ⟨f, p', rfl⟩ : ∃ f p', p = f :: p' := by
    cases p with
    | nil => simp at hl1
    | cons f p' => exact ⟨f, p', rfl⟩
  have hfo := hok.fn f (by simp)
  obtain ⟨u, vs', rfl⟩ : ∃ u vs', vs = u :: vs' := by
    have := hpv.len
    cases vs with
    | nil => simp at this
    | cons u vs' => exact ⟨u, vs', rfl⟩
  obtain ⟨A0, cap0, hA0, hA⟩ := hpv.at.slice
  simp only [Value.slice.injEq, true_and] at hA0
  obtain ⟨g, hAg, hg, -⟩ := hA (by omega)
  obtain ⟨rfl, rfl⟩ := hA0
  subst hAg
  obtain ⟨FA, fcap, rfl, hFA⟩ := CodeAt.slice ⟨_, hpv.code 0 u f rfl rfl⟩
  simp only [List.length_cons] at hpv hl1 hl2 hg ⊢
  obtain ⟨c0, c1, c2, hBg, -, hfz⟩ := hpv.first
  have n1 := hfo.c1
  have n2 := hfo.c2
  obtain ⟨gc, rfl, hgc, hins⟩ := hFA (by omega)
  obtain ⟨P, hP⟩ : ∃ n : Nat, f.params = n := ⟨f.params.toNat, by have := hfo.p1; omega⟩
  have hP2 : P ≤ 2 := by have := hfo.p2; omega
  have HC40 := Lib.hid (fun (f' : Fnc) (hf : f' ∈ p') => (hok.fn f' (.tail _ hf)).c2)
  have HPP := Lib.hid hP
  have HINS := Lib.hid hins
  have HPV := Lib.hid hpv
  obtain ⟨M, hM⟩ : ∃ n, f.code.length = n := ⟨_, rfl⟩
  obtain ⟨N, hN⟩ : ∃ n, p'.length + 1 = n := ⟨_, rfl⟩
  have HM := Lib.hid hM
  have HN := Lib.hid hN
  rw [hM] at n1 n2 c2
  rw [hN] at hl1 hl2 ⊢
  rw [hP] at c0
  have HXA := Lib.hid ((Below.refl w1.heap.size w1).alloc (Nat.le_refl _) (.cells #[.slice (some ⟨g, 0, none⟩) N cap1] 25))
  have hfz2 := hfz 2
  clear hA hFA hins hpv hok hfo hP hM hN hfz
  go_upto_region 2 with fail
  obtain ⟨w2, hw2⟩ : ∃ W, w1.alloc (.cells #[.slice (some ⟨g, 0, none⟩) N cap1] 25) = W := ⟨_, rfl⟩
  obtain ⟨Lp, hLp⟩ : ∃ n, w1.heap.size = n := ⟨_, rfl⟩
  have HX2 : Hid (w2.heap[Lp]? = some (.cells #[.slice (some ⟨g, 0, none⟩) N cap1] 25 (0, 0))) := Lib.hid (hw2 ▸ hLp ▸ heap_alloc_new _ _)
  have HB12 : Hid (Below w1.heap.size w1 w2) := Lib.hid (hw2 ▸ HXA.out)
  have HLPG := Lib.hid (show g < Lp by rw [← hLp]; exact hg)
  have HS2 := Lib.hid (show w2.heap.size = Lp + 1 by rw [← hw2, ← hLp]; simp)
  rw [hw2, hLp]
  have KW := Lib.hid (fun (W : World) (hb : Below w2.heap.size w2 W) => (⟨(hb.cell (p := ⟨Lp, _, none⟩) (block_lt HX2.out)).trans (cell_block HX2.out 0), (hb.cell (p := ⟨g, _, none⟩) (Nat.lt_of_lt_of_le hg HB12.out.size)).trans ((HB12.out.cell (p := ⟨g, _, none⟩) hg).trans c2), Nat.lt_of_lt_of_le (block_lt HX2.out) hb.size, Nat.lt_of_lt_of_le (Nat.lt_of_lt_of_le hg HB12.out.size) hb.size, Nat.lt_of_lt_of_le (Nat.lt_of_lt_of_le hgc HB12.out.size) hb.size, (hb.frozen (p := ⟨g, _, none⟩) (Nat.lt_of_lt_of_le hg HB12.out.size)).trans ((HB12.out.frozen (p := ⟨g, _, none⟩) hg).trans hfz2)⟩ :
    W.cell? ⟨Lp, 0, none⟩ = some (.slice (some ⟨g, 0, none⟩) N cap1) ∧ W.cell? ⟨g, 2, none⟩ = some (.slice (some ⟨gc, 0, none⟩) M fcap) ∧ Lp < W.heap.size ∧ g < W.heap.size ∧ gc < W.heap.size ∧ W.frozen? ⟨g, 2, none⟩ = false))
  have KI := Lib.hid (fun (W : World) (hb : Below w2.heap.size w2 W) (i : Nat) (x : Ins) (hx : f.code[i]? = some x) => (by
    obtain ⟨h0, h1, h2, h3, h4⟩ := HINS.out i x hx
    have key : ∀ j, W.cell? ⟨gc, j, none⟩ = w1.cell? ⟨gc, j, none⟩ := fun j => (hb.cell (p := ⟨gc, j, none⟩) (Nat.lt_of_lt_of_le hgc HB12.out.size)).trans (HB12.out.cell (p := ⟨gc, j, none⟩) hgc)
    exact ⟨(key _).trans h0, (key _).trans h1, (key _).trans h2, (key _).trans h3, (key _).trans h4⟩ :
    W.cell? ⟨gc, i * 5, none⟩ = some (.int .i64 x.op) ∧ W.cell? ⟨gc, i * 5 + 1, none⟩ = some (.int .i64 x.dst) ∧ W.cell? ⟨gc, i * 5 + 2, none⟩ = some (.int .i64 x.a) ∧ W.cell? ⟨gc, i * 5 + 3, none⟩ = some (.int .i64 x.b) ∧ W.cell? ⟨gc, i * 5 + 4, none⟩ = some (.int .i64 x.imm)))
  have HO0 : Hid (w2.ownsRow w2.heap.size 31 5 (.slice none 0 0) 0 (codeCells (linC (f.code.take 0)))) := Lib.hid (World.ownsRow_nil _ _ _ _)
  have HBB : Hid (Below w2.heap.size w2 w2) := Lib.hid (Below.refl _ _)
  have HC01 := Lib.hid (show w1.cell? ⟨g, 0, none⟩ = some (.int .i64 (P : Int)) from c0)
  clear hw2 hLp c0 c1 c2 hfz2
  obtain ⟨k0, k1, k2, k3, k4, k5⟩ := KW.out w2 HBB.out
  go_wp2_with fail
  clear k0 k1 k2 k3 k4 k5
  go_loopw [4, 5, 6] (fun v4 v5 v6 wr => ∃ (i n : Nat) (A4 : Option Addr) (c4 : Nat), i ≤ M ∧ v6 = .int .i64 (i : Int) ∧ v5 = .int .i64 (setN (linC (f.code.take i)) : Int) ∧ (linC (f.code.take i)).length = n ∧ v4 = .slice A4 n c4 ∧ wr.ownsRow w2.heap.size 31 5 v4 n (codeCells (linC (f.code.take i))) ∧ Below w2.heap.size w2 wr) (fun _ _ v6 _ => M - (intOf v6).toNat)
  case atStart => exact ⟨0, 0, none, 0, by omega, rfl, rfl, rfl, rfl, HO0.out, HBB.out⟩
  case round =>
    obtain ⟨i, n, A4, c4, hiM, rfl, rfl, hn, rfl, hO, hb⟩ := hrel
    obtain ⟨L, hL⟩ : ∃ L, linC (f.code.take i) = L := ⟨_, rfl⟩
    rw [hL] at hn hO ⊢
    have HL := Lib.hid hL
    have HLN := Lib.hid hn
    have HO := Lib.hid hO
    have HB := Lib.hid hb
    have hni : n ≤ i := by
      have h1 := linC_len (f.code.take i)
      rw [hL, hn, List.length_take] at h1
      omega
    obtain ⟨sn, hsn⟩ : ∃ z, setN L = z := ⟨_, rfl⟩
    have hsni : sn ≤ n := by rw [← hsn, ← hn]; exact setN_len L
    rw [hsn]
    have HSN := Lib.hid hsn
    obtain ⟨k0, k1, k2, k3, k4, k5⟩ := KW.out wr hb
    clear hL hn hO hb hsn
    by_cases hi0 : i = M
    · have hi0' := hi0.symm
      subst hi0'
      clear k4 k5 hi0
      go_upto_region 12 with fail
      obtain ⟨i0, hI0, hz0, hz1, hz2⟩ := info_parts infoIns
      have hsz := HB.out.size
      have hN0 : ¬ N = 0 := by omega
      refine wp_region_held_drew (S := fun w' => w'.cell? ⟨Lp, 0, none⟩ = some (.slice (some ⟨g, 0, none⟩) N cap1)) (by kernel_rfl) k0 (fun hHeld => ?_)
      clear k0 k1 k2 k3
      refine wpAnyH_take (i := 0) (v := .pointer (some ⟨Lp, 0, none⟩)) rfl (by kernel_rfl) (by kernel_rfl) (by kernel_rfl) (fun _ _ _ h => h) (Or.inl ⟨by rfl, ?_⟩) hHeld ?_
      · intro w hSw
        simp only [List.getElem_toArray, List.getElem_cons_zero]
        go_simp
      simp only [Act.put, List.getElem_toArray, List.getElem_cons_zero, List.setIfInBounds_toArray, List.set_cons_zero, List.set_cons_succ]
      refine wpAnyH_take (i := 1) (v := .slice (some ⟨g, 0, none⟩) N cap1) rfl (by kernel_rfl) (by kernel_rfl) (by kernel_rfl) (fun _ _ _ h => h) (Or.inl ⟨by rfl, ?_⟩) hHeld ?_
      · intro w hSw
        obtain p0 := hSw
        simp only [List.getElem_toArray, List.getElem_cons_zero, List.getElem_cons_succ]
        go_simp
      simp only [Act.put, List.getElem_toArray, List.getElem_cons_zero, List.getElem_cons_succ, List.setIfInBounds_toArray, List.set_cons_zero, List.set_cons_succ]
      refine wpAnyH_take (i := 2) (v := .slice A4 n c4) rfl (by kernel_rfl) (by kernel_rfl) (by kernel_rfl) (fun _ _ _ h => h) (Or.inl ⟨by rfl, ?_⟩) hHeld ?_
      · intro w hSw
        simp only [List.getElem_toArray, List.getElem_cons_zero, List.getElem_cons_succ]
        go_simp
      simp only [Act.put, List.getElem_toArray, List.getElem_cons_zero, List.getElem_cons_succ, List.setIfInBounds_toArray, List.set_cons_zero, List.set_cons_succ]
      refine wpAnyH_take (i := 3) (v := .agg #[.int .i64 19, .int .i64 0, .int .i64 0, .int .i64 0, .int .i64 0]) rfl (by kernel_rfl) (by kernel_rfl) (by kernel_rfl) (fun _ _ _ h => h) (Or.inl ⟨by rfl, ?_⟩) hHeld ?_
      · intro w hSw
        simp only [List.getElem_toArray, List.getElem_cons_zero, List.getElem_cons_succ]
        go_simp
      simp only [Act.put, List.getElem_toArray, List.getElem_cons_zero, List.getElem_cons_succ, List.setIfInBounds_toArray, List.set_cons_zero, List.set_cons_succ]
      refine wpAnyH_ready (rs := [4]) (by kernel_rfl) (by simp) ?_
      refine AllReadyH.cons rfl (fun K hK => ?_) AllReadyH.nil
      simp only [List.getElem_toArray, List.getElem_cons_zero, List.getElem_cons_succ]
      go_simp
      refine hK.out _ _ (KW.out _ (HB.out.drew.alloc HB.out.drew.size _)).1 (fun hHeld => ?_)
      clear hK K
      refine wpAnyH_ready (rs := [5]) (by kernel_rfl) (by simp) ?_
      refine AllReadyH.cons rfl (fun K hK => ?_) AllReadyH.nil
      simp only [List.getElem_toArray, List.getElem_cons_zero, List.getElem_cons_succ]
      refine wp_append_own _ _ _ _ (by rfl) w2.heap.size 31 i0 _ 5 40 Tryd.underlying27 hI0 hz0 hz1 hz2 rfl (by decide) (.slice A4 n c4) n (codeCells L) (by rfl) (own_below HO.out ((Below.refl wr.heap.size wr).drew.alloc (Nat.le_refl _) _)) ⟨wr.heap.size, 0, none⟩ 1 1 (codeCells [(⟨19, 0, 0, 0, 0⟩ : Ins)]) (by rfl) (by simp [codeCells, Ins.cells]) (World.news_of_block (heap_alloc_new wr.drew _)) (by simp [codeCells, Ins.cells, Value.oneCell']) (by unfold maxLen; omega) (by omega) (by simp; omega) ?_
      intro v9 w9 hown9 hg9 _
      obtain ⟨A9, cap9, hv9, -⟩ := own_slice hown9
      subst hv9
      have HB9 : Hid (Below w2.heap.size w2 w9) := Lib.hid ((HB.out.drew.alloc HB.out.drew.size _).grown hg9 (by simp; omega) (fun k hk => (World.ownsRow.lt HO.out k hk).1))
      have HO9 := Lib.hid hown9
      obtain ⟨k0, k1, k2, k3, k4, k5⟩ := KW.out w9 HB9.out
      refine hK.out _ _ k0 (fun hHeld => ?_)
      clear hK K hown9 hg9 k0 k4
      refine wpAnyH_take (i := 6) (v := .pointer (some ⟨g, 0, none⟩)) rfl (by kernel_rfl) (by kernel_rfl) (by kernel_rfl) (fun _ _ _ h => h) (Or.inl ⟨by rfl, ?_⟩) hHeld ?_
      · intro w hSw
        simp only [List.getElem_toArray, List.getElem_cons_zero, List.getElem_cons_succ]
        go_simp
      simp only [Act.put, List.getElem_toArray, List.getElem_cons_zero, List.getElem_cons_succ, List.setIfInBounds_toArray, List.set_cons_zero, List.set_cons_succ]
      refine wpAnyH_take (i := 7) (v := .pointer (some ⟨g, 2, none⟩)) rfl (by kernel_rfl) (by kernel_rfl) (by kernel_rfl) (fun _ _ _ h => h) (Or.inl ⟨by rfl, ?_⟩) hHeld ?_
      · intro w hSw
        simp only [List.getElem_toArray, List.getElem_cons_zero, List.getElem_cons_succ]
        go_simp
      simp only [Act.put, List.getElem_toArray, List.getElem_cons_zero, List.getElem_cons_succ, List.setIfInBounds_toArray, List.set_cons_zero, List.set_cons_succ]
      refine wpAnyH_ready (rs := [8]) (by kernel_rfl) (by simp) ?_
      refine AllReadyH.cons rfl (fun K hK => ?_) AllReadyH.nil
      simp only [List.getElem_toArray, List.getElem_cons_zero, List.getElem_cons_succ]
      go_simp
      have HZX : Hid ((w9.setCell ⟨g, 2, none⟩ (.slice A9 (n + 1) cap9)).heap[Lp]? = some (.cells #[.slice (some ⟨g, 0, none⟩) N cap1] 25 (0, 0))) := Lib.hid (block_set_ne ((HB9.out.block Lp (block_lt HX2.out)).trans HX2.out) (Nat.ne_of_lt HLPG.out) 2 _)
      refine hK.out _ _ (cell_block HZX.out 0) (fun hHeld => ?_)
      clear hK K k1 k2 k3 k5
      clear hHeld
      refine wpAnyH_done (by kernel_rfl) ?_ _
      obtain ⟨wz, hwz⟩ : ∃ W, w9.setCell ⟨g, 2, none⟩ (.slice A9 (n + 1) cap9) = W := ⟨_, rfl⟩
      have hLM : L = linC f.code := by rw [← HL.out, List.take_of_length_le (Nat.le_of_eq HM.out)]
      have HB19 : Hid (Below w1.heap.size w1 w9) := Lib.hid (HB12.out.trans (HB9.out.mono HB12.out.size))
      have hqv : ProgV wz (w.heap.size + 3) (.slice (some ⟨g, 0, none⟩) (p'.length + 1) cap1) (⟨f.params, f.regs, L ++ [⟨19, 0, 0, 0, 0⟩]⟩ :: p') (.slice A9 (n + 1) cap9 :: vs') := hwz ▸ (HPV.out.keeps HB19.out).setCode (L ++ [⟨19, 0, 0, 0, 0⟩]) (.slice A9 (n + 1) cap9) (by
        have h := own_base HO9.out (show w.heap.size + 3 ≤ w2.heap.size by have := HB12.out.size; omega)
        rw [List.length_append, HLN.out]
        have e : codeCells (L ++ [⟨19, 0, 0, 0, 0⟩]) = codeCells L ++ codeCells [⟨19, 0, 0, 0, 0⟩] := by simp [codeCells]
        rw [e]
        exact h)
      have HBW : Hid (Below w.heap.size w wz) := Lib.hid (hwz ▸ (HB1.out.trans (HB19.out.mono HB1.out.size)).setCell (show w.heap.size ≤ g by omega) _)
      rw [hwz] at HZX ⊢
      obtain ⟨F, hF⟩ : ∃ F : Fnc, (⟨f.params, f.regs, L ++ [⟨19, 0, 0, 0, 0⟩]⟩ : Fnc) = F := ⟨_, rfl⟩
      rw [hF] at hqv
      have HLIN : Hid (Lin F) := Lib.hid (by rw [← hF, hLM]; exact lin_code f f.regs)
      have HCNT : Hid (F.code.countP setsB = sn) := Lib.hid (by rw [← hF, ← HSN.out, hLM]; exact lin_count f.code)
      have HFPP : Hid (F.params = (P : Int)) := Lib.hid (by rw [← hF]; exact HPP.out)
      have hFl : F.code.length ≤ 41 := by rw [← hF]; show (L ++ [_]).length ≤ 41; rw [List.length_append, HLN.out, List.length_singleton]; omega
      obtain ⟨q, hq⟩ : ∃ q, F :: p' = q := ⟨_, rfl⟩
      have hql : q.length = N := by rw [← hq]; exact HN.out
      have HPQ := Lib.hid (show ProgAt wz (.slice (some ⟨g, 0, none⟩) N cap1) q by have h := hqv.at; rw [hq, HN.out] at h; exact h)
      have HCP := Lib.hid (fun (W : World) (h1 : Tab W) (h2 : ProgAt W (.slice (some ⟨g, 0, none⟩) q.length cap1) q) => pcheck_any q (some ⟨g, 0, none⟩) cap1 W h1 h2 (by rw [hql]; omega) (fun f' hf => by
        rw [← hq] at hf
        rcases List.mem_cons.1 hf with rfl | h
        · omega
        · have := HC40.out f' h; omega))
      have HF0 := Lib.hid (show q[0]? = some F by rw [← hq]; rfl)
      have HFM := Lib.hid (show F ∈ q by rw [← hq]; exact .head _)
      have HQL := Lib.hid hql
      have HPV0 := Lib.hid (show wz.cell? ⟨g, 0, none⟩ = some (.int .i64 (P : Int)) by have h := hqv.first.1; rw [HFPP.out] at h; exact h)
      rw [hql] at HCP
      have qx : wz.cell? ⟨Lp, 0, none⟩ = some (.slice (some ⟨g, 0, none⟩) N cap1) := cell_block HZX.out 0
      have zx := block_lt HZX.out
      have HZG := Lib.hid (show g < wz.heap.size by rw [← hwz]; simp; have h1 := HB19.out.size; omega)
      clear hwz hqv hF hq hql hFl hLM
      by_cases hz : checkP q = 0
      · rw [hz] at HCP
        have HCK2 := Lib.hid hz
        have HBU := Lib.hid (fun (W : World) (h1 : Tab W) (h2 : ProgAt W (.slice (some ⟨g, 0, none⟩) q.length cap1) q) => build_all (some ⟨g, 0, none⟩) cap1 0 W h1 h2 hz HF0.out)
        rw [HQL.out] at HBU
        rw [show ((0 : Nat) : Int) = 0 from rfl] at HBU
        obtain ⟨H, hH⟩ : ∃ H, (hdL F).length = H := ⟨_, rfl⟩
        have HH := Lib.hid hH
        have hH1 : 0 < H := by have := (List.getElem?_eq_some_iff.1 (zero_head (right_of hz) HFM.out)).1; omega
        have hHM : H ≤ 40 := by have h1 := hdTo_len F F.code.length; have h2 : hdTo F F.code.length = hdL F := rfl; have h3 := ((right_of hz).ok.fn F HFM.out).c2; rw [h2, hH] at h1; omega
        clear hz hH
        go_upto_region 16 with (first | (go_at_call 16; go_must (refine (HCP.out _ (HT.out.keeps HBW.out) HPQ.out).mono ?_; rintro e w5 ⟨rfl, hb5⟩; have HB5 := Lib.hid (HBW.out.trans (hb5.mono HBW.out.size)); have HP5 := Lib.hid (HPQ.out.keeps hb5); have HX5 := Lib.hid ((hb5.block _ (block_lt HZX.out)).trans HZX.out); have q5 := cell_block HX5.out; have z5 := block_lt HX5.out; have HZ5 := Lib.hid hb5; clear hb5 qx zx)) | (go_at_call 17; go_must (refine (HBU.out _ (HT.out.keeps HB5.out) HP5.out).mono ?_; rintro e w6 ⟨⟨b, c, s, V, O, bs, K, s2, l2, rfl, hbb, hsb, hbl⟩, hb⟩; have HBX := Lib.hid (BuiltX.mk hbl HCK2.out HFM.out rfl : BuiltX q F O bs K _ s2 l2 s); have HFP := Lib.hid HBX.out.finP; have hbsl : bs.length = H := (by rw [hbl.bok.len, HH.out]); have HBL := Lib.hid hbsl; obtain ⟨Ap, cp, hvp, -, hpA⟩ := hsb.rowV .parts (n := H) (by show s.parts.length = H; rw [HFP.out.len, hbsl]); obtain ⟨gp, rfl, -, -⟩ := hpA hH1; have HVP := Lib.hid hvp; have hln := HFP.out.lin hbl.bok (right_of HCK2.out) HFM.out HLIN.out; have HPH := Lib.hid hln.1; have hvl : ((F.params.toNat + (allG { s2 with same := l2 } bs.length).length : Nat) : Int) = (P : Int) + (sn : Int) := (by have h1 : F.params.toNat + (allG { s2 with same := l2 } bs.length).length = F.params.toNat + F.code.countP setsB := hln.2; rw [h1, HCNT.out, HFPP.out]; simp); have HSB := Lib.hid hsb; rw [hvp, hvl, HFPP.out]; have HB6 := Lib.hid (HB5.out.trans (hb.mono HB5.out.size)); have HX6 := Lib.hid ((hb.block _ (block_lt HX5.out)).trans HX5.out); have HZ6 := Lib.hid (HZ5.out.trans (hb.mono HZ5.out.size)); clear hbb hsb hbl hb hvp hbsl hpA hvl hln q5 z5)))
        obtain ⟨w7, hw7⟩ : ∃ W, w6.alloc (.cells #[.int .i64 (P : Int), .int .i64 ((P : Int) + (sn : Int)), .slice (some ⟨gp, 0, none⟩) H cp] 36) = W := ⟨_, rfl⟩
        have HXS : Hid (w7.heap[w6.heap.size]? = some (.cells #[.int .i64 (P : Int), .int .i64 ((P : Int) + (sn : Int)), .slice (some ⟨gp, 0, none⟩) H cp] 36 (0, 0))) := Lib.hid (hw7 ▸ heap_alloc_new _ _)
        have HB67 : Hid (Below w6.heap.size w6 w7) := Lib.hid (hw7 ▸ (Below.refl _ _).alloc (Nat.le_refl _) _)
        have HB77 : Hid (Below w7.heap.size w7 w7) := Lib.hid (Below.refl _ _)
        have HB07 : Hid (Below w.heap.size w w7) := Lib.hid (HB6.out.trans (HB67.out.mono HB6.out.size))
        have HSB7 := Lib.hid (HSB.out.keeps HB67.out)
        have HZ7 : Hid (Below wz.heap.size wz w7) := Lib.hid (HZ6.out.trans (HB67.out.mono HZ6.out.size))
        have HX7 := Lib.hid ((HB67.out.block _ (block_lt HX6.out)).trans HX6.out)
        rw [hw7]
        clear hw7
        obtain ⟨Ls, hLs⟩ : ∃ n, w6.heap.size = n := ⟨_, rfl⟩
        rw [hLs]
        rw [hLs] at HXS
        clear hLs
        have KS := Lib.hid (fun (W : World) (hb : Below w7.heap.size w7 W) => (⟨(hb.cell (p := ⟨Ls, _, none⟩) (block_lt HXS.out)).trans (cell_block HXS.out 1), (hb.cell (p := ⟨Ls, _, none⟩) (block_lt HXS.out)).trans (cell_block HXS.out 2), (hb.cell (p := ⟨Lp, _, none⟩) (block_lt HX7.out)).trans (cell_block HX7.out 0), (hb.cell (p := ⟨g, _, none⟩) (Nat.lt_of_lt_of_le HZG.out HZ7.out.size)).trans ((HZ7.out.cell (p := ⟨g, _, none⟩) HZG.out).trans HPV0.out), Nat.lt_of_lt_of_le (block_lt HXS.out) hb.size, Nat.lt_of_lt_of_le (block_lt HX7.out) hb.size, Nat.lt_of_lt_of_le (Nat.lt_of_lt_of_le HZG.out HZ7.out.size) hb.size, Nat.lt_of_lt_of_le (HSB7.out.rlt .parts (g := gp) (by rw [HVP.out]; rfl)).2 hb.size⟩ :
          W.cell? ⟨Ls, 1, none⟩ = some (.int .i64 ((P : Int) + (sn : Int))) ∧ W.cell? ⟨Ls, 2, none⟩ = some (.slice (some ⟨gp, 0, none⟩) H cp) ∧ W.cell? ⟨Lp, 0, none⟩ = some (.slice (some ⟨g, 0, none⟩) N cap1) ∧ W.cell? ⟨g, 0, none⟩ = some (.int .i64 (P : Int)) ∧ Ls < W.heap.size ∧ Lp < W.heap.size ∧ g < W.heap.size ∧ gp < W.heap.size))
        go_wp2_with fail
        go_loopw [10] (fun v10 wq => ∃ t : Nat, t ≤ H ∧ v10 = .int .i64 (t : Int) ∧ Below w7.heap.size w7 wq) (fun v10 _ => H - (intOf v10).toNat)
        case atStart => exact ⟨0, by omega, rfl, HB77.out⟩
        case round =>
          obtain ⟨t, htH, rfl, hbq⟩ := hrel
          rename World => wq
          have HBQ := Lib.hid hbq
          obtain ⟨y1, y2, y3, y4, y5, y6, y7, y8⟩ := KS.out wq hbq
          by_cases ht0 : t = H
          · subst ht0
            have hH2 : (0 : Int) < (t : Int) := by omega
            have hsn40 : sn ≤ 40 := by omega
            clear y8 hbq
            go_wp2_with fail
            go_quiet (fail)
            go_wp2_with fail
            go_ret
            exact ⟨rfl, below_drewN (HB07.out.trans (HBQ.out.mono HB07.out.size)) _⟩
          · have ht1 : (t : Int) < H := by omega
            have ht2 : (0 : Int) ≤ t := by omega
            have htb : t < bs.length := by rw [HBL.out]; omega
            have hts : t < s.parts.length := by rw [HFP.out.len]; exact htb
            have hsb := HSB7.out.keeps hbq
            obtain ⟨Ah, ch, hvh, -, -⟩ := hsb.rowV (.phis t) (n := 0) (HPH.out t htb)
            have hp1 := (hsb.partCell HFP.out.inn HVP.out hts).1
            rw [hvh] at hp1
            clear hsb hvh htb hts ht0 hbq y1 y3 y4 y6 y7
            go_wp2_with fail
            go_roundw
            case rel => exact ⟨t + 1, by omega, by go_num, HBQ.out⟩
            case measure => simp [intOf]; omega
      · obtain ⟨e0, he0⟩ : ∃ e, checkP q = e := ⟨_, rfl⟩
        rw [he0] at hz HCP
        have hne : (e0 != 0) = true := bne_iff_ne.2 hz
        clear hz he0
        go_wp2_with (first | (go_at_call 16; go_must (refine (HCP.out _ (HT.out.keeps HBW.out) HPQ.out).mono ?_; rintro e w5 ⟨rfl, hb5⟩; have HB5 := Lib.hid (HBW.out.trans (hb5.mono HBW.out.size)); have HP5 := Lib.hid (HPQ.out.keeps hb5); have HX5 := Lib.hid ((hb5.block _ (block_lt HZX.out)).trans HZX.out); have q5 := cell_block HX5.out; have z5 := block_lt HX5.out; have HZ5 := Lib.hid hb5; clear hb5 qx zx)))
        go_ret
        exact ⟨rfl, HB5.out⟩
    · have hi1 : (i : Int) < M := by omega
      have hi2 : (0 : Int) ≤ i := by omega
      obtain ⟨x, hx⟩ : ∃ x, f.code[i]? = some x := ⟨_, List.getElem?_eq_getElem (by rw [HM.out]; omega)⟩
      obtain ⟨g0, g1, g2, g3, g4⟩ := KI.out wr HB.out i x hx
      have hls := linC_snoc f.code i hx
      rw [HL.out] at hls
      obtain ⟨xo, xd, xa, xb, xm⟩ := x
      dsimp only at g0 g1 g2 g3 g4
      obtain ⟨Lb, hLb⟩ : ∃ n, wr.heap.size = n := ⟨_, rfl⟩
      clear hx hi0
      go_upto_region 8 with fail
      obtain ⟨w7, hw7⟩ : ∃ W, wr.alloc (.cells #[.int .i64 xo, .int .i64 xd, .int .i64 xa, .int .i64 xb, .int .i64 xm] 31) = W := ⟨_, rfl⟩
      have hb7 : Below wr.heap.size wr w7 := hw7 ▸ (Below.refl _ _).alloc (Nat.le_refl _) _
      have hB7 : w7.heap[Lb]? = some (.cells #[.int .i64 xo, .int .i64 xd, .int .i64 xa, .int .i64 xb, .int .i64 xm] 31 (0, 0)) := hw7 ▸ hLb ▸ heap_alloc_new _ _
      have HB7 : Hid (Below w2.heap.size w2 w7) := Lib.hid (HB.out.trans (hb7.mono HB.out.size))
      have HO7 : Hid (w7.ownsRow w2.heap.size 31 5 (.slice A4 n c4) n (codeCells L)) := Lib.hid (own_below HO.out hb7)
      have HNB : Hid ((Value.slice A4 n c4).ownBlock ≠ some Lb) := Lib.hid (fun e => by have h1 := (World.ownsRow.lt HO.out Lb e).2; omega)
      rw [hw7]
      clear hw7 hb7 g0 g1 g2 g3 g4 k0 k1 k2 k3 k4 k5 hLb
      have r0 : w7.cell? ⟨Lb, 0, none⟩ = some (.int .i64 xo) := cell_block hB7 0
      have r1 : w7.cell? ⟨Lb, 1, none⟩ = some (.int .i64 xd) := cell_block hB7 1
      have r2 : w7.cell? ⟨Lb, 2, none⟩ = some (.int .i64 xa) := cell_block hB7 2
      have r3 : w7.cell? ⟨Lb, 3, none⟩ = some (.int .i64 xb) := cell_block hB7 3
      have r4 : w7.cell? ⟨Lb, 4, none⟩ = some (.int .i64 xm) := cell_block hB7 4
      have zL := block_lt hB7
      clear hB7
      by_cases hlin : linB ⟨xo, xd, xa, xb, xm⟩ = true
      · rw [if_pos hlin] at hls
        have HLS := Lib.hid hls
        have hcs : (xo < 15 ∧ xo ≠ 14) ∨ xo = 14 ∨ xo = 17 ∨ xo = 18 := by
          unfold linB at hlin
          simp only [Bool.or_eq_true, decide_eq_true_eq, beq_iff_eq] at hlin
          omega
        clear hls hlin
        rcases hcs with ⟨h15, h14⟩ | rfl | rfl | rfl
        · have h14b : (xo != 14) = true := bne_iff_ne.2 h14
          have HXC := Lib.hid h14
          clear h14
          obtain ⟨i0, hI0, hz0, hz1, hz2⟩ := info_parts infoIns
          have hsz := HB7.out.size
          go_wp2_with (at_builtin; go_must (refine wpList_append_own _ rfl _ _ 27 rfl w2.heap.size 31 i0 _ 5 40 Tryd.underlying27 hI0 hz0 hz1 hz2 rfl (by decide) (.slice A4 n c4) n (codeCells L) rfl (own_below HO7.out ((Below.refl _ _).alloc (Nat.le_refl _) _)) ⟨w7.heap.size, 0, none⟩ 1 1 [.int .i64 xo, .int .i64 xd, .int .i64 xa, .int .i64 xb, .int .i64 xm] rfl rfl (World.news_of_block (cs := #[.int .i64 xo, .int .i64 xd, .int .i64 xa, .int .i64 xb, .int .i64 xm]) (t := 31) (fr := (0, 0)) (by simpa using heap_alloc_new w7 (.cells #[.int .i64 xo, .int .i64 xd, .int .i64 xa, .int .i64 xb, .int .i64 xm] 31))) (by simp [Value.oneCell']) (by unfold maxLen; omega) (by omega) (by simp; omega) ?_); intro v9 w9 hown9 hg9 _; obtain ⟨A9, cap9, hv9, -⟩ := own_slice hown9; rw [hv9] at hown9; rw [hv9]; have HB9 := Lib.hid ((HB7.out.alloc HB7.out.size (.cells #[.int .i64 xo, .int .i64 xd, .int .i64 xa, .int .i64 xb, .int .i64 xm] 31)).grown hg9 (by simp; omega) (fun k hk => (World.ownsRow.lt HO7.out k hk).1)); have HO9 := Lib.hid hown9; have e0 : w9.cell? ⟨Lb, 0, none⟩ = some (.int .i64 xo) := (World.cell?_of_block (hg9.block Lb (by simp; omega) (fun e => absurd ((World.ownsRow.lt HO7.out Lb e.symm)) (by have := HNB.out; exact fun h => this e.symm)))).trans ((World.cell?_of_block (Below.heap_alloc w7 _ _ zL)).trans r0); have zL9 : Lb < w9.heap.size := Nat.lt_of_lt_of_le (by simp; omega) hg9.size; clear hown9 hg9 hv9 r0 r1 r2 r3 r4 zL)
          go_roundw
          case rel => exact ⟨i + 1, n + 1, A9, cap9, by omega, by go_num, by rw [HLS.out, setN_snoc, HSN.out]; rw [if_neg HXC.out]; go_num, by rw [HLS.out, List.length_append, HLN.out]; rfl, rfl, by rw [HLS.out]; have h := HO9.out; simpa [codeCells, Ins.cells] using h, HB9.out⟩
          case measure => simp [intOf]; omega
        · obtain ⟨i0, hI0, hz0, hz1, hz2⟩ := info_parts infoIns
          have hsz := HB7.out.size
          go_wp2_with (at_builtin; go_must (refine wpList_append_own _ rfl _ _ 27 rfl w2.heap.size 31 i0 _ 5 40 Tryd.underlying27 hI0 hz0 hz1 hz2 rfl (by decide) (.slice A4 n c4) n (codeCells L) rfl (own_below HO7.out ((Below.refl _ _).alloc (Nat.le_refl _) _)) ⟨w7.heap.size, 0, none⟩ 1 1 [.int .i64 14, .int .i64 xd, .int .i64 xa, .int .i64 xb, .int .i64 xm] rfl rfl (World.news_of_block (cs := #[.int .i64 14, .int .i64 xd, .int .i64 xa, .int .i64 xb, .int .i64 xm]) (t := 31) (fr := (0, 0)) (by simpa using heap_alloc_new w7 (.cells #[.int .i64 14, .int .i64 xd, .int .i64 xa, .int .i64 xb, .int .i64 xm] 31))) (by simp [Value.oneCell']) (by unfold maxLen; omega) (by omega) (by simp; omega) ?_); intro v9 w9 hown9 hg9 _; obtain ⟨A9, cap9, hv9, -⟩ := own_slice hown9; rw [hv9] at hown9; rw [hv9]; have HB9 := Lib.hid ((HB7.out.alloc HB7.out.size (.cells #[.int .i64 14, .int .i64 xd, .int .i64 xa, .int .i64 xb, .int .i64 xm] 31)).grown hg9 (by simp; omega) (fun k hk => (World.ownsRow.lt HO7.out k hk).1)); have HO9 := Lib.hid hown9; have e0 : w9.cell? ⟨Lb, 0, none⟩ = some (.int .i64 14) := (World.cell?_of_block (hg9.block Lb (by simp; omega) (fun e => absurd ((World.ownsRow.lt HO7.out Lb e.symm)) (by have := HNB.out; exact fun h => this e.symm)))).trans ((World.cell?_of_block (Below.heap_alloc w7 _ _ zL)).trans r0); have zL9 : Lb < w9.heap.size := Nat.lt_of_lt_of_le (by simp; omega) hg9.size; clear hown9 hg9 hv9 r0 r1 r2 r3 r4 zL)
          go_roundw
          case rel => exact ⟨i + 1, n + 1, A9, cap9, by omega, by go_num, by rw [HLS.out, setN_snoc, HSN.out]; rw [if_pos rfl]; simp, by rw [HLS.out, List.length_append, HLN.out]; rfl, rfl, by rw [HLS.out]; have h := HO9.out; simpa [codeCells, Ins.cells] using h, HB9.out⟩
          case measure => simp [intOf]; omega
        · obtain ⟨i0, hI0, hz0, hz1, hz2⟩ := info_parts infoIns
          have hsz := HB7.out.size
          go_wp2_with (at_builtin; go_must (refine wpList_append_own _ rfl _ _ 27 rfl w2.heap.size 31 i0 _ 5 40 Tryd.underlying27 hI0 hz0 hz1 hz2 rfl (by decide) (.slice A4 n c4) n (codeCells L) rfl (own_below HO7.out ((Below.refl _ _).alloc (Nat.le_refl _) _)) ⟨w7.heap.size, 0, none⟩ 1 1 [.int .i64 17, .int .i64 xd, .int .i64 xa, .int .i64 xb, .int .i64 xm] rfl rfl (World.news_of_block (cs := #[.int .i64 17, .int .i64 xd, .int .i64 xa, .int .i64 xb, .int .i64 xm]) (t := 31) (fr := (0, 0)) (by simpa using heap_alloc_new w7 (.cells #[.int .i64 17, .int .i64 xd, .int .i64 xa, .int .i64 xb, .int .i64 xm] 31))) (by simp [Value.oneCell']) (by unfold maxLen; omega) (by omega) (by simp; omega) ?_); intro v9 w9 hown9 hg9 _; obtain ⟨A9, cap9, hv9, -⟩ := own_slice hown9; rw [hv9] at hown9; rw [hv9]; have HB9 := Lib.hid ((HB7.out.alloc HB7.out.size (.cells #[.int .i64 17, .int .i64 xd, .int .i64 xa, .int .i64 xb, .int .i64 xm] 31)).grown hg9 (by simp; omega) (fun k hk => (World.ownsRow.lt HO7.out k hk).1)); have HO9 := Lib.hid hown9; have e0 : w9.cell? ⟨Lb, 0, none⟩ = some (.int .i64 17) := (World.cell?_of_block (hg9.block Lb (by simp; omega) (fun e => absurd ((World.ownsRow.lt HO7.out Lb e.symm)) (by have := HNB.out; exact fun h => this e.symm)))).trans ((World.cell?_of_block (Below.heap_alloc w7 _ _ zL)).trans r0); have zL9 : Lb < w9.heap.size := Nat.lt_of_lt_of_le (by simp; omega) hg9.size; clear hown9 hg9 hv9 r0 r1 r2 r3 r4 zL)
          go_roundw
          case rel => exact ⟨i + 1, n + 1, A9, cap9, by omega, by go_num, by rw [HLS.out, setN_snoc, HSN.out]; rw [if_neg (by simp)]; go_num, by rw [HLS.out, List.length_append, HLN.out]; rfl, rfl, by rw [HLS.out]; have h := HO9.out; simpa [codeCells, Ins.cells] using h, HB9.out⟩
          case measure => simp [intOf]; omega
        · obtain ⟨i0, hI0, hz0, hz1, hz2⟩ := info_parts infoIns
          have hsz := HB7.out.size
          go_wp2_with (at_builtin; go_must (refine wpList_append_own _ rfl _ _ 27 rfl w2.heap.size 31 i0 _ 5 40 Tryd.underlying27 hI0 hz0 hz1 hz2 rfl (by decide) (.slice A4 n c4) n (codeCells L) rfl (own_below HO7.out ((Below.refl _ _).alloc (Nat.le_refl _) _)) ⟨w7.heap.size, 0, none⟩ 1 1 [.int .i64 18, .int .i64 xd, .int .i64 xa, .int .i64 xb, .int .i64 xm] rfl rfl (World.news_of_block (cs := #[.int .i64 18, .int .i64 xd, .int .i64 xa, .int .i64 xb, .int .i64 xm]) (t := 31) (fr := (0, 0)) (by simpa using heap_alloc_new w7 (.cells #[.int .i64 18, .int .i64 xd, .int .i64 xa, .int .i64 xb, .int .i64 xm] 31))) (by simp [Value.oneCell']) (by unfold maxLen; omega) (by omega) (by simp; omega) ?_); intro v9 w9 hown9 hg9 _; obtain ⟨A9, cap9, hv9, -⟩ := own_slice hown9; rw [hv9] at hown9; rw [hv9]; have HB9 := Lib.hid ((HB7.out.alloc HB7.out.size (.cells #[.int .i64 18, .int .i64 xd, .int .i64 xa, .int .i64 xb, .int .i64 xm] 31)).grown hg9 (by simp; omega) (fun k hk => (World.ownsRow.lt HO7.out k hk).1)); have HO9 := Lib.hid hown9; have e0 : w9.cell? ⟨Lb, 0, none⟩ = some (.int .i64 18) := (World.cell?_of_block (hg9.block Lb (by simp; omega) (fun e => absurd ((World.ownsRow.lt HO7.out Lb e.symm)) (by have := HNB.out; exact fun h => this e.symm)))).trans ((World.cell?_of_block (Below.heap_alloc w7 _ _ zL)).trans r0); have zL9 : Lb < w9.heap.size := Nat.lt_of_lt_of_le (by simp; omega) hg9.size; clear hown9 hg9 hv9 r0 r1 r2 r3 r4 zL)
          go_roundw
          case rel => exact ⟨i + 1, n + 1, A9, cap9, by omega, by go_num, by rw [HLS.out, setN_snoc, HSN.out]; rw [if_neg (by simp)]; go_num, by rw [HLS.out, List.length_append, HLN.out]; rfl, rfl, by rw [HLS.out]; have h := HO9.out; simpa [codeCells, Ins.cells] using h, HB9.out⟩
          case measure => simp [intOf]; omega
      · rw [if_neg hlin, List.append_nil] at hls
        have HLS := Lib.hid hls
        have hlf := hlin
        unfold linB at hlf
        simp only [Bool.or_eq_true, decide_eq_true_eq, beq_iff_eq] at hlf
        have h15 : ¬ xo < 15 := fun h => hlf (.inl h)
        have h17 : (xo == 17) = false := beq_eq_false_iff_ne.2 (fun h => hlf (.inr (.inl h)))
        have h18 : (xo == 18) = false := beq_eq_false_iff_ne.2 (fun h => hlf (.inr (.inr h)))
        clear hls hlin hlf r1 r2 r3 r4
        go_wp2_with fail
        go_roundw
        case rel => exact ⟨i + 1, n, A4, c4, by omega, by go_num, by rw [HLS.out, HSN.out], by rw [HLS.out]; exact HLN.out, rfl, by rw [HLS.out]; exact HO7.out, HB7.out⟩
        case measure => simp [intOf]; omega
end Go.Proofs.YtlciakkbgaakiaaDoor
