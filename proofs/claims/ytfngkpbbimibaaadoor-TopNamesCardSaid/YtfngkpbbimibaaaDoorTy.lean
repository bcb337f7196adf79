/-
  The contract of tiers.Tidy: a state whose registers are 0 where they are not live.
-/
import Derived.Test.YtfngkpbbimibaaaDoorLdM
import Derived.Test.YtfngkpbbimibaaaDoorLv
namespace Tier
open Go Go.RowKit
/-- t is s, but for what is not live: that is 0. -/
structure TidyOf (p : List Fnc) (s t : St) : Prop where
  sim : SimS (liveS p) s t
  zero : ∀ (i : Nat) (f : Fr) (r : Nat), t.frames[i]? = some f → r < 12 → (liveS p f.fn.toNat f.pc.toNat).testBit r = false → f.regs.getD r 0 = 0
def ZT (p : List Fnc) (t : St) (i r : Nat) : Prop := ∀ (j : Nat) (f : Fr) (q : Nat), t.frames[j]? = some f → q < 12 → (j < i ∨ (j = i ∧ q < r)) → (liveS p f.fn.toNat f.pc.toNat).testBit q = false → f.regs.getD q 0 = 0
theorem ZT.start (p : List Fnc) (t : St) : ZT p t 0 0 := fun j f q _ _ h => by omega
theorem ZT.next {p : List Fnc} {t : St} {i : Nat} (h : ZT p t i 12) : ZT p t (i + 1) 0 := fun j f q h1 h2 h3 h4 => h j f q h1 h2 (by omega) h4
theorem ZT.skip {p : List Fnc} {t : St} {i r : Nat} {f : Fr} (h : ZT p t i r) (hf : t.frames[i]? = some f) (hb : (liveS p f.fn.toNat f.pc.toNat).testBit r = true) : ZT p t i (r + 1) := fun j g q h1 h2 h3 h4 => by
  by_cases e : j = i ∧ q = r
  · obtain ⟨rfl, rfl⟩ := e
    rw [hf] at h1
    obtain rfl := Option.some.inj h1
    rw [hb] at h4; cases h4
  · exact h j g q h1 h2 (by omega) h4
theorem ZT.put {p : List Fnc} {t : St} {i r : Nat} {f : Fr} (h : ZT p t i r) (hf : t.frames[i]? = some f) (_hl : f.regs.length = 12) (_hr : r < 12) : ZT p (putR t i f r 0) i (r + 1) := fun j g q h1 h2 h3 h4 => by
  have h1' : (t.frames.set i { f with regs := f.regs.set r 0 })[j]? = some g := h1
  rw [List.getElem?_set] at h1'
  by_cases e : i = j
  · subst e
    rw [if_pos rfl, if_pos (List.getElem?_eq_some_iff.1 hf).1] at h1'
    obtain rfl := Option.some.inj h1'
    show (f.regs.set r 0).getD q 0 = 0
    rw [List.getD_eq_getElem?_getD, List.getElem?_set]
    by_cases e2 : r = q
    · rw [if_pos e2]; split <;> rfl
    · rw [if_neg e2, ← List.getD_eq_getElem?_getD]
      exact h i f q hf h2 (by omega) h4
  · rw [if_neg e] at h1'
    exact h j g q h1' h2 (by omega) h4
theorem tidy_same {p : List Fnc} {s t u : St} (ht : TidyOf p s t) (hu : TidyOf p t u) : u = t := by
  have hfr : u.frames = t.frames := by
    apply List.ext_getElem?
    intro i
    cases hi : t.frames[i]? with
    | none =>
      have h1 := hu.sim.fr.length
      rw [List.getElem?_eq_none_iff] at hi ⊢
      omega
    | some f =>
      obtain ⟨g, hg, hs⟩ := hu.sim.fr.get hi
      rw [hg]
      congr 1
      have hreg : g.regs = f.regs := by
        apply List.ext_getElem
        · rw [hs.lf, hs.lg]
        · intro r h1 h2
          have hr : r < 12 := by rw [hs.lg] at h1; exact h1
          have e1 : g.regs.getD r 0 = g.regs[r] := by rw [List.getD_eq_getElem?_getD, List.getElem?_eq_getElem h1]; rfl
          have e2 : f.regs.getD r 0 = f.regs[r] := by rw [List.getD_eq_getElem?_getD, List.getElem?_eq_getElem h2]; rfl
          rw [← e1, ← e2]
          cases hb : (liveS p f.fn.toNat f.pc.toNat).testBit r with
          | true => exact hs.regs r hb
          | false => rw [ht.zero i f r hi hr hb, hu.zero i g r hg hr (by rw [hs.fn, hs.pc]; exact hb)]
      cases f
      cases g
      have h1 := hs.fn
      have h2 := hs.pc
      simp_all
  cases t
  cases u
  have h1 := hu.sim.st
  have h2 := hu.sim.val
  have h3 := hu.sim.mem
  have h4 := hu.sim.fuel
  have h5 := hu.sim.ev
  have h6 := hu.sim.an
  simp_all
end Tier
namespace Go.Proofs.YtfngkpbbimibaaaDoor
open Go.RowKit Tier
theorem ld_begin {w4 w5 w6 : World} {C : List Value} {S : Nat → Nat → Nat} {p : List Fnc} {s1 : St} (hi : StInv p s1) (hb : Below w4.heap.size w4 w5) (hC : CellsSt C w5 w4.heap.size s1) (hl : C.length = 22) (hw : (w5.alloc (.cells zeroV.toArray 49)).setCells w5.heap.size 0 C = w6) : LdW w4 w6 w5.heap.size C S s1 s1 := by
  have hb56 : Below w5.heap.size w5 w6 := hw ▸ below_setCells (Nat.le_refl _) _ _ _ ((Below.refl _ _).alloc (Nat.le_refl _) _)
  refine ⟨?_, hC.below hb56, hb.trans (hb56.mono hb.size), SimS.refl hi⟩
  rw [← hw]
  exact block_full (heap_alloc_new _ _) _ (by simp [hl, zeroV_length])
theorem live_nat (v r : Nat) : bits .and .i64 ((v / 2 ^ r : Nat) : Int) 1 = ((v / 2 ^ r % 2 : Nat) : Int) := by
  have h := and_mask ((v / 2 ^ r : Nat) : Int) 1 (by omega)
  have e : (2 : Int) ^ 1 - 1 = 1 := by decide
  rw [e] at h
  rw [h]
  omega
set_option maxRecDepth 100000 in
set_option maxHeartbeats 8000000 in
theorem tidy_any {p : List Fnc} (hc : checkP p = 0) {B : Nat} (s : St) (C : List Value) (A : Option Addr) (cap : Nat) (w : World) (ht : Tab w) (hP : ProgAt w (.slice A p.length cap) p) (hi : StInv p s) (hC : CellsSt C w B s) :
    Calls Tryd.prog 31 #[.agg #[.slice A p.length cap], .agg C.toArray] w fun e w' => (∃ (C' : List Value) (t : St), e = .returned (.tuple #[.agg C'.toArray, .int .i64 0]) ∧ CellsSt C' w' w.heap.size t ∧ TidyOf p s t) ∧ Below w.heap.size w w' := by
  have hp := right_of hc
  have HCK := Lib.hid (fun (W : World) (hb : Below w.heap.size w W) => scheck_c hc (ht.keeps hb) (hP.keeps hb) hi (hC.below hb))
  have HWA := Lib.hid (fun (W : World) (hb : Below w.heap.size w W) => swalk_c hc 0 (by omega) (ht.keeps hb) (hP.keeps hb) hi (hC.below hb))
  rw [show walkSt p 0 s = s from rfl] at HWA
  have HLV := Lib.hid (fun (W : World) (hb : Below w.heap.size w W) (k : Nat) (F : Fnc) (hF : p[k]? = some F) => live_any p A cap k F W (ht.keeps hb) (hP.keeps hb) hc hF)
  have HSI := Lib.hid (info_st (hC.len hi.mem))
  have HRP := Lib.hid hp
  have HI1 := Lib.hid hi
  have hz := zero_st
  have hb0 := Lib.hid ((((Below.refl w.heap.size w).alloc (Nat.le_refl _) (.cells #[.slice A p.length cap] 25)).alloc (by simp) (.cells C.toArray 49)).alloc (by simp; omega) (.cells zeroV.toArray 49))
  have HBB := Lib.hid (fun (w1 : World) (hb : Below (w.heap.size + 3) (((w.alloc (.cells #[.slice A p.length cap] 25)).alloc (.cells C.toArray 49)).alloc (.cells zeroV.toArray 49)) w1) => (⟨(hb.block w.heap.size (by omega)).trans (block_alloc (block_alloc (heap_alloc_new w _) _) _), (hb.block (w.heap.size + 1) (by omega)).trans (block_alloc (heap_alloc_new1 w _ _) _), (hb.block (w.heap.size + 2) (by omega)).trans (by have := heap_alloc_new ((w.alloc (.cells #[.slice A p.length cap] 25)).alloc (.cells C.toArray 49)) (.cells zeroV.toArray 49); simpa using this), hb0.out.trans (hb.mono (by omega)), by have := hb.size; simp at this; omega⟩ :
    w1.heap[w.heap.size]? = some (.cells #[.slice A p.length cap] 25 (0, 0)) ∧ w1.heap[w.heap.size + 1]? = some (.cells C.toArray 49 (0, 0)) ∧ w1.heap[w.heap.size + 2]? = some (.cells zeroV.toArray 49 (0, 0)) ∧ Below w.heap.size w w1 ∧ w.heap.size + 3 ≤ w1.heap.size))
  have HR0 := Lib.hid (range_block (block_alloc (heap_alloc_new1 w (.cells #[.slice A p.length cap] 25) (.cells C.toArray 49)) (.cells zeroV.toArray 49)))
  clear ht hP hi hC hp hc
  go_enter Tryd.func31, Tryd.ntmps31
  go_wp2_with (first | (refine wpList_load_mid (by rfl) 49 _ (by rfl) (w.heap.size + 1) 0 (by rfl) C _ HR0.out Tryd.underlying49 (by rfl) HSI.out ?_) | (go_at_call 46; go_must (refine (HCK.out _ hb0.out).mono ?_; rintro e w1 ⟨rfl, hb⟩; have HB := Lib.hid (HBB.out w1 (hb.mono (by simp))); have p1 := (cell_block HB.out.1 0).trans rfl; have z1 := block_lt HB.out.1; have r1 := range_block HB.out.2.1; clear hb)) | (refine wpList_load_mid (by rfl) 49 _ (by rfl) (w.heap.size + 1) 0 (by rfl) C _ r1 Tryd.underlying49 (by rfl) HSI.out ?_) | (go_at_call 35; go_must (refine (HWA.out w1 HB.out.2.2.2.1).mono ?_; rintro e w2 ⟨⟨C2, rfl, hC2⟩, hb2⟩; have HC2 := Lib.hid hC2; have HL2 := Lib.hid (HC2.out.len HI1.out.mem); have HJ2 := Lib.hid (info_st HL2.out); have HB12 := Lib.hid hb2; clear hC2 hb2 p1 z1 r1)) | (refine wpList_store_mid (by rfl) 49 _ _ (by rfl) w2.heap.size 0 C2.toArray (by rfl) (by rfl) (there_new w2 zeroV _ (by simp [HL2.out, zeroV_length])) (by simpa using HJ2.out) HC2.out.one ?_; obtain ⟨w3, hw3⟩ : ∃ w3, (w2.alloc (.cells zeroV.toArray 49)).setCells w2.heap.size 0 C2.toArray.toList = w3 := ⟨_, rfl⟩; rw [hw3]; have hld := ld_begin (S := liveS p) HI1.out HB12.out HC2.out HL2.out (by simpa using hw3); have HLD := Lib.hid hld; obtain ⟨FA, fcap, EA, ea, AA, aa, hci⟩ := hld.st.cin HI1.out.mem (fun f hf => (HI1.out.fr f hf).regs); have HCF := Lib.hid hci.c2; have cb2 := (cell_block hld.box 2).trans (List.getElem?_toArray.trans HCF.out); have zb2 := block_lt hld.box; clear hw3 hci hld))
  obtain ⟨nf, hnf⟩ : ∃ n, s.frames.length = n := ⟨_, rfl⟩
  have HNF := Lib.hid hnf
  have hdp := HI1.out.deep
  rw [hnf] at hdp HCF cb2 ⊢
  obtain ⟨bt, hbt⟩ : ∃ b, w2.heap.size = b := ⟨_, rfl⟩
  rw [hbt] at HLD ⊢
  clear cb2 zb2 hnf hbt HB12 HC2
  go_loopw [30] (fun v wr => ∃ (i : Nat) (t : St), i ≤ nf ∧ v = .int .i64 (i : Int) ∧ LdW w1 wr bt C2 (liveS p) s t ∧ ZT p t i 0) (fun v _ => nf - (intOf v).toNat)
  case atStart => exact ⟨0, s, by omega, rfl, HLD.out, ZT.start p s⟩
  case round =>
    obtain ⟨i, t, hin, rfl, hld, hzt⟩ := hrel
    clear HLD
    have HLD := Lib.hid hld
    have HZT := Lib.hid hzt
    have HI2 := Lib.hid (hld.sim.inv HI1.out)
    have htl : t.frames.length = nf := by rw [hld.sim.fr.length, HNF.out]
    have zbt := block_lt hld.box
    have cb2 := (cell_block hld.box 2).trans (List.getElem?_toArray.trans HCF.out)
    have HBW := Lib.hid (HB.out.2.2.2.1.trans (hld.below.mono HB.out.2.2.2.1.size))
    have HPB := Lib.hid ((hld.below.block w.heap.size (block_lt HB.out.1)).trans HB.out.1)
    by_cases hiN : i = nf
    · obtain rfl : nf = i := hiN.symm
      have rb := range_block hld.box
      have HRB := Lib.hid ((hld.below.block (w.heap.size + 2) (block_lt HB.out.2.2.1)).trans HB.out.2.2.1)
      have HTH := Lib.hid (there_block (n := C2.length) HRB.out (by rw [HL2.out]; exact Nat.le_refl _))
      have HONE := Lib.hid hld.st.one
      clear hld hzt htl
      go_wp2_with (first | (refine wpList_load_mid (by rfl) 49 _ (by rfl) bt 0 (by rfl) C2 _ rb Tryd.underlying49 (by rfl) HJ2.out ?_) | (refine wpList_store_mid (by rfl) 49 _ _ (by rfl) (w.heap.size + 2) 0 C2.toArray (by rfl) (by rfl) HTH.out (by simpa using HJ2.out) HONE.out ?_))
      have hrd := run_loadVar_mid (P := Tryd.prog) _ _ _ 49 C2 _ (World.rangeAt_setCells_same wr (w.heap.size + 2) 0 C2 HTH.out) Tryd.underlying49 (by rfl) HJ2.out
      refine bodyPost_ret (v := .tuple #[.agg C2.toArray, .int .i64 0]) (results_cell2 Tryd.results31 _ _ _ _ _ ?_ hrd) rfl ⟨⟨C2, rfl, t, ?_, ?_⟩, ?_⟩
      · rfl
      · obtain ⟨FS, ES, AS, h1, h2⟩ := HLD.out.st.base (B' := w.heap.size) HB.out.2.2.2.1.size
        exact ⟨FS, ES, AS, h1, strows_setCells (by decide) (by decide) _ _ h2 HRB.out⟩
      · exact ⟨HLD.out.sim, fun j f r h1 h2 h3 => HZT.out j f r h1 h2 (.inl (by have h4 := (List.getElem?_eq_some_iff.1 h1).1; have h5 := HLD.out.sim.fr.length; have h6 := HNF.out; omega)) h3⟩
      · exact below_setCells (by simp) _ _ _ HBW.out
    · have i1 : (i : Int) < nf := by omega
      have i2 : (0 : Int) ≤ i := by omega
      obtain ⟨f, hf⟩ : ∃ f, t.frames[i]? = some f := ⟨_, List.getElem?_eq_getElem (by omega)⟩
      have hfo := HI2.out.fr f (List.mem_of_getElem? hf)
      obtain ⟨F, m, a1, a2, a3, a4⟩ := hfo.parts
      obtain ⟨k, hk⟩ : ∃ k : Nat, f.fn = k := ⟨f.fn.toNat, by have := hfo.fn0; omega⟩
      obtain ⟨q, hq⟩ : ∃ k : Nat, f.pc = k := ⟨f.pc.toNat, by have := hfo.pc0; omega⟩
      have hkn : f.fn.toNat = k := by omega
      have hqn : f.pc.toNat = q := by omega
      rw [hkn] at a1
      rw [hqn] at a3 a4
      obtain ⟨FA', fcap', EA', ea', AA', aa', hci⟩ := hld.st.cin HI2.out.mem (fun f hf => (HI2.out.fr f hf).regs)
      have hc2' := hci.c2
      rw [HCF.out] at hc2'
      simp only [Option.some.injEq, Value.slice.injEq] at hc2'
      obtain ⟨rfl, -, -⟩ := hc2'
      obtain ⟨g, hg, hgl, hgc⟩ := hci.fr (by omega)
      subst hg
      have g0 : wr.cell? ⟨g, i * 14, none⟩ = some (.int .i64 (k : Int)) := by rw [← hk]; exact hgc i f 0 hf (by omega)
      have g1 : wr.cell? ⟨g, i * 14 + 1, none⟩ = some (.int .i64 (q : Int)) := by rw [← hq]; exact hgc i f 1 hf (by omega)
      have HFM := Lib.hid (List.mem_of_getElem? a1)
      have HLVK := Lib.hid (fun (W : World) (hb : Below w.heap.size w W) => HLV.out W hb k F a1)
      have hql := (List.getElem?_eq_some_iff.1 a4).1
      have HRQ := Lib.hid (of_rch a3)
      have HSE := Lib.hid (show liveS p k q = (liveO p F).getD q 0 from by unfold liveS; rw [← hk, a2])
      have HFK := Lib.hid (show ∀ f', t.frames[i]? = some f' → f'.fn.toNat = k ∧ f'.pc.toNat = q from fun f' h => by rw [hf] at h; obtain rfl := Option.some.inj h; exact ⟨hkn, hqn⟩)
      obtain ⟨M, hM⟩ : ∃ M, F.code.length = M := ⟨_, rfl⟩
      have HM := Lib.hid hM
      rw [hM] at hql
      have hM40 := (HRP.out.ok.fn F HFM.out).c2
      rw [hM] at hM40
      have KS : Hid (wr.cell? ⟨w.heap.size, 0, none⟩ = some (.slice A p.length cap) ∧ wr.cell? ⟨g, i * 14, none⟩ = some (.int .i64 (k : Int))) := Lib.hid ⟨(cell_block HPB.out 0).trans rfl, g0⟩
      have HZ := Lib.hid (show bt < wr.heap.size ∧ g < wr.heap.size ∧ w.heap.size < wr.heap.size from ⟨zbt, hgl, block_lt HPB.out⟩)
      have G1 := Lib.hid g1
      clear hld hzt htl hf hfo a1 a2 a3 a4 hk hq hkn hqn hci hgc hM hiN g1 g0
      go_wp2_with fail
      clear cb2 zbt hgl
      go_region_held3 (fun w' => w'.cell? ⟨w.heap.size, 0, none⟩ = some (.slice A p.length cap) ∧ w'.cell? ⟨g, i * 14, none⟩ = some (.int .i64 (k : Int))) (first | exact hk2 | exact KS.out) (first | (go_at_call 22; go_must (refine (HLVK.out _ (by refine HBW.out.trans ((?_ : Below wr.heap.size wr _).mono HBW.out.size); have hb := Below.refl wr.heap.size wr; repeat (first | exact hb | exact Below.refl _ _ | apply Below.drew | apply below_drewN | refine Below.alloc ?_ (by first | omega | (simp; done) | (simp; omega)) _ | refine Below.setCell ?_ (by first | omega | (simp; done) | (simp; omega)) _))).mono ?_; rintro e w8 ⟨⟨lb, O, rfl, hlb, hIL, hOK⟩, hb8⟩; rw [HM.out]; have hb78 : Below wr.heap.size wr w8 := (by refine Below.trans ?_ (hb8.mono (by simp)); have hb := Below.refl wr.heap.size wr; repeat (first | exact hb | exact Below.refl _ _ | apply Below.drew | apply below_drewN | refine Below.alloc ?_ (by first | omega | (simp; done) | (simp; omega)) _ | refine Below.setCell ?_ (by first | omega | (simp; done) | (simp; omega)) _)); have hk2 : w8.cell? ⟨w.heap.size, 0, none⟩ = some (.slice A p.length cap) ∧ w8.cell? ⟨g, i * 14, none⟩ = some (.int .i64 (k : Int)) := ⟨(hb78.cell (p := ⟨w.heap.size, 0, none⟩) HZ.out.2.2).trans KS.out.1, (hb78.cell (p := ⟨g, i * 14, none⟩) HZ.out.2.1).trans KS.out.2⟩; have HIL := Lib.hid hIL; have HOK := Lib.hid hOK; have HB78 := Lib.hid hb78; have HLB := Lib.hid (show wr.heap.size ≤ lb from hlb); clear hlb hIL hOK hb8 hb78)))
      all_goals (
        rename_i hHeld
        clear hHeld
        clear hk2
        have HLD8 := Lib.hid (HLD.out.keeps HB78.out)
        have hOe := liveO_eq HRP.out HFM.out HOK.out
        have hv4 := getD_lt HOK.out.inv.lt q
        have HVE := Lib.hid (show liveS p k q = O.getD q 0 by rw [HSE.out, hOe])
        have hlq := outL_get (liveL_get (F := F) (O := O) (pc := q) (by rw [HM.out]; exact hql))
        rw [HRQ.out] at hlq
        obtain ⟨v, hv⟩ : ∃ v, O.getD q 0 = v := ⟨_, rfl⟩
        have HLQ := Lib.hid (show (outL (liveL F O))[q]? = some (v : Int) by rw [← hv]; exact hlq)
        rw [hv] at hv4 HVE
        have q1 : (q : Int) < M := by omega
        have q2 : (0 : Int) ≤ q := by omega
        have q5 : decide ((v : Int) < 0) = false := by rw [decide_eq_false_iff_not]; omega
        have HIL8 := Lib.hid HIL.out
        have HGL := Lib.hid (show g < lb from Nat.lt_of_lt_of_le HZ.out.2.1 HLB.out)
        clear hlq hOe hv
        go_wp2_with fail
        go_loopw [46] (fun v wr => ∃ (r : Nat) (t : St), r ≤ 12 ∧ v = .int .i64 (r : Int) ∧ LdW w1 wr bt C2 (liveS p) s t ∧ IntsB wr lb (outL (liveL F O)) ∧ (∀ f', t.frames[i]? = some f' → f'.fn.toNat = k ∧ f'.pc.toNat = q) ∧ ZT p t i r) (fun v _ => 12 - (intOf v).toNat)
        case atStart => exact ⟨0, t, by omega, rfl, HLD8.out, HIL8.out, HFK.out, HZT.out⟩
        case round =>
          obtain ⟨r, t5, hr, rfl, hld5, hil5, hfk5, hzt5⟩ := hrel
          have HLD5 := Lib.hid hld5
          have HZT5 := Lib.hid hzt5
          by_cases hr12 : r = 12
          · subst hr12
            clear hld5 hil5 hfk5 hzt5
            go_wp2_with fail
            go_roundw
            case rel => exact ⟨i + 1, t5, by omega, by go_num, HLD5.out, HZT5.out.next⟩
            case measure => simp [intOf]; omega
          · have r1 : (r : Int) < 12 := by omega
            have r2 : (0 : Int) ≤ r := by omega
            have r3 : (r : Int) < 64 := by omega
            have r4 : r < 64 := by omega
            have r5 : r < 12 := by omega
            have HI5 := Lib.hid (hld5.sim.inv HI1.out)
            have htl5 : t5.frames.length = nf := by rw [hld5.sim.fr.length, HNF.out]
            obtain ⟨f5, hf5⟩ : ∃ f, t5.frames[i]? = some f := ⟨_, List.getElem?_eq_getElem (by omega)⟩
            obtain ⟨e1, e2⟩ := hfk5 f5 hf5
            have hfo5 := HI5.out.fr f5 (List.mem_of_getElem? hf5)
            have e3 : f5.pc = (q : Int) := by have := hfo5.pc0; omega
            obtain ⟨FA', fcap', EA', ea', AA', aa', hci⟩ := hld5.st.cin HI5.out.mem (fun f hf => (HI5.out.fr f hf).regs)
            have hc2' := hci.c2
            rw [HCF.out] at hc2'
            simp only [Option.some.injEq, Value.slice.injEq] at hc2'
            obtain ⟨rfl, -, -⟩ := hc2'
            obtain ⟨g', hg', hgl, hgc⟩ := hci.fr (by omega)
            obtain rfl : g = g' := by simpa using hg'
            have k4 : wr.cell? ⟨g, i * 14 + 1, none⟩ = some (.int .i64 (q : Int)) := by rw [← e3]; exact hgc i f5 1 hf5 (by omega)
            have k5 := hil5.cell HLQ.out
            have zlb := hil5.lt
            have hdv : (v : Int) / 2 ^ r = ((v / 2 ^ r : Nat) : Int) := by push_cast; rfl
            have hba := live_nat v r
            have htb : v.testBit r = decide (v / 2 ^ r % 2 = 1) := Nat.testBit_eq_decide_div_mod_eq
            have hdl : v / 2 ^ r ≤ v := Nat.div_le_self _ _
            obtain ⟨d, hd⟩ : ∃ d, v / 2 ^ r = d := ⟨_, rfl⟩
            rw [hd] at hdv hba htb hdl
            by_cases hbit : d % 2 = 1
            · have hba1 : bits .and .i64 (d : Int) 1 = 1 := by rw [hba, hbit]; rfl
              have HZS := Lib.hid (hzt5.skip hf5 (by rw [e1, e2, HVE.out, htb, hbit]; rfl))
              have HIL5 := Lib.hid hil5
              have HFK5 := Lib.hid hfk5
              clear hld5 hil5 hfk5 hzt5 htl5 hf5 e1 e2 hfo5 e3 hci hg' hgc hba htb hd hbit
              go_wp2_with fail
              go_roundw
              case rel => exact ⟨r + 1, t5, by omega, by go_num, HLD5.out, HIL5.out, HFK5.out, HZS.out⟩
              case measure => simp [intOf]; omega
            · have hbit0 : d % 2 = 0 := by omega
              have hba1 : bits .and .i64 (d : Int) 1 = 0 := by rw [hba, hbit0]; rfl
              have hno : (liveS p f5.fn.toNat f5.pc.toNat).testBit r = false := by rw [e1, e2, HVE.out, htb, hbit0]; rfl
              have hput := hld5.put HI1.out HCF.out hf5 r5 0 hno
              have hadr : i * 14 + (2 + r) = i * 14 + 2 + r := by omega
              rw [hadr] at hput
              have HPUT := Lib.hid hput
              have HZP := Lib.hid (hzt5.put hf5 hfo5.regs r5)
              have HILP := Lib.hid (show IntsB (wr.setCell ⟨g, i * 14 + 2 + r, none⟩ (.int .i64 0)) lb (outL (liveL F O)) from (Below.heap_setCell _ _ _ _ (by have := HGL.out; simp; omega)).trans hil5)
              have HFKP := Lib.hid (show ∀ f', (putR t5 i f5 r 0).frames[i]? = some f' → f'.fn.toNat = k ∧ f'.pc.toNat = q from fun f' h => by
                have h' : (t5.frames.set i { f5 with regs := f5.regs.set r 0 })[i]? = some f' := h
                rw [List.getElem?_set_self (by omega)] at h'
                obtain rfl := Option.some.inj h'
                exact ⟨e1, e2⟩)
              have cr := hgc i f5 (2 + r) hf5 (by omega)
              have hrg : (frCell f5)[2 + r]? = some (.int .i64 (f5.reg (r : Int))) := by have := frCell_reg hfo5.regs (r := (r : Int)) (by omega) (by omega); simpa using this
              rw [hrg, hadr] at cr
              have fz : wr.frozen? ⟨g, i * 14 + 2 + r, none⟩ = false := by
                obtain ⟨FS, ES, AS, hCe, hrow⟩ := hld5.st
                have hFS : FS = .slice (some ⟨g, 0, none⟩) nf fcap := by
                  have h := HCF.out
                  rw [hCe] at h
                  simpa [stCells] using h
                rcases hrow.fr.2 with ⟨h8, -⟩ | ⟨g9, cap9, cur9, hv9, hg9, hh9, -⟩
                · rw [hFS] at h8; simp at h8
                · rw [hFS] at hv9
                  simp only [Value.slice.injEq, Option.some.injEq, Addr.mk.injEq, and_true] at hv9
                  obtain ⟨rfl, -⟩ := hv9
                  exact frozen_block hh9 _
              obtain ⟨rv, hrv⟩ : ∃ z, f5.reg (r : Int) = z := ⟨_, rfl⟩
              rw [hrv] at cr
              clear hld5 hil5 hfk5 hzt5 htl5 hf5 e1 e2 hfo5 e3 hci hg' hgc hba htb hd hbit hbit0 hno hput hadr hrg hrv
              go_wp2_with fail
              go_roundw
              case rel => exact ⟨r + 1, _, by omega, by go_num, HPUT.out, HILP.out, HFKP.out, HZP.out⟩
              case measure => simp [intOf]; omega)
end Go.Proofs.YtfngkpbbimibaaaDoor
