/-
  The contract of emit.Far: how far machine code goes.
-/
import Derived.Test.YtefbdecejoeamaaDoorFaP
import Derived.Test.YtefbdecejoeamaaDoorEr
import Derived.Test.YtefbdecejoeamaaDoorIx
import Derived.Test.YtefbdecejoeamaaDoorKu
namespace Go.Proofs.YtefbdecejoeamaaDoor
open Go.RowKit Tier
theorem hdA_memF {F : Fnc} {q : Nat} (h : q < (hdL F).length) : hdA F q ∈ hdL F ∧ (hdL F)[q]? = some (hdA F q) := by
  have h1 : (hdL F)[q]? = some (hdL F)[q] := List.getElem?_eq_getElem h
  rw [hdA_eq h1]
  exact ⟨List.getElem_mem h, h1⟩
set_option maxRecDepth 100000 in
set_option maxHeartbeats 8000000 in
theorem far_any {p : List Fnc} (hc : checkP p = 0) {B : Nat} (s : St) (C : List Value) (A1 : Option Addr) (cap1 : Nat) (w : World) (ht : Tab w) (hP : ProgAt w (.slice A1 p.length cap1) p) (hi : StInv p s) (hC : CellsSt C w B s) (hst : s.status = 0) (F : Fnc) (hex : ∃ fs f, s.frames = fs ++ [f] ∧ p[f.fn.toNat]? = some F) :
    Calls Tryd.prog 49 #[.agg #[.slice A1 p.length cap1], .agg C.toArray] w fun e w' => (∃ (C' : List Value) (t : St) (k : Nat), e = .returned (.tuple #[.agg C'.toArray, .int .i64 (k : Int), .int .i64 0]) ∧ FarR p F s t k ∧ CellsSt C' w' w.heap.size t) ∧ Below w.heap.size w w' := by
  have hp := right_of hc
  obtain ⟨fs, f, hf, hFp⟩ := hex
  have hfo : FrOk p f := hi.fr f (by rw [hf]; simp)
  obtain ⟨k, hk⟩ : ∃ k : Nat, f.fn = (k : Int) := ⟨f.fn.toNat, by have := hfo.fn0; omega⟩
  have hkn : f.fn.toNat = k := by omega
  rw [hkn] at hFp
  have hFm := List.mem_of_getElem? hFp
  have hfn := hp.ok.fn F hFm
  have hkl := (List.getElem?_eq_some_iff.1 hFp).1
  obtain ⟨A0, cap0, hA0, hA⟩ := hP.slice
  simp only [Value.slice.injEq, true_and] at hA0
  obtain ⟨g, hAg, hg, hfp⟩ := hA (by omega)
  obtain ⟨rfl, rfl⟩ := hA0
  subst hAg
  obtain ⟨u, hu, -, -, d2⟩ := hfp k F hFp
  obtain ⟨FA, fcap, rfl, hFA⟩ := hu.slice
  obtain ⟨gc, hgc, hgcl, hins⟩ := hFA (by have := hfn.c1; omega)
  subst hgc
  obtain ⟨H, hH⟩ : ∃ H, (hdL F).length = H := ⟨_, rfl⟩
  have HH := Lib.hid hH
  have hHM : H ≤ 40 := by have h1 := hdTo_len F F.code.length; have h2 : hdTo F F.code.length = hdL F := rfl; have := hfn.c2; rw [h2, hH] at h1; omega
  obtain ⟨M, hM⟩ : ∃ M, F.code.length = M := ⟨_, rfl⟩
  have HM := Lib.hid hM
  rw [hM] at d2
  have hM40 : M ≤ 40 := by have := hfn.c2; omega
  have HER := Lib.hid (fun (W : World) (hb : Below w.heap.size w W) => erunning_any hc s C (some ⟨g, 0, none⟩) cap1 W (ht.keeps hb) (hP.keeps hb) hi (hC.below hb))
  have HBK := Lib.hid (fun (W : World) (hb : Below w.heap.size w W) => blocks_any p (some ⟨g, 0, none⟩) cap1 k F W (ht.keeps hb) (hP.keeps hb) hc hFp)
  have HWB := Lib.hid (fun (W : World) (hb : Below w.heap.size w W) => swalk_c hc 0 (by omega) (ht.keeps hb) (hP.keeps hb) hi (hC.below hb))
  rw [show walkSt p 0 s = s from rfl] at HWB
  have HNX := Lib.hid (fun (C : List Value) (s : St) (hi : StInv p s) (W : World) (hb : Below w.heap.size w W) (Bs : Nat) (hC : CellsSt C W Bs s) => snext_c hc (ht.keeps hb) (hP.keeps hb) hi hC)
  have HSI := Lib.hid (info_st (hC.len hi.mem))
  have HRP := Lib.hid hp
  have HFM := Lib.hid hFm
  have HI := Lib.hid hi
  have HST := Lib.hid hst
  have HF := Lib.hid hf
  have HFP := Lib.hid hFp
  have HFPN := Lib.hid (show p[f.fn.toNat]? = some F by rw [hkn]; exact hFp)
  have HPK := Lib.hid (fun (W : World) (hb : Below w.heap.size w W) => (⟨(hb.cell (p := ⟨g, k * 3 + 2, none⟩) hg).trans d2, Nat.lt_of_lt_of_le hg hb.size⟩ : W.cell? ⟨g, k * 3 + 2, none⟩ = some (.slice (some ⟨gc, 0, none⟩) M fcap) ∧ g < W.heap.size))
  have HOPC := Lib.hid (fun (W : World) (hb : Below w.heap.size w W) (i : Nat) (hi : i < M) => (⟨(hb.cell (p := ⟨gc, i * 5, none⟩) hgcl).trans (hins i (insAt F i) (by rw [List.getElem?_eq_getElem (by omega), insAt_eq (List.getElem?_eq_getElem (by omega))])).1, Nat.lt_of_lt_of_le hgcl hb.size⟩ : W.cell? ⟨gc, i * 5, none⟩ = some (.int .i64 (insAt F i).op) ∧ gc < W.heap.size))
  have hz := zero_st
  have hkN : (k : Int) < p.length := by omega
  have hk0 : (0 : Int) ≤ k := by omega
  have hfl : (frCell f).length = 14 := frCell_length hfo.regs
  have HFL := Lib.hid hfl
  have HFI : Hid ((Tryd.prog.info? 78).map (·.size) = some (frCell f).length) := Lib.hid (by rw [hfl]; exact info_fr)
  have HFO1 : Hid ((frCell f).toArray.all (·.oneCell') = true) := Lib.hid (all_oneCell_toArray (fun v hv => frCells_cell (l := [f]) v (by rw [frCells_one]; exact hv)))
  have HF0 : Hid ((frCell f)[0]? = some (.int .i64 (k : Int))) := Lib.hid (by rw [← hk]; rfl)
  have hmf : ∀ (fn : Fn) (first cap : Array Value) (w : World), (Instr.makeFunc fn first cap).run Tryd.prog w = .ok (.func fn first cap) w := fun _ _ _ _ => rfl
  have hb0 := Lib.hid ((((Below.refl w.heap.size w).alloc (Nat.le_refl _) (.cells #[(.slice (some ⟨g, 0, none⟩) p.length cap1)] 25)).alloc (by simp) (.cells C.toArray 46)).alloc (by simp; omega) (.cells zeroV.toArray 46))
  have HBB := Lib.hid (fun (w1 : World) (hb : Below (w.heap.size + 3) (((w.alloc (.cells #[(.slice (some ⟨g, 0, none⟩) p.length cap1)] 25)).alloc (.cells C.toArray 46)).alloc (.cells zeroV.toArray 46)) w1) => (⟨(hb.block w.heap.size (by omega)).trans (block_alloc (block_alloc (heap_alloc_new w _) _) _), (hb.block (w.heap.size + 1) (by omega)).trans (block_alloc (heap_alloc_new1 w _ _) _), (hb.block (w.heap.size + 2) (by omega)).trans (by have := heap_alloc_new ((w.alloc (.cells #[(.slice (some ⟨g, 0, none⟩) p.length cap1)] 25)).alloc (.cells C.toArray 46)) (.cells zeroV.toArray 46); simpa using this), hb0.out.trans (hb.mono (by omega)), by have := hb.size; simp at this; omega⟩ :
    w1.heap[w.heap.size]? = some (.cells #[(.slice (some ⟨g, 0, none⟩) p.length cap1)] 25 (0, 0)) ∧ w1.heap[w.heap.size + 1]? = some (.cells C.toArray 46 (0, 0)) ∧ w1.heap[w.heap.size + 2]? = some (.cells zeroV.toArray 46 (0, 0)) ∧ Below w.heap.size w w1 ∧ w.heap.size + 3 ≤ w1.heap.size))
  have HR0 := Lib.hid (range_block (block_alloc (heap_alloc_new1 w (.cells #[(.slice (some ⟨g, 0, none⟩) p.length cap1)] 25) (.cells C.toArray 46)) (.cells zeroV.toArray 46)))
  clear ht hP hi hC hst hf hFp hfo hk hkn hFm hfn hkl hA hfp d2 hu hFA hgcl hins hH hM hc hp hfl hg
  go_enter Tryd.func49, Tryd.ntmps49
  go_wp2_with (refine wpList_load_mid (by rfl) 46 _ (by rfl) (w.heap.size + 1) 0 (by rfl) C _ HR0.out Tryd.underlying46 (by rfl) HSI.out ?_)
  refine (HER.out _ hb0.out).mono ?_
  rintro e w1 ⟨⟨h1, -⟩, hb⟩
  obtain ⟨fs', f', hf', rfl⟩ := h1 HST.out
  rw [HF.out] at hf'
  obtain ⟨rfl, hff⟩ := List.append_inj' hf' rfl
  simp only [List.cons.injEq, and_true] at hff
  subst hff
  have HB1 := Lib.hid (HBB.out w1 (hb.mono (by simp)))
  clear hb h1 hf' HER
  have p1 := (cell_block HB1.out.1 0).trans rfl
  have z1 := block_lt HB1.out.1
  go_wp2_with (refine wpList_store_mid (by rfl) 78 _ _ (by rfl) w1.heap.size 0 (frCell f).toArray (by rfl) (by rfl) (there_new w1 [.int .i64 0, .int .i64 0, .int .i64 0, .int .i64 0, .int .i64 0, .int .i64 0, .int .i64 0, .int .i64 0, .int .i64 0, .int .i64 0, .int .i64 0, .int .i64 0, .int .i64 0, .int .i64 0] _ (by simp [HFL.out])) (by simpa using HFI.out) HFO1.out ?_; obtain ⟨w2, hw2⟩ : ∃ w2, (w1.alloc (.cells (List.toArray [.int .i64 0, .int .i64 0, .int .i64 0, .int .i64 0, .int .i64 0, .int .i64 0, .int .i64 0, .int .i64 0, .int .i64 0, .int .i64 0, .int .i64 0, .int .i64 0, .int .i64 0, .int .i64 0]) 78)).setCells w1.heap.size 0 (frCell f).toArray.toList = w2 := ⟨_, rfl⟩; rw [hw2]; have HBT : Hid (Below w1.heap.size w1 w2) := Lib.hid (hw2 ▸ below_setCells (Nat.le_refl _) _ _ _ ((Below.refl _ _).alloc (Nat.le_refl _) _)); have HTB : Hid (w2.heap[w1.heap.size]? = some (.cells (frCell f).toArray 78 (0, 0))) := Lib.hid (hw2 ▸ block_full (heap_alloc_new _ _) _ (by simp [HFL.out])); have HB2 := Lib.hid (HB1.out.2.2.2.1.trans (HBT.out.mono (by have := HB1.out.2.2.2.2; omega))); have p2 := (HBT.out.cell (p := ⟨w.heap.size, 0, none⟩) (block_lt HB1.out.1)).trans p1; have z2 := Nat.lt_of_lt_of_le z1 HBT.out.size; have f2 := (cell_block HTB.out 0).trans (List.getElem?_toArray.trans HF0.out); have y2 := block_lt HTB.out; clear hw2 p1 z1)
  refine (HBK.out _ HB2.out).mono ?_
  rintro e w3 ⟨⟨gb, Bb, bs, rfl, hgb, hBB, hOB⟩, hb3⟩
  rw [HH.out]
  have HB3 := Lib.hid (HB2.out.trans (hb3.mono HB2.out.size))
  have HX3 := Lib.hid (show _ ∧ _ ∧ _ ∧ _ from ⟨(hb3.block _ (Nat.lt_of_lt_of_le (block_lt HB1.out.1) HBT.out.size)).trans ((HBT.out.block _ (block_lt HB1.out.1)).trans HB1.out.1), (hb3.block _ (Nat.lt_of_lt_of_le (block_lt HB1.out.2.1) HBT.out.size)).trans ((HBT.out.block _ (block_lt HB1.out.2.1)).trans HB1.out.2.1), (hb3.block _ (Nat.lt_of_lt_of_le (block_lt HB1.out.2.2.1) HBT.out.size)).trans ((HBT.out.block _ (block_lt HB1.out.2.2.1)).trans HB1.out.2.2.1), (hb3.block _ (block_lt HTB.out)).trans HTB.out⟩)
  have HBBk := Lib.hid hBB
  have HOB := Lib.hid hOB
  clear p2 z2 f2 y2 hgb hBB hOB hb3 HBK
  obtain ⟨w4, hw4⟩ : ∃ W, w3.alloc (.cells #[.slice (some ⟨gb, 0, none⟩) H H] 64) = W := ⟨_, rfl⟩
  have hb34 : Below w3.heap.size w3 w4 := hw4 ▸ (Below.refl _ _).alloc (Nat.le_refl _) _
  have HX4 := Lib.hid (show _ ∧ _ ∧ _ ∧ _ ∧ _ from ⟨(hb34.block _ (block_lt HX3.out.1)).trans HX3.out.1, (hb34.block _ (block_lt HX3.out.2.1)).trans HX3.out.2.1, (hb34.block _ (block_lt HX3.out.2.2.1)).trans HX3.out.2.2.1, (hb34.block _ (block_lt HX3.out.2.2.2)).trans HX3.out.2.2.2, (show w4.heap[w3.heap.size]? = some (.cells #[.slice (some ⟨gb, 0, none⟩) H H] 64 (0, 0)) from hw4 ▸ heap_alloc_new w3 _)⟩)
  have HB4 := Lib.hid (HB3.out.trans (hb34.mono HB3.out.size))
  have HBB4 := Lib.hid (HBBk.out.keeps hb34)
  have p4 := (cell_block HX3.out.1 0).trans rfl
  have z4 := block_lt HX3.out.1
  have f4 := (cell_block HX3.out.2.2.2 0).trans (List.getElem?_toArray.trans HF0.out)
  have y4 := block_lt HX3.out.2.2.2
  have c4 := (HPK.out _ HB3.out).1
  have x4 := (HPK.out _ HB3.out).2
  have HR4 := Lib.hid (range_block HX4.out.2.1)
  clear hb34 HX3 HBBk HTB HBT
  subst hw4
  go_wp2_with (refine wpList_load_mid (by rfl) 46 _ (by rfl) (w.heap.size + 1) 0 (by rfl) C _ HR4.out Tryd.underlying46 (by rfl) HSI.out ?_)
  refine (HWB.out _ HB4.out).mono ?_
  rintro e w5 ⟨⟨C2, rfl, hC2⟩, hb5⟩
  obtain ⟨w4, hw4⟩ : ∃ W, w3.alloc (.cells #[.slice (some ⟨gb, 0, none⟩) H H] 64) = W := ⟨_, rfl⟩
  rw [hw4] at HX4 HB4 HBB4 hb5 hC2
  obtain ⟨bb, hbb⟩ : ∃ b, w3.heap.size = b := ⟨_, rfl⟩
  rw [hbb] at HX4 ⊢
  have HX5 : Hid (Sx w4 w.heap.size (.slice (some ⟨g, 0, none⟩) p.length cap1) w5 []) := Lib.hid ⟨hb5, (hb5.block _ (block_lt HX4.out.1)).trans HX4.out.1, fun x hx => by simp at hx⟩
  have HC2 := Lib.hid hC2
  have HL2 := Lib.hid (HC2.out.len HI.out.mem)
  have HJ2 := Lib.hid (info_st HL2.out)
  have HI2 := HI
  clear hC2 hb5 p4 z4 f4 y4 c4 x4 HR4 HWB hw4 hbb
  go_wp2_with (refine wpList_store_mid (by rfl) 46 _ _ (by rfl) w5.heap.size 0 C2.toArray (by rfl) (by rfl) (there_new w5 zeroV _ (by simp [HC2.out.len HI2.out.mem, zeroV_length])) (by simpa using HJ2.out) HC2.out.one ?_; obtain ⟨w6, hw6⟩ : ∃ w6, (w5.alloc (.cells zeroV.toArray 46)).setCells w5.heap.size 0 C2.toArray.toList = w6 := ⟨_, rfl⟩; rw [hw6]; have HX6 : Hid (Sx w4 w.heap.size (.slice (some ⟨g, 0, none⟩) p.length cap1) w6 [(w5.heap.size, C2, s)]) := Lib.hid (hw6 ▸ HX5.out.add HC2.out HI2.out.mem); have pc6 := HX6.out.pcell; clear hw6)
  obtain ⟨sb, hsb⟩ : ∃ b, w5.heap.size = b := ⟨_, rfl⟩
  rw [hsb] at HX6 ⊢
  have HSB5 := Lib.hid (show sb = w5.heap.size from hsb.symm)
  have HIF := Lib.hid (show s.fuel ≤ 10000 ∧ 0 ≤ s.fuel from ⟨HI.out.fuel1, HI.out.fuel0⟩)
  have HS4 := Lib.hid HX5.out.below.size
  have HAT := Lib.hid (fun (q : Int) (W : World) (hb : Below w4.heap.size w4 W) => fat_any F q gb Bb bs bb H W (by rw [HH.out]; exact hHM) (by rw [HH.out]; exact (hb.block _ (block_lt HX4.out.2.2.2.2)).trans HX4.out.2.2.2.2) (HBB4.out.keeps hb) HOB.out)
  have HLA0 := Lib.hid (show LastAt p F s f.pc.toNat from ⟨HST.out, _, f, HF.out, HFPN.out, by have := (HI.out.fr f (by rw [HF.out]; simp)).pc0; omega⟩)
  clear pc6 hsb
  go_loopw [13] (fun v wr => ∃ (n : Nat) (Co : List Value) (so : St), v = .int .i64 (n : Int) ∧ StInv p so ∧ (∃ q, LastAt p F so q) ∧ (∀ t k, FarR p F so t k → FarR p F s t (n + k)) ∧ (n : Int) + so.fuel = s.fuel ∧ Sx w4 w.heap.size (.slice (some ⟨g, 0, none⟩) p.length cap1) wr [(sb, Co, so)]) (fun v _ => 10001 - (intOf v).toNat)
  case atStart => exact ⟨0, C2, s, rfl, HI.out, ⟨_, HLA0.out⟩, fun t k h => by rw [Nat.zero_add]; exact h, by simp, HX6.out⟩
  case round =>
    obtain ⟨n, Co, so, rfl, hio, ⟨q, hla⟩, hfar, hnf, hx⟩ := hrel
    clear HX6
    obtain ⟨wo, hwo⟩ : ∃ wo : World, wo = wr := ⟨_, rfl⟩
    subst hwo
    obtain ⟨fo, ho, e1, e2, e3⟩ := hla.ex
    have hoo : FrOk p ho := hio.fr ho (by rw [e1]; simp)
    obtain ⟨FA, fa, EA, ea, AA, aa, hci⟩ := hx.cin (.head _) hio
    obtain ⟨kf, hkf⟩ : ∃ kf, fo.length = kf := ⟨_, rfl⟩
    have hnl : so.frames.length = kf + 1 := by rw [e1, ← hkf]; simp
    obtain ⟨gf, hgf, hgfl, hgfc⟩ := hci.fr (by omega)
    have hdp := hio.deep
    obtain ⟨nf, hn⟩ : ∃ nf, so.frames.length = nf := ⟨_, rfl⟩
    have c2 := (hx.cell (.head _) 2).trans hci.c2
    rw [hn, hgf] at c2
    rw [hn] at hnl hdp
    have hk0 : (0 : Int) ≤ kf := by omega
    have hk1 : (kf : Int) < nf := by omega
    have hwn : IntKind.i64.wrap ((nf : Int) - 1) = (kf : Int) := by rw [IntKind.wrap_i64]; omega
    have gp : wo.cell? ⟨gf, kf * 14 + 1, none⟩ = some (.int .i64 (q : Int)) := (hgfc kf ho 1 (by rw [e1, ← hkf]; simp) (by omega)).trans (by rw [← e3]; rfl)
    have c0b := hx.lt (.head _)
    have HIO := Lib.hid hio
    have HLA := Lib.hid hla
    have HFAR := Lib.hid hfar
    have HNF := Lib.hid hnf
    have HX := Lib.hid hx
    have HFUEL := Lib.hid hci.c19
    have HQB := Lib.hid hoo
    have HE := Lib.hid (show _ ∧ _ ∧ _ from ⟨e1, e2, e3⟩)
    clear hio hla hfar hnf hci hgfc hgf hkf hn hoo e1 e2 e3 hx hdp hnl
    by_cases hq : q ∈ hdL F
    · obtain ⟨j, hj⟩ := List.getElem?_of_mem hq
      have hjH : j < H := by have := (List.getElem?_eq_some_iff.1 hj).1; rw [HH.out] at this; exact this
      have hjq : hdA F j = q := hdA_eq hj
      obtain ⟨r0, hr0⟩ : ∃ r, bs[j]? = some r := ⟨_, List.getElem?_eq_getElem (by rw [HOB.out.len, HH.out]; exact hjH)⟩
      obtain ⟨hr1, hr2, -, -⟩ := HOB.out.at_ j r0 hr0
      have hts := toF_spec HRP.out HFM.out hq
      obtain ⟨m, hm⟩ : ∃ m, toF F q = m + 1 := ⟨toF F q - 1, by have := hts.1; omega⟩
      have hmM : m < M := by have := hts.2.1; rw [HM.out] at this; omega
      have hqm : q ≤ m := by have := hts.1; omega
      obtain ⟨TI, hTI⟩ : ∃ x : Int, ((m + 1 : Nat) : Int) = x := ⟨_, rfl⟩
      have hwm : IntKind.i64.wrap (TI - 1) = (m : Int) := by rw [IntKind.wrap_i64]; omega
      obtain ⟨c0, hc0⟩ : ∃ c0 : Nat, m + 1 - q = c0 := ⟨_, rfl⟩
      have hwc : IntKind.i64.wrap (TI - (q : Int)) = (c0 : Int) := by rw [IntKind.wrap_i64]; omega
      obtain ⟨opv, hop⟩ : ∃ x, (insAt F m).op = x := ⟨_, rfl⟩
      have HJY := Lib.hid (fun (W : World) (hb : Below w4.heap.size w4 W) => (⟨((HBB4.out.keeps hb).cell hr0 (j := 0) (by omega)).trans (show some (Value.int .i64 r0.fr) = some (.int .i64 (q : Int)) by rw [hr1, hjq]), ((HBB4.out.keeps hb).cell hr0 (j := 1) (by omega)).trans (show some (Value.int .i64 r0.to) = some (.int .i64 TI) by rw [hr2, hjq, hm, hTI]), block_lt (HBB4.out.keeps hb).blk, (cell_block ((hb.block _ (block_lt HX4.out.2.2.2.2)).trans HX4.out.2.2.2.2) 0).trans rfl, block_lt ((hb.block _ (block_lt HX4.out.2.2.2.2)).trans HX4.out.2.2.2.2), hop ▸ (HOPC.out W (HB4.out.trans (hb.mono HB4.out.size)) m hmM).1, (HOPC.out W (HB4.out.trans (hb.mono HB4.out.size)) m hmM).2⟩ : W.cell? ⟨gb, j * 4, none⟩ = some (.int .i64 (q : Int)) ∧ W.cell? ⟨gb, j * 4 + 1, none⟩ = some (.int .i64 TI) ∧ gb < W.heap.size ∧ W.cell? ⟨bb, 0, none⟩ = some (.slice (some ⟨gb, 0, none⟩) H H) ∧ bb < W.heap.size ∧ W.cell? ⟨gc, m * 5, none⟩ = some (.int .i64 opv) ∧ gc < W.heap.size))
      have HCO := Lib.hid (show costF F q = c0 - (if 17 ≤ opv then 1 else 0) by unfold costF; rw [hm, Nat.add_sub_cancel, hop, hc0])
      have HOP := Lib.hid (show (insAt F (toF F q - 1)).op = opv by rw [hm, Nat.add_sub_cancel, hop])
      have HJ := Lib.hid hj
      have HQ := Lib.hid hq
      have hmi : (m : Int) < M := by omega
      have hm0 : (0 : Int) ≤ m := by omega
      have hji : (j : Int) < H := by omega
      have hj0 : (0 : Int) ≤ j := by omega
      have hjn : decide ((j : Int) < 0) = false := by rw [decide_eq_false_iff_not]; omega
      have hc1 : 0 < c0 := by omega
      have hcM : c0 ≤ 41 := by have := hts.2.1; have := HM.out; omega
      clear hts hj hq hjq hr0 hr1 hr2 hm hTI hop hc0 hqm hmM
      go_wp2_with fail
      refine (HAT.out (q : Int) _ HX.out.below).mono ?_
      rintro e wz ⟨⟨r, rfl, hr⟩, hbz⟩
      have hr1 : r = (j : Int) := by
        rcases hr with ⟨j', h1, h2, h3⟩ | ⟨h1, h2⟩
        · rw [h2, posH_of HJ.out, posH_of (show (hdL F)[j']? = some q by have := (hdA_memF h1).2; rw [Int.ofNat.inj h3] at this; exact this)]
        · exact absurd (by rw [hdA_eq HJ.out]) (h2 j (List.getElem?_eq_some_iff.1 HJ.out).1)
      subst hr1
      have HXZ := Lib.hid (HX.out.keeps hbz)
      clear hr hbz c2 gp c0b
      obtain ⟨y0, y1, y2, b0, b1, o0, o1⟩ := HJY.out wz (HXZ.out).below
      go_wp2_with fail
      go_quiet (fail)
      obtain ⟨wq, hwq⟩ : ∃ W, wz.drewN nq = W := ⟨_, rfl⟩
      rw [hwq]
      have HXQ : Hid (Sx w4 w.heap.size (.slice (some ⟨g, 0, none⟩) p.length cap1) wq [(sb, Co, so)]) := Lib.hid (hwq ▸ HXZ.out.drewN nq)
      clear y0 y1 y2 b0 b1 o0 o1 hwq
      obtain ⟨y0, y1, y2, b0, b1, o0, o1⟩ := HJY.out wq (HXQ.out).below
      have fu := (HXQ.out.cell (.head _) 19).trans HFUEL.out
      have zs := HXQ.out.lt (.head _)
      obtain ⟨ff, hff⟩ : ∃ x, so.fuel = x := ⟨_, rfl⟩
      rw [hff] at fu
      have HFF := Lib.hid hff
      clear hff
      by_cases h17 : 17 ≤ opv
      · have h17b : decide (17 ≤ opv) = true := by rw [decide_eq_true_eq]; exact h17
        obtain ⟨c, hcc⟩ : ∃ c : Nat, c0 = c + 1 := ⟨c0 - 1, by omega⟩
        have hwc1 : IntKind.i64.wrap ((c0 : Int) - 1) = (c : Int) := by rw [IntKind.wrap_i64]; omega
        have HCF := Lib.hid (show costF F q = c by rw [HCO.out, if_pos h17]; omega)
        have hcM2 : c ≤ 41 := by omega
        clear hcc hc1
        have H17 := Lib.hid h17
        clear h17
        by_cases hpo : ff < (c : Int)
        · have hpob : decide (ff < (c : Int)) = true := by rw [decide_eq_true_eq]; exact hpo
          have HPO := Lib.hid hpo
          clear hpo
          have HRJ := Lib.hid (info_st (((HXQ.out).sts _ (.head _)).2.len (HIO.out).mem))
          have HRL := Lib.hid (((HXQ.out).sts _ (.head _)).2.len (HIO.out).mem)
          have HRZ : Hid (wq.heap[(w.heap.size + 1 + 1)]? = some (.cells zeroV.toArray 46 (0, 0))) := Lib.hid (((HXQ.out).below.block _ (block_lt HX4.out.2.2.1)).trans HX4.out.2.2.1)
          have HRX := Lib.hid (HXQ.out)
          have HRF := Lib.hid (show FarR p F s (so) (n) from by have := HFAR.out so 0 (.poor HLA.out HQ.out (by rw [HCF.out, HFF.out]; exact HPO.out)); simpa using this)
          go_wp2_with (first | (refine wpList_load_mid (by rfl) 46 _ (by rfl) sb 0 (by rfl) Co _ (HRX.out.range (.head _)) Tryd.underlying46 (by rfl) HRJ.out ?_) | (refine wpList_store_mid (by rfl) 46 _ _ (by rfl) (w.heap.size + 1 + 1) 0 Co.toArray (by rfl) (by rfl) (there_block HRZ.out (by simp [HRL.out, zeroV_length])) (by simpa using HRJ.out) ((HRX.out.sts _ (.head _)).2.one) ?_))
          have hrd := run_loadVar_mid (P := Tryd.prog) _ _ _ 46 Co _ (World.rangeAt_setCells_same wq (w.heap.size + 1 + 1) 0 Co (there_block HRZ.out (by simp [HRL.out, zeroV_length]))) Tryd.underlying46 (by rfl) HRJ.out
          refine bodyPost_ret (v := .tuple #[.agg Co.toArray, .int .i64 ((n : Nat) : Int), .int .i64 0]) (results_cell3 Tryd.results49 _ _ _ _ _ ?_ hrd) rfl ⟨⟨Co, so, n, rfl, HRF.out, ?_⟩, ?_⟩
          · rfl
          · obtain ⟨FS, ES, AS, h1, h2⟩ := (HRX.out.sts _ (.head _)).2
            exact (CellsSt.base ⟨FS, ES, AS, h1, strows_setCells (by decide) (by decide) _ _ h2 HRZ.out⟩ HB4.out.size)
          · exact below_setCells (by omega) _ _ _ (HB4.out.trans (HRX.out.below.mono HB4.out.size))
        · have hpob : decide (ff < (c : Int)) = false := by rw [decide_eq_false_iff_not]; exact hpo
          have HPO := Lib.hid (show (c : Int) ≤ so.fuel by rw [HFF.out]; omega)
          clear hpo
          go_wp2_with fail
          clear y0 y1 y2 b0 b1 o0 o1 fu zs hpob
          go_loopw [13, 97] (fun v13 v97 wr => ∃ (i : Nat) (Ci : List Value) (nn : Nat), i ≤ c ∧ v97 = .int .i64 (i : Int) ∧ nn = n + i ∧ v13 = .int .i64 (nn : Int) ∧ (∀ l, l ≤ i → (walkSt p l so).status = 0) ∧ Sx w4 w.heap.size (.slice (some ⟨g, 0, none⟩) p.length cap1) wr [(sb, Ci, walkSt p i so)]) (fun _ v _ => c - (intOf v).toNat)
          case atStart => exact ⟨0, Co, n, by omega, rfl, rfl, rfl, fun l hl => by rw [Nat.le_zero.1 hl]; exact HLA.out.st, HXQ.out⟩
          case round =>
            obtain ⟨i, Ci, nn, hic, rfl, hnn, rfl, hst, hx⟩ := hrel
            clear HXQ
            obtain ⟨wi, hwi⟩ : ∃ wi : World, wi = wr := ⟨_, rfl⟩
            subst hwi
            have HXI := Lib.hid hx
            have HSTI := Lib.hid hst
            have HNN := Lib.hid hnn
            have HII := Lib.hid (HIO.out.walk HRP.out i)
            have hn1 : (nn : Int) ≤ 10000 := by have h1 := HNF.out; have h2 := HPO.out; have h3 := HIF.out.1; omega
            have hn0 : (0 : Int) ≤ nn := by omega
            by_cases hie : i = c
            · subst hie
              clear hic hst hnn
              have zs := hx.lt (.head _)
              clear hx
              obtain ⟨y0, y1, y2, b0, b1, o0, o1⟩ := HJY.out wi (HXI.out).below
              have HRJ := Lib.hid (info_st (((HXI.out).sts _ (.head _)).2.len (HII.out).mem))
              have HRL := Lib.hid (((HXI.out).sts _ (.head _)).2.len (HII.out).mem)
              have HRZ : Hid (wi.heap[(w.heap.size + 1 + 1)]? = some (.cells zeroV.toArray 46 (0, 0))) := Lib.hid (((HXI.out).below.block _ (block_lt HX4.out.2.2.1)).trans HX4.out.2.2.1)
              have HRX := Lib.hid (HXI.out)
              have HRF := Lib.hid (show FarR p F s (walkSt p i so) (nn) from by rw [HNN.out]; have := HFAR.out _ _ (.call HLA.out HQ.out (by rw [HCF.out]; exact HPO.out) (by rw [HCF.out]; exact HSTI.out) (by rw [HOP.out]; exact H17.out)); rw [HCF.out] at this; exact this)
              go_wp2_with (first | (refine wpList_load_mid (by rfl) 46 _ (by rfl) sb 0 (by rfl) Ci _ (HRX.out.range (.head _)) Tryd.underlying46 (by rfl) HRJ.out ?_) | (refine wpList_store_mid (by rfl) 46 _ _ (by rfl) (w.heap.size + 1 + 1) 0 Ci.toArray (by rfl) (by rfl) (there_block HRZ.out (by simp [HRL.out, zeroV_length])) (by simpa using HRJ.out) ((HRX.out.sts _ (.head _)).2.one) ?_))
              have hrd := run_loadVar_mid (P := Tryd.prog) _ _ _ 46 Ci _ (World.rangeAt_setCells_same wi (w.heap.size + 1 + 1) 0 Ci (there_block HRZ.out (by simp [HRL.out, zeroV_length]))) Tryd.underlying46 (by rfl) HRJ.out
              refine bodyPost_ret (v := .tuple #[.agg Ci.toArray, .int .i64 ((nn : Nat) : Int), .int .i64 0]) (results_cell3 Tryd.results49 _ _ _ _ _ ?_ hrd) rfl ⟨⟨Ci, walkSt p i so, nn, rfl, HRF.out, ?_⟩, ?_⟩
              · rfl
              · obtain ⟨FS, ES, AS, h1, h2⟩ := (HRX.out.sts _ (.head _)).2
                exact (CellsSt.base ⟨FS, ES, AS, h1, strows_setCells (by decide) (by decide) _ _ h2 HRZ.out⟩ HB4.out.size)
              · exact below_setCells (by omega) _ _ _ (HB4.out.trans (HRX.out.below.mono HB4.out.size))
            · have hil : (i : Int) < c := by omega
              have hi0 : (0 : Int) ≤ i := by omega
              have HIL := Lib.hid (show i < c by omega)
              have pci := hx.pcell
              have zpc := block_lt hx.pblk
              have zs := hx.lt (.head _)
              have HJI := Lib.hid (info_st ((hx.sts _ (.head _)).2.len HII.out.mem))
              clear hic hst hnn hx hie
              go_wp2_with (refine wpList_load_mid (by rfl) 46 _ (by rfl) sb 0 (by rfl) Ci _ (HXI.out.range (.head _)) Tryd.underlying46 (by rfl) HJI.out ?_)
              refine (HNX.out Ci _ HII.out _ (HB4.out.trans (HXI.out.below.mono HB4.out.size)) _ (HXI.out.sts _ (.head _)).2).mono ?_
              rintro e wn ⟨⟨Cn, rfl, hCn⟩, hbn⟩
              rw [← walkSt_succ] at hCn
              have HXN := Lib.hid (HXI.out.keeps hbn)
              have HCN := Lib.hid (hCn.base (B' := w4.heap.size) HXI.out.below.size)
              have HIN := Lib.hid (HIO.out.walk HRP.out (i + 1))
              have HJN := Lib.hid (info_st (HCN.out.len HIN.out.mem))
              have HCN0 : Hid (Cn[0]? = some (.int .i64 (walkSt p (i + 1) so).status)) := Lib.hid (by obtain ⟨FS, ES, AS, h1, -⟩ := hCn; rw [h1]; rfl)
              obtain ⟨sn, hsn⟩ : ∃ x, (walkSt p (i + 1) so).status = x := ⟨_, rfl⟩
              rw [hsn] at HCN0
              have HSN := Lib.hid hsn
              clear hCn hbn pci zpc zs hsn
              by_cases hs0 : sn = 0
              · subst hs0
                go_wp2_with (first | (refine wpList_store_mid (by rfl) 46 _ _ (by rfl) wn.heap.size 0 Cn.toArray (by rfl) (by rfl) (there_new wn zeroV _ (by simp [HCN.out.len HIN.out.mem, zeroV_length])) (by simpa using HJN.out) HCN.out.one ?_; obtain ⟨w7, hw7⟩ : ∃ w7, (wn.alloc (.cells zeroV.toArray 46)).setCells wn.heap.size 0 Cn.toArray.toList = w7 := ⟨_, rfl⟩; rw [hw7]; have HX7 : Hid (Sx w4 w.heap.size (.slice (some ⟨g, 0, none⟩) p.length cap1) w7 [(wn.heap.size, Cn, (walkSt p (i + 1) so)), (sb, Ci, walkSt p i so)]) := Lib.hid (hw7 ▸ HXN.out.add HCN.out HIN.out.mem); have pc7 := HX7.out.pcell; clear hw7; have cn := (HX7.out.cell (.head _) 0).trans HCN0.out; have zn := HX7.out.lt (.head _)) | (refine wpList_load_mid (by rfl) 46 _ (by rfl) wn.heap.size 0 (by rfl) Cn _ (HX7.out.range (.head _)) Tryd.underlying46 (by rfl) HJN.out ?_) | (refine wpList_store_mid (by rfl) 46 _ _ (by rfl) sb 0 Cn.toArray (by rfl) (by rfl) (there_block (HX7.out.sts _ (.tail _ (.head _))).1 (by simp [HCN.out.len HIN.out.mem, (HX7.out.sts _ (.tail _ (.head _))).2.len HII.out.mem])) (by simpa using HJN.out) HCN.out.one ?_; obtain ⟨w8, hw8⟩ : ∃ w8, w7.setCells sb 0 Cn.toArray.toList = w8 := ⟨_, rfl⟩; rw [hw8]; have HX8 : Hid (Sx w4 w.heap.size (.slice (some ⟨g, 0, none⟩) p.length cap1) w8 [(sb, Cn, walkSt p (i + 1) so)]) := Lib.hid (hw8 ▸ HX7.out.put (HX7.out.sts _ (.tail _ (.head _))).1 ((HX7.out.sts _ (.tail _ (.head _))).2.len HII.out.mem) (by rw [HSB5.out]; exact HS4.out) (HX7.out.sts _ (.head _)).2 (HCN.out.len HIN.out.mem) (fun x hx => by simp at hx)); clear hw8 cn zn))
                go_roundw
                case rel => exact ⟨i + 1, Cn, nn + 1, by have := HIL.out; omega, by go_num, by have := HNN.out; omega, by go_num, fun l hl => by
                  by_cases e : l ≤ i
                  · exact HSTI.out l e
                  · rw [show l = i + 1 by omega]; exact HSN.out, HX8.out⟩
                case measure => have := HIL.out; simp [intOf]; omega
              · have hsb : (sn != 0) = true := by simpa using hs0
                have HS0 := Lib.hid hs0
                clear hs0
                go_wp2_with (first | (refine wpList_store_mid (by rfl) 46 _ _ (by rfl) wn.heap.size 0 Cn.toArray (by rfl) (by rfl) (there_new wn zeroV _ (by simp [HCN.out.len HIN.out.mem, zeroV_length])) (by simpa using HJN.out) HCN.out.one ?_; obtain ⟨w7, hw7⟩ : ∃ w7, (wn.alloc (.cells zeroV.toArray 46)).setCells wn.heap.size 0 Cn.toArray.toList = w7 := ⟨_, rfl⟩; rw [hw7]; have HX7 : Hid (Sx w4 w.heap.size (.slice (some ⟨g, 0, none⟩) p.length cap1) w7 [(wn.heap.size, Cn, (walkSt p (i + 1) so)), (sb, Ci, walkSt p i so)]) := Lib.hid (hw7 ▸ HXN.out.add HCN.out HIN.out.mem); have pc7 := HX7.out.pcell; clear hw7; have cn := (HX7.out.cell (.head _) 0).trans HCN0.out; have zn := HX7.out.lt (.head _); have HRJ := Lib.hid (info_st (((HX7.out).sts _ (.tail _ (.head _))).2.len (HII.out).mem)); have HRL := Lib.hid (((HX7.out).sts _ (.tail _ (.head _))).2.len (HII.out).mem); have HRZ : Hid (w7.heap[(w.heap.size + 1 + 1)]? = some (.cells zeroV.toArray 46 (0, 0))) := Lib.hid (((HX7.out).below.block _ (block_lt HX4.out.2.2.1)).trans HX4.out.2.2.1); have HRX := Lib.hid (HX7.out); have HRF := Lib.hid (show FarR p F s (walkSt p i so) (nn) from by rw [HNN.out]; exact HFAR.out _ _ (.trap HLA.out HQ.out (by rw [HCF.out]; exact HPO.out) (by rw [HCF.out]; exact HIL.out) HSTI.out (by rw [HSN.out]; exact HS0.out)))) | (refine wpList_load_mid (by rfl) 46 _ (by rfl) sb 0 (by rfl) Ci _ (HRX.out.range (.tail _ (.head _))) Tryd.underlying46 (by rfl) HRJ.out ?_) | (refine wpList_store_mid (by rfl) 46 _ _ (by rfl) (w.heap.size + 1 + 1) 0 Ci.toArray (by rfl) (by rfl) (there_block HRZ.out (by simp [HRL.out, zeroV_length])) (by simpa using HRJ.out) ((HRX.out.sts _ (.tail _ (.head _))).2.one) ?_))
                have hrd := run_loadVar_mid (P := Tryd.prog) _ _ _ 46 Ci _ (World.rangeAt_setCells_same w7 (w.heap.size + 1 + 1) 0 Ci (there_block HRZ.out (by simp [HRL.out, zeroV_length]))) Tryd.underlying46 (by rfl) HRJ.out
                refine bodyPost_ret (v := .tuple #[.agg Ci.toArray, .int .i64 ((nn : Nat) : Int), .int .i64 0]) (results_cell3 Tryd.results49 _ _ _ _ _ ?_ hrd) rfl ⟨⟨Ci, walkSt p i so, nn, rfl, HRF.out, ?_⟩, ?_⟩
                · rfl
                · obtain ⟨FS, ES, AS, h1, h2⟩ := (HRX.out.sts _ (.tail _ (.head _))).2
                  exact (CellsSt.base ⟨FS, ES, AS, h1, strows_setCells (by decide) (by decide) _ _ h2 HRZ.out⟩ HB4.out.size)
                · exact below_setCells (by omega) _ _ _ (HB4.out.trans (HRX.out.below.mono HB4.out.size))
      · have h17b : decide (17 ≤ opv) = false := by rw [decide_eq_false_iff_not]; exact h17
        have HCF := Lib.hid (show costF F q = c0 by rw [HCO.out, if_neg h17]; omega)
        obtain ⟨c, hcc⟩ : ∃ c, c = c0 := ⟨_, rfl⟩
        subst hcc
        have HC1 := Lib.hid hc1
        clear hc1
        have H17 := Lib.hid h17
        clear h17
        by_cases hpo : ff < (c : Int)
        · have hpob : decide (ff < (c : Int)) = true := by rw [decide_eq_true_eq]; exact hpo
          have HPO := Lib.hid hpo
          clear hpo
          have HRJ := Lib.hid (info_st (((HXQ.out).sts _ (.head _)).2.len (HIO.out).mem))
          have HRL := Lib.hid (((HXQ.out).sts _ (.head _)).2.len (HIO.out).mem)
          have HRZ : Hid (wq.heap[(w.heap.size + 1 + 1)]? = some (.cells zeroV.toArray 46 (0, 0))) := Lib.hid (((HXQ.out).below.block _ (block_lt HX4.out.2.2.1)).trans HX4.out.2.2.1)
          have HRX := Lib.hid (HXQ.out)
          have HRF := Lib.hid (show FarR p F s (so) (n) from by have := HFAR.out so 0 (.poor HLA.out HQ.out (by rw [HCF.out, HFF.out]; exact HPO.out)); simpa using this)
          go_wp2_with (first | (refine wpList_load_mid (by rfl) 46 _ (by rfl) sb 0 (by rfl) Co _ (HRX.out.range (.head _)) Tryd.underlying46 (by rfl) HRJ.out ?_) | (refine wpList_store_mid (by rfl) 46 _ _ (by rfl) (w.heap.size + 1 + 1) 0 Co.toArray (by rfl) (by rfl) (there_block HRZ.out (by simp [HRL.out, zeroV_length])) (by simpa using HRJ.out) ((HRX.out.sts _ (.head _)).2.one) ?_))
          have hrd := run_loadVar_mid (P := Tryd.prog) _ _ _ 46 Co _ (World.rangeAt_setCells_same wq (w.heap.size + 1 + 1) 0 Co (there_block HRZ.out (by simp [HRL.out, zeroV_length]))) Tryd.underlying46 (by rfl) HRJ.out
          refine bodyPost_ret (v := .tuple #[.agg Co.toArray, .int .i64 ((n : Nat) : Int), .int .i64 0]) (results_cell3 Tryd.results49 _ _ _ _ _ ?_ hrd) rfl ⟨⟨Co, so, n, rfl, HRF.out, ?_⟩, ?_⟩
          · rfl
          · obtain ⟨FS, ES, AS, h1, h2⟩ := (HRX.out.sts _ (.head _)).2
            exact (CellsSt.base ⟨FS, ES, AS, h1, strows_setCells (by decide) (by decide) _ _ h2 HRZ.out⟩ HB4.out.size)
          · exact below_setCells (by omega) _ _ _ (HB4.out.trans (HRX.out.below.mono HB4.out.size))
        · have hpob : decide (ff < (c : Int)) = false := by rw [decide_eq_false_iff_not]; exact hpo
          have HPO := Lib.hid (show (c : Int) ≤ so.fuel by rw [HFF.out]; omega)
          clear hpo
          go_wp2_with fail
          clear y0 y1 y2 b0 b1 o0 o1 fu zs hpob
          go_loopw [13, 97] (fun v13 v97 wr => ∃ (i : Nat) (Ci : List Value) (nn : Nat), i ≤ c ∧ v97 = .int .i64 (i : Int) ∧ nn = n + i ∧ v13 = .int .i64 (nn : Int) ∧ (∀ l, l ≤ i → (walkSt p l so).status = 0) ∧ Sx w4 w.heap.size (.slice (some ⟨g, 0, none⟩) p.length cap1) wr [(sb, Ci, walkSt p i so)]) (fun _ v _ => c - (intOf v).toNat)
          case atStart => exact ⟨0, Co, n, by omega, rfl, rfl, rfl, fun l hl => by rw [Nat.le_zero.1 hl]; exact HLA.out.st, HXQ.out⟩
          case round =>
            obtain ⟨i, Ci, nn, hic, rfl, hnn, rfl, hst, hx⟩ := hrel
            clear HXQ
            obtain ⟨wi, hwi⟩ : ∃ wi : World, wi = wr := ⟨_, rfl⟩
            subst hwi
            have HXI := Lib.hid hx
            have HSTI := Lib.hid hst
            have HNN := Lib.hid hnn
            have HII := Lib.hid (HIO.out.walk HRP.out i)
            have hn1 : (nn : Int) ≤ 10000 := by have h1 := HNF.out; have h2 := HPO.out; have h3 := HIF.out.1; omega
            have hn0 : (0 : Int) ≤ nn := by omega
            by_cases hie : i = c
            · subst hie
              clear hic hst hnn
              have zs := hx.lt (.head _)
              clear hx
              obtain ⟨y0, y1, y2, b0, b1, o0, o1⟩ := HJY.out wi (HXI.out).below
              go_wp2_with fail
              have HEND := Lib.hid (show (∃ q, LastAt p F (walkSt p i so) q) ∧ (walkSt p i so).fuel = so.fuel - i from by
                obtain ⟨e1, e2, e3⟩ := HE.out
                obtain ⟨g', b1, b2, b3, b4, -, -⟩ := in_blk HRP.out HFM.out HIO.out e1 e2 HQ.out e3 i (by rw [HCF.out]; exact Nat.le_refl _) HPO.out HSTI.out
                exact ⟨⟨g'.pc.toNat, HSTI.out i (Nat.le_refl _), fo, g', b1, by rw [b2]; exact e2, by omega⟩, b3⟩)
              go_roundw
              case rel => exact ⟨nn, Ci, walkSt p i so, rfl, HII.out, HEND.out.1, fun t k h => by
                have := HFAR.out t _ (.go HLA.out HQ.out (by rw [HCF.out]; exact HPO.out) (by rw [HCF.out]; exact HSTI.out) (by rw [HOP.out]; have := H17.out; omega) (by rw [HCF.out]; exact h))
                rw [HCF.out] at this
                rw [HNN.out, Nat.add_assoc]
                exact this, by have h1 := HNF.out; have h2 := HEND.out.2; have h3 := HNN.out; omega, HXI.out⟩
              case measure => have h1 := HNN.out; have h3 := HC1.out; simp [intOf]; omega
            · have hil : (i : Int) < c := by omega
              have hi0 : (0 : Int) ≤ i := by omega
              have HIL := Lib.hid (show i < c by omega)
              have pci := hx.pcell
              have zpc := block_lt hx.pblk
              have zs := hx.lt (.head _)
              have HJI := Lib.hid (info_st ((hx.sts _ (.head _)).2.len HII.out.mem))
              clear hic hst hnn hx hie
              go_wp2_with (refine wpList_load_mid (by rfl) 46 _ (by rfl) sb 0 (by rfl) Ci _ (HXI.out.range (.head _)) Tryd.underlying46 (by rfl) HJI.out ?_)
              refine (HNX.out Ci _ HII.out _ (HB4.out.trans (HXI.out.below.mono HB4.out.size)) _ (HXI.out.sts _ (.head _)).2).mono ?_
              rintro e wn ⟨⟨Cn, rfl, hCn⟩, hbn⟩
              rw [← walkSt_succ] at hCn
              have HXN := Lib.hid (HXI.out.keeps hbn)
              have HCN := Lib.hid (hCn.base (B' := w4.heap.size) HXI.out.below.size)
              have HIN := Lib.hid (HIO.out.walk HRP.out (i + 1))
              have HJN := Lib.hid (info_st (HCN.out.len HIN.out.mem))
              have HCN0 : Hid (Cn[0]? = some (.int .i64 (walkSt p (i + 1) so).status)) := Lib.hid (by obtain ⟨FS, ES, AS, h1, -⟩ := hCn; rw [h1]; rfl)
              obtain ⟨sn, hsn⟩ : ∃ x, (walkSt p (i + 1) so).status = x := ⟨_, rfl⟩
              rw [hsn] at HCN0
              have HSN := Lib.hid hsn
              clear hCn hbn pci zpc zs hsn
              by_cases hs0 : sn = 0
              · subst hs0
                go_wp2_with (first | (refine wpList_store_mid (by rfl) 46 _ _ (by rfl) wn.heap.size 0 Cn.toArray (by rfl) (by rfl) (there_new wn zeroV _ (by simp [HCN.out.len HIN.out.mem, zeroV_length])) (by simpa using HJN.out) HCN.out.one ?_; obtain ⟨w7, hw7⟩ : ∃ w7, (wn.alloc (.cells zeroV.toArray 46)).setCells wn.heap.size 0 Cn.toArray.toList = w7 := ⟨_, rfl⟩; rw [hw7]; have HX7 : Hid (Sx w4 w.heap.size (.slice (some ⟨g, 0, none⟩) p.length cap1) w7 [(wn.heap.size, Cn, (walkSt p (i + 1) so)), (sb, Ci, walkSt p i so)]) := Lib.hid (hw7 ▸ HXN.out.add HCN.out HIN.out.mem); have pc7 := HX7.out.pcell; clear hw7; have cn := (HX7.out.cell (.head _) 0).trans HCN0.out; have zn := HX7.out.lt (.head _)) | (refine wpList_load_mid (by rfl) 46 _ (by rfl) wn.heap.size 0 (by rfl) Cn _ (HX7.out.range (.head _)) Tryd.underlying46 (by rfl) HJN.out ?_) | (refine wpList_store_mid (by rfl) 46 _ _ (by rfl) sb 0 Cn.toArray (by rfl) (by rfl) (there_block (HX7.out.sts _ (.tail _ (.head _))).1 (by simp [HCN.out.len HIN.out.mem, (HX7.out.sts _ (.tail _ (.head _))).2.len HII.out.mem])) (by simpa using HJN.out) HCN.out.one ?_; obtain ⟨w8, hw8⟩ : ∃ w8, w7.setCells sb 0 Cn.toArray.toList = w8 := ⟨_, rfl⟩; rw [hw8]; have HX8 : Hid (Sx w4 w.heap.size (.slice (some ⟨g, 0, none⟩) p.length cap1) w8 [(sb, Cn, walkSt p (i + 1) so)]) := Lib.hid (hw8 ▸ HX7.out.put (HX7.out.sts _ (.tail _ (.head _))).1 ((HX7.out.sts _ (.tail _ (.head _))).2.len HII.out.mem) (by rw [HSB5.out]; exact HS4.out) (HX7.out.sts _ (.head _)).2 (HCN.out.len HIN.out.mem) (fun x hx => by simp at hx)); clear hw8 cn zn))
                go_roundw
                case rel => exact ⟨i + 1, Cn, nn + 1, by have := HIL.out; omega, by go_num, by have := HNN.out; omega, by go_num, fun l hl => by
                  by_cases e : l ≤ i
                  · exact HSTI.out l e
                  · rw [show l = i + 1 by omega]; exact HSN.out, HX8.out⟩
                case measure => have := HIL.out; simp [intOf]; omega
              · have hsb : (sn != 0) = true := by simpa using hs0
                have HS0 := Lib.hid hs0
                clear hs0
                go_wp2_with (first | (refine wpList_store_mid (by rfl) 46 _ _ (by rfl) wn.heap.size 0 Cn.toArray (by rfl) (by rfl) (there_new wn zeroV _ (by simp [HCN.out.len HIN.out.mem, zeroV_length])) (by simpa using HJN.out) HCN.out.one ?_; obtain ⟨w7, hw7⟩ : ∃ w7, (wn.alloc (.cells zeroV.toArray 46)).setCells wn.heap.size 0 Cn.toArray.toList = w7 := ⟨_, rfl⟩; rw [hw7]; have HX7 : Hid (Sx w4 w.heap.size (.slice (some ⟨g, 0, none⟩) p.length cap1) w7 [(wn.heap.size, Cn, (walkSt p (i + 1) so)), (sb, Ci, walkSt p i so)]) := Lib.hid (hw7 ▸ HXN.out.add HCN.out HIN.out.mem); have pc7 := HX7.out.pcell; clear hw7; have cn := (HX7.out.cell (.head _) 0).trans HCN0.out; have zn := HX7.out.lt (.head _); have HRJ := Lib.hid (info_st (((HX7.out).sts _ (.tail _ (.head _))).2.len (HII.out).mem)); have HRL := Lib.hid (((HX7.out).sts _ (.tail _ (.head _))).2.len (HII.out).mem); have HRZ : Hid (w7.heap[(w.heap.size + 1 + 1)]? = some (.cells zeroV.toArray 46 (0, 0))) := Lib.hid (((HX7.out).below.block _ (block_lt HX4.out.2.2.1)).trans HX4.out.2.2.1); have HRX := Lib.hid (HX7.out); have HRF := Lib.hid (show FarR p F s (walkSt p i so) (nn) from by rw [HNN.out]; exact HFAR.out _ _ (.trap HLA.out HQ.out (by rw [HCF.out]; exact HPO.out) (by rw [HCF.out]; exact HIL.out) HSTI.out (by rw [HSN.out]; exact HS0.out)))) | (refine wpList_load_mid (by rfl) 46 _ (by rfl) sb 0 (by rfl) Ci _ (HRX.out.range (.tail _ (.head _))) Tryd.underlying46 (by rfl) HRJ.out ?_) | (refine wpList_store_mid (by rfl) 46 _ _ (by rfl) (w.heap.size + 1 + 1) 0 Ci.toArray (by rfl) (by rfl) (there_block HRZ.out (by simp [HRL.out, zeroV_length])) (by simpa using HRJ.out) ((HRX.out.sts _ (.tail _ (.head _))).2.one) ?_))
                have hrd := run_loadVar_mid (P := Tryd.prog) _ _ _ 46 Ci _ (World.rangeAt_setCells_same w7 (w.heap.size + 1 + 1) 0 Ci (there_block HRZ.out (by simp [HRL.out, zeroV_length]))) Tryd.underlying46 (by rfl) HRJ.out
                refine bodyPost_ret (v := .tuple #[.agg Ci.toArray, .int .i64 ((nn : Nat) : Int), .int .i64 0]) (results_cell3 Tryd.results49 _ _ _ _ _ ?_ hrd) rfl ⟨⟨Ci, walkSt p i so, nn, rfl, HRF.out, ?_⟩, ?_⟩
                · rfl
                · obtain ⟨FS, ES, AS, h1, h2⟩ := (HRX.out.sts _ (.tail _ (.head _))).2
                  exact (CellsSt.base ⟨FS, ES, AS, h1, strows_setCells (by decide) (by decide) _ _ h2 HRZ.out⟩ HB4.out.size)
                · exact below_setCells (by omega) _ _ _ (HB4.out.trans (HRX.out.below.mono HB4.out.size))
    · have HQ := Lib.hid hq
      clear hq
      go_wp2_with fail
      refine (HAT.out (q : Int) _ HX.out.below).mono ?_
      rintro e wz ⟨⟨r, rfl, hr⟩, hbz⟩
      have hr1 : r = -1 := by
        rcases hr with ⟨j, h1, -, h2⟩ | ⟨h1, -⟩
        · exact absurd ((hdA_memF h1).1) (by rw [Int.ofNat.inj h2]; exact HQ.out)
        · exact h1
      subst hr1
      have HXZ := Lib.hid (HX.out.keeps hbz)
      clear hr hbz c2 gp c0b
      have HRJ := Lib.hid (info_st (((HXZ.out).sts _ (.head _)).2.len (HIO.out).mem))
      have HRL := Lib.hid (((HXZ.out).sts _ (.head _)).2.len (HIO.out).mem)
      have HRZ : Hid (wz.heap[(w.heap.size + 1 + 1)]? = some (.cells zeroV.toArray 46 (0, 0))) := Lib.hid (((HXZ.out).below.block _ (block_lt HX4.out.2.2.1)).trans HX4.out.2.2.1)
      have HRX := Lib.hid (HXZ.out)
      have HRF := Lib.hid (show FarR p F s (so) (n) from by have := HFAR.out so 0 (.off HLA.out HQ.out); simpa using this)
      go_wp2_with (first | (refine wpList_load_mid (by rfl) 46 _ (by rfl) sb 0 (by rfl) Co _ (HRX.out.range (.head _)) Tryd.underlying46 (by rfl) HRJ.out ?_) | (refine wpList_store_mid (by rfl) 46 _ _ (by rfl) (w.heap.size + 1 + 1) 0 Co.toArray (by rfl) (by rfl) (there_block HRZ.out (by simp [HRL.out, zeroV_length])) (by simpa using HRJ.out) ((HRX.out.sts _ (.head _)).2.one) ?_))
      have hrd := run_loadVar_mid (P := Tryd.prog) _ _ _ 46 Co _ (World.rangeAt_setCells_same wz (w.heap.size + 1 + 1) 0 Co (there_block HRZ.out (by simp [HRL.out, zeroV_length]))) Tryd.underlying46 (by rfl) HRJ.out
      refine bodyPost_ret (v := .tuple #[.agg Co.toArray, .int .i64 ((n : Nat) : Int), .int .i64 0]) (results_cell3 Tryd.results49 _ _ _ _ _ ?_ hrd) rfl ⟨⟨Co, so, n, rfl, HRF.out, ?_⟩, ?_⟩
      · rfl
      · obtain ⟨FS, ES, AS, h1, h2⟩ := (HRX.out.sts _ (.head _)).2
        exact (CellsSt.base ⟨FS, ES, AS, h1, strows_setCells (by decide) (by decide) _ _ h2 HRZ.out⟩ HB4.out.size)
      · exact below_setCells (by omega) _ _ _ (HB4.out.trans (HRX.out.below.mono HB4.out.size))
end Go.Proofs.YtefbdecejoeamaaDoor
