/-
  The walk of EmitParts: it returns true.
-/
import Derived.Test.YtefbdecejoeamaaDoorFa
import Derived.Test.YtefbdecejoeamaaDoorFh
namespace Tier
open Go Go.RowKit Go.Proofs.YtefbdecejoeamaaDoor
theorem StInv.fuelLe {p : List Fnc} {s : St} (h : StInv p s) {x : Int} (h0 : 0 ≤ x) (h1 : x ≤ s.fuel) : StInv p { s with fuel := x } :=
  ⟨h.mem, h0, by have := h.fuel1; show x ≤ 10000; omega, h.stat0, h.stat1, h.val, h.done, h.deep, h.ans, by have := h.ev; show (s.events.length : Int) + x ≤ 1000000; omega, h.fr, h.calls⟩
theorem fuel_run {p : List Fnc} {s : St} {k : Nat} (h : ∀ j, j ≤ k → (walkSt p j s).status = 0) : ∀ j, j < k → (walkSt p j s).status = 0 ∧ (walkSt p j s).fuel ≠ 0 := fun j hj => by
  refine ⟨h j (by omega), fun e => ?_⟩
  have h1 := h (j + 1) hj
  rw [walkSt_succ] at h1
  unfold nextSt at h1
  rw [if_pos (h j (by omega))] at h1
  unfold stepSt at h1
  rw [if_pos e] at h1
  simp at h1
/-- With less fuel first, and the rest then. -/
theorem far_split {p : List Fnc} {F : Fnc} (hp : Right p) (hF : F ∈ p) {s t t1 : St} {k m : Nat} {x : Int} (hi : StInv p s) (h0 : 0 ≤ x) (h1 : x ≤ s.fuel) (h : FarR p F s t k) (h' : FarR p F { s with fuel := x } t1 m) :
    StInv p { t1 with fuel := t1.fuel + (s.fuel - x) } ∧ t1.status = 0 ∧ (∃ fs f, t1.frames = fs ++ [f] ∧ p[f.fn.toNat]? = some F) ∧ t1.fuel = x - m ∧ ∀ t2 o, FarR p F { t1 with fuel := t1.fuel + (s.fuel - x) } t2 o → t2 = t ∧ m + o = k := by
  have hi' := hi.fuelLe h0 h1
  obtain ⟨e1, e2, e3, fs, f, g, e4, e5, e6, e7, -⟩ := h'.spec hp hF hi'
  have hs : addF { s with fuel := x } (s.fuel - x) = s := by
    unfold addF
    show { s with fuel := x + (s.fuel - x) } = s
    rw [show x + (s.fuel - x) = s.fuel by omega]
  have hw := walk_addF hp hi' (d := s.fuel - x) (by omega) m (fuel_run e2)
  rw [hs, ← e1] at hw
  refine ⟨?_, by rw [e1]; exact e2 m (Nat.le_refl _), ⟨fs, g, e5, by rw [e6]; exact e7⟩, e3, fun t2 o h2 => ?_⟩
  · have := hi.walk hp m
    rw [hw] at this
    exact this
  · have h3 := h'.more hp hF (d := s.fuel - x) (by omega) hi' h2
    rw [hs] at h3
    exact h3.det h
theorem FarR.fin {p : List Fnc} {F : Fnc} (hp : Right p) (hF : F ∈ p) {s t : St} {k : Nat} (hi : StInv p s) (h : FarR p F s t k) : StInv p t ∧ (k : Int) ≤ s.fuel := by
  obtain ⟨e1, e2, e3, -⟩ := h.spec hp hF hi
  have := hi.walk hp k
  rw [← e1] at this
  refine ⟨this, ?_⟩
  have := this.fuel0
  omega
end Tier
namespace Go.Proofs.YtefbdecejoeamaaDoor
open Go.RowKit Tier
set_option maxRecDepth 100000 in
set_option maxHeartbeats 8000000 in
theorem emitParts_walk (A : Option Addr) (l : List Fnc) (cap : Nat) (a0 a1 : Int) (YA : Option Addr) (ans : List Int) (ycap : Nat) (fuel : Int) (n : Int) (part : Int) (w : World) (ht : Tab w) (hraw : RawsAt w A l) (hln : (l.length : Int) ≤ 9223372036854775807) (hin : InOk w a0 a1 YA ans ycap fuel) (hn : In n) (hpart : In part) :
    Calls Tryd.prog 20 #[.slice A l.length cap, .agg #[.int .i64 a0, .int .i64 a1, .slice YA ans.length ycap, .int .i64 fuel], .int .i64 n, .int .i64 part] w fun e w' => e = .returned (.bool true) ∧ Below w.heap.size w w' := by
  have HT := Lib.hid ht
  have HR := Lib.hid hraw
  have HIN := Lib.hid hin
  have hright := mkP_right l
  clear ht hraw hin
  go_enter Tryd.func20, Tryd.ntmps20
  go_wp2_with fail
  obtain ⟨wi, hwi⟩ : ∃ wi, w.alloc (.cells #[.int .i64 a0, .int .i64 a1, .slice YA ans.length ycap, .int .i64 fuel] 42) = wi := ⟨_, rfl⟩
  have HBI : Hid (Below w.heap.size w wi) := Lib.hid (hwi ▸ (Below.refl _ w).alloc (Nat.le_refl _) _)
  have HIB : Hid (wi.heap[w.heap.size]? = some (.cells #[.int .i64 a0, .int .i64 a1, .slice YA ans.length ycap, .int .i64 fuel] 42 (0, 0))) := Lib.hid (hwi ▸ heap_alloc_new w _)
  rw [hwi]
  refine (program_any A cap l _ (HT.out.keeps HBI.out) hln (HR.out.keeps HBI.out)).mono ?_
  rintro e w1 ⟨⟨A1, cap1, vs, rfl, hpv⟩, hb1⟩
  have HP := Lib.hid hpv.at
  have HBW := Lib.hid (HBI.out.trans (hb1.mono HBI.out.size))
  have HT1 := Lib.hid (HT.out.keeps HBW.out)
  have hib := (hb1.block _ (block_lt HIB.out)).trans HIB.out
  have i0 := (cell_block hib 0).trans rfl
  have i1 := (cell_block hib 1).trans rfl
  have i2 := (cell_block hib 2).trans rfl
  have i3 := (cell_block hib 3).trans rfl
  have zi := block_lt hib
  clear hpv hb1 hwi HBI HIB hib vs
  generalize mkP l = p at *
  have hp := right_of hright
  have HG := Lib.hid (hright)
  have HRP := Lib.hid hp
  have HKR := Lib.hid (fun (W : World) (hb : Below w1.heap.size w1 W) => krun_any hright a0 a1 fuel ans YA ycap A1 cap1 n hn W (HT1.out.keeps hb) (HP.out.keeps hb) ((HIN.out.row.keeps HBW.out).keeps hb) HIN.out.len HIN.out.cap HIN.out.fuel)
  have hi0 := inSt_inv hp a0 a1 ans fuel
  obtain ⟨s1, hs1⟩ : ∃ s1, walkSt p (pickedI n 200).toNat (inSt p a0 a1 ans fuel) = s1 := ⟨_, rfl⟩
  have HI1 : Hid (StInv p s1) := Lib.hid (hs1 ▸ hi0.walk hp _)
  rw [hs1] at HKR
  have HFA := Lib.hid (fun (C : List Value) (s : St) (F : Fnc) (hi : StInv p s) (hst : s.status = 0) (hex : ∃ fs f, s.frames = fs ++ [f] ∧ p[f.fn.toNat]? = some F) (W : World) (hb : Below w1.heap.size w1 W) (Bs : Nat) (hC : CellsSt C W Bs s) => far_any hright s C A1 cap1 W (HT1.out.keeps hb) (HP.out.keeps hb) hi hC hst F hex)
  have HKP := Lib.hid (fun (W : World) (m : Int) (h0 : 0 < m) (h1 : m ≤ 1000000) => picked_any part m W hpart (by omega) (by omega))
  have HPK := Lib.hid (fun (m : Int) (h0 : 0 < m) => picked_in part m h0)
  clear hs1 hi0 hn hpart hp hright
  go_wp2_with fail
  refine (HKR.out _ ((Below.refl _ w1).alloc (Nat.le_refl _) _)).mono ?_
  rintro e w2 ⟨⟨C0, rfl, hC0⟩, hb2⟩
  have HX2 : Hid (Sx w1 w1.heap.size (.slice A1 p.length cap1) w2 []) := Lib.hid ((Sx.mk ((Below.refl _ w1).alloc (Nat.le_refl _) _) (heap_alloc_new w1 _) (fun x hx => by simp at hx)).keeps hb2)
  have HC1 := Lib.hid (hC0.base (by simp : w1.heap.size ≤ _))
  have HJ1 := Lib.hid (info_st (HC1.out.len HI1.out.mem))
  have hz := zero_st
  clear hC0 hb2 HKR i0 i1 i2 i3 zi
  have HW12 := Lib.hid HX2.out.below.size
  by_cases hst : s1.status = 0
  · have hsb : (s1.status == 0) = true := by rw [hst]; rfl
    rw [hsb]
    clear hsb
    obtain ⟨fs, f, hf⟩ := HI1.out.running hst
    obtain ⟨F, -, hF, -⟩ := (HI1.out.fr f (by rw [hf]; simp)).parts
    have HFM := Lib.hid (List.mem_of_getElem? hF)
    have HEX := Lib.hid (show ∃ fs f, s1.frames = fs ++ [f] ∧ p[f.fn.toNat]? = some F from ⟨fs, f, hf, hF⟩)
    have HST := Lib.hid hst
    clear hf hF hst fs f
    go_wp2_with (first | (refine wpList_store_mid (by rfl) 46 _ _ (by rfl) w2.heap.size 0 C0.toArray (by rfl) (by rfl) (there_new w2 zeroV _ (by simp [HC1.out.len HI1.out.mem, zeroV_length])) (by simpa using HJ1.out) HC1.out.one ?_; obtain ⟨w3, hw3⟩ : ∃ w3, (w2.alloc (.cells zeroV.toArray 46)).setCells w2.heap.size 0 C0.toArray.toList = w3 := ⟨_, rfl⟩; rw [hw3]; have HX3 : Hid (Sx w1 w1.heap.size (.slice A1 p.length cap1) w3 [(w2.heap.size, C0, s1)]) := Lib.hid (hw3 ▸ HX2.out.add HC1.out HI1.out.mem); have pc3 := HX3.out.pcell; clear hw3) | (refine wpList_load_mid (by rfl) 46 _ (by rfl) w2.heap.size 0 (by rfl) C0 _ (HX3.out.range (.head _)) Tryd.underlying46 (by rfl) HJ1.out ?_))
    refine (HFA.out C0 s1 F HI1.out HST.out HEX.out _ HX3.out.below _ (HX3.out.sts _ (.head _)).2).mono ?_
    rintro e w4 ⟨⟨CT, t, k, rfl, hfarT, hCT⟩, hbT⟩
    have HX4 := Lib.hid (HX3.out.keeps hbT)
    have HCT := Lib.hid (hCT.base HX3.out.below.size)
    have HFT := Lib.hid hfarT
    have HIT := Lib.hid (hfarT.fin HRP.out HFM.out HI1.out).1
    have HJT := Lib.hid (info_st (HCT.out.len HIT.out.mem))
    have HKK := Lib.hid (hfarT.fin HRP.out HFM.out HI1.out).2
    clear hfarT hCT hbT pc3
    obtain ⟨FA, fa, EA, ea, AA, aa, hA⟩ := HC1.out.cin HI1.out.mem (fun f hf => (HI1.out.fr f hf).regs)
    have HC19 : Hid (C0[19]? = some (.int .i64 s1.fuel)) := Lib.hid hA.c19
    clear hA
    obtain ⟨F1, hF1⟩ : ∃ x, s1.fuel = x := ⟨_, rfl⟩
    have HFUE := Lib.hid hF1
    have hu0 : 0 ≤ F1 := by rw [← hF1]; exact HI1.out.fuel0
    have hu1 : F1 ≤ 10000 := by rw [← hF1]; exact HI1.out.fuel1
    rw [hF1] at HC19
    have hwf : IntKind.i64.wrap (F1 + 1) = F1 + 1 := by rw [IntKind.wrap_i64]; omega
    have hpx := HPK.out (F1 + 1) (by omega)
    obtain ⟨x, hx⟩ : ∃ x, pickedI part (F1 + 1) = x := ⟨_, rfl⟩
    have HKX := Lib.hid (fun (W : World) => HKP.out W (F1 + 1) (by omega) (by omega))
    rw [hx] at hpx HKX
    have hx0 := hpx.1
    have hx1 : x ≤ F1 := by omega
    clear hpx hx hF1 HKP HPK
    obtain ⟨CH, hCH⟩ : ∃ CH, C0.set 19 (.int .i64 x) = CH := ⟨_, rfl⟩
    have HCH := Lib.hid hCH
    clear hCH
    obtain ⟨h1, hh1⟩ : ∃ h1 : St, { s1 with fuel := x } = h1 := ⟨_, rfl⟩
    have HH1 := Lib.hid hh1
    have HIH : Hid (StInv p h1) := Lib.hid (hh1 ▸ HI1.out.fuelLe hx0 (by rw [HFUE.out]; exact hx1))
    have HSH : Hid (h1.status = 0) := Lib.hid (hh1 ▸ HST.out)
    have HEH : Hid (∃ fs f, h1.frames = fs ++ [f] ∧ p[f.fn.toNat]? = some F) := Lib.hid (hh1 ▸ HEX.out)
    clear hh1
    go_wp2_with (first | (refine wpList_store_mid (by rfl) 46 _ _ (by rfl) w4.heap.size 0 CT.toArray (by rfl) (by rfl) (there_new w4 zeroV _ (by simp [HCT.out.len HIT.out.mem, zeroV_length])) (by simpa using HJT.out) HCT.out.one ?_; obtain ⟨w5, hw5⟩ : ∃ w5, (w4.alloc (.cells zeroV.toArray 46)).setCells w4.heap.size 0 CT.toArray.toList = w5 := ⟨_, rfl⟩; rw [hw5]; have HX5 : Hid (Sx w1 w1.heap.size (.slice A1 p.length cap1) w5 [(w4.heap.size, CT, t), (w2.heap.size, C0, s1)]) := Lib.hid (hw5 ▸ HX4.out.add HCT.out HIT.out.mem); have pc5 := HX5.out.pcell; clear hw5; have HC5 := Lib.hid (HX5.out.sts _ (.tail _ (.head _))).2; have HI5 := HI1; have HJ5 := HJ1) | (refine wpList_load_mid (by rfl) 46 _ (by rfl) w2.heap.size 0 (by rfl) C0 _ (HX5.out.range (.tail _ (.head _))) Tryd.underlying46 (by rfl) HJ1.out ?_) | (refine wpList_store_mid (by rfl) 46 _ _ (by rfl) w5.heap.size 0 C0.toArray (by rfl) (by rfl) (there_new w5 zeroV _ (by simp [HC5.out.len HI5.out.mem, zeroV_length])) (by simpa using HJ5.out) HC5.out.one ?_; obtain ⟨w6, hw6⟩ : ∃ w6, (w5.alloc (.cells zeroV.toArray 46)).setCells w5.heap.size 0 C0.toArray.toList = w6 := ⟨_, rfl⟩; rw [hw6]; have HX6 : Hid (Sx w1 w1.heap.size (.slice A1 p.length cap1) w6 [(w5.heap.size, C0, s1), (w4.heap.size, CT, t), (w2.heap.size, C0, s1)]) := Lib.hid (hw6 ▸ HX5.out.add HC5.out HI5.out.mem); have pc6 := HX6.out.pcell; clear hw6; have f1 := (HX6.out.cell (.tail _ (.tail _ (.head _))) 19).trans HC19.out; have z1 := HX6.out.lt (.tail _ (.tail _ (.head _))); have z2 := HX6.out.lt (.head _); have q2 := HX6.out.frozen (.head _) 19; have f2 := (HX6.out.cell (.head _) 19).trans HC19.out) | (go_at_call 26; go_must (refine (HKX.out _).mono ?_; rintro e w' ⟨rfl, rfl⟩)) | (obtain ⟨w7, hw7⟩ : ∃ w7, w6.setCell ⟨w5.heap.size, 19, none⟩ (.int .i64 x) = w7 := ⟨_, rfl⟩; rw [hw7]; have HX7 : Hid (Sx w1 w1.heap.size (.slice A1 p.length cap1) w7 [(w5.heap.size, CH, h1), (w4.heap.size, CT, t), (w2.heap.size, C0, s1)]) := Lib.hid (by rw [← hw7]; refine HX6.out.setc (.head _) (by have := HX5.out.below.size; omega) HCH.out ?_ (fun y hy => ⟨.tail _ hy, by have a1 := HX5.out.lt (.head _); have a2 := HX5.out.lt (.tail _ (.head _)); simp only [List.mem_cons, List.not_mem_nil, or_false] at hy; rcases hy with rfl | rfl <;> (show _ ≠ _; omega)⟩); rw [← HCH.out, ← HH1.out]; exact (HX6.out.sts _ (.head _)).2.fuel HI1.out.mem x); have HJH := Lib.hid (info_st ((HX7.out.sts _ (.head _)).2.len HIH.out.mem)); have pc7 := HX7.out.pcell; have zp7 := block_lt HX7.out.pblk; clear hw7 f1 z1 z2 q2 f2) | (refine wpList_load_mid (by rfl) 46 _ (by rfl) w5.heap.size 0 (by rfl) CH _ (HX7.out.range (.head _)) Tryd.underlying46 (by rfl) HJH.out ?_))
    refine (HFA.out CH h1 F HIH.out HSH.out HEH.out _ HX7.out.below _ (HX7.out.sts _ (.head _)).2).mono ?_
    rintro e w8 ⟨⟨CU, t1, m, rfl, hfarU, hCU⟩, hbU⟩
    have HX8 := Lib.hid (HX7.out.keeps hbU)
    have HCU := Lib.hid (hCU.base HX7.out.below.size)
    have HFU := Lib.hid hfarU
    have hsp := far_split HRP.out HFM.out HI1.out hx0 (by rw [HFUE.out]; exact hx1) HFT.out (by rw [HH1.out]; exact hfarU)
    rw [HFUE.out] at hsp
    have HIU := Lib.hid (hfarU.fin HRP.out HFM.out HIH.out).1
    have HJU := Lib.hid (info_st (HCU.out.len HIU.out.mem))
    have HSP := Lib.hid hsp
    obtain ⟨FB, fb, EB, eb, AB, ab, hB⟩ := HCU.out.cin HIU.out.mem (fun f hf => (HIU.out.fr f hf).regs)
    obtain ⟨F2, hF2⟩ : ∃ x, t1.fuel = x := ⟨_, rfl⟩
    have HCU19 : Hid (CU[19]? = some (.int .i64 F2)) := Lib.hid (by rw [← hF2]; exact hB.c19)
    have HCH19 : Hid (CH[19]? = some (.int .i64 x)) := Lib.hid (by rw [← HCH.out, List.getElem?_set]; simp [HC1.out.len HI1.out.mem])
    have hv0 : 0 ≤ F2 := by rw [← hF2]; exact HIU.out.fuel0
    have hv1 : F2 ≤ x := by rw [← hF2, hsp.2.2.2.1]; omega
    have hwd : IntKind.i64.wrap (F1 - x) = F1 - x := by rw [IntKind.wrap_i64]; omega
    have hwe : IntKind.i64.wrap (F2 + (F1 - x)) = F2 + (F1 - x) := by rw [IntKind.wrap_i64]; omega
    obtain ⟨CV, hCV⟩ : ∃ CV, CU.set 19 (.int .i64 (F2 + (F1 - x))) = CV := ⟨_, rfl⟩
    have HCV := Lib.hid hCV
    obtain ⟨u1, hu1'⟩ : ∃ u : St, { t1 with fuel := t1.fuel + (F1 - x) } = u := ⟨_, rfl⟩
    have HU1 : Hid ({ t1 with fuel := F2 + (F1 - x) } = u1) := Lib.hid (by rw [← hF2]; exact hu1')
    rw [hu1'] at HSP
    have HIV : Hid (StInv p u1) := Lib.hid HSP.out.1
    have HSV : Hid (u1.status = 0) := Lib.hid (hu1' ▸ HSP.out.2.1)
    have HEV : Hid (∃ fs f, u1.frames = fs ++ [f] ∧ p[f.fn.toNat]? = some F) := Lib.hid (hu1' ▸ HSP.out.2.2.1)
    have HMK := Lib.hid (hfarU.fin HRP.out HFM.out HIH.out).2
    clear hfarU hCU hbU hsp hB hF2 hCV hu1' pc7 zp7
    go_wp2_with (first | (refine wpList_store_mid (by rfl) 46 _ _ (by rfl) w8.heap.size 0 CU.toArray (by rfl) (by rfl) (there_new w8 zeroV _ (by simp [HCU.out.len HIU.out.mem, zeroV_length])) (by simpa using HJU.out) HCU.out.one ?_; obtain ⟨w9, hw9⟩ : ∃ w9, (w8.alloc (.cells zeroV.toArray 46)).setCells w8.heap.size 0 CU.toArray.toList = w9 := ⟨_, rfl⟩; rw [hw9]; have HX9 : Hid (Sx w1 w1.heap.size (.slice A1 p.length cap1) w9 [(w8.heap.size, CU, t1), (w5.heap.size, CH, h1), (w4.heap.size, CT, t), (w2.heap.size, C0, s1)]) := Lib.hid (hw9 ▸ HX8.out.add HCU.out HIU.out.mem); have pc9 := HX9.out.pcell; clear hw9; have f1 := (HX9.out.cell (.tail _ (.tail _ (.tail _ (.head _)))) 19).trans HC19.out; have f2 := (HX9.out.cell (.tail _ (.head _)) 19).trans HCH19.out; have f3 := (HX9.out.cell (.head _) 19).trans HCU19.out; have z1 := HX9.out.lt (.tail _ (.tail _ (.tail _ (.head _)))); have z2 := HX9.out.lt (.tail _ (.head _)); have z3 := HX9.out.lt (.head _); have q3 := HX9.out.frozen (.head _) 19) | (obtain ⟨w10, hw10⟩ : ∃ w10, w9.setCell ⟨w8.heap.size, 19, none⟩ (.int .i64 (F2 + (F1 - x))) = w10 := ⟨_, rfl⟩; rw [hw10]; have HX10 : Hid (Sx w1 w1.heap.size (.slice A1 p.length cap1) w10 [(w8.heap.size, CV, u1), (w5.heap.size, CH, h1), (w4.heap.size, CT, t), (w2.heap.size, C0, s1)]) := Lib.hid (by rw [← hw10]; refine HX9.out.setc (.head _) (by have := HX8.out.below.size; omega) HCV.out ?_ (fun y hy => ⟨.tail _ hy, by have a1 := HX8.out.lt (.head _); have a2 := HX8.out.lt (.tail _ (.head _)); have a3 := HX8.out.lt (.tail _ (.tail _ (.head _))); simp only [List.mem_cons, List.not_mem_nil, or_false] at hy; rcases hy with rfl | rfl | rfl <;> (show _ ≠ _; omega)⟩); rw [← HCV.out, ← HU1.out]; exact (HX9.out.sts _ (.head _)).2.fuel HIU.out.mem _); have HJV := Lib.hid (info_st ((HX10.out.sts _ (.head _)).2.len HIV.out.mem)); have pc10 := HX10.out.pcell; have zp10 := block_lt HX10.out.pblk; clear hw10 f1 f2 f3 z1 z2 z3 q3) | (refine wpList_load_mid (by rfl) 46 _ (by rfl) w8.heap.size 0 (by rfl) CV _ (HX10.out.range (.head _)) Tryd.underlying46 (by rfl) HJV.out ?_))
    refine (HFA.out CV u1 F HIV.out HSV.out HEV.out _ HX10.out.below _ (HX10.out.sts _ (.head _)).2).mono ?_
    rintro e w11 ⟨⟨CW, t2, o, rfl, hfarW, hCW⟩, hbW⟩
    have HX11 := Lib.hid (HX10.out.keeps hbW)
    have HCW := Lib.hid (hCW.base HX10.out.below.size)
    have HFW := Lib.hid hfarW
    obtain ⟨het, hmo⟩ := HSP.out.2.2.2.2 t2 o hfarW
    rw [het] at HCW
    have HJW := Lib.hid (info_st (HCW.out.len HIT.out.mem))
    have hk0 : (k : Int) ≤ 10000 := by have := HKK.out; rw [HFUE.out] at this; omega
    have hmo2 : IntKind.i64.wrap ((m : Int) + (o : Int)) = (k : Int) := by rw [IntKind.wrap_i64]; omega
    have HIW := HIT
    clear hfarW hCW hbW pc10 zp10 hmo het
    go_wp2_with (first | (refine wpList_store_mid (by rfl) 46 _ _ (by rfl) w11.heap.size 0 CW.toArray (by rfl) (by rfl) (there_new w11 zeroV _ (by simp [HCW.out.len HIW.out.mem, zeroV_length])) (by simpa using HJW.out) HCW.out.one ?_; obtain ⟨w12, hw12⟩ : ∃ w12, (w11.alloc (.cells zeroV.toArray 46)).setCells w11.heap.size 0 CW.toArray.toList = w12 := ⟨_, rfl⟩; rw [hw12]; have HX12 : Hid (Sx w1 w1.heap.size (.slice A1 p.length cap1) w12 [(w11.heap.size, CW, t), (w8.heap.size, CV, u1), (w5.heap.size, CH, h1), (w4.heap.size, CT, t), (w2.heap.size, C0, s1)]) := Lib.hid (hw12 ▸ HX11.out.add HCW.out HIW.out.mem); have pc12 := HX12.out.pcell; clear hw12) | (refine wpList_load_midg (by rfl) 46 _ (by rfl) w4.heap.size 0 (by rfl) CT _ (HX12.out.range (.tail _ (.tail _ (.tail _ (.head _))))) Tryd.underlying46 (by rfl) HJT.out ?_) | (refine wpList_load_midg (by rfl) 46 _ (by rfl) w11.heap.size 0 (by rfl) CW _ (HX12.out.range (.head _)) Tryd.underlying46 (by rfl) HJW.out ?_) | (go_at_call 47; go_must (refine (sameState_any t CT CW _ HIT.out (HX12.out.sts _ (.tail _ (.tail _ (.tail _ (.head _))))).2 (HX12.out.sts _ (.head _)).2).mono ?_; rintro e w14 ⟨rfl, hb14⟩; have HX14 := Lib.hid (HX12.out.keeps hb14); clear hb14)))
    go_ret
    exact ⟨rfl, HBW.out.trans (HX14.out.below.mono HBW.out.size)⟩
  · have hsb : (s1.status == 0) = false := by simpa using hst
    rw [hsb]
    clear hsb hst
    go_wp2_with (refine wpList_store_mid (by rfl) 46 _ _ (by rfl) w2.heap.size 0 C0.toArray (by rfl) (by rfl) (there_new w2 zeroV _ (by simp [HC1.out.len HI1.out.mem, zeroV_length])) (by simpa using HJ1.out) HC1.out.one ?_; obtain ⟨w3, hw3⟩ : ∃ w3, (w2.alloc (.cells zeroV.toArray 46)).setCells w2.heap.size 0 C0.toArray.toList = w3 := ⟨_, rfl⟩; rw [hw3]; have HX3 : Hid (Sx w1 w1.heap.size (.slice A1 p.length cap1) w3 [(w2.heap.size, C0, s1)]) := Lib.hid (hw3 ▸ HX2.out.add HC1.out HI1.out.mem); have pc3 := HX3.out.pcell; clear hw3)
    go_ret
    exact ⟨rfl, HBW.out.trans (HX3.out.below.mono HBW.out.size)⟩
end Go.Proofs.YtefbdecejoeamaaDoor
