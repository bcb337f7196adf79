/-
  The walk of EnterLeave: it returns true.
-/
import Derived.Test.YtfngkpbbimibaaaDoorLve
import Derived.Test.YtfngkpbbimibaaaDoorEn
import Derived.Test.YtfngkpbbimibaaaDoorLdM
import Derived.Test.YtfngkpbbimibaaaDoorStS
namespace Go.Proofs.YtfngkpbbimibaaaDoor
open Go.RowKit Tier
/-- Registers that are put back, the first r of them. -/
def bkR (v : Nat) (R : List Int) (r : Nat) : List Int := (List.range 12).map fun j => if j < r then R.getD j 0 else if v.testBit j then R.getD j 0 else 0
theorem bkR_zero (v : Nat) (R : List Int) : bkR v R 0 = keepR v R := by
  unfold bkR keepR
  refine List.map_congr_left fun j _ => ?_
  rw [if_neg (by omega)]
theorem bkR_length (v : Nat) (R : List Int) (r : Nat) : (bkR v R r).length = 12 := by simp [bkR]
theorem bkR_full (v : Nat) {R : List Int} (h : R.length = 12) : bkR v R 12 = R := by
  apply List.ext_getElem (by simp [bkR, h])
  intro j h1 h2
  have hj : j < 12 := by omega
  simp only [bkR, List.getElem_map, List.getElem_range, if_pos hj]
  rw [List.getD_eq_getElem?_getD, List.getElem?_eq_getElem h2]; rfl
theorem bkR_get (v : Nat) (R : List Int) {r : Nat} (h : r < 12) : (bkR v R r).getD r 0 = if v.testBit r then R.getD r 0 else 0 := by
  rw [List.getD_eq_getElem?_getD, List.getElem?_eq_getElem (by simp [bkR]; exact h)]
  simp [bkR]
theorem bkR_skip (v : Nat) (R : List Int) {r : Nat} (h : v.testBit r = true) : bkR v R r = bkR v R (r + 1) := by
  unfold bkR
  refine List.map_congr_left fun j _ => ?_
  by_cases e : j = r
  · subst e; rw [if_neg (by omega), if_pos h, if_pos (by omega)]
  · by_cases hj : j < r
    · rw [if_pos hj, if_pos (by omega)]
    · rw [if_neg hj, if_neg (show ¬ j < r + 1 by omega)]
theorem bkR_put (v : Nat) (R : List Int) {r : Nat} (_h : r < 12) : (bkR v R r).set r (R.getD r 0) = bkR v R (r + 1) := by
  apply List.ext_getElem (by simp [bkR])
  intro j h1 h2
  rw [List.getElem_set]
  simp only [bkR, List.getElem_map, List.getElem_range]
  by_cases e : r = j
  · subst e; rw [if_pos rfl, if_pos (by omega)]
  · rw [if_neg e]
    by_cases hj : j < r
    · rw [if_pos hj, if_pos (by omega)]
    · rw [if_neg hj, if_neg (show ¬ j < r + 1 by omega)]
/-- The state while registers are put back. -/
def bkS (s : St) (fs : List Fr) (f : Fr) (v r : Nat) : St := { s with frames := fs ++ [{ f with regs := bkR v f.regs r }] }
theorem bkS_full {s : St} {fs : List Fr} {f : Fr} (h : s.frames = fs ++ [f]) (hr : f.regs.length = 12) (v : Nat) : bkS s fs f v 12 = s := by
  unfold bkS
  rw [bkR_full v hr, ← h]
theorem bkS_set (s : St) (fs : List Fr) (f : Fr) (v : Nat) {r : Nat} (h : r < 12) : putR (bkS s fs f v r) fs.length { f with regs := bkR v f.regs r } r (f.regs.getD r 0) = bkS s fs f v (r + 1) := by
  unfold putR bkS
  simp only
  rw [List.set_append_right _ _ (Nat.le_refl _), Nat.sub_self, bkR_put v f.regs h]
  rfl
theorem enC_data {M R : List Int} (hM : M.length = 16) (hR : R.length = 12) (fu q : Int) : DataOf (enC (M.map (Value.int .i64)) (R.map (Value.int .i64)) (.int .i64 fu) (.int .i64 q)) M R fu q := by
  match M, hM, R, hR with
  | [m0, m1, m2, m3, m4, m5, m6, m7, m8, m9, m10, m11, m12, m13, m14, m15], _, [r0, r1, r2, r3, r4, r5, r6, r7, r8, r9, r10, r11], _ =>
    refine ⟨rfl, rfl, rfl, fun i hi => ?_, fun i hi => ?_, rfl, rfl⟩
    · have h : i = 0 ∨ i = 1 ∨ i = 2 ∨ i = 3 ∨ i = 4 ∨ i = 5 ∨ i = 6 ∨ i = 7 ∨ i = 8 ∨ i = 9 ∨ i = 10 ∨ i = 11 ∨ i = 12 ∨ i = 13 ∨ i = 14 ∨ i = 15 := by omega
      rcases h with rfl | rfl | rfl | rfl | rfl | rfl | rfl | rfl | rfl | rfl | rfl | rfl | rfl | rfl | rfl | rfl <;> rfl
    · have h : i = 0 ∨ i = 1 ∨ i = 2 ∨ i = 3 ∨ i = 4 ∨ i = 5 ∨ i = 6 ∨ i = 7 ∨ i = 8 ∨ i = 9 ∨ i = 10 ∨ i = 11 := by omega
      rcases h with rfl | rfl | rfl | rfl | rfl | rfl | rfl | rfl | rfl | rfl | rfl | rfl <;> rfl
theorem enC_32 (M R : List Value) (hM : M.length = 16) (hR : R.length = 12) (a b : Value) : (enC M R a b)[32]? = some (.int .i64 0) ∧ (enC M R a b)[97]? = some (.bool false) :=
  match M, hM, R, hR with
  | [_m0, _m1, _m2, _m3, _m4, _m5, _m6, _m7, _m8, _m9, _m10, _m11, _m12, _m13, _m14, _m15], _, [_r0, _r1, _r2, _r3, _r4, _r5, _r6, _r7, _r8, _r9, _r10, _r11], _ => ⟨rfl, rfl⟩
theorem last_at {C : List Value} {W : World} {B : Nat} {s : St} {fs : List Fr} {f : Fr} {g kf fa : Nat} (h : CellsSt C W B s) (hm : s.mem.length = 16) (hr : ∀ f ∈ s.frames, f.regs.length = 12) (hf : s.frames = fs ++ [f]) (hk : fs.length = kf) (h2 : C[2]? = some (.slice (some ⟨g, 0, none⟩) (kf + 1) fa)) :
    g < W.heap.size ∧ ∀ j, j < 14 → W.cell? ⟨g, kf * 14 + j, none⟩ = (frCell f)[j]? := by
  obtain ⟨FA, fa, EA, ea, AA, aa, hA⟩ := h.cin hm hr
  obtain ⟨g', hg, hl, hc⟩ := hA.fr (by rw [hf]; simp)
  have e := hA.c2
  rw [h2, hg] at e
  simp only [Option.some.injEq, Value.slice.injEq, Addr.mk.injEq, and_true] at e
  obtain ⟨rfl, -⟩ := e
  exact ⟨hl, fun j hj => hc kf f j (by rw [hf, List.getElem?_append_right (by omega), hk]; simp) hj⟩
theorem CellsSt.setReg {C : List Value} {W : World} {B : Nat} {s : St} {g n cap i r : Nat} {f : Fr} (h : CellsSt C W B s) (h2 : C[2]? = some (.slice (some ⟨g, 0, none⟩) n cap)) (hl : ∀ f ∈ s.frames, f.regs.length = 12) (hf : s.frames[i]? = some f) (hr : r < 12) (v : Int) :
    CellsSt C (W.setCell ⟨g, i * 14 + (2 + r), none⟩ (.int .i64 v)) B (putR s i f r v) ∧ W.frozen? ⟨g, i * 14 + (2 + r), none⟩ = false := by
  obtain ⟨FS, ES, AS, rfl, hrow⟩ := h
  have hFS : FS = .slice (some ⟨g, 0, none⟩) n cap := by simpa [stCells] using h2
  rcases hrow.fr.2 with ⟨h8, -⟩ | ⟨g', cap9, cur9, hv9, hg9, hh9, -⟩
  · rw [hFS] at h8; simp at h8
  · have e := hFS.symm.trans hv9
    simp only [Value.slice.injEq, Option.some.injEq, Addr.mk.injEq, and_true] at e
    obtain ⟨rfl, rfl, rfl⟩ := e
    subst hFS
    exact ⟨⟨_, ES, AS, rfl, hrow.setReg hl hf hr v⟩, frozen_block hh9 _⟩
theorem below_all {w w1 w6 w7 : World} (h1 : Below w6.heap.size w6 w7) (h2 : Below w1.heap.size w1 w6) (h3 : Below w.heap.size w w1) : Below w.heap.size w w7 := h3.trans ((h2.trans (h1.mono h2.size)).mono h3.size)
theorem enC_one (M R : List Int) (a b : Int) : (enC (M.map (Value.int .i64)) (R.map (Value.int .i64)) (.int .i64 a) (.int .i64 b)).toArray.all (·.oneCell') = true := all_oneCell_toArray (fun v hv => by
  unfold enC at hv
  simp only [List.mem_append, List.mem_replicate, List.mem_map, List.mem_cons, List.not_mem_nil, or_false] at hv
  rcases hv with ((((⟨-, rfl⟩ | ⟨x, -, rfl⟩) | ⟨x, -, rfl⟩) | (rfl | rfl)) | ⟨-, rfl⟩) | rfl <;> rfl)
set_option maxRecDepth 100000 in
set_option maxHeartbeats 8000000 in
theorem enterLeave_walk (A : Option Addr) (l : List Fnc) (cap : Nat) (a0 a1 : Int) (YA : Option Addr) (ans : List Int) (ycap : Nat) (fuel : Int) (n : Int) (w : World) (ht : Tab w) (hraw : RawsAt w A l) (hln : (l.length : Int) ≤ 9223372036854775807) (hin : InOk w a0 a1 YA ans ycap fuel) (hn : In n) :
    Calls Tryd.prog 7 #[.slice A l.length cap, .agg #[.int .i64 a0, .int .i64 a1, .slice YA ans.length ycap, .int .i64 fuel], .int .i64 n] w fun e w' => e = .returned (.bool true) ∧ Below w.heap.size w w' := by
  have HT := Lib.hid ht
  have HR := Lib.hid hraw
  have HIN := Lib.hid hin
  have hright := mkP_right l
  clear ht hraw hin
  go_enter Tryd.func7, Tryd.ntmps7
  go_wp2_with fail
  obtain ⟨wi, hwi⟩ : ∃ wi, w.alloc (.cells #[.int .i64 a0, .int .i64 a1, .slice YA ans.length ycap, .int .i64 fuel] 42) = wi := ⟨_, rfl⟩
  have HBI : Hid (Below w.heap.size w wi) := Lib.hid (hwi ▸ (Below.refl _ w).alloc (Nat.le_refl _) _)
  have HIB : Hid (wi.heap[w.heap.size]? = some (.cells #[.int .i64 a0, .int .i64 a1, .slice YA ans.length ycap, .int .i64 fuel] 42 (0, 0))) := Lib.hid (hwi ▸ heap_alloc_new w _)
  rw [hwi]
  refine (program_any A cap l _ (HT.out.keeps HBI.out) hln (HR.out.keeps HBI.out)).mono ?_
  rintro e w1 ⟨⟨A1, cap1, vs, rfl, hpv⟩, hb1⟩
  have HP := Lib.hid hpv.at
  have HBW := Lib.hid (HBI.out.trans (hb1.mono HBI.out.size))
  have HT1 := Lib.hid (HT.out.keeps HBW.out)
  have hib := (hb1.block _ (block_lt HIB.out)).trans HIB.out
  have i0 := (cell_block hib 0).trans rfl
  have i1 := (cell_block hib 1).trans rfl
  have i2 := (cell_block hib 2).trans rfl
  have i3 := (cell_block hib 3).trans rfl
  have zi := block_lt hib
  clear hpv hb1 hwi HBI HIB hib vs
  generalize mkP l = p at *
  have hp := right_of hright
  have HG := Lib.hid (hright)
  have HRP := Lib.hid hp
  have HKR := Lib.hid (fun (W : World) (hb : Below w1.heap.size w1 W) => krun_any hright a0 a1 fuel ans YA ycap A1 cap1 n hn W (HT1.out.keeps hb) (HP.out.keeps hb) ((HIN.out.row.keeps HBW.out).keeps hb) HIN.out.len HIN.out.cap HIN.out.fuel)
  have hi0 := inSt_inv hp a0 a1 ans fuel
  obtain ⟨s1, hs1⟩ : ∃ s1, walkSt p (pickedI n 200).toNat (inSt p a0 a1 ans fuel) = s1 := ⟨_, rfl⟩
  have HI1 : Hid (StInv p s1) := Lib.hid (hs1 ▸ hi0.walk hp _)
  rw [hs1] at HKR
  have HEN := Lib.hid (fun (hst : s1.status = 0) (fs : List Fr) (f : Fr) (hf : s1.frames = fs ++ [f]) (C : List Value) (W : World) (hb : Below w1.heap.size w1 W) (Bs : Nat) (hC : CellsSt C W Bs s1) => enter_any hright s1 C A1 cap1 W (HT1.out.keeps hb) (HP.out.keeps hb) HI1.out hC hst hf)
  have HEH := Lib.hid (fun (hst : s1.status ≠ 0) (C : List Value) (W : World) (hb : Below w1.heap.size w1 W) (Bs : Nat) (hC : CellsSt C W Bs s1) => enter_halt hright s1 C A1 cap1 W (HT1.out.keeps hb) (HP.out.keeps hb) HI1.out hC hst)
  have HLE := Lib.hid (fun (hst : s1.status = 0) (fs : List Fr) (f : Fr) (hf : s1.frames = fs ++ [f]) (F : Fnc) (hF : p[f.fn.toNat]? = some F) (D : List Value) (M R : List Int) (fu : Int) (q : Nat) (hD : DataOf D M R fu q) (h0 : 0 ≤ fu) (h1 : fu ≤ s1.fuel) (hr : rchB F q = true) (hq : q < F.code.length) (C : List Value) (W : World) (hb : Below w1.heap.size w1 W) (Bs : Nat) (hC : CellsSt C W Bs s1) => leave_any hright s1 C A1 cap1 W (HT1.out.keeps hb) (HP.out.keeps hb) HI1.out hC hst hf F hF D M R fu q hD h0 h1 hr hq)
  have HLH := Lib.hid (fun (hst : s1.status ≠ 0) (D C : List Value) (W : World) (hb : Below w1.heap.size w1 W) (Bs : Nat) (hC : CellsSt C W Bs s1) => leave_halt hright s1 C D A1 cap1 W (HT1.out.keeps hb) (HP.out.keeps hb) HI1.out hC hst)
  have HLV := Lib.hid (fun (k : Nat) (F : Fnc) (hF : p[k]? = some F) (W : World) (hb : Below w1.heap.size w1 W) => live_any p A1 cap1 k F W (HT1.out.keeps hb) (HP.out.keeps hb) hright hF)
  clear hs1 hi0 hn hp hright
  go_wp2_with fail
  refine (HKR.out _ ((Below.refl _ w1).alloc (Nat.le_refl _) _)).mono ?_
  rintro e w2 ⟨⟨C0, rfl, hC0⟩, hb2⟩
  have HX2 : Hid (Sx w1 w1.heap.size (.slice A1 p.length cap1) w2 []) := Lib.hid ((Sx.mk ((Below.refl _ w1).alloc (Nat.le_refl _) _) (heap_alloc_new w1 _) (fun x hx => by simp at hx)).keeps hb2)
  have HC1 := Lib.hid (hC0.base (by simp : w1.heap.size ≤ _))
  have HJ1 := Lib.hid (info_st (HC1.out.len HI1.out.mem))
  have hz := zero_st
  have hzc := zero_cp
  have hze : ∀ (W : World), (binOp .eql 59 (.agg zC.toArray) (.agg zC.toArray)).run Tryd.prog W = .ok (.bool true) W := fun _ => by kernel_rfl
  clear hC0 hb2 HKR i0 i1 i2 i3 zi
  by_cases hst : s1.status = 0
  · have hsb : (s1.status == 0) = true := by rw [hst]; rfl
    rw [hsb]
    clear hsb
    have HST := Lib.hid hst
    obtain ⟨fs, f, hf⟩ := HI1.out.running hst
    have hfo := HI1.out.fr f (by rw [hf]; simp)
    obtain ⟨F, m, b1, b2, b3, b4⟩ := hfo.parts
    have HF := Lib.hid hf
    have HFO := Lib.hid hfo
    have HFP := Lib.hid b1
    have HFM := Lib.hid (List.mem_of_getElem? b1)
    obtain ⟨q, hq⟩ : ∃ q : Nat, f.pc = (q : Int) := ⟨f.pc.toNat, by have := hfo.pc0; omega⟩
    obtain ⟨k, hk⟩ : ∃ k : Nat, f.fn = (k : Int) := ⟨f.fn.toNat, by have := hfo.fn0; omega⟩
    have hqn : f.pc.toNat = q := by omega
    have hkn : f.fn.toNat = k := by omega
    rw [hqn] at b3 b4
    have HKP : Hid (p[k]? = some F) := Lib.hid (by rw [← hkn]; exact b1)
    have HRQ := Lib.hid (of_rch b3)
    have HQM := Lib.hid (List.getElem?_eq_some_iff.1 b4).1
    have HQ := Lib.hid hq
    have HK := Lib.hid hk
    clear hf hfo b1 b2 b3 b4 hq hk hqn hkn hst
    go_wp2_with (first | (refine wpList_store_mid (by rfl) 49 _ _ (by rfl) w2.heap.size 0 C0.toArray (by rfl) (by rfl) (there_new w2 zeroV _ (by simp [HC1.out.len HI1.out.mem, zeroV_length])) (by simpa using HJ1.out) HC1.out.one ?_; obtain ⟨w3, hw3⟩ : ∃ w3, (w2.alloc (.cells zeroV.toArray 49)).setCells w2.heap.size 0 C0.toArray.toList = w3 := ⟨_, rfl⟩; rw [hw3]; have HX3 : Hid (Sx w1 w1.heap.size (.slice A1 p.length cap1) w3 [(w2.heap.size, C0, s1)]) := Lib.hid (hw3 ▸ HX2.out.add HC1.out HI1.out.mem); have pc3 := HX3.out.pcell; clear hw3) | (refine wpList_load_mid (by rfl) 49 _ (by rfl) w2.heap.size 0 (by rfl) C0 _ (HX3.out.range (.head _)) Tryd.underlying49 (by rfl) HJ1.out ?_))
    refine (HEN.out HST.out fs f HF.out C0 _ HX3.out.below _ (HX3.out.sts _ (.head _)).2).mono ?_
    rintro e w4 ⟨rfl, hb4⟩
    have HX4 := Lib.hid (HX3.out.keeps hb4)
    obtain ⟨D, hD⟩ : ∃ D, enC (s1.mem.map (Value.int .i64)) (f.regs.map (Value.int .i64)) (.int .i64 s1.fuel) (.int .i64 f.pc) = D := ⟨_, rfl⟩
    have HD : Hid (DataOf D s1.mem f.regs s1.fuel (q : Int)) := Lib.hid (by rw [← hD, ← HQ.out]; exact enC_data HI1.out.mem HFO.out.regs _ _)
    have HD32 := Lib.hid (by have := enC_32 (s1.mem.map (Value.int .i64)) (f.regs.map (Value.int .i64)) (by simp [HI1.out.mem]) (by simp [HFO.out.regs]) (.int .i64 s1.fuel) (.int .i64 f.pc); rw [hD] at this; exact this : D[32]? = some (.int .i64 0) ∧ D[97]? = some (.bool false))
    have HD1 : Hid (D.toArray.all (·.oneCell') = true) := Lib.hid (by rw [← hD]; exact enC_one _ _ _ _)
    have HDI := Lib.hid (info_cp HD.out.len)
    rw [hD]
    clear hb4 pc3 hD
    go_wp2_with (first | (refine wpList_store_mid (by rfl) 59 _ _ (by rfl) w4.heap.size 0 D.toArray (by rfl) (by rfl) (there_new w4 zC _ (by simp [HD.out.len, zC_length])) (by simpa using HDI.out) HD1.out ?_; obtain ⟨w5, hw5⟩ : ∃ w5, (w4.alloc (.cells zC.toArray 59)).setCells w4.heap.size 0 D.toArray.toList = w5 := ⟨_, rfl⟩; rw [hw5]; have HBw5 : Hid (Below w4.heap.size w4 w5) := Lib.hid (hw5 ▸ below_setCells (Nat.le_refl _) _ _ _ ((Below.refl _ _).alloc (Nat.le_refl _) _)); have HCB : Hid (w5.heap[w4.heap.size]? = some (.cells D.toArray 59 (0, 0))) := Lib.hid (hw5 ▸ block_full (heap_alloc_new _ _) _ (by simp [HD.out.len, zC_length])); have HX5 := Lib.hid (HX4.out.keeps HBw5.out); have pc5 := HX5.out.pcell; have rc5 := range_block HCB.out; clear hw5) | (refine wpList_load_midg (by rfl) 49 _ (by rfl) w2.heap.size 0 (by rfl) C0 _ (HX5.out.range (.head _)) Tryd.underlying49 (by rfl) HJ1.out ?_) | (refine wpList_load_mid (by rfl) 59 _ (by rfl) w4.heap.size 0 (by rfl) D _ rc5 Tryd.underlying59 (by rfl) HDI.out ?_))
    refine (HLE.out HST.out fs f HF.out F HFP.out D s1.mem f.regs s1.fuel q HD.out HI1.out.fuel0 (Int.le_refl _) HRQ.out HQM.out C0 w5 HX5.out.below _ (HX5.out.sts _ (.head _)).2).mono ?_
    rintro e w6 ⟨⟨CT, O, rfl, hOK, hCT⟩, hb6⟩
    have HOK := Lib.hid hOK
    obtain ⟨v, hv⟩ : ∃ v, O.getD q 0 = v := ⟨_, rfl⟩
    have HVV := Lib.hid hv
    have HCT : Hid (CellsSt CT w6 w5.heap.size (bkS s1 fs f v 0)) := Lib.hid (by
      have e0 : bkS s1 fs f v 0 = { s1 with fuel := s1.fuel, mem := s1.mem, frames := fs ++ [{ f with pc := (q : Int), regs := keepR (O.getD q 0) f.regs }] } := by
        unfold bkS
        rw [bkR_zero, hv, ← HQ.out]
      rw [e0]; exact hCT)
    have HCTL : Hid (CT.length = 22) := Lib.hid (HCT.out.len HI1.out.mem)
    have HJT := Lib.hid (info_st HCTL.out)
    have HX6 := Lib.hid (HX5.out.keeps hb6)
    have HCB6 := Lib.hid ((hb6.block _ (block_lt HCB.out)).trans HCB.out)
    have HB56 := Lib.hid hb6
    obtain ⟨kf, hkf⟩ : ∃ kf, fs.length = kf := ⟨_, rfl⟩
    have HKF := Lib.hid hkf
    have hnf : s1.frames.length = kf + 1 := by rw [HF.out, ← hkf]; simp
    have hdp := HI1.out.deep
    rw [hnf] at hdp
    obtain ⟨FA1, fa1, EA1, ea1, AA1, aa1, hA1⟩ := HC1.out.cin HI1.out.mem (fun f hf => (HI1.out.fr f hf).regs)
    have HS2 : Hid (C0[2]? = some (.slice FA1 (kf + 1) fa1)) := Lib.hid (by rw [hA1.c2, hnf])
    obtain ⟨gs, hgs, hgl, hgc⟩ := hA1.fr (by rw [hnf]; omega)
    subst hgs
    have HSG := Lib.hid (fun (W : World) (h : CellsSt C0 W w1.heap.size s1) => last_at h HI1.out.mem (fun f hf => (HI1.out.fr f hf).regs) HF.out hkf HS2.out)
    have hct := HCT.out
    obtain ⟨FT, ET, AT, hCe, hrow⟩ := id hct
    obtain ⟨gt, capt, hFT, hgtB, hgtL⟩ : ∃ g cap, FT = .slice (some ⟨g, 0, none⟩) (kf + 1) cap ∧ w5.heap.size ≤ g ∧ g < w6.heap.size := by
      have h := hrow.fr
      have hl : (bkS s1 fs f v 0).frames.length = kf + 1 := by simp [bkS, hkf]
      rw [hl] at h
      rcases h.2 with ⟨-, h0⟩ | ⟨g, cap, cur, hv, hg, hh, -⟩
      · omega
      · exact ⟨g, cap, hv, hg, block_lt hh⟩
    have HT2 : Hid (CT[2]? = some (.slice (some ⟨gt, 0, none⟩) (kf + 1) capt)) := Lib.hid (by rw [hCe, ← hFT]; rfl)
    have HGT := Lib.hid (show w5.heap.size ≤ gt ∧ gt < w6.heap.size from ⟨hgtB, hgtL⟩)
    clear hOK hv hCT hb6 pc5 rc5 hnf hA1 hgl hgc hct hCe hrow hFT hgtB hgtL hkf
    have hwn : IntKind.i64.wrap (((kf + 1 : Nat) : Int) - 1) = (kf : Int) := by rw [IntKind.wrap_i64]; omega
    have hwn2 : IntKind.i64.wrap ((kf : Int) + 1 - 1) = (kf : Int) := by rw [IntKind.wrap_i64]; omega
    go_wp2_with (refine wpList_store_mid (by rfl) 49 _ _ (by rfl) w6.heap.size 0 CT.toArray (by rfl) (by rfl) (there_new w6 zeroV _ (by simp [HCTL.out, zeroV_length])) (by simpa using HJT.out) HCT.out.one ?_; obtain ⟨w7, hw7⟩ : ∃ w7, (w6.alloc (.cells zeroV.toArray 49)).setCells w6.heap.size 0 CT.toArray.toList = w7 := ⟨_, rfl⟩; rw [hw7]; have HB67 : Hid (Below w6.heap.size w6 w7) := Lib.hid (hw7 ▸ below_setCells (Nat.le_refl _) _ _ _ ((Below.refl _ _).alloc (Nat.le_refl _) _)); have HBT7 : Hid (w7.heap[w6.heap.size]? = some (.cells CT.toArray 49 (0, 0))) := Lib.hid (hw7 ▸ block_full (heap_alloc_new _ _) _ (by simp [HCTL.out, zeroV_length])); have HX7 := Lib.hid (HX6.out.keeps HB67.out); have c32 := (cell_block ((HB67.out.block _ (block_lt HCB6.out)).trans HCB6.out) 32).trans (List.getElem?_toArray.trans HD32.out.1); have c97 := (cell_block ((HB67.out.block _ (block_lt HCB6.out)).trans HCB6.out) 97).trans (List.getElem?_toArray.trans HD32.out.2); have zcb := Nat.lt_of_lt_of_le (block_lt HCB6.out) HB67.out.size; have t2 := (cell_block HBT7.out 2).trans (List.getElem?_toArray.trans HT2.out); have zt := block_lt HBT7.out; have x2 := (HX7.out.cell (.head _) 2).trans HS2.out; have zs := HX7.out.lt (.head _); clear hw7)
    obtain ⟨gz, gcell⟩ := HSG.out w7 (HX7.out.sts _ (.head _)).2
    have g0 : w7.cell? ⟨gs, kf * 14, none⟩ = some (.int .i64 (k : Int)) := by
      have := gcell 0 (by omega)
      rw [Nat.add_zero] at this
      rw [this, ← HK.out]; rfl
    have KS := Lib.hid (show _ ∧ _ ∧ _ from ⟨HX7.out.pcell, x2, g0⟩)
    have HZ := Lib.hid (show gs < w7.heap.size ∧ w2.heap.size < w7.heap.size ∧ w1.heap.size < w7.heap.size from ⟨gz, zs, block_lt HX7.out.pblk⟩)
    obtain ⟨M, hM⟩ : ∃ M, F.code.length = M := ⟨_, rfl⟩
    have HM := Lib.hid hM
    clear gcell g0 gz hM c32 c97 zcb t2 zt x2 zs
    have hk0 : (0 : Int) ≤ kf := by omega
    have hk1 : (kf : Int) < ((kf + 1 : Nat) : Int) := by omega
    have hk2a : (kf : Int) < (kf : Int) + 1 := by omega
    have hk3 : kf < kf + 1 := by omega
    go_region_held3 (fun w' => w'.cell? ⟨w1.heap.size, 0, none⟩ = some (.slice A1 p.length cap1) ∧ w'.cell? ⟨w2.heap.size, 2, none⟩ = some (.slice (some ⟨gs, 0, none⟩) (kf + 1) fa1) ∧ w'.cell? ⟨gs, kf * 14, none⟩ = some (.int .i64 (k : Int))) (first | exact hk2 | exact KS.out) (first | (go_at_call 22; go_must (refine (HLV.out k F HKP.out _ HX7.out.drew.below).mono ?_; rintro e w8 ⟨⟨lb, O2, rfl, hlb, hIL, hOK2⟩, hb8⟩; rw [HM.out]; have hb78 : Below w7.heap.size w7 w8 := (Below.refl _ _).drew.trans hb8; have hk2 : w8.cell? ⟨w1.heap.size, 0, none⟩ = some (.slice A1 p.length cap1) ∧ w8.cell? ⟨w2.heap.size, 2, none⟩ = some (.slice (some ⟨gs, 0, none⟩) (kf + 1) fa1) ∧ w8.cell? ⟨gs, kf * 14, none⟩ = some (.int .i64 (k : Int)) := ⟨(hb78.cell (p := ⟨w1.heap.size, 0, none⟩) HZ.out.2.2).trans KS.out.1, (hb78.cell (p := ⟨w2.heap.size, 2, none⟩) HZ.out.2.1).trans KS.out.2.1, (hb78.cell (p := ⟨gs, kf * 14, none⟩) HZ.out.1).trans KS.out.2.2⟩; have HIL := Lib.hid hIL; have HOK2 := Lib.hid hOK2; have HB78 := Lib.hid hb78; have HLB := Lib.hid (show w7.heap.size ≤ lb from hlb); clear hlb hIL hOK2 hb8 hb78)))
    rename_i hHeld
    clear hHeld
    clear hk2
    have HX8 := Lib.hid (HX7.out.keeps HB78.out)
    have HBT8 := Lib.hid ((HB78.out.block _ (block_lt HBT7.out)).trans HBT7.out)
    have HB58 : Hid (Below w5.heap.size w5 w8) := Lib.hid (HB56.out.trans ((HB67.out.trans (HB78.out.mono HB67.out.size)).mono HB56.out.size))
    have HCT8 := Lib.hid ((HCT.out.below HB67.out).below HB78.out)
    have hO2 : O2 = O := (liveO_eq HRP.out HFM.out HOK2.out).trans (liveO_eq HRP.out HFM.out HOK.out).symm
    have hlq := outL_get (liveL_get (F := F) (O := O2) (pc := q) HQM.out)
    rw [HRQ.out] at hlq
    have HLQ := Lib.hid (show (outL (liveL F O2))[q]? = some (v : Int) by rw [← HVV.out, ← hO2]; exact hlq)
    have HGL : Hid (gt < lb ∧ gt < w6.heap.size) := Lib.hid ⟨by have := HGT.out.2; have := HB67.out.size; have := HLB.out; omega, HGT.out.2⟩
    have hqM : (q : Int) < M := by have := HQM.out; have := HM.out; omega
    have hq0 : (0 : Int) ≤ q := by omega
    have hM40 : M ≤ 40 := by have := (HRP.out.ok.fn F HFM.out).c2; have := HM.out; omega
    have hqg : decide ((M : Int) ≤ q) = false := by rw [decide_eq_false_iff_not]; omega
    have hqg2 : decide (M ≤ q) = false := by rw [decide_eq_false_iff_not]; omega
    obtain ⟨gz, gcell⟩ := HSG.out w8 (HX8.out.sts _ (.head _)).2
    have g1 : w8.cell? ⟨gs, kf * 14 + 1, none⟩ = some (.int .i64 (q : Int)) := by rw [gcell 1 (by omega), ← HQ.out]; rfl
    have x2 := (HX8.out.cell (.head _) 2).trans HS2.out
    have zs := HX8.out.lt (.head _)
    clear hlq hO2 gcell
    go_wp2_with fail
    clear g1 gz x2 zs hqg hqg2
    go_loopw [18] (fun x wr => ∃ r : Nat, r ≤ 12 ∧ x = .int .i64 (r : Int) ∧ CellsSt CT wr w5.heap.size (bkS s1 fs f v r) ∧ wr.heap[w6.heap.size]? = some (.cells CT.toArray 49 (0, 0)) ∧ Below w5.heap.size w5 wr ∧ IntsB wr lb (outL (liveL F O2))) (fun x _ => 12 - (intOf x).toNat)
    case atStart => exact ⟨0, by omega, rfl, HCT8.out, HBT8.out, HB58.out, HIL.out⟩
    case round =>
      obtain ⟨r, hr, rfl, hct, hbt, hbr, hil⟩ := hrel
      have HCR := Lib.hid hct
      have HBTR := Lib.hid hbt
      have HBR := Lib.hid hbr
      have HILR := Lib.hid hil
      have HXR := Lib.hid (HX5.out.keeps hbr)
      clear HCT8 HBT8 HB58
      by_cases hr12 : r = 12
      · subst hr12
        have HFIN : Hid (CellsSt CT wr w5.heap.size s1) := Lib.hid (by rw [← bkS_full HF.out HFO.out.regs v]; exact hct)
        have rt := range_block hbt
        clear hct hbt hbr hil
        go_wp2_with (first | (refine wpList_load_midg (by rfl) 49 _ (by rfl) w2.heap.size 0 (by rfl) C0 _ (HXR.out.range (.head _)) Tryd.underlying49 (by rfl) HJ1.out ?_) | (refine wpList_load_mid (by rfl) 49 _ (by rfl) w6.heap.size 0 (by rfl) CT _ rt Tryd.underlying49 (by rfl) HJT.out ?_))
        refine (sameState_any s1 C0 CT wr HI1.out (HXR.out.sts _ (.head _)).2 HFIN.out).mono ?_
        rintro e w9 ⟨rfl, hb9⟩
        have HB9 := Lib.hid (below_all hb9 HXR.out.below HBW.out)
        clear hb9
        go_wp2_with fail
        go_ret
        exact ⟨rfl, HB9.out⟩
      · have r1 : (r : Int) < 12 := by omega
        have r2 : (0 : Int) ≤ r := by omega
        have r3 : r < 12 := by omega
        have HR3 := Lib.hid r3
        obtain ⟨gz, gcell⟩ := HSG.out wr (HXR.out.sts _ (.head _)).2
        have g1 : wr.cell? ⟨gs, kf * 14 + 1, none⟩ = some (.int .i64 (q : Int)) := by rw [gcell 1 (by omega), ← HQ.out]; rfl
        have gr : wr.cell? ⟨gs, kf * 14 + 2 + r, none⟩ = some (.int .i64 (f.regs.getD r 0)) := by
          have := frCell_reg HFO.out.regs (r := (r : Int)) r2 r1
          rw [show kf * 14 + 2 + r = kf * 14 + (2 + r) by omega, gcell (2 + r) (by omega)]
          simpa [Fr.reg] using this
        obtain ⟨tz, tcell⟩ := last_at (f := { f with regs := bkR v f.regs r }) hct HI1.out.mem (fun g hg => by
          rcases List.mem_append.1 (show g ∈ fs ++ [_] from hg) with h | h
          · exact (HI1.out.fr g (by rw [HF.out]; simp [h])).regs
          · rw [List.mem_singleton.1 h]; exact bkR_length _ _ _) rfl HKF.out HT2.out
        have tr : wr.cell? ⟨gt, kf * 14 + 2 + r, none⟩ = some (.int .i64 (if v.testBit r then f.regs.getD r 0 else 0)) := by
          have := frCell_reg (f := { f with regs := bkR v f.regs r }) (bkR_length _ _ _) (r := (r : Int)) r2 r1
          rw [show kf * 14 + 2 + r = kf * 14 + (2 + r) by omega, tcell (2 + r) (by omega), ← bkR_get v f.regs r3]
          simpa [Fr.reg] using this
        have hset := hct.setReg (i := kf) (r := r) (f := { f with regs := bkR v f.regs r }) HT2.out (fun g hg => by
          rcases List.mem_append.1 (show g ∈ fs ++ [_] from hg) with h | h
          · exact (HI1.out.fr g (by rw [HF.out]; simp [h])).regs
          · rw [List.mem_singleton.1 h]; exact bkR_length _ _ _) (by unfold bkS; simp only; rw [List.getElem?_append_right (by have := HKF.out; omega), HKF.out]; simp) r3 (f.regs.getD r 0)
        rw [← HKF.out, bkS_set s1 fs f v r3, HKF.out, show kf * 14 + (2 + r) = kf * 14 + 2 + r by omega] at hset
        have HSET := Lib.hid hset.1
        have tn := hset.2
        have x2 := (HXR.out.cell (.head _) 2).trans HS2.out
        have zs := HXR.out.lt (.head _)
        have t2 := (cell_block hbt 2).trans (List.getElem?_toArray.trans HT2.out)
        have zt := block_lt hbt
        have l1 := hil.cell HLQ.out
        have zl := hil.lt
        have hdv : (v : Int) / 2 ^ r = ((v / 2 ^ r : Nat) : Int) := by push_cast; rfl
        have hba := live_nat2 v r
        have htb : v.testBit r = decide (v / 2 ^ r % 2 = 1) := Nat.testBit_eq_decide_div_mod_eq
        obtain ⟨dd, hdd⟩ : ∃ d, v / 2 ^ r = d := ⟨_, rfl⟩
        rw [hdd] at hdv hba htb
        have r4 : r < 64 := by omega
        obtain ⟨xr, hxr⟩ : ∃ x, f.regs.getD r 0 = x := ⟨_, rfl⟩
        have HGR : Hid ((frCell f)[2 + r]? = some (.int .i64 xr)) := Lib.hid (by have := frCell_reg HFO.out.regs (r := (r : Int)) r2 r1; rw [← hxr]; simpa [Fr.reg] using this)
        rw [hxr] at gr tr HSET
        clear hct hbt hbr hil gcell tcell hset hdd hxr
        by_cases hbit : dd % 2 = 1
        · have hba1 : bits .and .i64 (dd : Int) 1 = 1 := by rw [hba, hbit]; rfl
          have HSK := Lib.hid (show bkS s1 fs f v (r + 1) = bkS s1 fs f v r by unfold bkS; rw [bkR_skip v f.regs (r := r) (by rw [htb, hbit]; rfl)])
          clear hba htb hbit tr tn HSET
          go_wp2_with fail
          go_roundw
          case rel => exact ⟨r + 1, by have := HR3.out; omega, by go_num, by rw [HSK.out]; exact HCR.out, HBTR.out, HBR.out, HILR.out⟩
          case measure => have := HR3.out; simp [intOf]; omega
        · have hbit0 : dd % 2 = 0 := by omega
          have hba1 : bits .and .i64 (dd : Int) 1 = 0 := by rw [hba, hbit0]; rfl
          have htb0 : v.testBit r = false := by rw [htb, hbit0]; rfl
          rw [htb0] at tr
          simp only [Bool.false_eq_true, if_false] at tr
          clear hba htb hbit hbit0 htb0
          have KR : Hid _ := Lib.hid (show _ ∧ _ ∧ _ from ⟨t2, x2, gr⟩)
          go_wp2_with fail
          refine wp_region_held_drew (S := fun w' => w'.cell? ⟨w6.heap.size, 2, none⟩ = some (.slice (some ⟨gt, 0, none⟩) (kf + 1) capt) ∧ w'.cell? ⟨w2.heap.size, 2, none⟩ = some (.slice (some ⟨gs, 0, none⟩) (kf + 1) fa1) ∧ w'.cell? ⟨gs, kf * 14 + 2 + r, none⟩ = some (.int .i64 xr)) (by kernel_rfl) KR.out (fun hHeld => ?_)
          refine wpAnyH_take (i := 0) (v := .pointer (some ⟨w6.heap.size, 2, none⟩)) rfl (by kernel_rfl) (by kernel_rfl) (by kernel_rfl) (fun _ _ _ h => h) (Or.inl ⟨by rfl, ?_⟩) hHeld ?_
          · intro w hSw
            simp only [List.getElem_toArray, List.getElem_cons_zero]
            go_simp
          simp only [Act.put, List.getElem_toArray, List.getElem_cons_zero, List.setIfInBounds_toArray, List.set_cons_zero, List.set_cons_succ]
          refine wpAnyH_take (i := 1) (v := .slice (some ⟨gt, 0, none⟩) (kf + 1) capt) rfl (by kernel_rfl) (by kernel_rfl) (by kernel_rfl) (fun _ _ _ h => h) (Or.inl ⟨by rfl, ?_⟩) hHeld ?_
          · intro w hSw
            have q0 := hSw.1
            simp only [List.getElem_toArray, List.getElem_cons_zero, List.getElem_cons_succ]
            go_simp
          simp only [Act.put, List.getElem_toArray, List.getElem_cons_zero, List.getElem_cons_succ, List.setIfInBounds_toArray, List.set_cons_zero, List.set_cons_succ]
          refine wpAnyH_take (i := 2) (v := .int .i64 (kf : Int)) rfl (by kernel_rfl) (by kernel_rfl) (by kernel_rfl) (fun _ _ _ h => h) (Or.inl ⟨by rfl, ?_⟩) hHeld ?_
          · intro w hSw
            simp only [List.getElem_toArray, List.getElem_cons_zero, List.getElem_cons_succ]
            go_simp
          simp only [Act.put, List.getElem_toArray, List.getElem_cons_zero, List.getElem_cons_succ, List.setIfInBounds_toArray, List.set_cons_zero, List.set_cons_succ]
          refine wpAnyH_take (i := 3) (v := .int .i64 (r : Int)) rfl (by kernel_rfl) (by kernel_rfl) (by kernel_rfl) (fun _ _ _ h => h) (Or.inl ⟨by rfl, ?_⟩) hHeld ?_
          · intro w hSw
            simp only [List.getElem_toArray, List.getElem_cons_zero, List.getElem_cons_succ]
            go_simp
          simp only [Act.put, List.getElem_toArray, List.getElem_cons_zero, List.getElem_cons_succ, List.setIfInBounds_toArray, List.set_cons_zero, List.set_cons_succ]
          refine wpAnyH_take (i := 4) (v := .pointer (some ⟨w2.heap.size, 2, none⟩)) rfl (by kernel_rfl) (by kernel_rfl) (by kernel_rfl) (fun _ _ _ h => h) (Or.inl ⟨by rfl, ?_⟩) hHeld ?_
          · intro w hSw
            simp only [List.getElem_toArray, List.getElem_cons_zero, List.getElem_cons_succ]
            go_simp
          simp only [Act.put, List.getElem_toArray, List.getElem_cons_zero, List.getElem_cons_succ, List.setIfInBounds_toArray, List.set_cons_zero, List.set_cons_succ]
          refine wpAnyH_take (i := 5) (v := .slice (some ⟨gs, 0, none⟩) (kf + 1) fa1) rfl (by kernel_rfl) (by kernel_rfl) (by kernel_rfl) (fun _ _ _ h => h) (Or.inl ⟨by rfl, ?_⟩) hHeld ?_
          · intro w hSw
            have q0 := hSw.2.1
            simp only [List.getElem_toArray, List.getElem_cons_zero, List.getElem_cons_succ]
            go_simp
          simp only [Act.put, List.getElem_toArray, List.getElem_cons_zero, List.getElem_cons_succ, List.setIfInBounds_toArray, List.set_cons_zero, List.set_cons_succ]
          refine wpAnyH_take (i := 6) (v := .int .i64 (kf : Int)) rfl (by kernel_rfl) (by kernel_rfl) (by kernel_rfl) (fun _ _ _ h => h) (Or.inl ⟨by rfl, ?_⟩) hHeld ?_
          · intro w hSw
            simp only [List.getElem_toArray, List.getElem_cons_zero, List.getElem_cons_succ]
            go_simp
          simp only [Act.put, List.getElem_toArray, List.getElem_cons_zero, List.getElem_cons_succ, List.setIfInBounds_toArray, List.set_cons_zero, List.set_cons_succ]
          refine wpAnyH_take (i := 7) (v := .int .i64 (r : Int)) rfl (by kernel_rfl) (by kernel_rfl) (by kernel_rfl) (fun _ _ _ h => h) (Or.inl ⟨by rfl, ?_⟩) hHeld ?_
          · intro w hSw
            simp only [List.getElem_toArray, List.getElem_cons_zero, List.getElem_cons_succ]
            go_simp
          simp only [Act.put, List.getElem_toArray, List.getElem_cons_zero, List.getElem_cons_succ, List.setIfInBounds_toArray, List.set_cons_zero, List.set_cons_succ]
          refine wpAnyH_take (i := 8) (v := .pointer (some ⟨gs, kf * 14, none⟩)) rfl (by kernel_rfl) (by kernel_rfl) (by kernel_rfl) (fun _ _ _ h => h) (Or.inl ⟨by rfl, ?_⟩) hHeld ?_
          · intro w hSw
            simp only [List.getElem_toArray, List.getElem_cons_zero, List.getElem_cons_succ]
            go_simp
          simp only [Act.put, List.getElem_toArray, List.getElem_cons_zero, List.getElem_cons_succ, List.setIfInBounds_toArray, List.set_cons_zero, List.set_cons_succ]
          refine wpAnyH_take (i := 9) (v := .pointer (some ⟨gs, kf * 14 + 2, none⟩)) rfl (by kernel_rfl) (by kernel_rfl) (by kernel_rfl) (fun _ _ _ h => h) (Or.inl ⟨by rfl, ?_⟩) hHeld ?_
          · intro w hSw
            simp only [List.getElem_toArray, List.getElem_cons_zero, List.getElem_cons_succ]
            go_simp
          simp only [Act.put, List.getElem_toArray, List.getElem_cons_zero, List.getElem_cons_succ, List.setIfInBounds_toArray, List.set_cons_zero, List.set_cons_succ]
          refine wpAnyH_take (i := 10) (v := .pointer (some ⟨gs, kf * 14 + 2 + r, none⟩)) rfl (by kernel_rfl) (by kernel_rfl) (by kernel_rfl) (fun _ _ _ h => h) (Or.inl ⟨by rfl, ?_⟩) hHeld ?_
          · intro w hSw
            simp only [List.getElem_toArray, List.getElem_cons_zero, List.getElem_cons_succ]
            go_simp
          simp only [Act.put, List.getElem_toArray, List.getElem_cons_zero, List.getElem_cons_succ, List.setIfInBounds_toArray, List.set_cons_zero, List.set_cons_succ]
          refine wpAnyH_take (i := 11) (v := .int .i64 xr) rfl (by kernel_rfl) (by kernel_rfl) (by kernel_rfl) (fun _ _ _ h => h) (Or.inl ⟨by rfl, ?_⟩) hHeld ?_
          · intro w hSw
            have q0 := hSw.2.2
            simp only [List.getElem_toArray, List.getElem_cons_zero, List.getElem_cons_succ]
            go_simp
          simp only [Act.put, List.getElem_toArray, List.getElem_cons_zero, List.getElem_cons_succ, List.setIfInBounds_toArray, List.set_cons_zero, List.set_cons_succ]
          refine wpAnyH_take (i := 12) (v := .pointer (some ⟨gt, kf * 14, none⟩)) rfl (by kernel_rfl) (by kernel_rfl) (by kernel_rfl) (fun _ _ _ h => h) (Or.inl ⟨by rfl, ?_⟩) hHeld ?_
          · intro w hSw
            simp only [List.getElem_toArray, List.getElem_cons_zero, List.getElem_cons_succ]
            go_simp
          simp only [Act.put, List.getElem_toArray, List.getElem_cons_zero, List.getElem_cons_succ, List.setIfInBounds_toArray, List.set_cons_zero, List.set_cons_succ]
          refine wpAnyH_take (i := 13) (v := .pointer (some ⟨gt, kf * 14 + 2, none⟩)) rfl (by kernel_rfl) (by kernel_rfl) (by kernel_rfl) (fun _ _ _ h => h) (Or.inl ⟨by rfl, ?_⟩) hHeld ?_
          · intro w hSw
            simp only [List.getElem_toArray, List.getElem_cons_zero, List.getElem_cons_succ]
            go_simp
          simp only [Act.put, List.getElem_toArray, List.getElem_cons_zero, List.getElem_cons_succ, List.setIfInBounds_toArray, List.set_cons_zero, List.set_cons_succ]
          refine wpAnyH_take (i := 14) (v := .pointer (some ⟨gt, kf * 14 + 2 + r, none⟩)) rfl (by kernel_rfl) (by kernel_rfl) (by kernel_rfl) (fun _ _ _ h => h) (Or.inl ⟨by rfl, ?_⟩) hHeld ?_
          · intro w hSw
            simp only [List.getElem_toArray, List.getElem_cons_zero, List.getElem_cons_succ]
            go_simp
          simp only [Act.put, List.getElem_toArray, List.getElem_cons_zero, List.getElem_cons_succ, List.setIfInBounds_toArray, List.set_cons_zero, List.set_cons_succ]
          refine wpAnyH_ready (rs := [15]) (by kernel_rfl) (by simp) ?_
          refine AllReadyH.cons rfl (fun K hK => ?_) AllReadyH.nil
          simp only [List.getElem_toArray, List.getElem_cons_zero, List.getElem_cons_succ]
          go_simp
          obtain ⟨w9, hw9⟩ : ∃ w9, wr.setCell ⟨gt, kf * 14 + 2 + r, none⟩ (.int .i64 xr) = w9 := ⟨_, rfl⟩
          have hbw : Below gt wr w9 := hw9 ▸ (Below.refl gt wr).setCell (Nat.le_refl _) _
          have HC9 : Hid (CellsSt CT w9 w5.heap.size (bkS s1 fs f v (r + 1))) := Lib.hid (hw9 ▸ HSET.out)
          have HBT9 : Hid (w9.heap[w6.heap.size]? = some (.cells CT.toArray 49 (0, 0))) := Lib.hid (hw9 ▸ block_set_ne HBTR.out (by have := HGL.out.2; omega) _ _)
          have HB9 : Hid (Below w5.heap.size w5 w9) := Lib.hid (HBR.out.trans (hbw.mono HGT.out.1))
          have HIL9 : Hid (IntsB w9 lb (outL (liveL F O2))) := Lib.hid (hw9 ▸ block_set_ne HILR.out (by have := HGL.out.1; omega) _ _)
          have hwq : (wr.drew).setCell ⟨gt, kf * 14 + 2 + r, none⟩ (.int .i64 xr) = w9.drew := by rw [← hw9]; rfl
          have HXQ := Lib.hid (HX5.out.keeps HB9.out)
          have KR9 : Hid _ := Lib.hid (show w9.cell? ⟨w6.heap.size, 2, none⟩ = some (.slice (some ⟨gt, 0, none⟩) (kf + 1) capt) ∧ w9.cell? ⟨w2.heap.size, 2, none⟩ = some (.slice (some ⟨gs, 0, none⟩) (kf + 1) fa1) ∧ w9.cell? ⟨gs, kf * 14 + 2 + r, none⟩ = some (.int .i64 xr) from ⟨(cell_block HBT9.out 2).trans (List.getElem?_toArray.trans HT2.out), (HXQ.out.cell (.head _) 2).trans HS2.out, by rw [show kf * 14 + 2 + r = kf * 14 + (2 + r) by omega, (HSG.out w9 (HXQ.out.sts _ (.head _)).2).2 (2 + r) (by have := HR3.out; omega)]; exact HGR.out⟩)
          clear hbw
          first | rw [hwq] | rw [hw9]
          clear hwq hw9
          refine hK.out _ _ KR9.out (fun hHeld => ?_)
          clear hK K hHeld
          refine wpAnyH_done (by kernel_rfl) ?_ _
          go_wp2_with fail
          go_roundw
          case rel => exact ⟨r + 1, by have := HR3.out; omega, by go_num, HC9.out.below (Below.refl _ _).drew, HBT9.out, HB9.out.drew, HIL9.out⟩
          case measure => have := HR3.out; simp [intOf]; omega
  · have hsb : (s1.status == 0) = false := by simpa using hst
    rw [hsb]
    have HST := Lib.hid hst
    clear hsb hst
    go_wp2_with (first | (refine wpList_store_mid (by rfl) 49 _ _ (by rfl) w2.heap.size 0 C0.toArray (by rfl) (by rfl) (there_new w2 zeroV _ (by simp [HC1.out.len HI1.out.mem, zeroV_length])) (by simpa using HJ1.out) HC1.out.one ?_; obtain ⟨w3, hw3⟩ : ∃ w3, (w2.alloc (.cells zeroV.toArray 49)).setCells w2.heap.size 0 C0.toArray.toList = w3 := ⟨_, rfl⟩; rw [hw3]; have HX3 : Hid (Sx w1 w1.heap.size (.slice A1 p.length cap1) w3 [(w2.heap.size, C0, s1)]) := Lib.hid (hw3 ▸ HX2.out.add HC1.out HI1.out.mem); have pc3 := HX3.out.pcell; clear hw3) | (refine wpList_load_mid (by rfl) 49 _ (by rfl) w2.heap.size 0 (by rfl) C0 _ (HX3.out.range (.head _)) Tryd.underlying49 (by rfl) HJ1.out ?_))
    refine (HEH.out HST.out C0 _ HX3.out.below _ (HX3.out.sts _ (.head _)).2).mono ?_
    rintro e w4 ⟨rfl, hb4⟩
    have HX4 := Lib.hid (HX3.out.keeps hb4)
    have HZI := Lib.hid (info_cp zC_length)
    have HZS := Lib.hid (info_st zeroV_length)
    clear hb4 pc3
    go_wp2_with (first | (refine wpList_store_mid (by rfl) 59 _ _ (by rfl) w4.heap.size 0 zC.toArray (by rfl) (by rfl) (there_new w4 zC _ (by simp [zC_length, zC_length])) (by simpa using HZI.out) zC_one ?_; obtain ⟨w5, hw5⟩ : ∃ w5, (w4.alloc (.cells zC.toArray 59)).setCells w4.heap.size 0 zC.toArray.toList = w5 := ⟨_, rfl⟩; rw [hw5]; have HBw5 : Hid (Below w4.heap.size w4 w5) := Lib.hid (hw5 ▸ below_setCells (Nat.le_refl _) _ _ _ ((Below.refl _ _).alloc (Nat.le_refl _) _)); have HCB : Hid (w5.heap[w4.heap.size]? = some (.cells zC.toArray 59 (0, 0))) := Lib.hid (hw5 ▸ block_full (heap_alloc_new _ _) _ (by simp [zC_length, zC_length])); have HX5 := Lib.hid (HX4.out.keeps HBw5.out); have pc5 := HX5.out.pcell; have rc5 := range_block HCB.out; clear hw5) | (refine wpList_load_midg (by rfl) 49 _ (by rfl) w2.heap.size 0 (by rfl) C0 _ (HX5.out.range (.head _)) Tryd.underlying49 (by rfl) HJ1.out ?_) | (refine wpList_load_mid (by rfl) 59 _ (by rfl) w4.heap.size 0 (by rfl) zC _ rc5 Tryd.underlying59 (by rfl) HZI.out ?_))
    refine (HLH.out HST.out zC C0 w5 HX5.out.below _ (HX5.out.sts _ (.head _)).2).mono ?_
    rintro e w6 ⟨rfl, hb6⟩
    have HX6 := Lib.hid (HX5.out.keeps hb6)
    have HCB6 := Lib.hid ((hb6.block _ (block_lt HCB.out)).trans HCB.out)
    have HB56 := Lib.hid hb6
    clear hb6 pc5 rc5
    go_wp2_with (first | (refine wpList_store_mid (by rfl) 49 _ _ (by rfl) w6.heap.size 0 zeroV.toArray (by rfl) (by rfl) (there_new w6 zeroV _ (by simp [zeroV_length])) (by simpa using HZS.out) zeroV_one ?_; obtain ⟨w7, hw7⟩ : ∃ w7, (w6.alloc (.cells zeroV.toArray 49)).setCells w6.heap.size 0 zeroV.toArray.toList = w7 := ⟨_, rfl⟩; rw [hw7]; have HB67 : Hid (Below w6.heap.size w6 w7) := Lib.hid (hw7 ▸ below_setCells (Nat.le_refl _) _ _ _ ((Below.refl _ _).alloc (Nat.le_refl _) _)); have rc7 := range_block ((HB67.out.block _ (block_lt HCB6.out)).trans HCB6.out); have zcb := Nat.lt_of_lt_of_le (block_lt HCB6.out) HB67.out.size; clear hw7) | (refine wpList_load_midg (by rfl) 59 _ (by rfl) w4.heap.size 0 (by rfl) zC _ rc7 Tryd.underlying59 (by rfl) HZI.out ?_))
    have HQB := Lib.hid (below_all HB67.out HX6.out.below HBW.out)
    go_ret
    exact ⟨rfl, HQB.out⟩
end Go.Proofs.YtfngkpbbimibaaaDoor
