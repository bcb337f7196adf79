/-
  The walk of FarWalks: it returns true.
-/
import Derived.Test.YtefbdecejoeamaaDoorFa
import Derived.Test.YtefbdecejoeamaaDoorFh
namespace Go.Proofs.YtefbdecejoeamaaDoor
open Go.RowKit Tier
set_option maxRecDepth 100000 in
set_option maxHeartbeats 8000000 in
theorem farWalks_walk (A : Option Addr) (l : List Fnc) (cap : Nat) (a0 a1 : Int) (YA : Option Addr) (ans : List Int) (ycap : Nat) (fuel : Int) (n : Int) (w : World) (ht : Tab w) (hraw : RawsAt w A l) (hln : (l.length : Int) ≤ 9223372036854775807) (hin : InOk w a0 a1 YA ans ycap fuel) (hn : In n) :
    Calls Tryd.prog 19 #[.slice A l.length cap, .agg #[.int .i64 a0, .int .i64 a1, .slice YA ans.length ycap, .int .i64 fuel], .int .i64 n] w fun e w' => e = .returned (.bool true) ∧ Below w.heap.size w w' := by
  have HT := Lib.hid ht
  have HR := Lib.hid hraw
  have HIN := Lib.hid hin
  have hright := mkP_right l
  clear ht hraw hin
  go_enter Tryd.func19, Tryd.ntmps19
  go_wp2_with fail
  obtain ⟨wi, hwi⟩ : ∃ wi, w.alloc (.cells #[.int .i64 a0, .int .i64 a1, .slice YA ans.length ycap, .int .i64 fuel] 42) = wi := ⟨_, rfl⟩
  have HBI : Hid (Below w.heap.size w wi) := Lib.hid (hwi ▸ (Below.refl _ w).alloc (Nat.le_refl _) _)
  have HIB : Hid (wi.heap[w.heap.size]? = some (.cells #[.int .i64 a0, .int .i64 a1, .slice YA ans.length ycap, .int .i64 fuel] 42 (0, 0))) := Lib.hid (hwi ▸ heap_alloc_new w _)
  rw [hwi]
  refine (program_any A cap l _ (HT.out.keeps HBI.out) hln (HR.out.keeps HBI.out)).mono ?_
  rintro e w1 ⟨⟨A1, cap1, vs, rfl, hpv⟩, hb1⟩
  have HP := Lib.hid hpv.at
  have HBW := Lib.hid (HBI.out.trans (hb1.mono HBI.out.size))
  have HT1 := Lib.hid (HT.out.keeps HBW.out)
  have hib := (hb1.block _ (block_lt HIB.out)).trans HIB.out
  have i0 := (cell_block hib 0).trans rfl
  have i1 := (cell_block hib 1).trans rfl
  have i2 := (cell_block hib 2).trans rfl
  have i3 := (cell_block hib 3).trans rfl
  have zi := block_lt hib
  clear hpv hb1 hwi HBI HIB hib vs
  generalize mkP l = p at *
  have hp := right_of hright
  have HG := Lib.hid (hright)
  have HRP := Lib.hid hp
  have HKR := Lib.hid (fun (W : World) (hb : Below w1.heap.size w1 W) => krun_any hright a0 a1 fuel ans YA ycap A1 cap1 n hn W (HT1.out.keeps hb) (HP.out.keeps hb) ((HIN.out.row.keeps HBW.out).keeps hb) HIN.out.len HIN.out.cap HIN.out.fuel)
  have hi0 := inSt_inv hp a0 a1 ans fuel
  obtain ⟨s1, hs1⟩ : ∃ s1, walkSt p (pickedI n 200).toNat (inSt p a0 a1 ans fuel) = s1 := ⟨_, rfl⟩
  have HI1 : Hid (StInv p s1) := Lib.hid (hs1 ▸ hi0.walk hp _)
  rw [hs1] at HKR
  have HFA := Lib.hid (fun (C : List Value) (s : St) (F : Fnc) (hi : StInv p s) (hst : s.status = 0) (hex : ∃ fs f, s.frames = fs ++ [f] ∧ p[f.fn.toNat]? = some F) (W : World) (hb : Below w1.heap.size w1 W) (Bs : Nat) (hC : CellsSt C W Bs s) => far_any hright s C A1 cap1 W (HT1.out.keeps hb) (HP.out.keeps hb) hi hC hst F hex)
  have HFH := Lib.hid (fun (C : List Value) (s : St) (hi : StInv p s) (hst : s.status ≠ 0) (W : World) (hb : Below w1.heap.size w1 W) (Bs : Nat) (hC : CellsSt C W Bs s) => far_halt hright s C A1 cap1 W (HT1.out.keeps hb) (HP.out.keeps hb) hi hC hst)
  have HWK := Lib.hid (fun (C : List Value) (k : Nat) (hk : k ≤ 1000000) (W : World) (hb : Below w1.heap.size w1 W) (Bs : Nat) (hC : CellsSt C W Bs s1) => swalk_c hright k hk (HT1.out.keeps hb) (HP.out.keeps hb) HI1.out hC)
  have HBK := Lib.hid (fun (k : Nat) (G : Fnc) (hG : p[k]? = some G) (W : World) (hb : Below w1.heap.size w1 W) => blocks_any p A1 cap1 k G W (HT1.out.keeps hb) (HP.out.keeps hb) hright hG)
  clear hs1 hi0 hn hp hright
  go_wp2_with fail
  refine (HKR.out _ ((Below.refl _ w1).alloc (Nat.le_refl _) _)).mono ?_
  rintro e w2 ⟨⟨C0, rfl, hC0⟩, hb2⟩
  have HX2 : Hid (Sx w1 w1.heap.size (.slice A1 p.length cap1) w2 []) := Lib.hid ((Sx.mk ((Below.refl _ w1).alloc (Nat.le_refl _) _) (heap_alloc_new w1 _) (fun x hx => by simp at hx)).keeps hb2)
  have HC1 := Lib.hid (hC0.base (by simp : w1.heap.size ≤ _))
  have HJ1 := Lib.hid (info_st (HC1.out.len HI1.out.mem))
  have hz := zero_st
  clear hC0 hb2 HKR i0 i1 i2 i3 zi
  by_cases hst : s1.status = 0
  · have hsb : (s1.status == 0) = true := by rw [hst]; rfl
    rw [hsb]
    clear hsb
    have HST := Lib.hid hst
    obtain ⟨fs0, f0, hf0⟩ := HI1.out.running hst
    obtain ⟨G, -, hG, -⟩ := (HI1.out.fr f0 (by rw [hf0]; simp)).parts
    have HGM := Lib.hid (List.mem_of_getElem? hG)
    have HEX := Lib.hid (show ∃ fs f, s1.frames = fs ++ [f] ∧ p[f.fn.toNat]? = some G from ⟨fs0, f0, hf0, hG⟩)
    clear hf0 hG hst fs0 f0
    go_wp2_with (first | (refine wpList_store_mid (by rfl) 46 _ _ (by rfl) w2.heap.size 0 C0.toArray (by rfl) (by rfl) (there_new w2 zeroV _ (by simp [HC1.out.len HI1.out.mem, zeroV_length])) (by simpa using HJ1.out) HC1.out.one ?_; obtain ⟨w3, hw3⟩ : ∃ w3, (w2.alloc (.cells zeroV.toArray 46)).setCells w2.heap.size 0 C0.toArray.toList = w3 := ⟨_, rfl⟩; rw [hw3]; have HX3 : Hid (Sx w1 w1.heap.size (.slice A1 p.length cap1) w3 [(w2.heap.size, C0, s1)]) := Lib.hid (hw3 ▸ HX2.out.add HC1.out HI1.out.mem); have pc3 := HX3.out.pcell; clear hw3) | (refine wpList_load_mid (by rfl) 46 _ (by rfl) w2.heap.size 0 (by rfl) C0 _ (HX3.out.range (.head _)) Tryd.underlying46 (by rfl) HJ1.out ?_))
    refine (HFA.out C0 s1 G HI1.out HST.out HEX.out _ HX3.out.below _ (HX3.out.sts _ (.head _)).2).mono ?_
    rintro e w4 ⟨⟨CT, t, k, rfl, hfar, hCT⟩, hb4⟩
    have HX4 := Lib.hid (HX3.out.keeps hb4)
    have HCT := Lib.hid (hCT.base HX3.out.below.size)
    obtain ⟨e1, e2, e3, fs, f0, f, e4, hft, e6, e7, epc, hstop, -⟩ := hfar.spec HRP.out HGM.out HI1.out
    have hfu0 : 0 ≤ t.fuel := by rw [e1]; exact (HI1.out.walk HRP.out k).fuel0
    have hs1f := HI1.out.fuel1
    have HIT : Hid (StInv p t) := Lib.hid (by rw [e1]; exact HI1.out.walk HRP.out k)
    have HJT := Lib.hid (info_st (HCT.out.len HIT.out.mem))
    have HSTT : Hid (t.status = 0) := Lib.hid (by rw [e1]; exact e2 k (Nat.le_refl _))
    have HE1 := Lib.hid e1
    have hkk : k ≤ 1000000 := by omega
    obtain ⟨kn, hkn⟩ : ∃ kn : Nat, f.fn = (kn : Int) := ⟨f.fn.toNat, by have := (HIT.out.fr f (by rw [hft]; simp)).fn0; omega⟩
    have HGK : Hid (p[kn]? = some G) := Lib.hid (by rw [← e7, ← e6, hkn]; rfl)
    have HKN := Lib.hid hkn
    have HFS := Lib.hid hft
    have HSTOP := Lib.hid hstop
    have HEPC := Lib.hid epc
    have HLEN : Hid (s1.frames.length = t.frames.length) := Lib.hid (by rw [e4, hft]; simp)
    have HFK := Lib.hid e3
    clear hfar hCT hb4 e1 e2 e3 e4 e6 e7 epc hft hstop hfu0 pc3 f0 hkn hs1f
    go_wp2_with (first | (refine wpList_store_mid (by rfl) 46 _ _ (by rfl) w4.heap.size 0 CT.toArray (by rfl) (by rfl) (there_new w4 zeroV _ (by simp [HCT.out.len HIT.out.mem, zeroV_length])) (by simpa using HJT.out) HCT.out.one ?_; obtain ⟨w5, hw5⟩ : ∃ w5, (w4.alloc (.cells zeroV.toArray 46)).setCells w4.heap.size 0 CT.toArray.toList = w5 := ⟨_, rfl⟩; rw [hw5]; have HX5 : Hid (Sx w1 w1.heap.size (.slice A1 p.length cap1) w5 [(w4.heap.size, CT, t), (w2.heap.size, C0, s1)]) := Lib.hid (hw5 ▸ HX4.out.add HCT.out HIT.out.mem); have pc5 := HX5.out.pcell; clear hw5) | (refine wpList_load_mid (by rfl) 46 _ (by rfl) w2.heap.size 0 (by rfl) C0 _ (HX5.out.range (.tail _ (.head _))) Tryd.underlying46 (by rfl) HJ1.out ?_))
    refine (HWK.out C0 k hkk _ HX5.out.below _ (HX5.out.sts _ (.tail _ (.head _))).2).mono ?_
    rintro e w6 ⟨⟨CW, rfl, hCW⟩, hb6⟩
    rw [← HE1.out] at hCW
    have HX6 := Lib.hid (HX5.out.keeps hb6)
    have HCW := Lib.hid (hCW.base HX5.out.below.size)
    have HIW := HIT
    have HJW := Lib.hid (info_st (HCW.out.len HIT.out.mem))
    clear hCW hb6 pc5 hkk
    obtain ⟨FA, fa, EA, ea, AA, aa, hA⟩ := HX6.out.cin (.head _) HIT.out
    have hfo : FrOk p f := HIT.out.fr f (by rw [HFS.out]; simp)
    have HFO := Lib.hid hfo
    obtain ⟨g, hFA, gz, rF⟩ := top_range hA HFS.out hfo.regs
    obtain ⟨kf, hkf⟩ : ∃ kf, fs.length = kf := ⟨_, rfl⟩
    have HKF := Lib.hid hkf
    have hnl : t.frames.length = kf + 1 := by rw [HFS.out, ← hkf]; simp
    have HNL := Lib.hid hnl
    have hdp := HIT.out.deep
    obtain ⟨nf, hn⟩ : ∃ nf, t.frames.length = nf := ⟨_, rfl⟩
    have HN := Lib.hid hn
    have c2 := hA.c2
    rw [hn, hFA] at c2
    have HCF2 := Lib.hid c2
    rw [hn] at hnl hdp
    rw [hkf] at rF
    have hk0 : (0 : Int) ≤ kf := by omega
    have hk1 : (kf : Int) < nf := by omega
    have hk2 : (nf : Int) ≤ 8 := by omega
    have hwn : IntKind.i64.wrap ((nf : Int) - 1) = (kf : Int) := by rw [IntKind.wrap_i64]; omega
    have hFl : (frCell f).length = 14 := frCell_length hfo.regs
    have HFL := Lib.hid hFl
    have HFI : Hid ((Tryd.prog.info? 78).map (·.size) = some (frCell f).length) := Lib.hid (by rw [hFl]; exact info_fr)
    have HFO1 : Hid ((frCell f).toArray.all (·.oneCell') = true) := Lib.hid (all_oneCell_toArray (fun v hv => frCells_cell (l := [f]) v (by rw [frCells_one]; exact hv)))
    have HF0 : Hid ((frCell f)[0]? = some (.int .i64 f.fn)) := Lib.hid rfl
    have HF1 : Hid ((frCell f)[1]? = some (.int .i64 f.pc)) := Lib.hid rfl
    have HFG := Lib.hid (fun (r : Int) (h0 : 0 ≤ r) (h1 : r < 12) => frCell_reg hfo.regs h0 h1)
    obtain ⟨pg, PC, CA, ccap, cg, M, hpv, hpg, hfn1, -, d2, rfl, hcg, hM, hpc1, d40, d41, d42, d43, d44⟩ := ins_at HP.out hfo
    simp only [Value.slice.injEq, true_and] at hpv
    obtain ⟨hA1, -⟩ := hpv
    have HA1 := Lib.hid hA1
    have hO := HRP.out.ins hfo
    have hF := HRP.out.fnok hfo
    have HO := Lib.hid hO
    have x1 := hO.op1
    have x2 := hO.op2
    have xa0 := hO.a1
    have xa1 : (insOf p f).a < 12 := by have := hO.a2; have := hF.r2; omega
    have xb0 := hO.b1
    have xb1 : (insOf p f).b < 12 := by have := hO.b2; have := hF.r2; omega
    have xd0 := hO.dst1
    have xd1 : (insOf p f).dst < 12 := by have := hO.dst2; have := hF.r2; omega
    have fn0 := hfo.fn0
    have pc0 := hfo.pc0
    have fnb : decide (f.fn < 0) = false := by simpa using fn0
    obtain ⟨F, hF'⟩ : ∃ F, frCell f = F := ⟨_, rfl⟩
    rw [hF'] at HFL HFI HFO1 HF0 HF1 HFG rF hFl
    have HFF := Lib.hid hF'
    have HRF := Lib.hid (fun (W : World) (hb : Below w6.heap.size w6 W) => range_below rF gz hb)
    clear hF' hA rF c2 hfo hFA hkf hn hA1 hO hF hM
    obtain ⟨FA1, fa1, EA1, ea1, AA1, aa1, hA1⟩ := HC1.out.cin HI1.out.mem (fun f hf => (HI1.out.fr f hf).regs)
    have HU2 : Hid (C0[2]? = some (.slice FA1 nf fa1)) := Lib.hid (by rw [hA1.c2, HLEN.out, HN.out])
    have HU19 : Hid (C0[19]? = some (.int .i64 s1.fuel)) := Lib.hid hA1.c19
    obtain ⟨FA2, fa2, EA2, ea2, AA2, aa2, hA2⟩ := HCT.out.cin HIT.out.mem (fun f hf => (HIT.out.fr f hf).regs)
    have HV0 : Hid (CT[0]? = some (.int .i64 0)) := Lib.hid (by rw [hA2.c0, HSTT.out])
    have HV19 : Hid (CT[19]? = some (.int .i64 t.fuel)) := Lib.hid hA2.c19
    clear hA1 hA2
    obtain ⟨F1, hF1⟩ : ∃ x, s1.fuel = x := ⟨_, rfl⟩
    obtain ⟨F2, hF2⟩ : ∃ x, t.fuel = x := ⟨_, rfl⟩
    have HF2 := Lib.hid hF2
    have hu0 : 0 ≤ F1 := by rw [← hF1]; exact HI1.out.fuel0
    have hu1 : F1 ≤ 10000 := by rw [← hF1]; exact HI1.out.fuel1
    have hv0 : 0 ≤ F2 := by rw [← hF2]; exact HIT.out.fuel0
    have hFK := HFK.out
    rw [hF1] at HU19 hFK
    rw [hF2] at HV19 hFK HSTOP
    have hwk : IntKind.i64.wrap (F1 - F2) = (k : Int) := by rw [IntKind.wrap_i64]; omega
    clear hF1 hF2 hFK
    go_wp2_with (first | (refine wpList_store_mid (by rfl) 46 _ _ (by rfl) w6.heap.size 0 CW.toArray (by rfl) (by rfl) (there_new w6 zeroV _ (by simp [HCW.out.len HIW.out.mem, zeroV_length])) (by simpa using HJW.out) HCW.out.one ?_; obtain ⟨w7, hw7⟩ : ∃ w7, (w6.alloc (.cells zeroV.toArray 46)).setCells w6.heap.size 0 CW.toArray.toList = w7 := ⟨_, rfl⟩; rw [hw7]; have HX7 : Hid (Sx w1 w1.heap.size (.slice A1 p.length cap1) w7 [(w6.heap.size, CW, t), (w4.heap.size, CT, t), (w2.heap.size, C0, s1)]) := Lib.hid (hw7 ▸ HX6.out.add HCW.out HIW.out.mem); have pc7 := HX7.out.pcell; have HBN : Hid (Below w6.heap.size w6 w7) := Lib.hid (hw7 ▸ below_setCells (Nat.le_refl _) _ _ _ ((Below.refl _ _).alloc (Nat.le_refl _) _)); clear hw7; have HB67 : Hid (Below w6.heap.size w6 w7) := Lib.hid HBN.out) | (refine wpList_load_midg (by rfl) 46 _ (by rfl) w4.heap.size 0 (by rfl) CT _ (HX7.out.range (.tail _ (.head _))) Tryd.underlying46 (by rfl) HJT.out ?_) | (refine wpList_load_midg (by rfl) 46 _ (by rfl) w6.heap.size 0 (by rfl) CW _ (HX7.out.range (.head _)) Tryd.underlying46 (by rfl) HJW.out ?_) | (go_at_call 47; go_must (refine (sameState_any t CT CW _ HIT.out (HX7.out.sts _ (.tail _ (.head _))).2 (HX7.out.sts _ (.head _)).2).mono ?_; rintro e w8 ⟨rfl, hb8⟩; have HX8 := Lib.hid (HX7.out.keeps hb8); have x2 := (HX8.out.cell (.tail _ (.tail _ (.head _))) 2).trans HU2.out; have x19 := (HX8.out.cell (.tail _ (.tail _ (.head _))) 19).trans HU19.out; have t0 := (HX8.out.cell (.tail _ (.head _)) 0).trans HV0.out; have t19 := (HX8.out.cell (.tail _ (.head _)) 19).trans HV19.out; have a2 := (HX8.out.cell (.tail _ (.head _)) 2).trans HCF2.out; have zx := HX8.out.lt (.tail _ (.tail _ (.head _))); have zt := HX8.out.lt (.tail _ (.head _)); have rF := HRF.out _ (HB67.out.trans (hb8.mono HB67.out.size)); clear hb8)) | (refine wpList_load_mid (by rfl) 78 _ (by rfl) g (kf * 14) (by rfl) F _ rF Tryd.underlying78 (by rfl) HFI.out ?_) | (refine wpList_store_mid (by rfl) 78 _ _ (by rfl) w8.heap.size 0 F.toArray (by rfl) (by rfl) (there_new w8 [.int .i64 0, .int .i64 0, .int .i64 0, .int .i64 0, .int .i64 0, .int .i64 0, .int .i64 0, .int .i64 0, .int .i64 0, .int .i64 0, .int .i64 0, .int .i64 0, .int .i64 0, .int .i64 0] _ (by simp [HFL.out])) (by simpa using HFI.out) HFO1.out ?_; obtain ⟨w9, hw9⟩ : ∃ w9, (w8.alloc (.cells (List.toArray [.int .i64 0, .int .i64 0, .int .i64 0, .int .i64 0, .int .i64 0, .int .i64 0, .int .i64 0, .int .i64 0, .int .i64 0, .int .i64 0, .int .i64 0, .int .i64 0, .int .i64 0, .int .i64 0]) 78)).setCells w8.heap.size 0 F.toArray.toList = w9 := ⟨_, rfl⟩; rw [hw9]; have HBT : Hid (Below w8.heap.size w8 w9) := Lib.hid (hw9 ▸ below_setCells (Nat.le_refl _) _ _ _ ((Below.refl _ _).alloc (Nat.le_refl _) _)); have HX9 := Lib.hid (HX8.out.keeps HBT.out); have HTB : Hid (w9.heap[w8.heap.size]? = some (.cells F.toArray 78 (0, 0))) := Lib.hid (hw9 ▸ block_full (heap_alloc_new _ _) _ (by simp [HFL.out])); clear hw9 a2 rF x2 x19 t0 t19 zx zt))
    have e2 := (HX9.out.below.cell (p := ⟨pg, _, none⟩) hpg).trans d2
    have e40 := (HX9.out.below.cell (p := ⟨cg, _, none⟩) hcg).trans d40
    have e41 := (HX9.out.below.cell (p := ⟨cg, _, none⟩) hcg).trans d41
    have e42 := (HX9.out.below.cell (p := ⟨cg, _, none⟩) hcg).trans d42
    have e43 := (HX9.out.below.cell (p := ⟨cg, _, none⟩) hcg).trans d43
    have e44 := (HX9.out.below.cell (p := ⟨cg, _, none⟩) hcg).trans d44
    have ep := HX9.out.pcell
    rw [HA1.out] at ep
    have et0 := (cell_block HTB.out 0).trans (List.getElem?_toArray.trans HF0.out)
    have et1 := (cell_block HTB.out 1).trans (List.getElem?_toArray.trans HF1.out)
    have hz1 := HX9.out.below.size
    have hzp := block_lt HX9.out.pblk
    have hzt := block_lt HTB.out
    have KS := Lib.hid (fun (w' : World) (hb : Below w9.heap.size w9 w') => (⟨(hb.cell (p := ⟨w1.heap.size, 0, none⟩) hzp).trans ep, (hb.cell (p := ⟨w8.heap.size, 0, none⟩) hzt).trans et0, (hb.cell (p := ⟨w8.heap.size, 1, none⟩) hzt).trans et1, (hb.cell (p := ⟨pg, _, none⟩) (by show pg < _; omega)).trans e2, (hb.cell (p := ⟨cg, _, none⟩) (by show cg < _; omega)).trans e40, (hb.cell (p := ⟨cg, _, none⟩) (by show cg < _; omega)).trans e41, (hb.cell (p := ⟨cg, _, none⟩) (by show cg < _; omega)).trans e42, (hb.cell (p := ⟨cg, _, none⟩) (by show cg < _; omega)).trans e43, (hb.cell (p := ⟨cg, _, none⟩) (by show cg < _; omega)).trans e44⟩ :
        w'.cell? ⟨w1.heap.size, 0, none⟩ = some (.slice (some ⟨pg, 0, none⟩) p.length cap1) ∧ w'.cell? ⟨w8.heap.size, 0, none⟩ = some (.int .i64 f.fn) ∧ w'.cell? ⟨w8.heap.size, 1, none⟩ = some (.int .i64 f.pc) ∧ w'.cell? ⟨pg, f.fn.toNat * 3 + 2, none⟩ = some (.slice (some ⟨cg, 0, none⟩) M ccap) ∧ w'.cell? ⟨cg, f.pc.toNat * 5, none⟩ = some (.int .i64 (insOf p f).op) ∧ w'.cell? ⟨cg, f.pc.toNat * 5 + 1, none⟩ = some (.int .i64 (insOf p f).dst) ∧ w'.cell? ⟨cg, f.pc.toNat * 5 + 2, none⟩ = some (.int .i64 (insOf p f).a) ∧ w'.cell? ⟨cg, f.pc.toNat * 5 + 3, none⟩ = some (.int .i64 (insOf p f).b) ∧ w'.cell? ⟨cg, f.pc.toNat * 5 + 4, none⟩ = some (.int .i64 (insOf p f).imm)))
    clear e2 e40 e41 e42 e43 e44 ep et0 et1 hz1 hzp hzt d2 d40 d41 d42 d43 d44
    refine wp_region_held_drew (S := fun w' => w'.cell? ⟨w1.heap.size, 0, none⟩ = some (.slice (some ⟨pg, 0, none⟩) p.length cap1) ∧ w'.cell? ⟨w8.heap.size, 0, none⟩ = some (.int .i64 f.fn) ∧ w'.cell? ⟨w8.heap.size, 1, none⟩ = some (.int .i64 f.pc) ∧ w'.cell? ⟨pg, f.fn.toNat * 3 + 2, none⟩ = some (.slice (some ⟨cg, 0, none⟩) M ccap) ∧ w'.cell? ⟨cg, f.pc.toNat * 5, none⟩ = some (.int .i64 (insOf p f).op) ∧ w'.cell? ⟨cg, f.pc.toNat * 5 + 1, none⟩ = some (.int .i64 (insOf p f).dst) ∧ w'.cell? ⟨cg, f.pc.toNat * 5 + 2, none⟩ = some (.int .i64 (insOf p f).a) ∧ w'.cell? ⟨cg, f.pc.toNat * 5 + 3, none⟩ = some (.int .i64 (insOf p f).b) ∧ w'.cell? ⟨cg, f.pc.toNat * 5 + 4, none⟩ = some (.int .i64 (insOf p f).imm)) (by kernel_rfl) (KS.out _ (Below.refl _ _).drew) (fun hHeld => ?_)
    refine wpAnyH_take (i := 0) (v := .pointer (some ⟨w1.heap.size, 0, none⟩)) rfl (by kernel_rfl) (by kernel_rfl) (by kernel_rfl) (fun _ _ _ h => h) (Or.inl ⟨by rfl, ?_⟩) hHeld ?_
    · intro w hSw
      obtain ⟨q0, q1, q2, q3, q4, q5, q6, q7, q8⟩ := hSw
      simp only [List.getElem_toArray, List.getElem_cons_zero]
      go_simp
    simp only [Act.put, List.getElem_toArray, List.getElem_cons_zero, List.setIfInBounds_toArray, List.set_cons_zero, List.set_cons_succ]
    refine wpAnyH_take (i := 1) (v := .slice (some ⟨pg, 0, none⟩) p.length cap1) rfl (by kernel_rfl) (by kernel_rfl) (by kernel_rfl) (fun _ _ _ h => h) (Or.inl ⟨by rfl, ?_⟩) hHeld ?_
    · intro w hSw
      obtain ⟨q0, q1, q2, q3, q4, q5, q6, q7, q8⟩ := hSw
      simp only [List.getElem_toArray, List.getElem_cons_zero, List.getElem_cons_succ]
      go_simp
    simp only [Act.put, List.getElem_toArray, List.getElem_cons_zero, List.getElem_cons_succ, List.setIfInBounds_toArray, List.set_cons_zero, List.set_cons_succ]
    refine wpAnyH_take (i := 2) (v := .pointer (some ⟨w8.heap.size, 0, none⟩)) rfl (by kernel_rfl) (by kernel_rfl) (by kernel_rfl) (fun _ _ _ h => h) (Or.inl ⟨by rfl, ?_⟩) hHeld ?_
    · intro w hSw
      obtain ⟨q0, q1, q2, q3, q4, q5, q6, q7, q8⟩ := hSw
      simp only [List.getElem_toArray, List.getElem_cons_zero, List.getElem_cons_succ]
      go_simp
    simp only [Act.put, List.getElem_toArray, List.getElem_cons_zero, List.getElem_cons_succ, List.setIfInBounds_toArray, List.set_cons_zero, List.set_cons_succ]
    refine wpAnyH_take (i := 3) (v := .int .i64 f.fn) rfl (by kernel_rfl) (by kernel_rfl) (by kernel_rfl) (fun _ _ _ h => h) (Or.inl ⟨by rfl, ?_⟩) hHeld ?_
    · intro w hSw
      obtain ⟨q0, q1, q2, q3, q4, q5, q6, q7, q8⟩ := hSw
      simp only [List.getElem_toArray, List.getElem_cons_zero, List.getElem_cons_succ]
      go_simp
    simp only [Act.put, List.getElem_toArray, List.getElem_cons_zero, List.getElem_cons_succ, List.setIfInBounds_toArray, List.set_cons_zero, List.set_cons_succ]
    refine wpAnyH_take (i := 4) (v := .pointer (some ⟨pg, f.fn.toNat * 3, none⟩)) rfl (by kernel_rfl) (by kernel_rfl) (by kernel_rfl) (fun _ _ _ h => h) (Or.inl ⟨by rfl, ?_⟩) hHeld ?_
    · intro w hSw
      obtain ⟨q0, q1, q2, q3, q4, q5, q6, q7, q8⟩ := hSw
      simp only [List.getElem_toArray, List.getElem_cons_zero, List.getElem_cons_succ]
      go_simp
    simp only [Act.put, List.getElem_toArray, List.getElem_cons_zero, List.getElem_cons_succ, List.setIfInBounds_toArray, List.set_cons_zero, List.set_cons_succ]
    refine wpAnyH_take (i := 5) (v := .pointer (some ⟨pg, f.fn.toNat * 3 + 2, none⟩)) rfl (by kernel_rfl) (by kernel_rfl) (by kernel_rfl) (fun _ _ _ h => h) (Or.inl ⟨by rfl, ?_⟩) hHeld ?_
    · intro w hSw
      obtain ⟨q0, q1, q2, q3, q4, q5, q6, q7, q8⟩ := hSw
      simp only [List.getElem_toArray, List.getElem_cons_zero, List.getElem_cons_succ]
      go_simp
    simp only [Act.put, List.getElem_toArray, List.getElem_cons_zero, List.getElem_cons_succ, List.setIfInBounds_toArray, List.set_cons_zero, List.set_cons_succ]
    refine wpAnyH_take (i := 6) (v := .slice (some ⟨cg, 0, none⟩) M ccap) rfl (by kernel_rfl) (by kernel_rfl) (by kernel_rfl) (fun _ _ _ h => h) (Or.inl ⟨by rfl, ?_⟩) hHeld ?_
    · intro w hSw
      obtain ⟨q0, q1, q2, q3, q4, q5, q6, q7, q8⟩ := hSw
      simp only [List.getElem_toArray, List.getElem_cons_zero, List.getElem_cons_succ]
      go_simp
    simp only [Act.put, List.getElem_toArray, List.getElem_cons_zero, List.getElem_cons_succ, List.setIfInBounds_toArray, List.set_cons_zero, List.set_cons_succ]
    refine wpAnyH_take (i := 7) (v := .pointer (some ⟨w8.heap.size, 1, none⟩)) rfl (by kernel_rfl) (by kernel_rfl) (by kernel_rfl) (fun _ _ _ h => h) (Or.inl ⟨by rfl, ?_⟩) hHeld ?_
    · intro w hSw
      obtain ⟨q0, q1, q2, q3, q4, q5, q6, q7, q8⟩ := hSw
      simp only [List.getElem_toArray, List.getElem_cons_zero, List.getElem_cons_succ]
      go_simp
    simp only [Act.put, List.getElem_toArray, List.getElem_cons_zero, List.getElem_cons_succ, List.setIfInBounds_toArray, List.set_cons_zero, List.set_cons_succ]
    refine wpAnyH_take (i := 8) (v := .int .i64 f.pc) rfl (by kernel_rfl) (by kernel_rfl) (by kernel_rfl) (fun _ _ _ h => h) (Or.inl ⟨by rfl, ?_⟩) hHeld ?_
    · intro w hSw
      obtain ⟨q0, q1, q2, q3, q4, q5, q6, q7, q8⟩ := hSw
      simp only [List.getElem_toArray, List.getElem_cons_zero, List.getElem_cons_succ]
      go_simp
    simp only [Act.put, List.getElem_toArray, List.getElem_cons_zero, List.getElem_cons_succ, List.setIfInBounds_toArray, List.set_cons_zero, List.set_cons_succ]
    refine wpAnyH_take (i := 9) (v := .pointer (some ⟨cg, f.pc.toNat * 5, none⟩)) rfl (by kernel_rfl) (by kernel_rfl) (by kernel_rfl) (fun _ _ _ h => h) (Or.inl ⟨by rfl, ?_⟩) hHeld ?_
    · intro w hSw
      obtain ⟨q0, q1, q2, q3, q4, q5, q6, q7, q8⟩ := hSw
      simp only [List.getElem_toArray, List.getElem_cons_zero, List.getElem_cons_succ]
      go_simp
    simp only [Act.put, List.getElem_toArray, List.getElem_cons_zero, List.getElem_cons_succ, List.setIfInBounds_toArray, List.set_cons_zero, List.set_cons_succ]
    refine wpAnyH_take (i := 10) (v := .agg (List.toArray [.int .i64 (insOf p f).op, .int .i64 (insOf p f).dst, .int .i64 (insOf p f).a, .int .i64 (insOf p f).b, .int .i64 (insOf p f).imm])) rfl (by kernel_rfl) (by kernel_rfl) (by kernel_rfl) (fun _ _ _ h => h) (Or.inl ⟨by rfl, ?_⟩) hHeld ?_
    · intro w hSw
      obtain ⟨q0, q1, q2, q3, q4, q5, q6, q7, q8⟩ := hSw
      simp only [List.getElem_toArray, List.getElem_cons_zero, List.getElem_cons_succ]
      go_simp
    simp only [Act.put, List.getElem_toArray, List.getElem_cons_zero, List.getElem_cons_succ, List.setIfInBounds_toArray, List.set_cons_zero, List.set_cons_succ]
    refine wpAnyH_ready (rs := [11]) (by kernel_rfl) (by simp) ?_
    refine AllReadyH.cons rfl (fun K hK => ?_) AllReadyH.nil
    simp only [List.getElem_toArray, List.getElem_cons_zero, List.getElem_cons_succ]
    go_simp
    refine hK.out _ _ (KS.out _ ((Below.refl _ _).drew.alloc (Nat.le_refl _) _)) (fun hHeld => ?_)
    clear hK K
    refine wpAnyH_ready (rs := [12]) (by kernel_rfl) (by simp) ?_
    refine AllReadyH.cons rfl (fun K hK => ?_) AllReadyH.nil
    simp only [List.getElem_toArray, List.getElem_cons_zero, List.getElem_cons_succ]
    rw [if_pos (by rfl)]
    refine wp_store_mid 70 _ _ (by rfl) w9.heap.size 0 (List.toArray [.int .i64 (insOf p f).op, .int .i64 (insOf p f).dst, .int .i64 (insOf p f).a, .int .i64 (insOf p f).b, .int .i64 (insOf p f).imm]) (by rfl) (by rfl) (there_new w9.drew [.int .i64 0, .int .i64 0, .int .i64 0, .int .i64 0, .int .i64 0] _ (Nat.le_refl _)) (by kernel_rfl) (all_oneCell_toArray (by simp [Value.oneCell'])) ?_
    obtain ⟨w10, hw10⟩ : ∃ w10, (w9.drew.alloc (.cells (List.toArray [.int .i64 0, .int .i64 0, .int .i64 0, .int .i64 0, .int .i64 0]) 70)).setCells w9.heap.size 0 (List.toArray [.int .i64 (insOf p f).op, .int .i64 (insOf p f).dst, .int .i64 (insOf p f).a, .int .i64 (insOf p f).b, .int .i64 (insOf p f).imm]).toList = w10 := ⟨_, rfl⟩
    have HBX : Hid (Below w9.heap.size w9 w10) := Lib.hid (hw10 ▸ below_setCells (Nat.le_refl _) _ _ _ ((Below.refl _ _).drew.alloc (Nat.le_refl _) _))
    have HX10 := Lib.hid (HX9.out.keeps HBX.out)
    have HTX := Lib.hid ((HBX.out.block _ (block_lt HTB.out)).trans HTB.out)
    have HXB : Hid (w10.heap[w9.heap.size]? = some (.cells (List.toArray [.int .i64 (insOf p f).op, .int .i64 (insOf p f).dst, .int .i64 (insOf p f).a, .int .i64 (insOf p f).b, .int .i64 (insOf p f).imm]) 70 (0, 0))) := Lib.hid (hw10 ▸ block_full (heap_alloc_new w9.drew _) _ rfl)
    refine hK.out _ _ (by have := KS.out w10 HBX.out; rw [← hw10] at this; exact this) (fun hHeld => ?_)
    clear hK K hHeld KS
    refine wpAnyH_done (by kernel_rfl) ?_ _
    have hwq : (w9.alloc (.cells (List.toArray [.int .i64 0, .int .i64 0, .int .i64 0, .int .i64 0, .int .i64 0]) 70)).drew.setCells w9.heap.size 0 [.int .i64 (insOf p f).op, .int .i64 (insOf p f).dst, .int .i64 (insOf p f).a, .int .i64 (insOf p f).b, .int .i64 (insOf p f).imm] = w10 := hw10
    rw [hwq]
    clear hwq hw10
    have p10 := HX10.out.pcell
    have zp := block_lt HX10.out.pblk
    have i0 := (cell_block HTX.out 0).trans (List.getElem?_toArray.trans HF0.out)
    have zi := block_lt HTX.out
    go_wp2_with fail
    have hkn := HKN.out
    rw [hkn]
    refine (HBK.out kn G HGK.out _ HX10.out.below).mono ?_
    rintro e w11 ⟨⟨gb, Bb, bs, rfl, hgb, hBB, hOB⟩, hb11⟩
    have hH := (HRP.out.ok.fn G HGM.out).c2
    obtain ⟨H, hHH⟩ : ∃ H, (hdL G).length = H := ⟨_, rfl⟩
    have hHM : H ≤ 40 := by have h1 := hdTo_len G G.code.length; have h2 : hdTo G G.code.length = hdL G := rfl; rw [h2, hHH] at h1; omega
    rw [hHH]
    have HH := Lib.hid hHH
    have HX11 := Lib.hid (HX10.out.keeps hb11)
    have HTX11 := Lib.hid ((hb11.block _ (block_lt HTX.out)).trans HTX.out)
    have HXB11 := Lib.hid ((hb11.block _ (block_lt HXB.out)).trans HXB.out)
    have HBB := Lib.hid hBB
    have HOB := Lib.hid hOB
    clear p10 zp i0 zi hgb hBB hOB hb11 hH hHH hkn
    have ra := HFG.out _ xa0 xa1
    have rb := HFG.out _ xb0 xb1
    have o0 := (cell_block HXB11.out 0).trans rfl
    have o2 := (cell_block HXB11.out 2).trans rfl
    have o3 := (cell_block HXB11.out 3).trans rfl
    have zo := block_lt HXB11.out
    have u2 := (cell_block HTX11.out (2 + (insOf p f).a.toNat)).trans (List.getElem?_toArray.trans ra)
    have u3 := (cell_block HTX11.out (2 + (insOf p f).b.toNat)).trans (List.getElem?_toArray.trans rb)
    have u1 := (cell_block HTX11.out 1).trans (List.getElem?_toArray.trans HF1.out)
    have zu := block_lt HTX11.out
    have HSTOP2 := HSTOP.out
    unfold Stop at HSTOP2
    generalize f.reg (insOf p f).a = va at *
    generalize f.reg (insOf p f).b = vb at *
    generalize (insOf p f).op = op at *
    have HS2 := Lib.hid HSTOP2
    clear HSTOP2 HSTOP ra rb
    by_cases h17 : 17 ≤ op
    · have d17 : decide (17 ≤ op) = true := by rw [decide_eq_true_eq]; exact h17
      go_wp2_with fail
      go_ret
      exact ⟨rfl, HBW.out.trans (HX11.out.below.mono HBW.out.size)⟩
    have d17 : decide (17 ≤ op) = false := by rw [decide_eq_false_iff_not]; exact h17
    by_cases h5 : op = 5
    · subst h5
      by_cases hb0 : vb = 0
      · subst hb0
        go_wp2_with fail
        go_ret
        exact ⟨rfl, HBW.out.trans (HX11.out.below.mono HBW.out.size)⟩
      · have hbb : (vb == 0) = false := by simpa using hb0
        have HEND : Hid ((∃ q, q ∈ hdL G ∧ f.pc = (q : Int) ∧ F2 < toF G q - q) ∨ (k = 0 ∧ f.pc.toNat ∉ hdL G)) := Lib.hid (by
          rcases HS2.out with h | h | h | h | h
          · exact absurd h h17
          · exact absurd h (fun h => hb0 h.2)
          · exact absurd h (fun h => by omega)
          · exact .inl h
          · exact .inr h)
        have HU1 := Lib.hid u1
        have HZU := Lib.hid zu
        go_wp2_with fail
        clear h17 d17 zo o0 o2 o3 u2 u3 hbb hb0 u1 zu
        go_loopw [23] (fun v wr => ∃ i : Nat, i ≤ H ∧ v = .int .i64 (i : Int) ∧ Below w11.heap.size w11 wr ∧ ∀ j, j < i → (hdA G j : Int) ≠ f.pc) (fun v _ => H - (intOf v).toNat)
        case atStart => exact ⟨0, by omega, rfl, Below.refl _ _, fun j hj => by omega⟩
        case round =>
          obtain ⟨i, hi, rfl, hbr, hno⟩ := hrel
          have HBR := Lib.hid hbr
          have HNO := Lib.hid hno
          clear hno
          have t19 := (hbr.cell (p := ⟨w4.heap.size, 19, none⟩) (HX11.out.lt (.tail _ (.head _)))).trans ((HX11.out.cell (.tail _ (.head _)) 19).trans HV19.out)
          have u1 := (hbr.cell (p := ⟨w8.heap.size, 1, none⟩) HZU.out).trans HU1.out
          have zt := Nat.lt_of_lt_of_le (HX11.out.lt (.tail _ (.head _))) hbr.size
          have zu := Nat.lt_of_lt_of_le HZU.out hbr.size
          have hBr := HBB.out.keeps hbr
          by_cases hiH : i = H
          · obtain rfl : H = i := hiH.symm
            have hk : k = 0 := by
              rcases HEND.out with ⟨q, h1, h2, -⟩ | ⟨h1, -⟩
              · obtain ⟨j, hj⟩ := List.getElem?_of_mem h1
                have hjl := (List.getElem?_eq_some_iff.1 hj).1
                rw [HH.out] at hjl
                exact absurd (by rw [hdA_eq hj, h2]) (HNO.out j hjl)
              · exact h1
            subst hk
            clear hBr hbr
            go_wp2_with fail
            go_ret
            exact ⟨rfl, HBW.out.trans ((HX11.out.below.trans (HBR.out.mono HX11.out.below.size)).mono HBW.out.size)⟩
          · have hi1 : (i : Int) < H := by omega
            have hi2 : (0 : Int) ≤ i := by omega
            have hil : i < H := by omega
            obtain ⟨r, hr⟩ : ∃ r, bs[i]? = some r := ⟨_, List.getElem?_eq_getElem (by rw [HOB.out.len, HH.out]; exact hil)⟩
            obtain ⟨hr1, hr2, -, -⟩ := HOB.out.at_ i r hr
            have y0 : wr.cell? ⟨gb, i * 4, none⟩ = some (.int .i64 r.fr) := hBr.cell hr (j := 0) (by omega)
            have y1 : wr.cell? ⟨gb, i * 4 + 1, none⟩ = some (.int .i64 r.to) := hBr.cell hr (j := 1) (by omega)
            have zg := block_lt hBr.blk
            have HIL := Lib.hid hil
            obtain ⟨rf, hrf⟩ : ∃ x, r.fr = x := ⟨_, rfl⟩
            obtain ⟨rt, hrt⟩ : ∃ x, r.to = x := ⟨_, rfl⟩
            rw [hrf] at y0 hr1
            rw [hrt] at y1 hr2
            have HR1 := Lib.hid hr1
            have HR2 := Lib.hid hr2
            have hmem := (hdA_memF (F := G) (q := i) (by rw [HH.out]; exact hil)).1
            have hts := toF_spec HRP.out HGM.out hmem
            have hcl := (HRP.out.ok.fn G HGM.out).c2
            have hwd : IntKind.i64.wrap (rt - rf) = rt - rf := by rw [IntKind.wrap_i64]; have := hts.1; have := hts.2.1; omega
            have HMEM := Lib.hid hmem
            clear hBr hbr hr hrf hrt hr1 hr2 hil hmem hts hcl hiH
            by_cases hq : rf = f.pc
            · have hqb : (f.pc == f.pc) = true := by simp
              have HQ := Lib.hid hq
              have hlt : decide (F2 < rt - f.pc) = true := by
                rw [decide_eq_true_eq]
                rcases HEND.out with ⟨q, h1, h2, h3⟩ | ⟨-, h2⟩
                · have e : hdA G i = q := by have := HR1.out; omega
                  have e2 := HR2.out
                  rw [e] at e2
                  omega
                · have e : hdA G i = f.pc.toNat := by have := HR1.out; omega
                  exact absurd HMEM.out (by rw [e]; exact h2)
              rw [hq] at y0 hwd
              clear hq
              go_wp2_with fail
              go_quiet (fail)
              go_wp2_with fail
              go_quiet (fail)
              go_wp2_with fail
              go_ret
              exact ⟨rfl, HBW.out.trans ((HX11.out.below.trans ((below_drewN (below_drewN HBR.out _) _).mono HX11.out.below.size)).mono HBW.out.size)⟩
            · have hqb : (rf == f.pc) = false := by simpa using hq
              have HQ := Lib.hid hq
              clear hq
              go_wp2_with fail
              go_quiet (fail)
              go_wp2_with fail
              go_roundw
              case rel => exact ⟨i + 1, by have := HIL.out; omega, by go_num, below_drewN HBR.out _, fun j hj => by
                by_cases he : j = i
                · rw [he, ← HR1.out]; exact HQ.out
                · exact HNO.out j (by omega)⟩
              case measure => have := HIL.out; simp [intOf]; omega
    · have d5 : (op == 5) = false := by simpa using h5
      by_cases h13 : op = 13
      · subst h13
        by_cases hn0 : va < 0
        · have dn : decide (va < 0) = true := by rw [decide_eq_true_eq]; exact hn0
          go_wp2_with fail
          go_ret
          exact ⟨rfl, HBW.out.trans (HX11.out.below.mono HBW.out.size)⟩
        · have dn : decide (va < 0) = false := by rw [decide_eq_false_iff_not]; exact hn0
          by_cases h16 : 16 ≤ va
          · have d16 : decide (16 ≤ va) = true := by rw [decide_eq_true_eq]; exact h16
            go_wp2_with fail
            go_ret
            exact ⟨rfl, HBW.out.trans (HX11.out.below.mono HBW.out.size)⟩
          · have d16 : decide (16 ≤ va) = false := by rw [decide_eq_false_iff_not]; exact h16
            have HEND : Hid ((∃ q, q ∈ hdL G ∧ f.pc = (q : Int) ∧ F2 < toF G q - q) ∨ (k = 0 ∧ f.pc.toNat ∉ hdL G)) := Lib.hid (by
              rcases HS2.out with h | h | h | h | h
              · exact absurd h h17
              · exact absurd h (fun h => by omega)
              · exact absurd h (fun h => by omega)
              · exact .inl h
              · exact .inr h)
            have HU1 := Lib.hid u1
            have HZU := Lib.hid zu
            go_wp2_with fail
            clear h17 d17 zo o0 o2 o3 u2 u3 dn d16 hn0 h16 d5 h5 u1 zu
            go_loopw [23] (fun v wr => ∃ i : Nat, i ≤ H ∧ v = .int .i64 (i : Int) ∧ Below w11.heap.size w11 wr ∧ ∀ j, j < i → (hdA G j : Int) ≠ f.pc) (fun v _ => H - (intOf v).toNat)
            case atStart => exact ⟨0, by omega, rfl, Below.refl _ _, fun j hj => by omega⟩
            case round =>
              obtain ⟨i, hi, rfl, hbr, hno⟩ := hrel
              have HBR := Lib.hid hbr
              have HNO := Lib.hid hno
              clear hno
              have t19 := (hbr.cell (p := ⟨w4.heap.size, 19, none⟩) (HX11.out.lt (.tail _ (.head _)))).trans ((HX11.out.cell (.tail _ (.head _)) 19).trans HV19.out)
              have u1 := (hbr.cell (p := ⟨w8.heap.size, 1, none⟩) HZU.out).trans HU1.out
              have zt := Nat.lt_of_lt_of_le (HX11.out.lt (.tail _ (.head _))) hbr.size
              have zu := Nat.lt_of_lt_of_le HZU.out hbr.size
              have hBr := HBB.out.keeps hbr
              by_cases hiH : i = H
              · obtain rfl : H = i := hiH.symm
                have hk : k = 0 := by
                  rcases HEND.out with ⟨q, h1, h2, -⟩ | ⟨h1, -⟩
                  · obtain ⟨j, hj⟩ := List.getElem?_of_mem h1
                    have hjl := (List.getElem?_eq_some_iff.1 hj).1
                    rw [HH.out] at hjl
                    exact absurd (by rw [hdA_eq hj, h2]) (HNO.out j hjl)
                  · exact h1
                subst hk
                clear hBr hbr
                go_wp2_with fail
                go_ret
                exact ⟨rfl, HBW.out.trans ((HX11.out.below.trans (HBR.out.mono HX11.out.below.size)).mono HBW.out.size)⟩
              · have hi1 : (i : Int) < H := by omega
                have hi2 : (0 : Int) ≤ i := by omega
                have hil : i < H := by omega
                obtain ⟨r, hr⟩ : ∃ r, bs[i]? = some r := ⟨_, List.getElem?_eq_getElem (by rw [HOB.out.len, HH.out]; exact hil)⟩
                obtain ⟨hr1, hr2, -, -⟩ := HOB.out.at_ i r hr
                have y0 : wr.cell? ⟨gb, i * 4, none⟩ = some (.int .i64 r.fr) := hBr.cell hr (j := 0) (by omega)
                have y1 : wr.cell? ⟨gb, i * 4 + 1, none⟩ = some (.int .i64 r.to) := hBr.cell hr (j := 1) (by omega)
                have zg := block_lt hBr.blk
                have HIL := Lib.hid hil
                obtain ⟨rf, hrf⟩ : ∃ x, r.fr = x := ⟨_, rfl⟩
                obtain ⟨rt, hrt⟩ : ∃ x, r.to = x := ⟨_, rfl⟩
                rw [hrf] at y0 hr1
                rw [hrt] at y1 hr2
                have HR1 := Lib.hid hr1
                have HR2 := Lib.hid hr2
                have hmem := (hdA_memF (F := G) (q := i) (by rw [HH.out]; exact hil)).1
                have hts := toF_spec HRP.out HGM.out hmem
                have hcl := (HRP.out.ok.fn G HGM.out).c2
                have hwd : IntKind.i64.wrap (rt - rf) = rt - rf := by rw [IntKind.wrap_i64]; have := hts.1; have := hts.2.1; omega
                have HMEM := Lib.hid hmem
                clear hBr hbr hr hrf hrt hr1 hr2 hil hmem hts hcl hiH
                by_cases hq : rf = f.pc
                · have hqb : (f.pc == f.pc) = true := by simp
                  have HQ := Lib.hid hq
                  have hlt : decide (F2 < rt - f.pc) = true := by
                    rw [decide_eq_true_eq]
                    rcases HEND.out with ⟨q, h1, h2, h3⟩ | ⟨-, h2⟩
                    · have e : hdA G i = q := by have := HR1.out; omega
                      have e2 := HR2.out
                      rw [e] at e2
                      omega
                    · have e : hdA G i = f.pc.toNat := by have := HR1.out; omega
                      exact absurd HMEM.out (by rw [e]; exact h2)
                  rw [hq] at y0 hwd
                  clear hq
                  go_wp2_with fail
                  go_quiet (fail)
                  go_wp2_with fail
                  go_quiet (fail)
                  go_wp2_with fail
                  go_ret
                  exact ⟨rfl, HBW.out.trans ((HX11.out.below.trans ((below_drewN (below_drewN HBR.out _) _).mono HX11.out.below.size)).mono HBW.out.size)⟩
                · have hqb : (rf == f.pc) = false := by simpa using hq
                  have HQ := Lib.hid hq
                  clear hq
                  go_wp2_with fail
                  go_quiet (fail)
                  go_wp2_with fail
                  go_roundw
                  case rel => exact ⟨i + 1, by have := HIL.out; omega, by go_num, below_drewN HBR.out _, fun j hj => by
                    by_cases he : j = i
                    · rw [he, ← HR1.out]; exact HQ.out
                    · exact HNO.out j (by omega)⟩
                  case measure => have := HIL.out; simp [intOf]; omega
      · have d13 : (op == 13) = false := by simpa using h13
        by_cases h14 : op = 14
        · subst h14
          by_cases hn0 : va < 0
          · have dn : decide (va < 0) = true := by rw [decide_eq_true_eq]; exact hn0
            go_wp2_with fail
            go_ret
            exact ⟨rfl, HBW.out.trans (HX11.out.below.mono HBW.out.size)⟩
          · have dn : decide (va < 0) = false := by rw [decide_eq_false_iff_not]; exact hn0
            by_cases h16 : 16 ≤ va
            · have d16 : decide (16 ≤ va) = true := by rw [decide_eq_true_eq]; exact h16
              go_wp2_with fail
              go_ret
              exact ⟨rfl, HBW.out.trans (HX11.out.below.mono HBW.out.size)⟩
            · have d16 : decide (16 ≤ va) = false := by rw [decide_eq_false_iff_not]; exact h16
              have HEND : Hid ((∃ q, q ∈ hdL G ∧ f.pc = (q : Int) ∧ F2 < toF G q - q) ∨ (k = 0 ∧ f.pc.toNat ∉ hdL G)) := Lib.hid (by
                rcases HS2.out with h | h | h | h | h
                · exact absurd h h17
                · exact absurd h (fun h => by omega)
                · exact absurd h (fun h => by omega)
                · exact .inl h
                · exact .inr h)
              have HU1 := Lib.hid u1
              have HZU := Lib.hid zu
              go_wp2_with fail
              clear h17 d17 zo o0 o2 o3 u2 u3 dn d16 hn0 h16 d5 h5 u1 zu
              go_loopw [23] (fun v wr => ∃ i : Nat, i ≤ H ∧ v = .int .i64 (i : Int) ∧ Below w11.heap.size w11 wr ∧ ∀ j, j < i → (hdA G j : Int) ≠ f.pc) (fun v _ => H - (intOf v).toNat)
              case atStart => exact ⟨0, by omega, rfl, Below.refl _ _, fun j hj => by omega⟩
              case round =>
                obtain ⟨i, hi, rfl, hbr, hno⟩ := hrel
                have HBR := Lib.hid hbr
                have HNO := Lib.hid hno
                clear hno
                have t19 := (hbr.cell (p := ⟨w4.heap.size, 19, none⟩) (HX11.out.lt (.tail _ (.head _)))).trans ((HX11.out.cell (.tail _ (.head _)) 19).trans HV19.out)
                have u1 := (hbr.cell (p := ⟨w8.heap.size, 1, none⟩) HZU.out).trans HU1.out
                have zt := Nat.lt_of_lt_of_le (HX11.out.lt (.tail _ (.head _))) hbr.size
                have zu := Nat.lt_of_lt_of_le HZU.out hbr.size
                have hBr := HBB.out.keeps hbr
                by_cases hiH : i = H
                · obtain rfl : H = i := hiH.symm
                  have hk : k = 0 := by
                    rcases HEND.out with ⟨q, h1, h2, -⟩ | ⟨h1, -⟩
                    · obtain ⟨j, hj⟩ := List.getElem?_of_mem h1
                      have hjl := (List.getElem?_eq_some_iff.1 hj).1
                      rw [HH.out] at hjl
                      exact absurd (by rw [hdA_eq hj, h2]) (HNO.out j hjl)
                    · exact h1
                  subst hk
                  clear hBr hbr
                  go_wp2_with fail
                  go_ret
                  exact ⟨rfl, HBW.out.trans ((HX11.out.below.trans (HBR.out.mono HX11.out.below.size)).mono HBW.out.size)⟩
                · have hi1 : (i : Int) < H := by omega
                  have hi2 : (0 : Int) ≤ i := by omega
                  have hil : i < H := by omega
                  obtain ⟨r, hr⟩ : ∃ r, bs[i]? = some r := ⟨_, List.getElem?_eq_getElem (by rw [HOB.out.len, HH.out]; exact hil)⟩
                  obtain ⟨hr1, hr2, -, -⟩ := HOB.out.at_ i r hr
                  have y0 : wr.cell? ⟨gb, i * 4, none⟩ = some (.int .i64 r.fr) := hBr.cell hr (j := 0) (by omega)
                  have y1 : wr.cell? ⟨gb, i * 4 + 1, none⟩ = some (.int .i64 r.to) := hBr.cell hr (j := 1) (by omega)
                  have zg := block_lt hBr.blk
                  have HIL := Lib.hid hil
                  obtain ⟨rf, hrf⟩ : ∃ x, r.fr = x := ⟨_, rfl⟩
                  obtain ⟨rt, hrt⟩ : ∃ x, r.to = x := ⟨_, rfl⟩
                  rw [hrf] at y0 hr1
                  rw [hrt] at y1 hr2
                  have HR1 := Lib.hid hr1
                  have HR2 := Lib.hid hr2
                  have hmem := (hdA_memF (F := G) (q := i) (by rw [HH.out]; exact hil)).1
                  have hts := toF_spec HRP.out HGM.out hmem
                  have hcl := (HRP.out.ok.fn G HGM.out).c2
                  have hwd : IntKind.i64.wrap (rt - rf) = rt - rf := by rw [IntKind.wrap_i64]; have := hts.1; have := hts.2.1; omega
                  have HMEM := Lib.hid hmem
                  clear hBr hbr hr hrf hrt hr1 hr2 hil hmem hts hcl hiH
                  by_cases hq : rf = f.pc
                  · have hqb : (f.pc == f.pc) = true := by simp
                    have HQ := Lib.hid hq
                    have hlt : decide (F2 < rt - f.pc) = true := by
                      rw [decide_eq_true_eq]
                      rcases HEND.out with ⟨q, h1, h2, h3⟩ | ⟨-, h2⟩
                      · have e : hdA G i = q := by have := HR1.out; omega
                        have e2 := HR2.out
                        rw [e] at e2
                        omega
                      · have e : hdA G i = f.pc.toNat := by have := HR1.out; omega
                        exact absurd HMEM.out (by rw [e]; exact h2)
                    rw [hq] at y0 hwd
                    clear hq
                    go_wp2_with fail
                    go_quiet (fail)
                    go_wp2_with fail
                    go_quiet (fail)
                    go_wp2_with fail
                    go_ret
                    exact ⟨rfl, HBW.out.trans ((HX11.out.below.trans ((below_drewN (below_drewN HBR.out _) _).mono HX11.out.below.size)).mono HBW.out.size)⟩
                  · have hqb : (rf == f.pc) = false := by simpa using hq
                    have HQ := Lib.hid hq
                    clear hq
                    go_wp2_with fail
                    go_quiet (fail)
                    go_wp2_with fail
                    go_roundw
                    case rel => exact ⟨i + 1, by have := HIL.out; omega, by go_num, below_drewN HBR.out _, fun j hj => by
                      by_cases he : j = i
                      · rw [he, ← HR1.out]; exact HQ.out
                      · exact HNO.out j (by omega)⟩
                    case measure => have := HIL.out; simp [intOf]; omega
        · have d14 : (op == 14) = false := by simpa using h14
          have HEND : Hid ((∃ q, q ∈ hdL G ∧ f.pc = (q : Int) ∧ F2 < toF G q - q) ∨ (k = 0 ∧ f.pc.toNat ∉ hdL G)) := Lib.hid (by
            rcases HS2.out with h | h | h | h | h
            · exact absurd h h17
            · exact absurd h (fun h => h5 h.1)
            · exact absurd h (fun h => by omega)
            · exact .inl h
            · exact .inr h)
          have HU1 := Lib.hid u1
          have HZU := Lib.hid zu
          go_wp2_with fail
          clear h17 d17 zo o0 o2 o3 u2 u3 d5 d13 d14 h5 h13 h14 u1 zu
          go_loopw [23] (fun v wr => ∃ i : Nat, i ≤ H ∧ v = .int .i64 (i : Int) ∧ Below w11.heap.size w11 wr ∧ ∀ j, j < i → (hdA G j : Int) ≠ f.pc) (fun v _ => H - (intOf v).toNat)
          case atStart => exact ⟨0, by omega, rfl, Below.refl _ _, fun j hj => by omega⟩
          case round =>
            obtain ⟨i, hi, rfl, hbr, hno⟩ := hrel
            have HBR := Lib.hid hbr
            have HNO := Lib.hid hno
            clear hno
            have t19 := (hbr.cell (p := ⟨w4.heap.size, 19, none⟩) (HX11.out.lt (.tail _ (.head _)))).trans ((HX11.out.cell (.tail _ (.head _)) 19).trans HV19.out)
            have u1 := (hbr.cell (p := ⟨w8.heap.size, 1, none⟩) HZU.out).trans HU1.out
            have zt := Nat.lt_of_lt_of_le (HX11.out.lt (.tail _ (.head _))) hbr.size
            have zu := Nat.lt_of_lt_of_le HZU.out hbr.size
            have hBr := HBB.out.keeps hbr
            by_cases hiH : i = H
            · obtain rfl : H = i := hiH.symm
              have hk : k = 0 := by
                rcases HEND.out with ⟨q, h1, h2, -⟩ | ⟨h1, -⟩
                · obtain ⟨j, hj⟩ := List.getElem?_of_mem h1
                  have hjl := (List.getElem?_eq_some_iff.1 hj).1
                  rw [HH.out] at hjl
                  exact absurd (by rw [hdA_eq hj, h2]) (HNO.out j hjl)
                · exact h1
              subst hk
              clear hBr hbr
              go_wp2_with fail
              go_ret
              exact ⟨rfl, HBW.out.trans ((HX11.out.below.trans (HBR.out.mono HX11.out.below.size)).mono HBW.out.size)⟩
            · have hi1 : (i : Int) < H := by omega
              have hi2 : (0 : Int) ≤ i := by omega
              have hil : i < H := by omega
              obtain ⟨r, hr⟩ : ∃ r, bs[i]? = some r := ⟨_, List.getElem?_eq_getElem (by rw [HOB.out.len, HH.out]; exact hil)⟩
              obtain ⟨hr1, hr2, -, -⟩ := HOB.out.at_ i r hr
              have y0 : wr.cell? ⟨gb, i * 4, none⟩ = some (.int .i64 r.fr) := hBr.cell hr (j := 0) (by omega)
              have y1 : wr.cell? ⟨gb, i * 4 + 1, none⟩ = some (.int .i64 r.to) := hBr.cell hr (j := 1) (by omega)
              have zg := block_lt hBr.blk
              have HIL := Lib.hid hil
              obtain ⟨rf, hrf⟩ : ∃ x, r.fr = x := ⟨_, rfl⟩
              obtain ⟨rt, hrt⟩ : ∃ x, r.to = x := ⟨_, rfl⟩
              rw [hrf] at y0 hr1
              rw [hrt] at y1 hr2
              have HR1 := Lib.hid hr1
              have HR2 := Lib.hid hr2
              have hmem := (hdA_memF (F := G) (q := i) (by rw [HH.out]; exact hil)).1
              have hts := toF_spec HRP.out HGM.out hmem
              have hcl := (HRP.out.ok.fn G HGM.out).c2
              have hwd : IntKind.i64.wrap (rt - rf) = rt - rf := by rw [IntKind.wrap_i64]; have := hts.1; have := hts.2.1; omega
              have HMEM := Lib.hid hmem
              clear hBr hbr hr hrf hrt hr1 hr2 hil hmem hts hcl hiH
              by_cases hq : rf = f.pc
              · have hqb : (f.pc == f.pc) = true := by simp
                have HQ := Lib.hid hq
                have hlt : decide (F2 < rt - f.pc) = true := by
                  rw [decide_eq_true_eq]
                  rcases HEND.out with ⟨q, h1, h2, h3⟩ | ⟨-, h2⟩
                  · have e : hdA G i = q := by have := HR1.out; omega
                    have e2 := HR2.out
                    rw [e] at e2
                    omega
                  · have e : hdA G i = f.pc.toNat := by have := HR1.out; omega
                    exact absurd HMEM.out (by rw [e]; exact h2)
                rw [hq] at y0 hwd
                clear hq
                go_wp2_with fail
                go_quiet (fail)
                go_wp2_with fail
                go_quiet (fail)
                go_wp2_with fail
                go_ret
                exact ⟨rfl, HBW.out.trans ((HX11.out.below.trans ((below_drewN (below_drewN HBR.out _) _).mono HX11.out.below.size)).mono HBW.out.size)⟩
              · have hqb : (rf == f.pc) = false := by simpa using hq
                have HQ := Lib.hid hq
                clear hq
                go_wp2_with fail
                go_quiet (fail)
                go_wp2_with fail
                go_roundw
                case rel => exact ⟨i + 1, by have := HIL.out; omega, by go_num, below_drewN HBR.out _, fun j hj => by
                  by_cases he : j = i
                  · rw [he, ← HR1.out]; exact HQ.out
                  · exact HNO.out j (by omega)⟩
                case measure => have := HIL.out; simp [intOf]; omega
  · have hsb : (s1.status == 0) = false := by simpa using hst
    rw [hsb]
    have HST := Lib.hid hst
    clear hsb hst
    go_wp2_with (first | (refine wpList_store_mid (by rfl) 46 _ _ (by rfl) w2.heap.size 0 C0.toArray (by rfl) (by rfl) (there_new w2 zeroV _ (by simp [HC1.out.len HI1.out.mem, zeroV_length])) (by simpa using HJ1.out) HC1.out.one ?_; obtain ⟨w3, hw3⟩ : ∃ w3, (w2.alloc (.cells zeroV.toArray 46)).setCells w2.heap.size 0 C0.toArray.toList = w3 := ⟨_, rfl⟩; rw [hw3]; have HX3 : Hid (Sx w1 w1.heap.size (.slice A1 p.length cap1) w3 [(w2.heap.size, C0, s1)]) := Lib.hid (hw3 ▸ HX2.out.add HC1.out HI1.out.mem); have pc3 := HX3.out.pcell; clear hw3) | (refine wpList_load_mid (by rfl) 46 _ (by rfl) w2.heap.size 0 (by rfl) C0 _ (HX3.out.range (.head _)) Tryd.underlying46 (by rfl) HJ1.out ?_))
    refine (HFH.out C0 s1 HI1.out HST.out _ HX3.out.below _ (HX3.out.sts _ (.head _)).2).mono ?_
    rintro e w4 ⟨rfl, hb4⟩
    have HX4 := Lib.hid (HX3.out.keeps hb4)
    have HZS := Lib.hid (info_st zeroV_length)
    clear hb4 pc3
    go_wp2_with (refine wpList_store_mid (by rfl) 46 _ _ (by rfl) w4.heap.size 0 zeroV.toArray (by rfl) (by rfl) (there_new w4 zeroV _ (by simp [zeroV_length])) (by simpa using HZS.out) zeroV_one ?_; obtain ⟨w5, hw5⟩ : ∃ w5, (w4.alloc (.cells zeroV.toArray 46)).setCells w4.heap.size 0 zeroV.toArray.toList = w5 := ⟨_, rfl⟩; rw [hw5]; have HB5 : Hid (Below w4.heap.size w4 w5) := Lib.hid (hw5 ▸ below_setCells (Nat.le_refl _) _ _ _ ((Below.refl _ _).alloc (Nat.le_refl _) _)); clear hw5)
    go_ret
    exact ⟨rfl, HBW.out.trans ((HX4.out.below.trans (HB5.out.mono HX4.out.below.size)).mono HBW.out.size)⟩
end Go.Proofs.YtefbdecejoeamaaDoor
