/-
  The contracts of tierlinetop.input, tierlinetop.plain (an input goes into a run; what is left of it is tidied) and tierlinetop.swapped.
-/
import Derived.Test.YtfngkpbbimibaaaDoorStN
import Derived.Test.YtfngkpbbimibaaaDoorTy
import Derived.Test.YtfngkpbbimibaaaDoorStR
import Derived.Test.YtfngkpbbimibaaaDoorTnP
import Derived.Test.YtfngkpbbimibaaaDoorShS
namespace Go.Proofs.YtfngkpbbimibaaaDoor
open Go.RowKit Tier
theorem upicked_any (n : Int) (m : Int) (w : World) (hn : In n) (h0 : 0 < m) (h1 : m ≤ 1000000) : Calls Tryd.prog 16 #[.int .i64 n, .int .i64 m] w fun e w' => e = .returned (.int .i64 (pickedI n m)) ∧ w = w' := by
  have HK := Lib.hid (fun (W : World) => picked_any n m W hn (by omega) (by omega))
  go_enter Tryd.func16, Tryd.ntmps16
  go_wp2_with (go_at_call 13; go_must (refine (HK.out _).mono ?_; rintro e w' ⟨rfl, rfl⟩))
  go_ret
  exact ⟨rfl, rfl⟩
set_option maxRecDepth 100000 in
set_option maxHeartbeats 8000000 in
theorem input_any {p : List Fnc} (hc : checkP p = 0) (a0 a1 fuel : Int) (ans : List Int) (YA : Option Addr) (ycap : Nat) (A : Option Addr) (cap : Nat) (w : World) (hP : ProgAt w (.slice A p.length cap) p)
    (hly : (ans.length : Int) ≤ 9223372036854775807) (hcy : ans.length ≤ ycap) (hf : In fuel) :
    Calls Tryd.prog 29 #[.agg #[.slice A p.length cap], .agg #[.int .i64 a0, .int .i64 a1, .slice YA ans.length ycap, .int .i64 fuel]] w fun e w' => e = .returned (.tuple #[.slice (some ⟨w.heap.size + 1, 0, none⟩) (inArgs p a0 a1).length 2, .slice YA (ans.take 10).length ycap, .int .i64 (pickedI fuel 300)]) ∧ IntsAt w' (some ⟨w.heap.size + 1, 0, none⟩) (inArgs p a0 a1) ∧ Below w.heap.size w w' := by
  have hp := right_of hc
  have l1 := hp.ok.l1
  have HPK := Lib.hid (fun (W : World) => upicked_any fuel 300 W hf (by omega) (by omega))
  have hla := inArgs_len hp a0 a1
  obtain ⟨F, hF, hF0, hF1, hF2⟩ := first_params hp
  obtain ⟨A0, cap0, hA0, hA⟩ := hP.slice
  simp only [Value.slice.injEq, true_and] at hA0
  obtain ⟨g, hAg, hg, hfn⟩ := hA (by omega)
  obtain ⟨rfl, rfl⟩ := hA0
  obtain ⟨-, -, c0, -, -⟩ := hfn 0 F hF
  obtain ⟨m, hm⟩ : ∃ m, (inArgs p a0 a1).length = m := ⟨_, rfl⟩
  rw [hF0, hm] at hla
  rw [Nat.zero_mul, hla] at c0
  subst hAg
  have hm2 : m ≤ 2 := by omega
  have hm3 : (m : Int) ≤ 2 := by omega
  have hm0 : (0 : Int) ≤ m := by omega
  have HARG := Lib.hid (show ∀ i x, (inArgs p a0 a1)[i]? = some x → #[Value.int .i64 a0, .int .i64 a1, .slice YA ans.length ycap, .int .i64 fuel][i]? = some (Value.int .i64 x) from fun i x hx => by
    unfold inArgs at hx
    rw [List.getElem?_take] at hx
    split at hx
    · match i, hx with
      | 0, hx => simp at hx; subst hx; rfl
      | 1, hx => simp at hx; subst hx; rfl
      | i + 2, hx => simp at hx
    · cases hx)
  obtain ⟨k, hk⟩ : ∃ k, (ans.take 10).length = k := ⟨_, rfl⟩
  have hk2 := hk
  rw [List.length_take] at hk2
  rw [hm, hk]
  have hN0 : 0 < p.length := by omega
  obtain ⟨q, hq⟩ : ∃ q, pickedI fuel 300 = q := ⟨_, rfl⟩
  rw [hq] at HPK ⊢
  generalize inArgs p a0 a1 = args at *
  generalize hN : p.length = N at *
  generalize hnn : ans.length = n at *
  have hkm : min (n : Int) 10 = k := by omega
  have hk0 : (0 : Int) ≤ k := by omega
  have hk3 : (k : Int) ≤ ycap := by omega
  have HB0 : Hid (Below w.heap.size w ((w.alloc (.cells #[.slice (some ⟨g, 0, none⟩) N cap] 25)).alloc (.cells #[.int .i64 a0, .int .i64 a1, .slice YA n ycap, .int .i64 fuel] 42))) := Lib.hid (((Below.refl w.heap.size w).alloc (Nat.le_refl _) _).alloc (by simp) _)
  have HI1 := Lib.hid (heap_alloc_new1 w (.cells #[.slice (some ⟨g, 0, none⟩) N cap] 25) (.cells #[.int .i64 a0, .int .i64 a1, .slice YA n ycap, .int .i64 fuel] 42))
  have HI0 : Hid (((w.alloc (.cells #[.slice (some ⟨g, 0, none⟩) N cap] 25)).alloc (.cells #[.int .i64 a0, .int .i64 a1, .slice YA n ycap, .int .i64 fuel] 42)).heap[w.heap.size]? = some (.cells #[.slice (some ⟨g, 0, none⟩) N cap] 25 (0, 0))) := Lib.hid (by rw [Below.heap_alloc _ _ _ (by simp)]; exact heap_alloc_new _ _)
  obtain ⟨w0, hw0⟩ : ∃ w0, ((w.alloc (.cells #[.slice (some ⟨g, 0, none⟩) N cap] 25)).alloc (.cells #[.int .i64 a0, .int .i64 a1, .slice YA n ycap, .int .i64 fuel] 42)) = w0 := ⟨_, rfl⟩
  have c0' := (HB0.out.cell (p := ⟨g, 0, none⟩) hg).trans c0
  have hzs : ((w.alloc (.cells #[.slice (some ⟨g, 0, none⟩) N cap] 25)).alloc (.cells #[.int .i64 a0, .int .i64 a1, .slice YA n ycap, .int .i64 fuel] 42)).heap.size = w.heap.size + 2 := by simp
  rw [hw0] at HB0 HI1 HI0 c0' hzs
  have HW0 := Lib.hid hw0
  clear hP hA hfn hF hF0 hF1 hF2 hla hm hk2 hnn hk hN hq c0 hw0
  go_enter Tryd.func29, Tryd.ntmps29
  go_wp2_with fail
  rw [HW0.out]
  have b0 := (cell_block HI0.out 0).trans rfl
  have b2 := (cell_block HI1.out 2).trans rfl
  have b3 := (cell_block HI1.out 3).trans rfl
  have KS := Lib.hid (⟨b0, c0', b2, b3⟩ : w0.cell? ⟨w.heap.size, 0, none⟩ = some (.slice (some ⟨g, 0, none⟩) N cap) ∧ w0.cell? ⟨g, 0, none⟩ = some (.int .i64 (m : Int)) ∧ w0.cell? ⟨w.heap.size + 1, 2, none⟩ = some (.slice YA n ycap) ∧ w0.cell? ⟨w.heap.size + 1, 3, none⟩ = some (.int .i64 fuel))
  have HZS := Lib.hid hzs
  clear b0 b2 b3 c0' hzs
  go_region_held3 (fun w' => w'.cell? ⟨w.heap.size, 0, none⟩ = some (.slice (some ⟨g, 0, none⟩) N cap) ∧ w'.cell? ⟨g, 0, none⟩ = some (.int .i64 (m : Int)) ∧ w'.cell? ⟨w.heap.size + 1, 2, none⟩ = some (.slice YA n ycap) ∧ w'.cell? ⟨w.heap.size + 1, 3, none⟩ = some (.int .i64 fuel)) (first | exact KS.out) (first | (go_at_call 16; go_must (refine (HPK.out _).mono ?_; rintro e w' ⟨rfl, rfl⟩)))
  all_goals (
    rename_i hHeld
    clear hHeld
    go_wp2_with fail
    refine bodyPost_ret (v := .tuple #[.slice (some ⟨w.heap.size + 1, 0, none⟩) m 2, .slice YA k ycap, .int .i64 q]) (by simp [results, Tryd.results29, go_sem]) rfl ⟨rfl, ?_, ?_⟩
    · exact fun _ => ⟨_, 0, rfl, by have := HZS.out; simp; omega, fun i x hx => by rw [Nat.zero_add]; exact (cell_block HI1.out i).trans (HARG.out i x hx)⟩
    · exact HB0.out.drew)
set_option maxRecDepth 100000 in
set_option maxHeartbeats 8000000 in
theorem plain_any {p : List Fnc} (hc : checkP p = 0) (a0 a1 fuel : Int) (ans : List Int) (YA : Option Addr) (ycap : Nat) (A : Option Addr) (cap : Nat) (w : World) (ht : Tab w) (hP : ProgAt w (.slice A p.length cap) p)
    (hy : IntsAt w YA ans) (hly : (ans.length : Int) ≤ 9223372036854775807) (hcy : ans.length ≤ ycap) (hf : In fuel) :
    Calls Tryd.prog 15 #[.agg #[.slice A p.length cap], .agg #[.int .i64 a0, .int .i64 a1, .slice YA ans.length ycap, .int .i64 fuel]] w fun e w' => (∃ (C : List Value) (t : St), e = .returned (.tuple #[.agg C.toArray, .bool true]) ∧ CellsSt C w' w.heap.size t ∧ TidyOf p (walkSt p 10001 (inSt p a0 a1 ans fuel)) t ∧ t.status ≠ 0 ∧ StInv p t) ∧ Below w.heap.size w w' := by
  have hp := right_of hc
  have pf := picked_in fuel 300 (by omega)
  have hla := inArgs_len hp a0 a1
  have hi0 := inSt_inv hp a0 a1 ans fuel
  have hst : (walkSt p 10001 (inSt p a0 a1 ans fuel)).status ≠ 0 := walk_ends hp 10001 hi0 (by
    show pickedI fuel 300 < ((10001 : Nat) : Int)
    omega)
  obtain ⟨s1, hs1⟩ : ∃ s1, walkSt p 10001 (inSt p a0 a1 ans fuel) = s1 := ⟨_, rfl⟩
  have hi1 : StInv p s1 := by rw [← hs1]; exact hi0.walk hp _
  rw [hs1] at hst ⊢
  have HIN := Lib.hid (fun (W : World) (hb : Below w.heap.size w W) => input_any hc a0 a1 fuel ans YA ycap A cap W (hP.keeps hb) hly hcy hf)
  have HRUN := Lib.hid (fun (XA : Option Addr) (W : World) (hb : Below w.heap.size w W) (hx : IntsAt W XA (inArgs p a0 a1)) => srun_any hc (inArgs p a0 a1) (ans.take 10) XA 2 YA ycap (pickedI fuel 300) A cap W (ht.keeps hb) (hP.keeps hb) hx hla ((hy.keeps hb).take 10) (by simp; omega) pf.1 (by omega))
  rw [show beginSt (inArgs p a0 a1) (ans.take 10) (pickedI fuel 300) = inSt p a0 a1 ans fuel from rfl, hs1] at HRUN
  have HTI := Lib.hid (fun (C : List Value) (W : World) (B : Nat) (hb : Below w.heap.size w W) (hC : CellsSt C W B s1) => tidy_any hc s1 C A cap W (ht.keeps hb) (hP.keeps hb) hi1 hC)
  have HM1 := Lib.hid hi1.mem
  have HRI := Lib.hid hi1
  have HP := Lib.hid hp
  have HST := Lib.hid hst
  have hz := zero_st
  obtain ⟨st, hstv⟩ : ∃ x, s1.status = x := ⟨_, rfl⟩
  have hsb : (st != 0) = true := by rw [← hstv]; simpa using hst
  have HSV := Lib.hid hstv
  obtain ⟨m, hm⟩ : ∃ m, (inArgs p a0 a1).length = m := ⟨_, rfl⟩
  obtain ⟨k, hk⟩ : ∃ k, (ans.take 10).length = k := ⟨_, rfl⟩
  obtain ⟨q, hq⟩ : ∃ q, pickedI fuel 300 = q := ⟨_, rfl⟩
  rw [hm, hk, hq] at HIN HRUN
  have HX0 : Hid (Sx w w.heap.size (.slice A p.length cap) (((w.alloc (.cells #[.slice A p.length cap] 25)).alloc (.cells #[.int .i64 a0, .int .i64 a1, .slice YA ans.length ycap, .int .i64 fuel] 42)).alloc (.cells zeroV.toArray 49)) []) := Lib.hid ⟨((((Below.refl w.heap.size w).alloc (Nat.le_refl _) _).alloc (by simp) _).alloc (by simp; omega) _), block_alloc (block_alloc (heap_alloc_new w _) _) _, fun x hx => by simp at hx⟩
  have HIB := Lib.hid (block_alloc (heap_alloc_new1 w (.cells #[.slice A p.length cap] 25) (.cells #[.int .i64 a0, .int .i64 a1, .slice YA ans.length ycap, .int .i64 fuel] 42)) (.cells zeroV.toArray 49))
  have HR0 : Hid ((((w.alloc (.cells #[.slice A p.length cap] 25)).alloc (.cells #[.int .i64 a0, .int .i64 a1, .slice YA ans.length ycap, .int .i64 fuel] 42)).alloc (.cells zeroV.toArray 49)).heap[w.heap.size + 2]? = some (.cells zeroV.toArray 49 (0, 0))) := Lib.hid (by have := heap_alloc_new ((w.alloc (.cells #[.slice A p.length cap] 25)).alloc (.cells #[.int .i64 a0, .int .i64 a1, .slice YA ans.length ycap, .int .i64 fuel] 42)) (.cells zeroV.toArray 49); simpa using this)
  obtain ⟨w0, hw0⟩ : ∃ W, (((w.alloc (.cells #[.slice A p.length cap] 25)).alloc (.cells #[.int .i64 a0, .int .i64 a1, .slice YA ans.length ycap, .int .i64 fuel] 42)).alloc (.cells zeroV.toArray 49)) = W := ⟨_, rfl⟩
  rw [hw0] at HX0 HIB HR0
  have HW0 := Lib.hid hw0
  clear ht hP hy hi0 hi1 hst hstv hs1 hm hk hq hw0 hla pf
  go_enter Tryd.func15, Tryd.ntmps15
  go_wp2_with fail
  rw [HW0.out]
  have pc0 := HX0.out.pcell
  have b0 := (cell_block HIB.out 0).trans rfl
  have b1 := (cell_block HIB.out 1).trans rfl
  have b2 := (cell_block HIB.out 2).trans rfl
  have b3 := (cell_block HIB.out 3).trans rfl
  have zi := block_lt HIB.out
  go_wp2_with fail
  refine (HIN.out _ HX0.out.below).mono ?_
  rintro e w1 ⟨rfl, hx1, hb1⟩
  have HX1 := Lib.hid (HX0.out.keeps hb1)
  have HR1 := Lib.hid ((hb1.block _ (block_lt HR0.out)).trans HR0.out)
  have HARG := Lib.hid hx1
  have pc1 := HX1.out.pcell
  clear hx1 hb1 pc0 b0 b1 b2 b3 zi
  go_wp2_with fail
  refine (HRUN.out _ _ HX1.out.below HARG.out).mono ?_
  rintro e w2 ⟨⟨C1, rfl, hC1⟩, hb2⟩
  have HX2 := Lib.hid (HX1.out.keeps hb2)
  have HR2 := Lib.hid ((hb2.block _ (block_lt HR1.out)).trans HR1.out)
  have HC1 := Lib.hid (hC1.base HX1.out.below.size)
  have HI1 := Lib.hid (info_st (HC1.out.len HM1.out))
  have HL1 := Lib.hid (HC1.out.len HM1.out)
  have HR3f := Lib.hid (fun (W : World) (h : (w2.alloc (.cells zeroV.toArray 49)).setCells w2.heap.size 0 C1.toArray.toList = W) => show W.heap[w.heap.size + 2]? = some (.cells zeroV.toArray 49 (0, 0)) from h ▸ block_setCells_ne _ (block_alloc HR2.out _) (by have := block_lt HR2.out; omega) _)
  clear hC1 hb2 pc1
  go_wp2_with (first
    | (refine wpList_store_mid (by rfl) 49 _ _ (by rfl) w2.heap.size 0 C1.toArray (by rfl) (by rfl) (there_new w2 zeroV _ (by simp [HL1.out, zeroV_length])) (by simpa using HI1.out) HC1.out.one ?_; obtain ⟨w3, hw3⟩ : ∃ W, (w2.alloc (.cells zeroV.toArray 49)).setCells w2.heap.size 0 C1.toArray.toList = W := ⟨_, rfl⟩; rw [hw3]; have HX3 : Hid (Sx w w.heap.size (.slice A p.length cap) w3 [(w2.heap.size, C1, s1)]) := Lib.hid (hw3 ▸ HX2.out.add HC1.out HM1.out); have HR3 := Lib.hid (HR3f.out _ hw3); have pc3 := HX3.out.pcell; clear hw3)
    | (refine wpList_load_mid (by rfl) 49 _ (by rfl) w2.heap.size 0 (by rfl) C1 _ (HX3.out.range (.head _)) Tryd.underlying49 (by rfl) HI1.out ?_))
  refine (HTI.out C1 _ w.heap.size HX3.out.below (HX3.out.sts _ (.head _)).2).mono ?_
  rintro e w4 ⟨⟨C2, t, rfl, hC2, hto⟩, hb4⟩
  have HX4 := Lib.hid (HX3.out.keeps hb4)
  have HR4 := Lib.hid ((hb4.block _ (block_lt HR3.out)).trans HR3.out)
  have HC2 := Lib.hid (hC2.base HX3.out.below.size)
  have HIT := Lib.hid (hto.sim.inv HRI.out)
  have HTO := Lib.hid hto
  have HMT := Lib.hid HIT.out.mem
  have HI2 := Lib.hid (info_st (HC2.out.len HMT.out))
  have HL2 := Lib.hid (HC2.out.len HMT.out)
  have HR5f := Lib.hid (fun (W : World) (h : (w4.alloc (.cells zeroV.toArray 49)).setCells w4.heap.size 0 C2.toArray.toList = W) => show W.heap[w.heap.size + 2]? = some (.cells zeroV.toArray 49 (0, 0)) from h ▸ block_setCells_ne _ (block_alloc HR4.out _) (by have := block_lt HR4.out; omega) _)
  clear hC2 hb4 hto pc3
  go_wp2_with (first
    | (refine wpList_store_mid (by rfl) 49 _ _ (by rfl) w4.heap.size 0 C2.toArray (by rfl) (by rfl) (there_new w4 zeroV _ (by simp [HL2.out, zeroV_length])) (by simpa using HI2.out) HC2.out.one ?_; obtain ⟨w5, hw5⟩ : ∃ W, (w4.alloc (.cells zeroV.toArray 49)).setCells w4.heap.size 0 C2.toArray.toList = W := ⟨_, rfl⟩; rw [hw5]; have HX5 : Hid (Sx w w.heap.size (.slice A p.length cap) w5 [(w4.heap.size, C2, t), (w2.heap.size, C1, s1)]) := Lib.hid (hw5 ▸ HX4.out.add HC2.out HMT.out); have HR5 := Lib.hid (HR5f.out _ hw5); clear hw5))
  obtain ⟨FA, fa, EA, ea, AA, aa, hci⟩ := (HX5.out.sts _ (.tail _ (.head _))).2.cin HM1.out (fun f hf => (HRI.out.fr f hf).regs)
  have r3 := HX5.out.range (.head _)
  have r2 : w5.cell? ⟨w2.heap.size, 0, none⟩ = some (.int .i64 st) := (HX5.out.cell (.tail _ (.head _)) 0).trans (by rw [hci.c0, HSV.out])
  have HNE := Lib.hid (show w4.heap.size ≠ w.heap.size + 2 by have := block_lt HR4.out; omega)
  have HNE2 := Lib.hid (show w2.heap.size ≠ w.heap.size + 2 by have := block_lt HR2.out; omega)
  obtain ⟨bt, hbt⟩ : ∃ b, w4.heap.size = b := ⟨_, rfl⟩
  obtain ⟨bs, hbs⟩ : ∃ b, w2.heap.size = b := ⟨_, rfl⟩
  rw [hbt] at HNE HX5 r3
  rw [hbs] at HNE2 HX5 r2
  rw [hbt, hbs]
  clear hci hbt hbs
  refine wp_region_held_drew (S := fun w' => w'.rangeAt bt 0 C2 ∧ w'.cell? ⟨bs, 0, none⟩ = some (.int .i64 st)) (by kernel_rfl) ⟨(World.rangeAt_drew _ _ _ _).2 r3, r2⟩ (fun hHeld => ?_)
  refine' wpAnyH_take (i := 0) rfl (by kernel_rfl) (by kernel_rfl) (by kernel_rfl) (fun _ _ _ h => h) (yieldsIf_load_mid (by rfl) 49 _ rfl bt 0 rfl C2 _ (fun w hSw => hSw.1) Tryd.underlying49 (by rfl) HI2.out) hHeld ?_
  simp only [Act.put, List.getElem_toArray, List.getElem_cons_zero, List.setIfInBounds_toArray, List.set_cons_zero, List.set_cons_succ]
  refine wpAnyH_take (i := 1) (v := .int .i64 0) rfl (by kernel_rfl) (by kernel_rfl) (by kernel_rfl) (fun _ _ _ h => h) (Or.inl ⟨by rfl, ?_⟩) hHeld ?_
  · intro w hSw
    simp only [List.getElem_toArray, List.getElem_cons_zero, List.getElem_cons_succ]
    go_simp
  simp only [Act.put, List.getElem_toArray, List.getElem_cons_zero, List.getElem_cons_succ, List.setIfInBounds_toArray, List.set_cons_zero, List.set_cons_succ]
  refine wpAnyH_take (i := 2) (v := .bool true) rfl (by kernel_rfl) (by kernel_rfl) (by kernel_rfl) (fun _ _ _ h => h) (Or.inl ⟨by rfl, ?_⟩) hHeld ?_
  · intro w hSw
    simp only [List.getElem_toArray, List.getElem_cons_zero, List.getElem_cons_succ]
    go_simp
  simp only [Act.put, List.getElem_toArray, List.getElem_cons_zero, List.getElem_cons_succ, List.setIfInBounds_toArray, List.set_cons_zero, List.set_cons_succ]
  refine wpAnyH_take (i := 3) (v := .bool true) rfl (by kernel_rfl) (by kernel_rfl) (by kernel_rfl) (fun _ _ _ h => h) (Or.inl ⟨by rfl, ?_⟩) hHeld ?_
  · intro w hSw
    simp only [List.getElem_toArray, List.getElem_cons_zero, List.getElem_cons_succ]
    go_simp
  simp only [Act.put, List.getElem_toArray, List.getElem_cons_zero, List.getElem_cons_succ, List.setIfInBounds_toArray, List.set_cons_zero, List.set_cons_succ]
  refine wpAnyH_take (i := 4) (v := .int .i64 0) rfl (by kernel_rfl) (by kernel_rfl) (by kernel_rfl) (fun _ _ _ h => h) (Or.inl ⟨by rfl, ?_⟩) hHeld ?_
  · intro w hSw
    simp only [List.getElem_toArray, List.getElem_cons_zero, List.getElem_cons_succ]
    go_simp
  simp only [Act.put, List.getElem_toArray, List.getElem_cons_zero, List.getElem_cons_succ, List.setIfInBounds_toArray, List.set_cons_zero, List.set_cons_succ]
  refine wpAnyH_take (i := 5) (v := .bool true) rfl (by kernel_rfl) (by kernel_rfl) (by kernel_rfl) (fun _ _ _ h => h) (Or.inl ⟨by rfl, ?_⟩) hHeld ?_
  · intro w hSw
    simp only [List.getElem_toArray, List.getElem_cons_zero, List.getElem_cons_succ]
    go_simp
  simp only [Act.put, List.getElem_toArray, List.getElem_cons_zero, List.getElem_cons_succ, List.setIfInBounds_toArray, List.set_cons_zero, List.set_cons_succ]
  refine wpAnyH_take (i := 6) (v := .bool true) rfl (by kernel_rfl) (by kernel_rfl) (by kernel_rfl) (fun _ _ _ h => h) (Or.inl ⟨by rfl, ?_⟩) hHeld ?_
  · intro w hSw
    simp only [List.getElem_toArray, List.getElem_cons_zero, List.getElem_cons_succ]
    go_simp
  simp only [Act.put, List.getElem_toArray, List.getElem_cons_zero, List.getElem_cons_succ, List.setIfInBounds_toArray, List.set_cons_zero, List.set_cons_succ]
  refine wpAnyH_take (i := 7) (v := .bool true) rfl (by kernel_rfl) (by kernel_rfl) (by kernel_rfl) (fun _ _ _ h => h) (Or.inl ⟨by rfl, ?_⟩) hHeld ?_
  · intro w hSw
    simp only [List.getElem_toArray, List.getElem_cons_zero, List.getElem_cons_succ]
    go_simp
  simp only [Act.put, List.getElem_toArray, List.getElem_cons_zero, List.getElem_cons_succ, List.setIfInBounds_toArray, List.set_cons_zero, List.set_cons_succ]
  refine wpAnyH_take (i := 8) (v := .pointer (some ⟨bs, 0, none⟩)) rfl (by kernel_rfl) (by kernel_rfl) (by kernel_rfl) (fun _ _ _ h => h) (Or.inl ⟨by rfl, ?_⟩) hHeld ?_
  · intro w hSw
    simp only [List.getElem_toArray, List.getElem_cons_zero, List.getElem_cons_succ]
    go_simp
  simp only [Act.put, List.getElem_toArray, List.getElem_cons_zero, List.getElem_cons_succ, List.setIfInBounds_toArray, List.set_cons_zero, List.set_cons_succ]
  refine wpAnyH_take (i := 9) (v := .int .i64 st) rfl (by kernel_rfl) (by kernel_rfl) (by kernel_rfl) (fun _ _ _ h => h) (Or.inl ⟨by rfl, ?_⟩) hHeld ?_
  · intro w hSw
    have q1 := hSw.2
    simp only [List.getElem_toArray, List.getElem_cons_zero, List.getElem_cons_succ]
    go_simp
  simp only [Act.put, List.getElem_toArray, List.getElem_cons_zero, List.getElem_cons_succ, List.setIfInBounds_toArray, List.set_cons_zero, List.set_cons_succ]
  refine wpAnyH_take (i := 10) (v := .bool true) rfl (by kernel_rfl) (by kernel_rfl) (by kernel_rfl) (fun _ _ _ h => h) (Or.inl ⟨by rfl, ?_⟩) hHeld ?_
  · intro w hSw
    simp only [List.getElem_toArray, List.getElem_cons_zero, List.getElem_cons_succ]
    go_simp
  simp only [Act.put, List.getElem_toArray, List.getElem_cons_zero, List.getElem_cons_succ, List.setIfInBounds_toArray, List.set_cons_zero, List.set_cons_succ]
  refine wpAnyH_take (i := 11) (v := .bool true) rfl (by kernel_rfl) (by kernel_rfl) (by kernel_rfl) (fun _ _ _ h => h) (Or.inl ⟨by rfl, ?_⟩) hHeld ?_
  · intro w hSw
    simp only [List.getElem_toArray, List.getElem_cons_zero, List.getElem_cons_succ]
    go_simp
  simp only [Act.put, List.getElem_toArray, List.getElem_cons_zero, List.getElem_cons_succ, List.setIfInBounds_toArray, List.set_cons_zero, List.set_cons_succ]
  refine wpAnyH_ready (rs := [12]) (by kernel_rfl) (by simp) ?_
  refine AllReadyH.cons rfl (fun K hK => ?_) AllReadyH.nil
  simp only [List.getElem_toArray, List.getElem_cons_zero, List.getElem_cons_succ]
  rw [if_pos (by rfl)]
  refine wp_store_mid 49 _ _ (by rfl) (w.heap.size + 2) 0 C2.toArray (by rfl) (by rfl) (there_block (n := C2.toArray.size) HR5.out (by simp [HL2.out, zeroV_length])) (by simpa using HI2.out) HC2.out.one ?_
  refine hK.out _ _ ⟨World.rangeAt_setCells_apart hHeld.1 _ _ _ (.inl HNE.out), (World.cell?_setCells_out _ _ _ _ _ (fun e _ => absurd e HNE2.out)).trans hHeld.2⟩ (fun hHeld => ?_)
  clear hK K
  refine wpAnyH_ready (rs := [13]) (by kernel_rfl) (by simp) ?_
  refine AllReadyH.cons rfl (fun K hK => ?_) AllReadyH.nil
  simp only [List.getElem_toArray, List.getElem_cons_zero, List.getElem_cons_succ]
  go_simp
  refine hK.out _ _ hHeld (fun hHeld => ?_)
  clear hK K hHeld
  refine wpAnyH_done (by kernel_rfl) ?_ _
  go_wp2_with fail
  have hrd := run_loadVar_mid (P := Tryd.prog) _ _ _ 49 C2 _ (World.rangeAt_setCells_same w5.drew (w.heap.size + 2) 0 C2 (there_block (n := C2.length) HR5.out (by rw [HL2.out]; exact Nat.le_refl _))) Tryd.underlying49 (by rfl) HI2.out
  refine bodyPost_ret (v := .tuple #[.agg C2.toArray, .bool true]) (results_cell2 Tryd.results15 _ _ _ _ _ ?_ hrd) rfl ⟨⟨C2, rfl, t, ?_, HTO.out, by rw [HTO.out.sim.st]; exact HST.out, HIT.out⟩, ?_⟩
  · rfl
  · obtain ⟨FS, ES, AS, h1, h2⟩ := (HX5.out.sts _ (.head _)).2
    exact ⟨FS, ES, AS, h1, strows_setCells (w := w5.drew) (by decide) (by decide) _ _ (h2.below (Below.refl _ _).drew) HR5.out⟩
  · exact below_setCells (by simp) _ _ _ HX5.out.below.drew
/-- The function that grows; what lay there before it. -/
structure TG (w6 wr : World) (params regs : Int) (A : Option Addr) (cap : Nat) (l : List Ins) : Prop where
  blk : wr.heap[w6.heap.size]? = some (.cells #[.int .i64 params, .int .i64 regs, .slice A l.length cap] 45 (0, 0))
  own : wr.ownsRow (w6.heap.size + 1) 76 5 (.slice A l.length cap) l.length (codeCells l)
  below : Below w6.heap.size w6 wr
section
variable {w6 wr w' : World} {A : Option Addr} {cap : Nat} {params regs : Int} {l : List Ins}
theorem TG.lt (h : TG w6 wr params regs A cap l) : w6.heap.size < wr.heap.size := (Array.getElem?_eq_some_iff.1 h.blk).1
theorem TG.keeps (h : TG w6 wr params regs A cap l) (hb : Below wr.heap.size wr w') : TG w6 w' params regs A cap l :=
  ⟨(hb.block _ h.lt).trans h.blk, own_below h.own hb, h.below.trans (hb.mono h.below.size)⟩
theorem TG.start (w : World) (params regs : Int) : TG w (w.alloc (.cells #[.int .i64 params, .int .i64 regs, .slice none 0 0] 45)) params regs none 0 [] :=
  ⟨heap_alloc_new _ _, World.ownsRow_nil _ _ _ _, (Below.refl _ _).alloc (Nat.le_refl _) _⟩
theorem TG.mid (h : TG w6 wr params regs A cap l) (o : Obj) {w1 : World} (hg : (wr.alloc o).grownBy w1 (Value.slice A l.length cap).ownBlock) : w1.heap[w6.heap.size]? = some (.cells #[.int .i64 params, .int .i64 regs, .slice A l.length cap] 45 (0, 0)) := by
  have hs := h.lt
  rw [hg.block _ (by simp; omega) (fun e => by have := (World.ownsRow.lt h.own _ e.symm).1; omega), Below.heap_alloc _ _ _ (by omega)]
  exact h.blk
theorem TG.app (h : TG w6 wr params regs A cap l) (x : Ins) {w1 : World} {A' : Option Addr} {cap' : Nat}
    (hg : (wr.alloc (.cells x.cells.toArray 76)).grownBy w1 (Value.slice A l.length cap).ownBlock)
    (ho : w1.ownsRow (w6.heap.size + 1) 76 5 (.slice A' (l.length + 1) cap') (l.length + 1) (codeCells l ++ x.cells)) :
    TG w6 (w1.setCell ⟨w6.heap.size, 2, none⟩ (.slice A' (l.length + 1) cap')) params regs A' cap' (l ++ [x]) := by
  have hs := h.lt
  have hrow : ∀ k, (Value.slice A l.length cap).ownBlock = some k → w6.heap.size + 1 ≤ k := fun k hk => (World.ownsRow.lt h.own k hk).1
  have hblk : ∀ k, k ≤ w6.heap.size → w1.heap[k]? = wr.heap[k]? := fun k hk => by
    rw [hg.block k (by simp; omega) (fun e => by have := hrow k e.symm; omega)]
    exact Below.heap_alloc _ _ _ (by omega)
  have hb1 : Below wr.heap.size wr (wr.alloc (.cells x.cells.toArray 76)) := (Below.refl _ _).alloc (Nat.le_refl _) _
  have hlen : (l ++ [x]).length = l.length + 1 := by simp
  refine ⟨?_, ?_, ?_⟩
  · have h2 : w1.heap[w6.heap.size]? = _ := (hblk _ (Nat.le_refl _)).trans h.blk
    simp only [World.setCell, Array.getElem?_modify, if_true, h2, Option.map_some]
    rw [hlen]; simp
  · rw [codeCells_snoc, hlen]
    exact ownsRow_setCell_below ho (by simp) _
  · refine Below.setCell ?_ (by simp) _
    refine (h.below.trans (hb1.mono h.below.size)).grown hg (by simp; omega) (fun k hk => by have := hrow k hk; omega)
end
theorem heap_two (w : World) (o1 o2 : Obj) : ((w.alloc o1).alloc o2).heap[w.heap.size]? = some o1 ∧ ((w.alloc o1).alloc o2).heap[w.heap.size + 1]? = some o2 :=
  ⟨by rw [Below.heap_alloc _ _ _ (by simp)]; exact heap_alloc_new _ _, by have := heap_alloc_new (w.alloc o1) o2; simpa using this⟩
theorem swap1_any (r a b : Int) (x y : Nat) (w : World) (hx : w.cell? ⟨x, 0, none⟩ = some (.int .i64 a)) (hy : w.cell? ⟨y, 0, none⟩ = some (.int .i64 b)) (_zx : x < w.heap.size) (_zy : y < w.heap.size) :
    Calls Tryd.prog 32 #[.int .i64 r, .pointer (some ⟨x, 0, none⟩), .pointer (some ⟨y, 0, none⟩)] w fun e w' => e = .returned (.int .i64 (swI a b r)) ∧ w = w' := by
  go_enter Tryd.func32, Tryd.ntmps32
  by_cases h1 : r = a
  · have e : swI a b r = b := if_pos h1
    have hb : (r == a) = true := by simpa using h1
    rw [e]
    go_wp2_with fail
    go_ret
    exact ⟨rfl, rfl⟩
  · have hb : (r == a) = false := by simpa using h1
    by_cases h2 : r = b
    · have e : swI a b r = a := by unfold swI; rw [if_neg h1, if_pos h2]
      have hb2 : (r == b) = true := by simpa using h2
      rw [e]
      go_wp2_with fail
      go_ret
      exact ⟨rfl, rfl⟩
    · have e : swI a b r = r := by unfold swI; rw [if_neg h1, if_neg h2]
      have hb2 : (r == b) = false := by simpa using h2
      rw [e]
      go_wp2_with fail
      go_ret
      exact ⟨rfl, rfl⟩
set_option maxRecDepth 100000 in
set_option maxHeartbeats 8000000 in
theorem swapped_any (F : Fnc) (a b : Int) (gc cap : Nat) (w : World) (hc1 : 1 ≤ F.code.length) (hc2 : F.code.length ≤ 40) (hgc : gc < w.heap.size) (hop : ∀ x ∈ F.code, 1 ≤ x.op ∧ x.op ≤ 19)
    (hins : ∀ (i : Nat) (x : Ins), F.code[i]? = some x → w.cell? ⟨gc, i * 5, none⟩ = some (.int .i64 x.op) ∧ w.cell? ⟨gc, i * 5 + 1, none⟩ = some (.int .i64 x.dst) ∧ w.cell? ⟨gc, i * 5 + 2, none⟩ = some (.int .i64 x.a) ∧ w.cell? ⟨gc, i * 5 + 3, none⟩ = some (.int .i64 x.b) ∧ w.cell? ⟨gc, i * 5 + 4, none⟩ = some (.int .i64 x.imm)) :
    Calls Tryd.prog 17 #[.agg #[.int .i64 F.params, .int .i64 F.regs, .slice (some ⟨gc, 0, none⟩) F.code.length cap], .int .i64 a, .int .i64 b] w fun e w' =>
      (∃ A' cap', e = .returned (.agg #[.int .i64 F.params, .int .i64 F.regs, .slice A' F.code.length cap']) ∧ w'.ownsRow w.heap.size 76 5 (.slice A' F.code.length cap') F.code.length (codeCells (F.code.map (swIns a b)))) ∧ Below w.heap.size w w' := by
  obtain ⟨i0, hi, hz0, hz1, hz2⟩ := info_parts infoIns
  obtain ⟨M, hM⟩ : ∃ M, F.code.length = M := ⟨_, rfl⟩
  have HM := Lib.hid hM
  rw [hM] at hc1 hc2 ⊢
  have HOP := Lib.hid hop
  have HINS := Lib.hid hins
  obtain ⟨cs, hcs⟩ : ∃ cs, F.code = cs := ⟨_, rfl⟩
  rw [hcs] at HINS HM HOP ⊢
  clear hM hop hins hcs
  obtain ⟨w6, hw6⟩ : ∃ W, (((w.alloc (.cells #[.int .i64 F.params, .int .i64 F.regs, .slice (some ⟨gc, 0, none⟩) M cap] 45)).alloc (.cells #[.int .i64 a] 3)).alloc (.cells #[.int .i64 b] 3)).alloc (.cells #[.int .i64 0, .int .i64 0, .slice none 0 0] 45) = W := ⟨_, rfl⟩
  have hz6 : w6.heap.size = w.heap.size + 4 := by rw [← hw6]; simp
  have HB6 : Hid (Below w.heap.size w w6) := Lib.hid (by rw [← hw6]; repeat (first | exact hb | exact Below.refl _ _ | apply Below.drew | apply below_drewN | refine Below.alloc ?_ (by first | omega | (simp; done) | (simp; omega)) _ | refine Below.setCell ?_ (by first | omega | (simp; done) | (simp; omega)) _))
  have HF6 : Hid (w6.heap[w.heap.size]? = some (.cells #[.int .i64 F.params, .int .i64 F.regs, .slice (some ⟨gc, 0, none⟩) M cap] 45 (0, 0))) := Lib.hid (by rw [← hw6, Below.heap_alloc _ _ _ (by simp; omega), Below.heap_alloc _ _ _ (by simp; omega)]; exact (heap_two _ _ _).1)
  have HA6 : Hid (w6.heap[w.heap.size + 1]? = some (.cells #[.int .i64 a] 3 (0, 0))) := Lib.hid (by rw [← hw6, Below.heap_alloc _ _ _ (by simp), Below.heap_alloc _ _ _ (by simp)]; exact (heap_two _ _ _).2)
  have HV6 : Hid (w6.heap[w.heap.size + 2]? = some (.cells #[.int .i64 b] 3 (0, 0))) := Lib.hid (by rw [← hw6, Below.heap_alloc _ _ _ (by simp)]; have := (heap_two (w.alloc (.cells #[.int .i64 F.params, .int .i64 F.regs, .slice (some ⟨gc, 0, none⟩) M cap] 45)) (.cells #[.int .i64 a] 3) (.cells #[.int .i64 b] 3)).2; simpa using this)
  have HR6 : Hid (w6.heap[w.heap.size + 3]? = some (.cells #[.int .i64 0, .int .i64 0, .slice none 0 0] 45 (0, 0))) := Lib.hid (by rw [← hw6]; have := heap_alloc_new (((w.alloc (.cells #[.int .i64 F.params, .int .i64 F.regs, .slice (some ⟨gc, 0, none⟩) M cap] 45)).alloc (.cells #[.int .i64 a] 3)).alloc (.cells #[.int .i64 b] 3)) (.cells #[.int .i64 0, .int .i64 0, .slice none 0 0] 45); simpa using this)
  have HW6 := Lib.hid hw6
  have HCL := Lib.hid (fun (r : Int) (W : World) (hb : Below w6.heap.size w6 W) => swap1_any r a b (w.heap.size + 1) (w.heap.size + 1 + 1) W (cell_block ((hb.block _ (by omega)).trans HA6.out) 0) (cell_block ((hb.block _ (by omega)).trans HV6.out) 0) (by have := hb.size; omega) (by have := hb.size; omega))
  have HTG0 := Lib.hid (TG.start w6 F.params F.regs)
  clear hw6
  have hmf : ∀ (fn : Fn) (first cap : Array Value) (w : World), (Instr.makeFunc fn first cap).run Tryd.prog w = .ok (.func fn first cap) w := fun _ _ _ _ => rfl
  go_enter Tryd.func17, Tryd.ntmps17
  go_wp2_with fail
  rw [HW6.out]
  go_loopw [9] (fun vi wr => ∃ (j : Nat) (A2 : Option Addr) (cap2 : Nat) (l : List Ins), j ≤ M ∧ vi = .int .i64 (j : Int) ∧ l = (cs.take j).map (swIns a b) ∧ TG w6 wr F.params F.regs A2 cap2 l) (fun vi _ => M - (intOf vi).toNat)
  case atStart => exact ⟨0, none, 0, [], by omega, rfl, rfl, HTG0.out⟩
  case round =>
    obtain ⟨j, A2, cap2, l, hj, rfl, hl, hTG⟩ := hrel
    clear HTG0
    have HL := Lib.hid hl
    have HTG := Lib.hid hTG
    have hll : l.length ≤ 40 := by rw [hl]; simp; omega
    have hB6 := hTG.below
    have HBR := Lib.hid (HB6.out.trans (hB6.mono HB6.out.size))
    have zg := hTG.lt
    have kg := cell_block hTG.blk
    have fg := frozen_block hTG.blk
    rw [hz6] at zg kg fg
    have q0 := cell_block ((hB6.block _ (by omega)).trans HF6.out)
    clear hl
    by_cases hjM : j = M
    · obtain rfl : M = j := hjM.symm
      have hlen : l.length = M := by rw [HL.out]; simp [HM.out]
      have HLE := Lib.hid (show l = cs.map (swIns a b) by rw [HL.out, ← HM.out, List.take_length])
      have hrs : ∀ i, wr.cell? ⟨w.heap.size + 1 + 1 + 1, i, none⟩ = _ := cell_block ((hB6.block _ (by omega)).trans HR6.out)
      have hfz : ∀ i, wr.frozen? ⟨w.heap.size + 1 + 1 + 1, i, none⟩ = _ := frozen_block ((hB6.block _ (by omega)).trans HR6.out)
      rw [hlen] at kg
      have zr : w.heap.size + 1 + 1 + 1 < wr.heap.size := by omega
      clear hTG hB6
      go_wp2_with fail
      refine bodyPost_ret (v := .agg #[.int .i64 F.params, .int .i64 F.regs, .slice A2 M cap2]) (by simp [results, Tryd.results17, go_sem, hrs]) rfl ⟨⟨A2, cap2, rfl, ?_⟩, ?_⟩
      · rw [← HLE.out]
        have h := HTG.out.own
        rw [hlen] at h
        exact own_base (ownsRow_setCell_below (ownsRow_setCell_below (ownsRow_setCell_below h (by simp; omega) _) (by simp; omega) _) (by simp; omega) _) (by omega)
      · exact ((HBR.out.setCell (by simp; omega) _).setCell (by simp; omega) _).setCell (by simp; omega) _
    · have hj1 : (j : Int) < M := by omega
      have hj2 : (0 : Int) ≤ j := by omega
      obtain ⟨x, hx⟩ : ∃ x, cs[j]? = some x := ⟨_, List.getElem?_eq_getElem (by rw [HM.out]; omega)⟩
      have hox := HOP.out x (List.mem_of_getElem? hx)
      obtain ⟨e0, e1, e2, e3, e4⟩ := HINS.out j x hx
      rw [← HBR.out.cell (p := ⟨gc, _, none⟩) hgc] at e0 e1 e2 e3 e4
      have hgr : gc < wr.heap.size := Nat.lt_of_lt_of_le hgc HBR.out.size
      have HLS := Lib.hid (show (cs.take (j + 1)).map (swIns a b) = l ++ [swIns a b x] by rw [HL.out, List.take_add_one, hx]; simp)
      obtain ⟨op, d, ra, rb, m⟩ := x
      dsimp only at hox e0 e1 e2 e3 e4
      clear hTG hB6 hx
      by_cases c0 : op = 1
      · obtain rfl : op = 1 := by omega
        have HTI := Lib.hid (show swIns a b ⟨1, d, ra, rb, m⟩ = ⟨1, (swI a b d), ra, rb, m⟩ from rfl)
        clear hox c0
        go_wp2_with (first | (go_at_call 32; go_must (refine (HCL.out _ _ (by first | exact HTG.out.below.alloc HTG.out.below.size _ | exact (HTG.out.below.alloc HTG.out.below.size _).setCell HTG.out.below.size _ | exact ((HTG.out.below.alloc HTG.out.below.size _).setCell HTG.out.below.size _).setCell HTG.out.below.size _)).mono ?_; rintro e w' ⟨rfl, rfl⟩)) | (at_builtin; go_must (have HTY := Lib.hid (HTG.out.keeps ((Below.refl wr.heap.size wr).alloc (Nat.le_refl _) (.cells #[.int .i64 1, .int .i64 (swI a b d), .int .i64 ra, .int .i64 rb, .int .i64 m] 76))); refine wpList_append_own _ rfl _ _ 43 rfl (w6.heap.size + 1) 76 i0 _ 5 40 Tryd.underlying43 hi hz0 hz1 hz2 rfl (by decide) (.slice A2 l.length cap2) l.length (codeCells l) rfl (own_below HTY.out.own ((Below.refl _ _).alloc (Nat.le_refl _) _)) ⟨wr.heap.size + 1, 0, none⟩ 1 1 [.int .i64 1, .int .i64 (swI a b d), .int .i64 ra, .int .i64 rb, .int .i64 m] rfl rfl (World.news_of_block (cs := #[.int .i64 1, .int .i64 (swI a b d), .int .i64 ra, .int .i64 rb, .int .i64 m]) (t := 76) (fr := (0, 0)) (heap_two wr _ _).2) (by simp [Value.oneCell']) (by unfold maxLen; omega) (by omega) (by simp; omega) ?_); intro v9 w9 hown9 hg9 _; obtain ⟨A3, cap3, hv3, -⟩ := own_slice hown9; rw [hv3] at hown9; rw [hv3]; have mid := HTY.out.mid _ hg9; have htg := HTY.out.app ⟨1, (swI a b d), ra, rb, m⟩ hg9 hown9; rw [hz6] at mid htg; have HTG9 := Lib.hid htg; have u9 := cell_block mid; have g9 := frozen_block mid; have y9 := block_lt mid; clear mid htg hown9 hg9))
        go_roundw
        case rel => exact ⟨j + 1, A3, cap3, l ++ [⟨1, (swI a b d), ra, rb, m⟩], by omega, by go_num, by rw [HLS.out, HTI.out], HTG9.out⟩
        case measure => simp [intOf]; omega
      by_cases c1 : op ≤ 12
      · have t1 : (op == 1) = false := by simpa using c0
        have t2 : decide (op ≤ 12) = true := by simpa using c1
        have HTI := Lib.hid (show swIns a b ⟨op, d, ra, rb, m⟩ = ⟨op, (swI a b d), (swI a b ra), (swI a b rb), m⟩ by unfold swIns; rw [if_neg c0, if_pos (.inl c1)])
        clear hox c0 c1
        go_wp2_with (first | (go_at_call 32; go_must (refine (HCL.out _ _ (by first | exact HTG.out.below.alloc HTG.out.below.size _ | exact (HTG.out.below.alloc HTG.out.below.size _).setCell HTG.out.below.size _ | exact ((HTG.out.below.alloc HTG.out.below.size _).setCell HTG.out.below.size _).setCell HTG.out.below.size _)).mono ?_; rintro e w' ⟨rfl, rfl⟩)) | (at_builtin; go_must (have HTY := Lib.hid (HTG.out.keeps ((Below.refl wr.heap.size wr).alloc (Nat.le_refl _) (.cells #[.int .i64 op, .int .i64 (swI a b d), .int .i64 (swI a b ra), .int .i64 (swI a b rb), .int .i64 m] 76))); refine wpList_append_own _ rfl _ _ 43 rfl (w6.heap.size + 1) 76 i0 _ 5 40 Tryd.underlying43 hi hz0 hz1 hz2 rfl (by decide) (.slice A2 l.length cap2) l.length (codeCells l) rfl (own_below HTY.out.own ((Below.refl _ _).alloc (Nat.le_refl _) _)) ⟨wr.heap.size + 1, 0, none⟩ 1 1 [.int .i64 op, .int .i64 (swI a b d), .int .i64 (swI a b ra), .int .i64 (swI a b rb), .int .i64 m] rfl rfl (World.news_of_block (cs := #[.int .i64 op, .int .i64 (swI a b d), .int .i64 (swI a b ra), .int .i64 (swI a b rb), .int .i64 m]) (t := 76) (fr := (0, 0)) (heap_two wr _ _).2) (by simp [Value.oneCell']) (by unfold maxLen; omega) (by omega) (by simp; omega) ?_); intro v9 w9 hown9 hg9 _; obtain ⟨A3, cap3, hv3, -⟩ := own_slice hown9; rw [hv3] at hown9; rw [hv3]; have mid := HTY.out.mid _ hg9; have htg := HTY.out.app ⟨op, (swI a b d), (swI a b ra), (swI a b rb), m⟩ hg9 hown9; rw [hz6] at mid htg; have HTG9 := Lib.hid htg; have u9 := cell_block mid; have g9 := frozen_block mid; have y9 := block_lt mid; clear mid htg hown9 hg9))
        go_roundw
        case rel => exact ⟨j + 1, A3, cap3, l ++ [⟨op, (swI a b d), (swI a b ra), (swI a b rb), m⟩], by omega, by go_num, by rw [HLS.out, HTI.out], HTG9.out⟩
        case measure => simp [intOf]; omega
      by_cases c2 : op = 13
      · obtain rfl : op = 13 := by omega
        have HTI := Lib.hid (show swIns a b ⟨13, d, ra, rb, m⟩ = ⟨13, (swI a b d), (swI a b ra), rb, m⟩ from rfl)
        clear hox c0 c1 c2
        go_wp2_with (first | (go_at_call 32; go_must (refine (HCL.out _ _ (by first | exact HTG.out.below.alloc HTG.out.below.size _ | exact (HTG.out.below.alloc HTG.out.below.size _).setCell HTG.out.below.size _ | exact ((HTG.out.below.alloc HTG.out.below.size _).setCell HTG.out.below.size _).setCell HTG.out.below.size _)).mono ?_; rintro e w' ⟨rfl, rfl⟩)) | (at_builtin; go_must (have HTY := Lib.hid (HTG.out.keeps ((Below.refl wr.heap.size wr).alloc (Nat.le_refl _) (.cells #[.int .i64 13, .int .i64 (swI a b d), .int .i64 (swI a b ra), .int .i64 rb, .int .i64 m] 76))); refine wpList_append_own _ rfl _ _ 43 rfl (w6.heap.size + 1) 76 i0 _ 5 40 Tryd.underlying43 hi hz0 hz1 hz2 rfl (by decide) (.slice A2 l.length cap2) l.length (codeCells l) rfl (own_below HTY.out.own ((Below.refl _ _).alloc (Nat.le_refl _) _)) ⟨wr.heap.size + 1, 0, none⟩ 1 1 [.int .i64 13, .int .i64 (swI a b d), .int .i64 (swI a b ra), .int .i64 rb, .int .i64 m] rfl rfl (World.news_of_block (cs := #[.int .i64 13, .int .i64 (swI a b d), .int .i64 (swI a b ra), .int .i64 rb, .int .i64 m]) (t := 76) (fr := (0, 0)) (heap_two wr _ _).2) (by simp [Value.oneCell']) (by unfold maxLen; omega) (by omega) (by simp; omega) ?_); intro v9 w9 hown9 hg9 _; obtain ⟨A3, cap3, hv3, -⟩ := own_slice hown9; rw [hv3] at hown9; rw [hv3]; have mid := HTY.out.mid _ hg9; have htg := HTY.out.app ⟨13, (swI a b d), (swI a b ra), rb, m⟩ hg9 hown9; rw [hz6] at mid htg; have HTG9 := Lib.hid htg; have u9 := cell_block mid; have g9 := frozen_block mid; have y9 := block_lt mid; clear mid htg hown9 hg9))
        go_roundw
        case rel => exact ⟨j + 1, A3, cap3, l ++ [⟨13, (swI a b d), (swI a b ra), rb, m⟩], by omega, by go_num, by rw [HLS.out, HTI.out], HTG9.out⟩
        case measure => simp [intOf]; omega
      by_cases c3 : op = 14
      · obtain rfl : op = 14 := by omega
        have HTI := Lib.hid (show swIns a b ⟨14, d, ra, rb, m⟩ = ⟨14, d, (swI a b ra), (swI a b rb), m⟩ from rfl)
        clear hox c0 c1 c2 c3
        go_wp2_with (first | (go_at_call 32; go_must (refine (HCL.out _ _ (by first | exact HTG.out.below.alloc HTG.out.below.size _ | exact (HTG.out.below.alloc HTG.out.below.size _).setCell HTG.out.below.size _ | exact ((HTG.out.below.alloc HTG.out.below.size _).setCell HTG.out.below.size _).setCell HTG.out.below.size _)).mono ?_; rintro e w' ⟨rfl, rfl⟩)) | (at_builtin; go_must (have HTY := Lib.hid (HTG.out.keeps ((Below.refl wr.heap.size wr).alloc (Nat.le_refl _) (.cells #[.int .i64 14, .int .i64 d, .int .i64 (swI a b ra), .int .i64 (swI a b rb), .int .i64 m] 76))); refine wpList_append_own _ rfl _ _ 43 rfl (w6.heap.size + 1) 76 i0 _ 5 40 Tryd.underlying43 hi hz0 hz1 hz2 rfl (by decide) (.slice A2 l.length cap2) l.length (codeCells l) rfl (own_below HTY.out.own ((Below.refl _ _).alloc (Nat.le_refl _) _)) ⟨wr.heap.size + 1, 0, none⟩ 1 1 [.int .i64 14, .int .i64 d, .int .i64 (swI a b ra), .int .i64 (swI a b rb), .int .i64 m] rfl rfl (World.news_of_block (cs := #[.int .i64 14, .int .i64 d, .int .i64 (swI a b ra), .int .i64 (swI a b rb), .int .i64 m]) (t := 76) (fr := (0, 0)) (heap_two wr _ _).2) (by simp [Value.oneCell']) (by unfold maxLen; omega) (by omega) (by simp; omega) ?_); intro v9 w9 hown9 hg9 _; obtain ⟨A3, cap3, hv3, -⟩ := own_slice hown9; rw [hv3] at hown9; rw [hv3]; have mid := HTY.out.mid _ hg9; have htg := HTY.out.app ⟨14, d, (swI a b ra), (swI a b rb), m⟩ hg9 hown9; rw [hz6] at mid htg; have HTG9 := Lib.hid htg; have u9 := cell_block mid; have g9 := frozen_block mid; have y9 := block_lt mid; clear mid htg hown9 hg9))
        go_roundw
        case rel => exact ⟨j + 1, A3, cap3, l ++ [⟨14, d, (swI a b ra), (swI a b rb), m⟩], by omega, by go_num, by rw [HLS.out, HTI.out], HTG9.out⟩
        case measure => simp [intOf]; omega
      by_cases c4 : op = 15
      · obtain rfl : op = 15 := by omega
        have HTI := Lib.hid (show swIns a b ⟨15, d, ra, rb, m⟩ = ⟨15, d, ra, rb, m⟩ from rfl)
        clear hox c0 c1 c2 c3 c4
        go_wp2_with (first | (go_at_call 32; go_must (refine (HCL.out _ _ (by first | exact HTG.out.below.alloc HTG.out.below.size _ | exact (HTG.out.below.alloc HTG.out.below.size _).setCell HTG.out.below.size _ | exact ((HTG.out.below.alloc HTG.out.below.size _).setCell HTG.out.below.size _).setCell HTG.out.below.size _)).mono ?_; rintro e w' ⟨rfl, rfl⟩)) | (at_builtin; go_must (have HTY := Lib.hid (HTG.out.keeps ((Below.refl wr.heap.size wr).alloc (Nat.le_refl _) (.cells #[.int .i64 15, .int .i64 d, .int .i64 ra, .int .i64 rb, .int .i64 m] 76))); refine wpList_append_own _ rfl _ _ 43 rfl (w6.heap.size + 1) 76 i0 _ 5 40 Tryd.underlying43 hi hz0 hz1 hz2 rfl (by decide) (.slice A2 l.length cap2) l.length (codeCells l) rfl (own_below HTY.out.own ((Below.refl _ _).alloc (Nat.le_refl _) _)) ⟨wr.heap.size + 1, 0, none⟩ 1 1 [.int .i64 15, .int .i64 d, .int .i64 ra, .int .i64 rb, .int .i64 m] rfl rfl (World.news_of_block (cs := #[.int .i64 15, .int .i64 d, .int .i64 ra, .int .i64 rb, .int .i64 m]) (t := 76) (fr := (0, 0)) (heap_two wr _ _).2) (by simp [Value.oneCell']) (by unfold maxLen; omega) (by omega) (by simp; omega) ?_); intro v9 w9 hown9 hg9 _; obtain ⟨A3, cap3, hv3, -⟩ := own_slice hown9; rw [hv3] at hown9; rw [hv3]; have mid := HTY.out.mid _ hg9; have htg := HTY.out.app ⟨15, d, ra, rb, m⟩ hg9 hown9; rw [hz6] at mid htg; have HTG9 := Lib.hid htg; have u9 := cell_block mid; have g9 := frozen_block mid; have y9 := block_lt mid; clear mid htg hown9 hg9))
        go_roundw
        case rel => exact ⟨j + 1, A3, cap3, l ++ [⟨15, d, ra, rb, m⟩], by omega, by go_num, by rw [HLS.out, HTI.out], HTG9.out⟩
        case measure => simp [intOf]; omega
      by_cases c5 : op = 16
      · obtain rfl : op = 16 := by omega
        have HTI := Lib.hid (show swIns a b ⟨16, d, ra, rb, m⟩ = ⟨16, d, (swI a b ra), rb, m⟩ from rfl)
        clear hox c0 c1 c2 c3 c4 c5
        go_wp2_with (first | (go_at_call 32; go_must (refine (HCL.out _ _ (by first | exact HTG.out.below.alloc HTG.out.below.size _ | exact (HTG.out.below.alloc HTG.out.below.size _).setCell HTG.out.below.size _ | exact ((HTG.out.below.alloc HTG.out.below.size _).setCell HTG.out.below.size _).setCell HTG.out.below.size _)).mono ?_; rintro e w' ⟨rfl, rfl⟩)) | (at_builtin; go_must (have HTY := Lib.hid (HTG.out.keeps ((Below.refl wr.heap.size wr).alloc (Nat.le_refl _) (.cells #[.int .i64 16, .int .i64 d, .int .i64 (swI a b ra), .int .i64 rb, .int .i64 m] 76))); refine wpList_append_own _ rfl _ _ 43 rfl (w6.heap.size + 1) 76 i0 _ 5 40 Tryd.underlying43 hi hz0 hz1 hz2 rfl (by decide) (.slice A2 l.length cap2) l.length (codeCells l) rfl (own_below HTY.out.own ((Below.refl _ _).alloc (Nat.le_refl _) _)) ⟨wr.heap.size + 1, 0, none⟩ 1 1 [.int .i64 16, .int .i64 d, .int .i64 (swI a b ra), .int .i64 rb, .int .i64 m] rfl rfl (World.news_of_block (cs := #[.int .i64 16, .int .i64 d, .int .i64 (swI a b ra), .int .i64 rb, .int .i64 m]) (t := 76) (fr := (0, 0)) (heap_two wr _ _).2) (by simp [Value.oneCell']) (by unfold maxLen; omega) (by omega) (by simp; omega) ?_); intro v9 w9 hown9 hg9 _; obtain ⟨A3, cap3, hv3, -⟩ := own_slice hown9; rw [hv3] at hown9; rw [hv3]; have mid := HTY.out.mid _ hg9; have htg := HTY.out.app ⟨16, d, (swI a b ra), rb, m⟩ hg9 hown9; rw [hz6] at mid htg; have HTG9 := Lib.hid htg; have u9 := cell_block mid; have g9 := frozen_block mid; have y9 := block_lt mid; clear mid htg hown9 hg9))
        go_roundw
        case rel => exact ⟨j + 1, A3, cap3, l ++ [⟨16, d, (swI a b ra), rb, m⟩], by omega, by go_num, by rw [HLS.out, HTI.out], HTG9.out⟩
        case measure => simp [intOf]; omega
      by_cases c6 : op = 17
      · obtain rfl : op = 17 := by omega
        have HTI := Lib.hid (show swIns a b ⟨17, d, ra, rb, m⟩ = ⟨17, (swI a b d), (swI a b ra), (swI a b rb), m⟩ from rfl)
        clear hox c0 c1 c2 c3 c4 c5 c6
        go_wp2_with (first | (go_at_call 32; go_must (refine (HCL.out _ _ (by first | exact HTG.out.below.alloc HTG.out.below.size _ | exact (HTG.out.below.alloc HTG.out.below.size _).setCell HTG.out.below.size _ | exact ((HTG.out.below.alloc HTG.out.below.size _).setCell HTG.out.below.size _).setCell HTG.out.below.size _)).mono ?_; rintro e w' ⟨rfl, rfl⟩)) | (at_builtin; go_must (have HTY := Lib.hid (HTG.out.keeps ((Below.refl wr.heap.size wr).alloc (Nat.le_refl _) (.cells #[.int .i64 17, .int .i64 (swI a b d), .int .i64 (swI a b ra), .int .i64 (swI a b rb), .int .i64 m] 76))); refine wpList_append_own _ rfl _ _ 43 rfl (w6.heap.size + 1) 76 i0 _ 5 40 Tryd.underlying43 hi hz0 hz1 hz2 rfl (by decide) (.slice A2 l.length cap2) l.length (codeCells l) rfl (own_below HTY.out.own ((Below.refl _ _).alloc (Nat.le_refl _) _)) ⟨wr.heap.size + 1, 0, none⟩ 1 1 [.int .i64 17, .int .i64 (swI a b d), .int .i64 (swI a b ra), .int .i64 (swI a b rb), .int .i64 m] rfl rfl (World.news_of_block (cs := #[.int .i64 17, .int .i64 (swI a b d), .int .i64 (swI a b ra), .int .i64 (swI a b rb), .int .i64 m]) (t := 76) (fr := (0, 0)) (heap_two wr _ _).2) (by simp [Value.oneCell']) (by unfold maxLen; omega) (by omega) (by simp; omega) ?_); intro v9 w9 hown9 hg9 _; obtain ⟨A3, cap3, hv3, -⟩ := own_slice hown9; rw [hv3] at hown9; rw [hv3]; have mid := HTY.out.mid _ hg9; have htg := HTY.out.app ⟨17, (swI a b d), (swI a b ra), (swI a b rb), m⟩ hg9 hown9; rw [hz6] at mid htg; have HTG9 := Lib.hid htg; have u9 := cell_block mid; have g9 := frozen_block mid; have y9 := block_lt mid; clear mid htg hown9 hg9))
        go_roundw
        case rel => exact ⟨j + 1, A3, cap3, l ++ [⟨17, (swI a b d), (swI a b ra), (swI a b rb), m⟩], by omega, by go_num, by rw [HLS.out, HTI.out], HTG9.out⟩
        case measure => simp [intOf]; omega
      by_cases c7 : op = 18
      · obtain rfl : op = 18 := by omega
        have HTI := Lib.hid (show swIns a b ⟨18, d, ra, rb, m⟩ = ⟨18, (swI a b d), (swI a b ra), rb, m⟩ from rfl)
        clear hox c0 c1 c2 c3 c4 c5 c6 c7
        go_wp2_with (first | (go_at_call 32; go_must (refine (HCL.out _ _ (by first | exact HTG.out.below.alloc HTG.out.below.size _ | exact (HTG.out.below.alloc HTG.out.below.size _).setCell HTG.out.below.size _ | exact ((HTG.out.below.alloc HTG.out.below.size _).setCell HTG.out.below.size _).setCell HTG.out.below.size _)).mono ?_; rintro e w' ⟨rfl, rfl⟩)) | (at_builtin; go_must (have HTY := Lib.hid (HTG.out.keeps ((Below.refl wr.heap.size wr).alloc (Nat.le_refl _) (.cells #[.int .i64 18, .int .i64 (swI a b d), .int .i64 (swI a b ra), .int .i64 rb, .int .i64 m] 76))); refine wpList_append_own _ rfl _ _ 43 rfl (w6.heap.size + 1) 76 i0 _ 5 40 Tryd.underlying43 hi hz0 hz1 hz2 rfl (by decide) (.slice A2 l.length cap2) l.length (codeCells l) rfl (own_below HTY.out.own ((Below.refl _ _).alloc (Nat.le_refl _) _)) ⟨wr.heap.size + 1, 0, none⟩ 1 1 [.int .i64 18, .int .i64 (swI a b d), .int .i64 (swI a b ra), .int .i64 rb, .int .i64 m] rfl rfl (World.news_of_block (cs := #[.int .i64 18, .int .i64 (swI a b d), .int .i64 (swI a b ra), .int .i64 rb, .int .i64 m]) (t := 76) (fr := (0, 0)) (heap_two wr _ _).2) (by simp [Value.oneCell']) (by unfold maxLen; omega) (by omega) (by simp; omega) ?_); intro v9 w9 hown9 hg9 _; obtain ⟨A3, cap3, hv3, -⟩ := own_slice hown9; rw [hv3] at hown9; rw [hv3]; have mid := HTY.out.mid _ hg9; have htg := HTY.out.app ⟨18, (swI a b d), (swI a b ra), rb, m⟩ hg9 hown9; rw [hz6] at mid htg; have HTG9 := Lib.hid htg; have u9 := cell_block mid; have g9 := frozen_block mid; have y9 := block_lt mid; clear mid htg hown9 hg9))
        go_roundw
        case rel => exact ⟨j + 1, A3, cap3, l ++ [⟨18, (swI a b d), (swI a b ra), rb, m⟩], by omega, by go_num, by rw [HLS.out, HTI.out], HTG9.out⟩
        case measure => simp [intOf]; omega
      obtain rfl : op = 19 := by omega
      have HTI := Lib.hid (show swIns a b ⟨19, d, ra, rb, m⟩ = ⟨19, d, (swI a b ra), rb, m⟩ from rfl)
      clear hox c0 c1 c2 c3 c4 c5 c6 c7
      go_wp2_with (first | (go_at_call 32; go_must (refine (HCL.out _ _ (by first | exact HTG.out.below.alloc HTG.out.below.size _ | exact (HTG.out.below.alloc HTG.out.below.size _).setCell HTG.out.below.size _ | exact ((HTG.out.below.alloc HTG.out.below.size _).setCell HTG.out.below.size _).setCell HTG.out.below.size _)).mono ?_; rintro e w' ⟨rfl, rfl⟩)) | (at_builtin; go_must (have HTY := Lib.hid (HTG.out.keeps ((Below.refl wr.heap.size wr).alloc (Nat.le_refl _) (.cells #[.int .i64 19, .int .i64 d, .int .i64 (swI a b ra), .int .i64 rb, .int .i64 m] 76))); refine wpList_append_own _ rfl _ _ 43 rfl (w6.heap.size + 1) 76 i0 _ 5 40 Tryd.underlying43 hi hz0 hz1 hz2 rfl (by decide) (.slice A2 l.length cap2) l.length (codeCells l) rfl (own_below HTY.out.own ((Below.refl _ _).alloc (Nat.le_refl _) _)) ⟨wr.heap.size + 1, 0, none⟩ 1 1 [.int .i64 19, .int .i64 d, .int .i64 (swI a b ra), .int .i64 rb, .int .i64 m] rfl rfl (World.news_of_block (cs := #[.int .i64 19, .int .i64 d, .int .i64 (swI a b ra), .int .i64 rb, .int .i64 m]) (t := 76) (fr := (0, 0)) (heap_two wr _ _).2) (by simp [Value.oneCell']) (by unfold maxLen; omega) (by omega) (by simp; omega) ?_); intro v9 w9 hown9 hg9 _; obtain ⟨A3, cap3, hv3, -⟩ := own_slice hown9; rw [hv3] at hown9; rw [hv3]; have mid := HTY.out.mid _ hg9; have htg := HTY.out.app ⟨19, d, (swI a b ra), rb, m⟩ hg9 hown9; rw [hz6] at mid htg; have HTG9 := Lib.hid htg; have u9 := cell_block mid; have g9 := frozen_block mid; have y9 := block_lt mid; clear mid htg hown9 hg9))
      go_roundw
      case rel => exact ⟨j + 1, A3, cap3, l ++ [⟨19, d, (swI a b ra), rb, m⟩], by omega, by go_num, by rw [HLS.out, HTI.out], HTG9.out⟩
      case measure => simp [intOf]; omega
end Go.Proofs.YtfngkpbbimibaaaDoor
