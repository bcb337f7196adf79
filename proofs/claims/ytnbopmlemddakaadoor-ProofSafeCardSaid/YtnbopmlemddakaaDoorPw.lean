/-
  The walk of ProofSafe: it returns true.
-/
import Derived.Test.YtnbopmlemddakaaDoorPfM
import Derived.Test.YtnbopmlemddakaaDoorPs
namespace Go.Proofs.YtnbopmlemddakaaDoor
open Go.RowKit Tier
theorem step_grows {p : List Fnc} {s : St} {fs : List Fr} {f : Fr} (hf : s.frames = fs ++ [f]) (h : s.frames.length < (stepSt p s).frames.length) : (insOf p f).op = 17 := by
  by_cases hfu : s.fuel = 0
  · exfalso; unfold stepSt at h; rw [if_pos hfu] at h; simp at h
  have hst2 := stepSt_exec (p := p) hf hfu
  rw [hst2] at h
  rcases exec_split (p := p) fs f with ⟨b1, hx⟩ | ⟨b1, hx⟩ | ⟨b1, hx⟩ | ⟨b1, -, -, hx⟩ | ⟨b1, b2, b3, hx⟩ | ⟨b1, hx⟩ | ⟨b1, hx⟩ | ⟨b1, b2, hx⟩ | ⟨b1, b2, hx⟩ | ⟨b1, hx⟩ | ⟨b1, b2, hx⟩ | ⟨b1, gs, g, b2, hx⟩
  all_goals first
    | exact b1
    | (exfalso; rw [hx] at h; simp [topSt, hf] at h; done)
    | (exfalso; rw [hx] at h; simp [hf] at h; omega)
    | (exfalso; subst b2; rw [hx] at h; simp [hf] at h; done)
    | (exfalso; subst b2; rw [hx] at h; simp [topSt, hf] at h; omega)
theorem par_le {p : List Fnc} (hp : Right p) (x : Ins) : 0 ≤ parOf p x ∧ parOf p x ≤ 2 := by
  unfold parOf
  cases h : p[x.imm.toNat]? with
  | none => simp
  | some F =>
    have := hp.ok.fn F (List.mem_of_getElem? h)
    exact ⟨this.p1, this.p2⟩
theorem cell_eq {W W2 : World} {b : Nat} (h : W.heap[b]? = W2.heap[b]?) (o : Nat) : W.cell? ⟨b, o, none⟩ = W2.cell? ⟨b, o, none⟩ := by simp only [World.cell?, h]
theorem rd_len (x : Ins) (n : Int) : (rdL x n).length ≤ 2 := by
  unfold rdL
  repeat' split
  all_goals first | (simp; done) | (simp; omega) | (rw [List.length_take]; simp; done) | (rw [List.length_take]; simp; omega)
theorem rd_bit {x : Ins} {regs n k funcs : Int} (hx : InsOk x regs k funcs) (h0 : 0 ≤ n) (h2 : n ≤ 2) (hr12 : regs ≤ 12) {r : Int} (hr : r ∈ rdL x n) : (readsM x n).testBit r.toNat = true ∧ 0 ≤ r ∧ r < 12 := by
  have a1 := hx.a1
  have a2 := hx.a2
  have b1 := hx.b1
  have b2 := hx.b2
  have key : r = x.a ∨ r = x.b := by
    unfold rdL at hr
    repeat' split at hr
    · simp at hr
    · simp at hr; exact .inl hr
    · have := List.mem_of_mem_take hr; simpa using this
    · simpa using hr
  refine ⟨?_, by rcases key with rfl | rfl <;> omega, by rcases key with rfl | rfl <;> omega⟩
  have tb : ∀ i : Nat, (2 ^ i).testBit i = true := fun i => Nat.testBit_two_pow_self
  unfold rdL at hr
  unfold readsM
  by_cases c1 : x.op = 1 ∨ x.op = 15
  · rw [if_pos c1] at hr; simp at hr
  rw [if_neg c1] at hr ⊢
  by_cases c2 : x.op = 13 ∨ x.op = 16 ∨ x.op = 18 ∨ x.op = 19
  · rw [if_pos c2] at hr ⊢
    simp at hr; subst hr; exact tb _
  rw [if_neg c2] at hr ⊢
  by_cases c3 : x.op = 17
  · rw [if_pos c3] at hr ⊢
    have hc : n = 0 ∨ n = 1 ∨ n = 2 := by omega
    rcases hc with rfl | rfl | rfl
    · simp at hr
    · simp at hr; subst hr; simp
    · simp at hr
      rw [if_neg (by omega), if_neg (by omega), Nat.testBit_or]
      rcases hr with rfl | rfl
      · rw [tb]; rfl
      · rw [tb]; simp
  · rw [if_neg c3] at hr ⊢
    simp at hr
    rw [Nat.testBit_or]
    rcases hr with rfl | rfl
    · rw [tb]; rfl
    · rw [tb]; simp
theorem bit_fact {m : Nat} (hm : m < 4096) {r : Int} (_h0 : 0 ≤ r) (_h1 : r < 12) (hb : m.testBit r.toNat = true) : bits .and .i64 ((m : Int) / 2 ^ r.toNat) 1 = 1 := by
  have e : ((m : Int) / 2 ^ r.toNat) = ((m / 2 ^ r.toNat : Nat) : Int) := by push_cast; rfl
  have hd : m / 2 ^ r.toNat ≤ m := Nat.div_le_self _ _
  have h2 := and_nat (m / 2 ^ r.toNat) 1 (by omega) (by omega)
  rw [e]
  have h3 : m / 2 ^ r.toNat % 2 = 1 := by
    have h4 : (m / 2 ^ r.toNat) % 2 = 1 := by
      rw [Nat.testBit, Nat.shiftRight_eq_div_pow] at hb
      have h5 : 1 &&& m / 2 ^ r.toNat = m / 2 ^ r.toNat % 2 := by rw [Nat.and_comm]; exact Nat.and_one_is_mod _
      rw [h5] at hb
      have h6 : m / 2 ^ r.toNat % 2 < 2 := Nat.mod_lt _ (by omega)
      rcases (by omega : m / 2 ^ r.toNat % 2 = 0 ∨ m / 2 ^ r.toNat % 2 = 1) with h7 | h7
      · rw [h7] at hb; simp at hb
      · exact h7
    exact h4
  rw [Nat.and_one_is_mod, h3] at h2
  simpa using h2
theorem progE_of' {p : List Fnc} (h : checkP p = 0) : progE p = 0 := by
  unfold checkP at h
  by_cases hE : progE p = 0
  · exact hE
  · rw [if_pos hE] at h; exact absurd h hE
set_option maxRecDepth 100000 in
set_option maxHeartbeats 8000000 in
theorem proofSafe_walk (A : Option Addr) (l : List Fnc) (cap : Nat) (a0 a1 : Int) (YA : Option Addr) (ans : List Int) (ycap : Nat) (fuel : Int) (w : World) (ht : Tab w) (hraw : RawsAt w A l) (hln : (l.length : Int) ≤ 9223372036854775807) (hin : InOk w a0 a1 YA ans ycap fuel) :
    Calls Tryd.prog 8 #[.slice A l.length cap, .agg #[.int .i64 a0, .int .i64 a1, .slice YA ans.length ycap, .int .i64 fuel]] w fun e w' => e = .returned (.bool true) ∧ Below w.heap.size w w' := by
  have HT := Lib.hid ht
  have HR := Lib.hid hraw
  have HIN := Lib.hid hin
  have hright := mkP_right l
  clear ht hraw hin
  go_enter Tryd.func8, Tryd.ntmps8
  go_wp2_with fail
  obtain ⟨wi, hwi⟩ : ∃ wi, w.alloc (.cells #[.int .i64 a0, .int .i64 a1, .slice YA ans.length ycap, .int .i64 fuel] 46) = wi := ⟨_, rfl⟩
  have HBI : Hid (Below w.heap.size w wi) := Lib.hid (hwi ▸ (Below.refl _ w).alloc (Nat.le_refl _) _)
  have HIB : Hid (wi.heap[w.heap.size]? = some (.cells #[.int .i64 a0, .int .i64 a1, .slice YA ans.length ycap, .int .i64 fuel] 46 (0, 0))) := Lib.hid (hwi ▸ heap_alloc_new w _)
  rw [hwi]
  refine (program_any A cap l _ (HT.out.keeps HBI.out) hln (HR.out.keeps HBI.out)).mono ?_
  rintro e w1 ⟨⟨A1, cap1, vs, rfl, hpv⟩, hb1⟩
  have HP := Lib.hid hpv.at
  have HBW := Lib.hid (HBI.out.trans (hb1.mono HBI.out.size))
  have HT1 := Lib.hid (HT.out.keeps HBW.out)
  have hib := (hb1.block _ (block_lt HIB.out)).trans HIB.out
  have i0 := (cell_block hib 0).trans rfl
  have i1 := (cell_block hib 1).trans rfl
  have i2 := (cell_block hib 2).trans rfl
  have i3 := (cell_block hib 3).trans rfl
  have zi := block_lt hib
  clear hpv hb1 hwi HBI HIB hib vs
  generalize mkP l = p at *
  have hp := right_of hright
  have HG := Lib.hid (hright)
  have HRP := Lib.hid hp
  have HBG := Lib.hid (fun (W : World) (hb : Below w1.heap.size w1 W) => kbegin_any hright a0 a1 fuel ans YA ycap A1 cap1 W (HT1.out.keeps hb) (HP.out.keeps hb) ((HIN.out.row.keeps HBW.out).keeps hb) HIN.out.len HIN.out.cap HIN.out.fuel)
  have hi0 := inSt_inv hp a0 a1 ans fuel
  obtain ⟨g0, hg0, hgz, hfirst⟩ : ∃ g, A1 = some ⟨g, 0, none⟩ ∧ g < w1.heap.size ∧ ∀ (i : Nat) (F : Fnc), p[i]? = some F → w1.cell? ⟨g, i * 3, none⟩ = some (.int .i64 F.params) := by
    obtain ⟨A0, cap0, hA0, hA⟩ := HP.out.slice
    simp only [Value.slice.injEq, true_and] at hA0
    obtain ⟨gp, hAg, hgp, hfn⟩ := hA (by have := hp.ok.l1; omega)
    exact ⟨gp, by rw [hA0.1, hAg], hgp, fun i F hF => by obtain ⟨u, hu, c0, -, -⟩ := hfn i F hF; exact c0⟩
  subst hg0
  have HPAR := Lib.hid (fun (W : World) (hb : Below w1.heap.size w1 W) (i : Nat) (F : Fnc) (hF : p[i]? = some F) => (hb.cell (p := ⟨g0, i * 3, none⟩) hgz).trans (hfirst i F hF))
  have HGZ := Lib.hid hgz
  obtain ⟨F0, hF0, hF0e, hF1, hF2⟩ := first_params hp
  have HF0 := Lib.hid hF0
  have hmk := first_mask F0.params hF1 hF2
  have hl1 := hp.ok.l1
  have hl4 := hp.ok.l2
  have hN0 : 0 < p.length := by omega
  obtain ⟨s0, hs0⟩ : ∃ s0, inSt p a0 a1 ans fuel = s0 := ⟨_, rfl⟩
  have hm0 : MInv p s0 [2 ^ F0.params.toNat - 1] := by
    have hFo := hp.ok.fn F0 (List.mem_of_getElem? hF0)
    have hb : 2 ^ F0.params.toNat < 4096 := two_pow_lt (by omega)
    rw [← hs0]
    refine ⟨rfl, fun m hm => by rw [List.mem_singleton.1 hm]; omega, fun j f m mk h1 h2 h3 => ?_⟩
    have hj : j = 0 := by have := (List.getElem?_eq_some_iff.1 h2).1; simp at this; omega
    subst hj
    simp at h2
    have h4 : some (⟨0, 0, inArgs p a0 a1 ++ List.replicate (12 - (inArgs p a0 a1).length) 0⟩ : Fr) = some f := h1
    obtain rfl := Option.some.inj h4
    have h5 : (sureF (fnOf p 0))[0]? = some (some m) := h3
    rw [hF0e, sure_zero hFo.cok hFo.p2] at h5
    have h6 := Option.some.inj (Option.some.inj h5)
    rw [← h2, ← h6]; exact BSub.refl _
  have HM0 := Lib.hid hm0
  rw [hs0] at HBG hi0
  have HI0 := Lib.hid hi0
  have HIK := Lib.hid (fun (k : Nat) => hi0.walk hp k)
  have HNX := Lib.hid (fun (s : St) (hs : StInv p s) (C : List Value) (W : World) (hb : Below w1.heap.size w1 W) (hC : CellsSt C W w1.heap.size s) => snext_c hright (HT1.out.keeps hb) (HP.out.keeps hb) hs hC)
  have HSU := Lib.hid (fun (i : Nat) (F : Fnc) (hF : p[i]? = some F) (W : World) (hb : Below w1.heap.size w1 W) => psure_any p (some ⟨g0, 0, none⟩) cap1 i F W (HT1.out.keeps hb) (HP.out.keeps hb) (progE_of' HG.out) hF)
  have HKR := Lib.hid (fun (x : Ins) (regs n : Int) (W : World) (hb : Below w1.heap.size w1 W) (hx : InsOk x regs n p.length) => kreads_any p (some ⟨g0, 0, none⟩) cap1 x regs n W (HP.out.keeps hb) hx (fun F hF => ⟨(hp.ok.fn F hF).p1, (hp.ok.fn F hF).p2⟩))
  have HPC := Lib.hid (fun (W : World) (hb : Below w1.heap.size w1 W) => pcheck_any p (some ⟨g0, 0, none⟩) cap1 W (HT1.out.keeps hb) (HP.out.keeps hb) (by omega) (fun F hF => by have := (hp.ok.fn F hF).c2; omega))
  rw [hright] at HPC
  clear hs0 hi0 hm0 hF0 hF0e hfirst hgz hl4 hl1
  clear hright
  go_wp2_with fail
  refine (HBG.out _ ((Below.refl _ w1).alloc (Nat.le_refl _) _)).mono ?_
  rintro e w2 ⟨⟨C0, rfl, hC0⟩, hb2⟩
  have HX2 : Hid (Sx w1 w1.heap.size (.slice (some ⟨g0, 0, none⟩) p.length cap1) w2 []) := Lib.hid ((Sx.mk ((Below.refl _ w1).alloc (Nat.le_refl _) _) (heap_alloc_new w1 _) (fun x hx => by simp at hx)).keeps hb2)
  have HC0 := Lib.hid (hC0.base (by simp : w1.heap.size ≤ _))
  have HJ0 := Lib.hid (info_st (HC0.out.len HI0.out.mem))
  have hz := zero_st
  clear hC0 hb2 HBG i0 i1 i2 i3 zi
  obtain ⟨m0, hm0⟩ : ∃ m, 2 ^ F0.params.toNat - 1 = m := ⟨_, rfl⟩
  rw [hm0] at HM0 hmk
  clear hm0
  go_wp2_with (first | (go_at_call 27; go_must (refine (HPC.out _ HX3.out.below).mono ?_; rintro e w4 ⟨rfl, hb4⟩; have HX4 := Lib.hid (HX3.out.keeps hb4); have HB34 := Lib.hid hb4; clear hb4; have cp0 := HPAR.out _ HX4.out.below 0 F0 HF0.out; rw [Nat.zero_mul] at cp0; have zg0 := Nat.lt_of_lt_of_le HGZ.out HX4.out.below.size; have pc4 := HX4.out.pcell; have z4 := HX4.out.lt (.head _); clear pc3)) | (refine wpList_store_mid (by rfl) 50 _ _ (by rfl) w2.heap.size 0 C0.toArray (by rfl) (by rfl) (there_new w2 zeroV _ (by simp [HC0.out.len HI0.out.mem, zeroV_length])) (by simpa using HJ0.out) HC0.out.one ?_; obtain ⟨w3, hw3⟩ : ∃ w3, (w2.alloc (.cells zeroV.toArray 50)).setCells w2.heap.size 0 C0.toArray.toList = w3 := ⟨_, rfl⟩; rw [hw3]; have HX3 : Hid (Sx w1 w1.heap.size (.slice (some ⟨g0, 0, none⟩) p.length cap1) w3 [(w2.heap.size, C0, s0)]) := Lib.hid (hw3 ▸ HX2.out.add HC0.out HI0.out.mem); have pc3 := HX3.out.pcell; have HBN : Hid (Below w2.heap.size w2 w3) := Lib.hid (hw3 ▸ below_setCells (Nat.le_refl _) _ _ _ ((Below.refl _ _).alloc (Nat.le_refl _) _)); clear hw3))
  obtain ⟨w5, hw5⟩ : ∃ W, w4.alloc (.cells #[.int .i64 (m0 : Int)] 3) = W := ⟨_, rfl⟩
  have HB45 : Hid (Below w4.heap.size w4 w5) := Lib.hid (hw5 ▸ (Below.refl _ _).alloc (Nat.le_refl _) _)
  have HS5 : Hid (w5.heap[w4.heap.size]? = some (.cells #[.int .i64 (m0 : Int)] 3 (0, 0))) := Lib.hid (hw5 ▸ heap_alloc_new w4 _)
  rw [hw5]
  have HL5 : Hid (PsL w1 w1.heap.size w2.heap.size (.slice (some ⟨g0, 0, none⟩) p.length cap1) w5 (.slice (some ⟨w4.heap.size, 0, none⟩) [m0].length 1) [m0] C0 s0) := Lib.hid (by
    have hx := HX4.out.keeps HB45.out
    have hz2 := HX3.out.lt (.head _)
    have hz3 := HX4.out.lt (.head _)
    refine ⟨hx.below, hx.pblk, (hx.sts _ (.head _)).1, ⟨by simp [intsV, natI], .inr ⟨w4.heap.size, 1, _, rfl, by omega, HS5.out, Nat.le_refl _, by unfold maxLen; omega, by simp, by simp [intsV, natI]⟩⟩, ⟨Nat.le_refl _, block_lt HX2.out.pblk⟩, fun w' ho => cells_from HC0.out fun k o _ hk => ?_⟩
    have hkl := block_lt hk
    refine ho k o (by omega) (by intro e; have h0 : w4.heap.size = k := (by simpa [Value.ownBlock] using e); have h1 := HBN.out.size; have h2 := HB34.out.size; omega) ?_
    rw [HB45.out.block k (by have h1 := HBN.out.size; have h2 := HB34.out.size; omega), HB34.out.block k (by have h1 := HBN.out.size; omega), HBN.out.block k hkl]; exact hk)
  have HLK : Hid (PsL w1 w1.heap.size w2.heap.size (.slice (some ⟨g0, 0, none⟩) p.length cap1) w5 (.slice (some ⟨w4.heap.size, 0, none⟩) [m0].length 1) [m0] C0 (walkSt p 0 s0) ∧ MInv p (walkSt p 0 s0) [m0]) := Lib.hid ⟨HL5.out, HM0.out⟩
  clear hw5 HL5 HS5 HB45 HB34 HX4 HX3 HBN HC0 HJ0 cp0 zg0 pc4 z4 hmk HX2
  obtain ⟨sb, hsb⟩ : ∃ sb, w2.heap.size = sb := ⟨_, rfl⟩
  rw [hsb] at HLK ⊢
  clear hsb
  go_loopw [8, 9] (fun vs v wr => ∃ (k : Nat) (SV : Value) (ms : List Nat) (C : List Value), k ≤ 400 ∧ v = .int .i64 (k : Int) ∧ vs = SV ∧ PsL w1 w1.heap.size sb (.slice (some ⟨g0, 0, none⟩) p.length cap1) wr SV ms C (walkSt p k s0) ∧ MInv p (walkSt p k s0) ms) (fun _ v _ => 400 - (intOf v).toNat)
  case atStart => exact ⟨0, _, [m0], C0, by omega, rfl, rfl, HLK.out.1, HLK.out.2⟩
  case round =>
    obtain ⟨k, SV, ms, C, hk, rfl, rfl, hL, hM⟩ := hrel
    clear HLK
    have HL := Lib.hid hL
    have HM := Lib.hid hM
    have HX5 := Lib.hid hL.sx
    have HIk0 := HIK.out k
    have hwk := walkSt_succ k s0 (p := p)
    obtain ⟨sk, hsk⟩ : ∃ s, walkSt p k s0 = s := ⟨_, rfl⟩
    rw [hsk] at HL HX5 HIk0 hwk HM
    have HIk := Lib.hid HIk0
    have HCk := Lib.hid (HX5.out.sts _ (.head _)).2
    have HJk := Lib.hid (info_st (HCk.out.len HIk.out.mem))
    have pc5 := HX5.out.pcell
    obtain ⟨FA, fa, EA, ea, AA, aa, hA⟩ := HCk.out.cin HIk.out.mem (fun f hf => (HIk.out.fr f hf).regs)
    have c0 := (HX5.out.cell (.head _) 0).trans hA.c0
    have zk := HX5.out.lt (.head _)
    clear hL hM HIk0 hA hsk
    have hFIN := HBW.out.trans (HX5.out.below.mono HBW.out.size)
    have HFIN := Lib.hid hFIN
    by_cases hk4 : k = 400
    · subst hk4
      clear hwk hFIN
      go_wp2_with fail
      go_ret
      exact ⟨rfl, HFIN.out⟩
    have hk1 : (k : Int) < 400 := by omega
    by_cases hst : sk.status = 0
    · have hkw : IntKind.i64.wrap ((k : Int) + 1) = k + 1 := by rw [IntKind.wrap_i64]; omega
      rw [hst] at c0
      clear hFIN hk4
      obtain ⟨s2, hs2⟩ : ∃ s, nextSt p sk = s := ⟨_, rfl⟩
      have hs2s : stepSt p sk = s2 := by rw [← hs2, nxt_run hst]
      have HI2 : Hid (StInv p s2) := Lib.hid (by rw [← hs2, ← hwk]; exact HIK.out (k + 1))
      have HN1 := Lib.hid (HNX.out sk HIk.out)
      rw [hs2] at HN1 hwk
      have HW2 := Lib.hid hwk
      obtain ⟨fs, f, hf⟩ := HIk.out.running hst
      have HFS := Lib.hid hf
      obtain ⟨l, mk, hms, hll, hmk⟩ := HM.out.split hf
      have HMN : Hid (MInv p s2 (nextM p sk ms)) := Lib.hid (by rw [← hs2s]; exact MInv.step HG.out HIk.out hst HM.out)
      have HS2S := Lib.hid hs2s
      have HST0 := Lib.hid hst
      have HMS := Lib.hid hms
      have HLL := Lib.hid hll
      have hmlen : ms.length = fs.length + 1 := by rw [hms]; simp [hll]
      clear hs2 hwk hf hs2s hms hll
      obtain ⟨FA, fa, EA, ea, AA, aa, hA⟩ := HX5.out.cin (.head _) HIk.out
      have hfo : FrOk p f := HIk.out.fr f (by rw [HFS.out]; simp)
      have HFO := Lib.hid hfo
      obtain ⟨g, hFA, gz, rF⟩ := top_range hA HFS.out hfo.regs
      obtain ⟨kf, hkf⟩ : ∃ kf, fs.length = kf := ⟨_, rfl⟩
      have HKF := Lib.hid hkf
      have hnl : sk.frames.length = kf + 1 := by rw [HFS.out, ← hkf]; simp
      have HNL := Lib.hid hnl
      have hdp := HIk.out.deep
      obtain ⟨nf, hn⟩ : ∃ nf, sk.frames.length = nf := ⟨_, rfl⟩
      have HN := Lib.hid hn
      have c2 := hA.c2
      rw [hn, hFA] at c2
      have HCF2 := Lib.hid c2
      rw [hn] at hnl hdp
      rw [hkf] at rF
      have hk0 : (0 : Int) ≤ kf := by omega
      have hk1 : (kf : Int) < nf := by omega
      have hk2 : (nf : Int) ≤ 8 := by omega
      have hwn : IntKind.i64.wrap ((nf : Int) - 1) = (kf : Int) := by rw [IntKind.wrap_i64]; omega
      have hFl : (frCell f).length = 14 := frCell_length hfo.regs
      have HFL := Lib.hid hFl
      have HFI : Hid ((Tryd.prog.info? 60).map (·.size) = some (frCell f).length) := Lib.hid (by rw [hFl]; exact info_fr)
      have HFO1 : Hid ((frCell f).toArray.all (·.oneCell') = true) := Lib.hid (all_oneCell_toArray (fun v hv => frCells_cell (l := [f]) v (by rw [frCells_one]; exact hv)))
      have HF0 : Hid ((frCell f)[0]? = some (.int .i64 f.fn)) := Lib.hid rfl
      have HF1 : Hid ((frCell f)[1]? = some (.int .i64 f.pc)) := Lib.hid rfl
      have HFG := Lib.hid (fun (r : Int) (h0 : 0 ≤ r) (h1 : r < 12) => frCell_reg hfo.regs h0 h1)
      obtain ⟨pg, PC, CA, ccap, cg, M, hpv, hpg, hfn1, -, d2, rfl, hcg, hM, hpc1, d40, d41, d42, d43, d44⟩ := ins_at HP.out hfo
      simp only [Value.slice.injEq, Option.some.injEq, Addr.mk.injEq, true_and, and_true] at hpv
      obtain ⟨hpg1, -⟩ := hpv
      subst hpg1
      have hO := HRP.out.ins hfo
      have hF := HRP.out.fnok hfo
      have HO := Lib.hid hO
      have x1 := hO.op1
      have x2 := hO.op2
      have xa0 := hO.a1
      have xa1 : (insOf p f).a < 12 := by have := hO.a2; have := hF.r2; omega
      have xb0 := hO.b1
      have xb1 : (insOf p f).b < 12 := by have := hO.b2; have := hF.r2; omega
      have xd0 := hO.dst1
      have xd1 : (insOf p f).dst < 12 := by have := hO.dst2; have := hF.r2; omega
      have fn0 := hfo.fn0
      have pc0 := hfo.pc0
      have fnb : decide (f.fn < 0) = false := by simpa using fn0
      obtain ⟨F, hF'⟩ : ∃ F, frCell f = F := ⟨_, rfl⟩
      rw [hF'] at HFL HFI HFO1 HF0 HF1 HFG rF hFl
      have HFF := Lib.hid hF'
      have HRF := Lib.hid (fun (W : World) (hb : Below wr.heap.size wr W) => range_below rF gz hb)
      clear hF' hA rF c2 hfo hFA hkf hn hO hF hM
      rw [HKF.out, ← hnl] at hmlen
      have hMs := HL.out.lies (by omega)
      obtain ⟨gs, scap, hsv, hgs1, hgs2, hsc, hsfz, hscell⟩ := hMs
      rw [hmlen] at hsv
      subst hsv
      have HNLK := Lib.hid hnl
      clear hnl
      have hsl : (wr.cell? ⟨gs, kf, none⟩ = some (.int .i64 (mk : Int))) := hscell kf mk (by rw [HMS.out, ← HKF.out, ← HLL.out]; simp)
      have HSL := Lib.hid hsl
      have HSFZ := Lib.hid hsfz
      have HSC := Lib.hid hsc
      have a2 := (HX5.out.cell (.head _) 2).trans HCF2.out
      have rF := HRF.out _ (Below.refl _ _)
      clear hscell hsfz hsl hsc
      go_wp2_with (first | (refine wpList_load_mid (by rfl) 60 _ (by rfl) g (kf * 14) (by rfl) F _ rF Tryd.underlying60 (by rfl) HFI.out ?_) | (refine wpList_store_mid (by rfl) 60 _ _ (by rfl) wr.heap.size 0 F.toArray (by rfl) (by rfl) (there_new wr [.int .i64 0, .int .i64 0, .int .i64 0, .int .i64 0, .int .i64 0, .int .i64 0, .int .i64 0, .int .i64 0, .int .i64 0, .int .i64 0, .int .i64 0, .int .i64 0, .int .i64 0, .int .i64 0] _ (by simp [HFL.out])) (by simpa using HFI.out) HFO1.out ?_; obtain ⟨w7, hw7⟩ : ∃ w7, (wr.alloc (.cells (List.toArray [.int .i64 0, .int .i64 0, .int .i64 0, .int .i64 0, .int .i64 0, .int .i64 0, .int .i64 0, .int .i64 0, .int .i64 0, .int .i64 0, .int .i64 0, .int .i64 0, .int .i64 0, .int .i64 0]) 60)).setCells wr.heap.size 0 F.toArray.toList = w7 := ⟨_, rfl⟩; rw [hw7]; have HBT : Hid (Below wr.heap.size wr w7) := Lib.hid (hw7 ▸ below_setCells (Nat.le_refl _) _ _ _ ((Below.refl _ _).alloc (Nat.le_refl _) _)); have HX7 := Lib.hid (HX5.out.keeps HBT.out); have HTB : Hid (w7.heap[wr.heap.size]? = some (.cells F.toArray 60 (0, 0))) := Lib.hid (hw7 ▸ block_full (heap_alloc_new _ _) _ (by simp [HFL.out])); have HL7 := Lib.hid (HL.out.keeps HBT.out); have pc7 := HX7.out.pcell; clear hw7 a2 rF pc5 c0 zk))
      have e2 := (HX7.out.below.cell (p := ⟨g0, _, none⟩) hpg).trans d2
      have e40 := (HX7.out.below.cell (p := ⟨cg, _, none⟩) hcg).trans d40
      have e41 := (HX7.out.below.cell (p := ⟨cg, _, none⟩) hcg).trans d41
      have e42 := (HX7.out.below.cell (p := ⟨cg, _, none⟩) hcg).trans d42
      have e43 := (HX7.out.below.cell (p := ⟨cg, _, none⟩) hcg).trans d43
      have e44 := (HX7.out.below.cell (p := ⟨cg, _, none⟩) hcg).trans d44
      have ep := HX7.out.pcell
      have et0 := (cell_block HTB.out 0).trans (List.getElem?_toArray.trans HF0.out)
      have et1 := (cell_block HTB.out 1).trans (List.getElem?_toArray.trans HF1.out)
      have hz1 := HX7.out.below.size
      have hzp := block_lt HX7.out.pblk
      have hzt := block_lt HTB.out
      have KS := Lib.hid (fun (w' : World) (hb : Below w7.heap.size w7 w') => (⟨(hb.cell (p := ⟨w1.heap.size, 0, none⟩) hzp).trans ep, (hb.cell (p := ⟨wr.heap.size, 0, none⟩) hzt).trans et0, (hb.cell (p := ⟨wr.heap.size, 1, none⟩) hzt).trans et1, (hb.cell (p := ⟨g0, _, none⟩) (by show g0 < _; omega)).trans e2, (hb.cell (p := ⟨cg, _, none⟩) (by show cg < _; omega)).trans e40, (hb.cell (p := ⟨cg, _, none⟩) (by show cg < _; omega)).trans e41, (hb.cell (p := ⟨cg, _, none⟩) (by show cg < _; omega)).trans e42, (hb.cell (p := ⟨cg, _, none⟩) (by show cg < _; omega)).trans e43, (hb.cell (p := ⟨cg, _, none⟩) (by show cg < _; omega)).trans e44⟩ :
          w'.cell? ⟨w1.heap.size, 0, none⟩ = some (.slice (some ⟨g0, 0, none⟩) p.length cap1) ∧ w'.cell? ⟨wr.heap.size, 0, none⟩ = some (.int .i64 f.fn) ∧ w'.cell? ⟨wr.heap.size, 1, none⟩ = some (.int .i64 f.pc) ∧ w'.cell? ⟨g0, f.fn.toNat * 3 + 2, none⟩ = some (.slice (some ⟨cg, 0, none⟩) M ccap) ∧ w'.cell? ⟨cg, f.pc.toNat * 5, none⟩ = some (.int .i64 (insOf p f).op) ∧ w'.cell? ⟨cg, f.pc.toNat * 5 + 1, none⟩ = some (.int .i64 (insOf p f).dst) ∧ w'.cell? ⟨cg, f.pc.toNat * 5 + 2, none⟩ = some (.int .i64 (insOf p f).a) ∧ w'.cell? ⟨cg, f.pc.toNat * 5 + 3, none⟩ = some (.int .i64 (insOf p f).b) ∧ w'.cell? ⟨cg, f.pc.toNat * 5 + 4, none⟩ = some (.int .i64 (insOf p f).imm)))
      clear e2 e40 e41 e42 e43 e44 ep et0 et1 hz1 hzp hzt d2 d40 d41 d42 d43 d44
      refine wp_region_held_drew (S := fun w' => w'.cell? ⟨w1.heap.size, 0, none⟩ = some (.slice (some ⟨g0, 0, none⟩) p.length cap1) ∧ w'.cell? ⟨wr.heap.size, 0, none⟩ = some (.int .i64 f.fn) ∧ w'.cell? ⟨wr.heap.size, 1, none⟩ = some (.int .i64 f.pc) ∧ w'.cell? ⟨g0, f.fn.toNat * 3 + 2, none⟩ = some (.slice (some ⟨cg, 0, none⟩) M ccap) ∧ w'.cell? ⟨cg, f.pc.toNat * 5, none⟩ = some (.int .i64 (insOf p f).op) ∧ w'.cell? ⟨cg, f.pc.toNat * 5 + 1, none⟩ = some (.int .i64 (insOf p f).dst) ∧ w'.cell? ⟨cg, f.pc.toNat * 5 + 2, none⟩ = some (.int .i64 (insOf p f).a) ∧ w'.cell? ⟨cg, f.pc.toNat * 5 + 3, none⟩ = some (.int .i64 (insOf p f).b) ∧ w'.cell? ⟨cg, f.pc.toNat * 5 + 4, none⟩ = some (.int .i64 (insOf p f).imm)) (by kernel_rfl) (KS.out _ (Below.refl _ _).drew) (fun hHeld => ?_)
      refine wpAnyH_take (i := 0) (v := .pointer (some ⟨w1.heap.size, 0, none⟩)) rfl (by kernel_rfl) (by kernel_rfl) (by kernel_rfl) (fun _ _ _ h => h) (Or.inl ⟨by rfl, ?_⟩) hHeld ?_
      · intro w hSw
        obtain ⟨q0, q1, q2, q3, q4, q5, q6, q7, q8⟩ := hSw
        simp only [List.getElem_toArray, List.getElem_cons_zero]
        go_simp
      simp only [Act.put, List.getElem_toArray, List.getElem_cons_zero, List.setIfInBounds_toArray, List.set_cons_zero, List.set_cons_succ]
      refine wpAnyH_take (i := 1) (v := .slice (some ⟨g0, 0, none⟩) p.length cap1) rfl (by kernel_rfl) (by kernel_rfl) (by kernel_rfl) (fun _ _ _ h => h) (Or.inl ⟨by rfl, ?_⟩) hHeld ?_
      · intro w hSw
        obtain ⟨q0, q1, q2, q3, q4, q5, q6, q7, q8⟩ := hSw
        simp only [List.getElem_toArray, List.getElem_cons_zero, List.getElem_cons_succ]
        go_simp
      simp only [Act.put, List.getElem_toArray, List.getElem_cons_zero, List.getElem_cons_succ, List.setIfInBounds_toArray, List.set_cons_zero, List.set_cons_succ]
      refine wpAnyH_take (i := 2) (v := .pointer (some ⟨wr.heap.size, 0, none⟩)) rfl (by kernel_rfl) (by kernel_rfl) (by kernel_rfl) (fun _ _ _ h => h) (Or.inl ⟨by rfl, ?_⟩) hHeld ?_
      · intro w hSw
        obtain ⟨q0, q1, q2, q3, q4, q5, q6, q7, q8⟩ := hSw
        simp only [List.getElem_toArray, List.getElem_cons_zero, List.getElem_cons_succ]
        go_simp
      simp only [Act.put, List.getElem_toArray, List.getElem_cons_zero, List.getElem_cons_succ, List.setIfInBounds_toArray, List.set_cons_zero, List.set_cons_succ]
      refine wpAnyH_take (i := 3) (v := .int .i64 f.fn) rfl (by kernel_rfl) (by kernel_rfl) (by kernel_rfl) (fun _ _ _ h => h) (Or.inl ⟨by rfl, ?_⟩) hHeld ?_
      · intro w hSw
        obtain ⟨q0, q1, q2, q3, q4, q5, q6, q7, q8⟩ := hSw
        simp only [List.getElem_toArray, List.getElem_cons_zero, List.getElem_cons_succ]
        go_simp
      simp only [Act.put, List.getElem_toArray, List.getElem_cons_zero, List.getElem_cons_succ, List.setIfInBounds_toArray, List.set_cons_zero, List.set_cons_succ]
      refine wpAnyH_take (i := 4) (v := .pointer (some ⟨g0, f.fn.toNat * 3, none⟩)) rfl (by kernel_rfl) (by kernel_rfl) (by kernel_rfl) (fun _ _ _ h => h) (Or.inl ⟨by rfl, ?_⟩) hHeld ?_
      · intro w hSw
        obtain ⟨q0, q1, q2, q3, q4, q5, q6, q7, q8⟩ := hSw
        simp only [List.getElem_toArray, List.getElem_cons_zero, List.getElem_cons_succ]
        go_simp
      simp only [Act.put, List.getElem_toArray, List.getElem_cons_zero, List.getElem_cons_succ, List.setIfInBounds_toArray, List.set_cons_zero, List.set_cons_succ]
      refine wpAnyH_take (i := 5) (v := .pointer (some ⟨g0, f.fn.toNat * 3 + 2, none⟩)) rfl (by kernel_rfl) (by kernel_rfl) (by kernel_rfl) (fun _ _ _ h => h) (Or.inl ⟨by rfl, ?_⟩) hHeld ?_
      · intro w hSw
        obtain ⟨q0, q1, q2, q3, q4, q5, q6, q7, q8⟩ := hSw
        simp only [List.getElem_toArray, List.getElem_cons_zero, List.getElem_cons_succ]
        go_simp
      simp only [Act.put, List.getElem_toArray, List.getElem_cons_zero, List.getElem_cons_succ, List.setIfInBounds_toArray, List.set_cons_zero, List.set_cons_succ]
      refine wpAnyH_take (i := 6) (v := .slice (some ⟨cg, 0, none⟩) M ccap) rfl (by kernel_rfl) (by kernel_rfl) (by kernel_rfl) (fun _ _ _ h => h) (Or.inl ⟨by rfl, ?_⟩) hHeld ?_
      · intro w hSw
        obtain ⟨q0, q1, q2, q3, q4, q5, q6, q7, q8⟩ := hSw
        simp only [List.getElem_toArray, List.getElem_cons_zero, List.getElem_cons_succ]
        go_simp
      simp only [Act.put, List.getElem_toArray, List.getElem_cons_zero, List.getElem_cons_succ, List.setIfInBounds_toArray, List.set_cons_zero, List.set_cons_succ]
      refine wpAnyH_take (i := 7) (v := .pointer (some ⟨wr.heap.size, 1, none⟩)) rfl (by kernel_rfl) (by kernel_rfl) (by kernel_rfl) (fun _ _ _ h => h) (Or.inl ⟨by rfl, ?_⟩) hHeld ?_
      · intro w hSw
        obtain ⟨q0, q1, q2, q3, q4, q5, q6, q7, q8⟩ := hSw
        simp only [List.getElem_toArray, List.getElem_cons_zero, List.getElem_cons_succ]
        go_simp
      simp only [Act.put, List.getElem_toArray, List.getElem_cons_zero, List.getElem_cons_succ, List.setIfInBounds_toArray, List.set_cons_zero, List.set_cons_succ]
      refine wpAnyH_take (i := 8) (v := .int .i64 f.pc) rfl (by kernel_rfl) (by kernel_rfl) (by kernel_rfl) (fun _ _ _ h => h) (Or.inl ⟨by rfl, ?_⟩) hHeld ?_
      · intro w hSw
        obtain ⟨q0, q1, q2, q3, q4, q5, q6, q7, q8⟩ := hSw
        simp only [List.getElem_toArray, List.getElem_cons_zero, List.getElem_cons_succ]
        go_simp
      simp only [Act.put, List.getElem_toArray, List.getElem_cons_zero, List.getElem_cons_succ, List.setIfInBounds_toArray, List.set_cons_zero, List.set_cons_succ]
      refine wpAnyH_take (i := 9) (v := .pointer (some ⟨cg, f.pc.toNat * 5, none⟩)) rfl (by kernel_rfl) (by kernel_rfl) (by kernel_rfl) (fun _ _ _ h => h) (Or.inl ⟨by rfl, ?_⟩) hHeld ?_
      · intro w hSw
        obtain ⟨q0, q1, q2, q3, q4, q5, q6, q7, q8⟩ := hSw
        simp only [List.getElem_toArray, List.getElem_cons_zero, List.getElem_cons_succ]
        go_simp
      simp only [Act.put, List.getElem_toArray, List.getElem_cons_zero, List.getElem_cons_succ, List.setIfInBounds_toArray, List.set_cons_zero, List.set_cons_succ]
      refine wpAnyH_take (i := 10) (v := .agg (List.toArray [.int .i64 (insOf p f).op, .int .i64 (insOf p f).dst, .int .i64 (insOf p f).a, .int .i64 (insOf p f).b, .int .i64 (insOf p f).imm])) rfl (by kernel_rfl) (by kernel_rfl) (by kernel_rfl) (fun _ _ _ h => h) (Or.inl ⟨by rfl, ?_⟩) hHeld ?_
      · intro w hSw
        obtain ⟨q0, q1, q2, q3, q4, q5, q6, q7, q8⟩ := hSw
        simp only [List.getElem_toArray, List.getElem_cons_zero, List.getElem_cons_succ]
        go_simp
      simp only [Act.put, List.getElem_toArray, List.getElem_cons_zero, List.getElem_cons_succ, List.setIfInBounds_toArray, List.set_cons_zero, List.set_cons_succ]
      refine wpAnyH_ready (rs := [11]) (by kernel_rfl) (by simp) ?_
      refine AllReadyH.cons rfl (fun K hK => ?_) AllReadyH.nil
      simp only [List.getElem_toArray, List.getElem_cons_zero, List.getElem_cons_succ]
      go_simp
      refine hK.out _ _ (KS.out _ ((Below.refl _ _).drew.alloc (Nat.le_refl _) _)) (fun hHeld => ?_)
      clear hK K
      refine wpAnyH_ready (rs := [12]) (by kernel_rfl) (by simp) ?_
      refine AllReadyH.cons rfl (fun K hK => ?_) AllReadyH.nil
      simp only [List.getElem_toArray, List.getElem_cons_zero, List.getElem_cons_succ]
      rw [if_pos (by rfl)]
      refine wp_store_mid 62 _ _ (by rfl) w7.heap.size 0 (List.toArray [.int .i64 (insOf p f).op, .int .i64 (insOf p f).dst, .int .i64 (insOf p f).a, .int .i64 (insOf p f).b, .int .i64 (insOf p f).imm]) (by rfl) (by rfl) (there_new w7.drew [.int .i64 0, .int .i64 0, .int .i64 0, .int .i64 0, .int .i64 0] _ (Nat.le_refl _)) (by kernel_rfl) (all_oneCell_toArray (by simp [Value.oneCell'])) ?_
      obtain ⟨w8, hw8⟩ : ∃ w8, (w7.drew.alloc (.cells (List.toArray [.int .i64 0, .int .i64 0, .int .i64 0, .int .i64 0, .int .i64 0]) 62)).setCells w7.heap.size 0 (List.toArray [.int .i64 (insOf p f).op, .int .i64 (insOf p f).dst, .int .i64 (insOf p f).a, .int .i64 (insOf p f).b, .int .i64 (insOf p f).imm]).toList = w8 := ⟨_, rfl⟩
      have HBX : Hid (Below w7.heap.size w7 w8) := Lib.hid (hw8 ▸ below_setCells (Nat.le_refl _) _ _ _ ((Below.refl _ _).drew.alloc (Nat.le_refl _) _))
      have HX8 := Lib.hid (HX7.out.keeps HBX.out)
      have HTX := Lib.hid ((HBX.out.block _ (block_lt HTB.out)).trans HTB.out)
      have HXB : Hid (w8.heap[w7.heap.size]? = some (.cells (List.toArray [.int .i64 (insOf p f).op, .int .i64 (insOf p f).dst, .int .i64 (insOf p f).a, .int .i64 (insOf p f).b, .int .i64 (insOf p f).imm]) 62 (0, 0))) := Lib.hid (hw8 ▸ block_full (heap_alloc_new w7.drew _) _ rfl)
      refine hK.out _ _ (by have := KS.out w8 HBX.out; rw [← hw8] at this; exact this) (fun hHeld => ?_)
      clear hK K hHeld KS
      refine wpAnyH_done (by kernel_rfl) ?_ _
      have hwq : (w7.alloc (.cells (List.toArray [.int .i64 0, .int .i64 0, .int .i64 0, .int .i64 0, .int .i64 0]) 62)).drew.setCells w7.heap.size 0 [.int .i64 (insOf p f).op, .int .i64 (insOf p f).dst, .int .i64 (insOf p f).a, .int .i64 (insOf p f).b, .int .i64 (insOf p f).imm] = w8 := hw8
      rw [hwq]
      clear hwq hw8 pc7
      have HL8 := Lib.hid (HL7.out.keeps HBX.out)
      have pc8 := HX8.out.pcell
      have zp8 := block_lt HX8.out.pblk
      have z8s := HX8.out.lt (.head _)
      have z8f := block_lt HTX.out
      have z8i := block_lt HXB.out
      have HB8 := Lib.hid (HBT.out.trans (HBX.out.mono HBT.out.size))
      have t0 := (cell_block HTX.out 0).trans (List.getElem?_toArray.trans HF0.out)
      obtain ⟨F, mF, hF1', hF2', hF3', hF4'⟩ := HFO.out.parts
      obtain ⟨kfn, hkfn⟩ : ∃ n : Nat, f.fn = n := ⟨f.fn.toNat, by omega⟩
      have hkfn2 : f.fn.toNat = kfn := by omega
      rw [hkfn2] at hF1'
      have HS1 := Lib.hid (HSU.out kfn F hF1')
      rw [← hkfn] at HS1
      have hok1 := HRP.out.ok.fn F (List.mem_of_getElem? hF1')
      have hslen := sureF_length hok1.cok hok1.p2
      have hmF4 := sureF_mask hok1.cok hok1.p2 f.pc.toNat mF hF3'
      have HF1' := Lib.hid hF1'
      have HF2' := Lib.hid hF2'
      have HF3' := Lib.hid hF3'
      have HF4' := Lib.hid hF4'
      have hpcM : f.pc.toNat < F.code.length := (List.getElem?_eq_some_iff.1 hF4').1
      have hc40 := hok1.c2
      have hsubm : BSub mF mk := HM.out.sub fs.length f mF mk (by rw [HFS.out]; simp) (by rw [HMS.out, ← HLL.out]; simp) (by rw [hF2']; exact hF3')
      obtain ⟨MF, hMF⟩ : ∃ n, F.code.length = n := ⟨_, rfl⟩
      rw [hMF] at HS1 hpcM hslen hc40
      have hpcM2 : f.pc < MF := by omega
      have HKFN := Lib.hid hkfn
      clear hF1' hF2' hF3' hF4' hok1 hMF hkfn hkfn2
      go_wp2_with fail
      refine (HS1.out _ HX8.out.below).mono ?_
      rintro e w9 ⟨⟨b1, rfl, hb1, hIB⟩, hb9⟩
      have HX9 := Lib.hid (HX8.out.keeps hb9)
      have HL9 := Lib.hid (HL8.out.keeps hb9)
      have HTX9 := Lib.hid ((hb9.block _ z8f).trans HTX.out)
      have HXB9 := Lib.hid ((hb9.block _ z8i).trans HXB.out)
      have HIB := Lib.hid hIB
      have co := hIB.cell (outL_get HF3'.out)
      have hoI : oI (some mF) = (mF : Int) := rfl
      rw [hoI] at co
      clear hoI
      have hge0 : decide ((mF : Int) < 0) = false := by simp
      have zb1 := hIB.lt
      have cf1 := (cell_block HTX9.out 1).trans (List.getElem?_toArray.trans HF1.out)
      have HB89 := Lib.hid (HB8.out.trans (hb9.mono HB8.out.size))
      have csl := (HB89.out.cell (p := ⟨gs, kf, none⟩) hgs2).trans HSL.out
      have zgs9 : gs < w9.heap.size := Nat.lt_of_lt_of_le hgs2 HB89.out.size
      have z9f := block_lt HTX9.out
      have hand := andNot_nat mF mk (by omega) (by omega)
      have hsub0 : mF - (mF &&& mk) = 0 := by rw [hsubm]; omega
      rw [hsub0] at hand
      have hle1 : decide ((MF : Int) ≤ f.pc) = false := by simp; omega
      clear pc8 zp8 z8s z8f z8i t0 hb1 hIB hb9
      go_wp2_with fail
      go_quiet (fail)
      have i0 := (cell_block HXB9.out 0).trans rfl
      have i1 := (cell_block HXB9.out 1).trans rfl
      have i2 := (cell_block HXB9.out 2).trans rfl
      have i3 := (cell_block HXB9.out 3).trans rfl
      have i4 := (cell_block HXB9.out 4).trans rfl
      have z9i := block_lt HXB9.out
      have pc9 := HX9.out.pcell
      have zp9 := block_lt HX9.out.pblk
      go_wp2_with fail
      clear co zb1 cf1 csl zgs9 z9f hand hle1 hge0
      refine (HKR.out (insOf p f) (fnOf p f.fn).regs (fnOf p f.fn).code.length _ (HX9.out.drewN _).below HO.out).mono ?_
      rintro e w10 ⟨⟨vr, rfl, hvr⟩, hb10⟩
      obtain ⟨RA, rcap, rfl, hRA⟩ := own_ints hvr
      have HB910 := Lib.hid ((below_drewN (Below.refl w9.heap.size w9) _).trans hb10)
      have HX10 := Lib.hid (HX9.out.keeps HB910.out)
      have HL10 := Lib.hid (HL9.out.keeps HB910.out)
      have HTX10 := Lib.hid ((HB910.out.block _ (block_lt HTX9.out)).trans HTX9.out)
      have HXB10 := Lib.hid ((HB910.out.block _ (block_lt HXB9.out)).trans HXB9.out)
      have HRA := Lib.hid hRA
      have hpar := par_le HRP.out (insOf p f)
      have HBIT := Lib.hid (fun (r : Int) (hr : r ∈ rdL (insOf p f) (parOf p (insOf p f))) => rd_bit HO.out hpar.1 hpar.2 (by have := (HRP.out.fnok HFO.out).r2; exact this) hr)
      have hsubr : BSub (readsM (insOf p f) (parOf p (insOf p f))) mk := (Right.reads HG.out (List.mem_of_getElem? HF1'.out) HF3'.out HF4'.out).trans hsubm
      have HSUBR := Lib.hid hsubr
      obtain ⟨RL, hRL⟩ : ∃ n, (rdL (insOf p f) (parOf p (insOf p f))).length = n := ⟨_, rfl⟩
      have HRL := Lib.hid hRL
      have hrl2 : RL ≤ 2 := by rw [← hRL]; exact rd_len _ _
      rw [hRL]
      have HB810 := Lib.hid (HB89.out.trans (HB910.out.mono HB89.out.size))
      have csl := (HB810.out.cell (p := ⟨gs, kf, none⟩) hgs2).trans HSL.out
      have zgs := Nat.lt_of_lt_of_le hgs2 HB810.out.size
      have HCSL := Lib.hid csl
      obtain ⟨dR, hdR⟩ : ∃ d, setR (insOf p f) = d := ⟨_, rfl⟩
      rw [hdR]
      have HDR := Lib.hid hdR
      clear i0 i1 i2 i3 i4 z9i pc9 zp9 hvr hb10 hRA hpar hsubr hRL csl hdR
      go_wp2_with fail
      obtain ⟨wo, hwo⟩ : ∃ wo : World, wo = wr := ⟨_, rfl⟩
      subst hwo
      go_loopw [16] (fun v wr => ∃ j : Nat, j ≤ RL ∧ v = .int .i64 (j : Int) ∧ Below w10.heap.size w10 wr) (fun v _ => RL - (intOf v).toNat)
      case atStart => exact ⟨0, by omega, rfl, Below.refl _ _⟩
      case round =>
        obtain ⟨j, hj, rfl, hbj⟩ := hrel
        have HBJ := Lib.hid hbj
        by_cases hjn : j = RL
        · subst hjn
          have HX11 := Lib.hid (HX10.out.keeps hbj)
          have HL11 := Lib.hid (HL10.out.keeps hbj)
          have HTX11 := Lib.hid ((hbj.block _ (block_lt HTX10.out)).trans HTX10.out)
          have HXB11 := Lib.hid ((hbj.block _ (block_lt HXB10.out)).trans HXB10.out)
          have pc11 := HX11.out.pcell
          clear hbj
          go_wp2_with (first | (refine wpList_load_mid (by rfl) 50 _ (by rfl) sb 0 (by rfl) C _ (HX11.out.range (.head _)) Tryd.underlying50 (by rfl) HJk.out ?_))
          refine (HN1.out C _ HX11.out.below (HX11.out.sts _ (.head _)).2).mono ?_
          rintro e u12 ⟨⟨C2, rfl, hC2⟩, hb12⟩
          have HC2t := Lib.hid hC2
          have HX12 := Lib.hid (HX11.out.keeps hb12)
          have HL12 := Lib.hid (HL11.out.keeps hb12)
          have HTX12 := Lib.hid ((hb12.block _ (block_lt HTX11.out)).trans HTX11.out)
          have HXB12 := Lib.hid ((hb12.block _ (block_lt HXB11.out)).trans HXB11.out)
          have HC2 := Lib.hid (hC2.base HX11.out.below.size)
          have HJ2 := Lib.hid (info_st (HC2.out.len HI2.out.mem))
          have HZ12 := Lib.hid hb12.size
          clear hC2 hb12 pc11
          have pc12 := HX12.out.pcell
          have hb10w := Lib.hid (HB810.out.trans (HBJ.out.mono HB810.out.size))
          obtain ⟨n2, hn2⟩ : ∃ n, s2.frames.length = n := ⟨_, rfl⟩
          have HN2 := Lib.hid hn2
          have hd2 := HI2.out.deep
          rw [hn2] at hd2
          clear hn2
          by_cases hA1 : nf < n2
          · have hgt : (nf : Int) < (n2 : Int) := by omega
            obtain ⟨hop, hi0, hi1⟩ : (insOf p f).op = 17 ∧ 0 ≤ (insOf p f).imm ∧ (insOf p f).imm < p.length := by
              have h17 : (insOf p f).op = 17 := step_grows HFS.out (by rw [HS2S.out, HN2.out, HN.out]; exact hA1)
              have hx := HO.out.call h17
              exact ⟨h17, hx.1, hx.2⟩
            obtain ⟨F2, hF2⟩ : ∃ F2, p[(insOf p f).imm.toNat]? = some F2 := ⟨_, List.getElem?_eq_getElem (by omega)⟩
            have hok2 := HRP.out.ok.fn F2 (List.mem_of_getElem? hF2)
            have hmk2 := first_mask F2.params hok2.p1 hok2.p2
            have hpo : parOf p (insOf p f) = F2.params := by unfold parOf; rw [hF2]; rfl
            obtain ⟨mA, hmA⟩ : ∃ m, 2 ^ F2.params.toNat - 1 = m := ⟨_, rfl⟩
            rw [hmA] at hmk2
            have HMA := Lib.hid (show nextM p sk ms = ms ++ [mA] by
              unfold nextM
              rw [HS2S.out, HN2.out, HN.out, if_pos hA1, topFr_eq HFS.out, hpo, hmA])
            have hq0 := hok2.p1
            have hq2 := hok2.p2
            have HCP := Lib.hid (fun (W : World) (hb : Below w1.heap.size w1 W) => HPAR.out W hb _ F2 hF2)
            have hms : ms.length = nf := hmlen
            obtain ⟨i0, hi, hz0, hz1, hz2⟩ := info_parts infoIn
            clear hok2 hmA hpo hF2 hop
            go_wp2_with (first | (at_builtin; go_must (refine wpList_append_lies _ rfl _ _ 28 rfl (sb + 1) 3 i0 _ 1 8 Tryd.underlying28 hi hz0 hz1 hz2 rfl (by decide) (.slice (some ⟨gs, 0, none⟩) nf scap) nf (intsV (natI ms)) rfl ((show _ from by have hr := HL13.out.row; rw [hms] at hr; exact hr.alloc _)) ⟨u13.heap.size, 0, none⟩ 1 1 [.int .i64 (mA : Int)] rfl rfl (World.news_of_block (cs := #[.int .i64 (mA : Int)]) (t := 3) (fr := (0, 0)) (heap_alloc_new _ _)) (by simp [Value.oneCell']) (by decide) (by unfold maxLen; omega) (by omega) (by simp; omega) _ rfl ?_; rintro gg cc u15 hown hgr hat hlt15; go_must (have HBA : Below u13.heap.size u13 (u13.alloc (.cells #[.int .i64 (mA : Int)] 3)) := (Below.refl _ _).alloc (Nat.le_refl _) _); go_must (have HL14 := HL13.out.keeps HBA); go_must (have HLA := Lib.hid (PsL.grow HL14 hgr (by rw [hms]; exact hown) hat)); go_must (have hz1 : gs < wr.heap.size := by (have h1 := hgs2; have h2 := hb10w.out.size; omega)); go_must (have hz2 : wr.heap.size ≤ u12.heap.size := HZ12.out); go_must (have hz3 := HBA.size); go_must (have HT16 : Hid (u15.heap[u12.heap.size]? = some (.cells C2.toArray 50 (0, 0))) := Lib.hid ((hgr.block _ (by omega) (fun e => by simp [Value.ownBlock] at e; omega)).trans ((HBA.block _ z13).trans (HX13.out.sts _ (.head _)).1))); go_must (have HAG : Hid (∀ (k : Nat) (o : Obj), wr.heap.size ≤ k → (Value.slice (some ⟨gg, 0, none⟩) (ms ++ [mA]).length cc).ownBlock ≠ some k → u12.heap[k]? = some o → u15.heap[k]? = some o) := Lib.hid (fun k o hk _ hh => by have hl := block_lt hh; have hl2 : k < u13.heap.size := Nat.lt_of_lt_of_le hl HBN13.out.size; exact (hgr.block k (by omega) (fun e => by simp [Value.ownBlock] at e; omega)).trans ((HBA.block k hl2).trans ((HBN13.out.block k hl).trans hh)))); go_must (have HS16 : Hid (∀ k, (Value.slice (some ⟨gg, 0, none⟩) (ms ++ [mA]).length cc).ownBlock = some k → k < wr.heap.size ∨ u12.heap.size ≤ k) := Lib.hid (fun k e => by have e1 : gg = k := (by simpa [Value.ownBlock] using e); have hz4 := HBN13.out.size; rcases hat with h | h; (have e2 : gs = gg := (by simpa [Value.ownBlock] using h); exact .inl (by omega)); exact .inr (by omega))); go_must (have HLP := Lib.hid (HLA.out.put HC2t.out HX11.out.below.size (HX11.out.lt (.head _)) HS16.out HAG.out (HCk.out.len HIk.out.mem) (HC2.out.len HI2.out.mem)); have HR16 := Lib.hid (range_block HT16.out); have zt16 : u12.heap.size < u15.heap.size := block_lt HT16.out; have zs16 : sb < u15.heap.size := block_lt HLA.out.sblk); clear hown hgr hat hlt15)) | (refine wpList_load_mid (by rfl) 50 _ (by rfl) u12.heap.size 0 (by rfl) C2 _ HR16.out Tryd.underlying50 (by rfl) HJ2.out ?_) | (refine wpList_store_mid (by rfl) 50 _ _ (by rfl) sb 0 C2.toArray (by rfl) (by rfl) ?_ ?_ ?_ ?_; go_must (exact there_block HLA.out.sblk (by simp [HC2.out.len HI2.out.mem, HCk.out.len HIk.out.mem])); go_must (simpa using HJ2.out); go_must (exact HC2.out.one); go_must (obtain ⟨u16, hu16⟩ : ∃ w8, u15.setCells sb 0 C2.toArray.toList = w8 := ⟨_, rfl⟩; rw [hu16]; have HL16 := Lib.hid (hu16 ▸ HLP.out); clear hu16)) | (refine wpList_store_mid (by rfl) 50 _ _ (by rfl) u12.heap.size 0 C2.toArray (by rfl) (by rfl) (there_new u12 zeroV _ (by simp [HC2.out.len HI2.out.mem, zeroV_length])) (by simpa using HJ2.out) HC2.out.one ?_; obtain ⟨u13, hu13⟩ : ∃ u13, (u12.alloc (.cells zeroV.toArray 50)).setCells u12.heap.size 0 C2.toArray.toList = u13 := ⟨_, rfl⟩; rw [hu13]; have HX13 : Hid (Sx w1 w1.heap.size (.slice (some ⟨g0, 0, none⟩) p.length cap1) u13 [(u12.heap.size, C2, s2), (sb, C, sk)]) := Lib.hid (hu13 ▸ HX12.out.add HC2.out HI2.out.mem); have pc13 := HX13.out.pcell; have HBN13 : Hid (Below u12.heap.size u12 u13) := Lib.hid (hu13 ▸ below_setCells (Nat.le_refl _) _ _ _ ((Below.refl _ _).alloc (Nat.le_refl _) _)); clear hu13; have HL13 := Lib.hid (HL12.out.keeps HBN13.out); have HTX13 := Lib.hid ((HBN13.out.block _ (block_lt HTX12.out)).trans HTX12.out); have HXB13 := Lib.hid ((HBN13.out.block _ (block_lt HXB12.out)).trans HXB12.out); obtain ⟨FB, fb, EB, eb, AB, ab, hB⟩ := HX13.out.cin (.head _) HI2.out; have b2 := (HX13.out.cell (.head _) 2).trans hB.c2; rw [HN2.out] at b2; have a2 := (HX13.out.cell (.tail _ (.head _)) 2).trans HCF2.out; have z13 := HX13.out.lt (.head _); have z13s := HX13.out.lt (.tail _ (.head _)); have i4 := (cell_block HXB13.out 4).trans rfl; have z13i := block_lt HXB13.out; clear hB; have cp2 := HCP.out _ HX13.out.below; have pc13 := HX13.out.pcell; have zg13 := Nat.lt_of_lt_of_le HGZ.out HX13.out.below.size))
            go_roundw
            case rel => exact ⟨k + 1, .slice (some ⟨gg, 0, none⟩) (ms ++ [mA]).length cc, ms ++ [mA], C2, by omega, by go_num, by rw [List.length_append, hms]; rfl, by rw [HW2.out]; exact HL16.out, by rw [HW2.out, ← HMA.out]; exact HMN.out⟩
            case measure => simp [intOf]; omega
          by_cases hB1 : n2 < nf
          · have hgt : ¬ (nf : Int) < (n2 : Int) := by omega
            have hlt : (n2 : Int) < (nf : Int) := by omega
            by_cases hkz : kf = 0
            · have hkz1 : ¬ (0 : Int) < (kf : Int) := by omega
              have HKZ := Lib.hid hkz
              have HMA := Lib.hid (show nextM p sk ms = l by
                have h1 : ms.length = 1 := by have h2 : ms.length = nf := hmlen; have h3 := HNLK.out; omega
                have h4 : l = [] := List.eq_nil_of_length_eq_zero (by have h5 := HLL.out; have h6 := HKF.out; omega)
                unfold nextM
                rw [HS2S.out, HN2.out, HN.out, if_neg hA1, if_pos hB1, if_pos h1, h4])
              clear hkz
              go_wp2_with (first | (refine wpList_store_mid (by rfl) 50 _ _ (by rfl) u12.heap.size 0 C2.toArray (by rfl) (by rfl) (there_new u12 zeroV _ (by simp [HC2.out.len HI2.out.mem, zeroV_length])) (by simpa using HJ2.out) HC2.out.one ?_; obtain ⟨u13, hu13⟩ : ∃ u13, (u12.alloc (.cells zeroV.toArray 50)).setCells u12.heap.size 0 C2.toArray.toList = u13 := ⟨_, rfl⟩; rw [hu13]; have HX13 : Hid (Sx w1 w1.heap.size (.slice (some ⟨g0, 0, none⟩) p.length cap1) u13 [(u12.heap.size, C2, s2), (sb, C, sk)]) := Lib.hid (hu13 ▸ HX12.out.add HC2.out HI2.out.mem); have pc13 := HX13.out.pcell; have HBN13 : Hid (Below u12.heap.size u12 u13) := Lib.hid (hu13 ▸ below_setCells (Nat.le_refl _) _ _ _ ((Below.refl _ _).alloc (Nat.le_refl _) _)); clear hu13; have HL13 := Lib.hid (HL12.out.keeps HBN13.out); have HTX13 := Lib.hid ((HBN13.out.block _ (block_lt HTX12.out)).trans HTX12.out); have HXB13 := Lib.hid ((HBN13.out.block _ (block_lt HXB12.out)).trans HXB12.out); obtain ⟨FB, fb, EB, eb, AB, ab, hB⟩ := HX13.out.cin (.head _) HI2.out; have b2 := (HX13.out.cell (.head _) 2).trans hB.c2; rw [HN2.out] at b2; have a2 := (HX13.out.cell (.tail _ (.head _)) 2).trans HCF2.out; have z13 := HX13.out.lt (.head _); have z13s := HX13.out.lt (.tail _ (.head _)); have i4 := (cell_block HXB13.out 4).trans rfl; have z13i := block_lt HXB13.out; clear hB; go_must (have HLA := Lib.hid (PsL.pop (n := kf) (l := l) (m := mk) (by rw [← HNLK.out, ← HMS.out]; exact HL13.out) (by rw [HLL.out, HKF.out]))); go_must (have hz1 : gs < wr.heap.size := by (have h1 := hgs2; have h2 := hb10w.out.size; omega)); go_must (have hz2 : wr.heap.size ≤ u12.heap.size := HZ12.out); go_must (have HT16 : Hid (u13.heap[u12.heap.size]? = some (.cells C2.toArray 50 (0, 0))) := Lib.hid (HX13.out.sts _ (.head _)).1); go_must (have HAG : Hid (∀ (k : Nat) (o : Obj), wr.heap.size ≤ k → (Value.slice (some ⟨gs, 0, none⟩) kf scap).ownBlock ≠ some k → u12.heap[k]? = some o → u13.heap[k]? = some o) := Lib.hid (fun k o hk _ hh => (HBN13.out.block k (block_lt hh)).trans hh)); go_must (have HS16 : Hid (∀ k, (Value.slice (some ⟨gs, 0, none⟩) kf scap).ownBlock = some k → k < wr.heap.size ∨ u12.heap.size ≤ k) := Lib.hid (fun k e => by have e1 : gs = k := (by simpa [Value.ownBlock] using e); exact .inl (by omega))); go_must (have HLP := Lib.hid (HLA.out.put HC2t.out HX11.out.below.size (HX11.out.lt (.head _)) HS16.out HAG.out (HCk.out.len HIk.out.mem) (HC2.out.len HI2.out.mem)); have HR16 := Lib.hid (range_block HT16.out); have zt16 : u12.heap.size < u13.heap.size := block_lt HT16.out; have zs16 : sb < u13.heap.size := block_lt HLA.out.sblk)) | (refine wpList_load_mid (by rfl) 50 _ (by rfl) u12.heap.size 0 (by rfl) C2 _ HR16.out Tryd.underlying50 (by rfl) HJ2.out ?_) | (refine wpList_store_mid (by rfl) 50 _ _ (by rfl) sb 0 C2.toArray (by rfl) (by rfl) ?_ ?_ ?_ ?_; go_must (exact there_block HLA.out.sblk (by simp [HC2.out.len HI2.out.mem, HCk.out.len HIk.out.mem])); go_must (simpa using HJ2.out); go_must (exact HC2.out.one); go_must (obtain ⟨u16, hu16⟩ : ∃ w8, u13.setCells sb 0 C2.toArray.toList = w8 := ⟨_, rfl⟩; rw [hu16]; have HL16 := Lib.hid (hu16 ▸ HLP.out); clear hu16)))
              go_roundw
              case rel => exact ⟨k + 1, .slice (some ⟨gs, 0, none⟩) kf scap, l, C2, by omega, by go_num, rfl, by rw [HW2.out]; exact HL16.out, by rw [HW2.out, ← HMA.out]; exact HMN.out⟩
              case measure => simp [intOf]; omega
            have hkz1 : (0 : Int) < (kf : Int) := by omega
            obtain ⟨gs', u, hfs⟩ : ∃ gs u, fs = gs ++ [u] := by
              rcases List.eq_nil_or_concat fs with h | ⟨gs, u, h⟩
              · have h1 := HKF.out; rw [h] at h1; simp at h1; omega
              · exact ⟨gs, u, by rw [h, List.concat_eq_append]⟩
            obtain ⟨l2, mu, hl2⟩ : ∃ l2 mu, l = l2 ++ [mu] := by
              rcases List.eq_nil_or_concat l with h | ⟨l2, mu, h⟩
              · have h1 := HLL.out; have h2 := HKF.out; rw [h] at h1; simp at h1; omega
              · exact ⟨l2, mu, by rw [h, List.concat_eq_append]⟩
            obtain ⟨kg, hkg'⟩ : ∃ kg, gs'.length = kg := ⟨_, rfl⟩
            have hkg : kf = kg + 1 := by have := HKF.out; rw [hfs] at this; rw [← this, ← hkg']; simp
            have hnf2 : nf = kg + 2 := by have := HNLK.out; omega
            have HKG := Lib.hid (show l2.length = kg from by have h1 := HLL.out; rw [hl2, hfs] at h1; simp at h1; omega)
            have HLL2 := Lib.hid (show l2.length + 1 = kf from by have h1 := HKG.out; omega)
            have HL2 := Lib.hid hl2
            have hsf := HFS.out
            rw [hfs, List.append_assoc] at hsf
            have hup : sk.frames[kg]? = some u := by rw [hsf, ← hkg']; simp
            have huo : FrOk p u := HIk.out.fr u (by rw [hsf]; simp)
            have hmu : mu < 4096 := HM.out.lt mu (by rw [HMS.out, hl2]; simp)
            obtain ⟨FA, fu, EA, ea, AA, aa, hA⟩ := HX12.out.cin (.head _) HIk.out
            have hgr : (u).regs.length = 12 := huo.regs
            obtain ⟨gu, hFA, gzu, rF⟩ := fr_range hA hup hgr
            obtain ⟨nu, hnu⟩ : ∃ nf, sk.frames.length = nf := ⟨_, rfl⟩
            have c2 := hA.c2
            rw [hnu, hFA] at c2
            have HSu := Lib.hid c2
            have HLu : Hid ((frCell (u)).length = 14) := Lib.hid (frCell_length hgr)
            have HIu : Hid ((Tryd.prog.info? 60).map (·.size) = some (frCell (u)).length) := Lib.hid (by rw [HLu.out]; exact info_fr)
            have HOu : Hid ((frCell (u)).toArray.all (·.oneCell') = true) := Lib.hid (all_oneCell_toArray (fun v hv => frCells_cell (l := [u]) v (by rw [frCells_one]; exact hv)))
            have HZu : Hid ((frCell (u))[0]? = some (.int .i64 (u).fn)) := Lib.hid rfl
            have HPu : Hid ((frCell (u))[1]? = some (.int .i64 (u).pc)) := Lib.hid rfl
            have HGu := Lib.hid (fun (r : Int) (h0 : 0 ≤ r) (h1 : r < 12) => frCell_reg hgr h0 h1)
            obtain ⟨Fu, hF'⟩ : ∃ F, frCell (u) = F := ⟨_, rfl⟩
            rw [hF'] at HLu HIu HOu HZu HPu HGu rF
            have HRu := Lib.hid (fun (W : World) (hb : Below u12.heap.size u12 W) => range_below rF gzu hb)
            clear hF' hA rF c2 hFA hgr
            have hgg : g = gu := by have h := HCF2.out.symm.trans HSu.out; simp at h; exact h.1
            subst hgg
            obtain ⟨pu, PU, CU, cucap, cu, MU, hpvu, hpu, hufn, -, du2, hCU, hcu, hMU, hupc, -, du1, -, -, -⟩ := ins_at HP.out huo
            simp only [Value.slice.injEq, Option.some.injEq, Addr.mk.injEq, true_and, and_true] at hpvu
            obtain ⟨hpu1, -⟩ := hpvu
            subst hpu1
            rw [hCU] at du2
            have hOu := HRP.out.ins huo
            have hFu := HRP.out.fnok huo
            have ud0 := hOu.dst1
            have ud1 : (insOf p u).dst < 12 := by have := hOu.dst2; have := hFu.r2; omega
            have ufn0 := huo.fn0
            have upc0 := huo.pc0
            have shd := shl_one (insOf p u).dst ud0 ud1
            have hD : 2 ^ (insOf p u).dst.toNat < 4096 := two_pow_lt ud1
            obtain ⟨D, hDe⟩ : ∃ D, 2 ^ (insOf p u).dst.toNat = D := ⟨_, rfl⟩
            have HMA := Lib.hid (show nextM p sk ms = l2 ++ [mu ||| D] by
              have h1 : ¬ ms.length = 1 := by have h2 : ms.length = nf := hmlen; omega
              have h3 : ms.dropLast = l2 ++ [mu] := by rw [HMS.out, List.dropLast_concat, hl2]
              have h4 : sk.frames.getD (nf - 2) ⟨0, 0, []⟩ = u := by
                rw [List.getD_eq_getElem?_getD, show nf - 2 = kg by omega, hup]; rfl
              unfold nextM
              rw [HS2S.out, HN2.out, HN.out, if_neg hA1, if_pos hB1, if_neg h1, h3, h4, hDe, orLast_append])
            rw [hDe] at shd hD
            have hor := or_nat mu D (by omega) (by omega)
            have hwn2 : IntKind.i64.wrap ((nf : Int) - 2) = (kg : Int) := by rw [IntKind.wrap_i64]; omega
            have hwk : IntKind.i64.wrap ((kf : Int) - 1) = (kg : Int) := by rw [IntKind.wrap_i64]; omega
            have hg0 : (0 : Int) ≤ kg := by omega
            have hg1 : (kg : Int) < nf := by omega
            have hg2 : (kg : Int) < kf := by omega
            have hsc1 : nf ≤ scap := by have := HSC.out; rw [hmlen] at this; exact this
            have hsc2 : kf ≤ scap := by omega
            have HDU1 := Lib.hid du1
            have HDU2 := Lib.hid du2
            have HCU := Lib.hid hcu
            have HPU := Lib.hid hpu
            have hk3 : kf ≤ kg + 1 := by omega
            have hk4 : kg + 1 ≤ kf := by omega
            clear hfs hl2 hkg' hsf hup hOu hFu hDe hCU hMU huo du1 du2 hcu hpu hkz hnu hkg hnf2
            go_wp2_with (first | (refine wpList_store_mid (by rfl) 50 _ _ (by rfl) u12.heap.size 0 C2.toArray (by rfl) (by rfl) (there_new u12 zeroV _ (by simp [HC2.out.len HI2.out.mem, zeroV_length])) (by simpa using HJ2.out) HC2.out.one ?_; obtain ⟨u13, hu13⟩ : ∃ u13, (u12.alloc (.cells zeroV.toArray 50)).setCells u12.heap.size 0 C2.toArray.toList = u13 := ⟨_, rfl⟩; rw [hu13]; have HX13 : Hid (Sx w1 w1.heap.size (.slice (some ⟨g0, 0, none⟩) p.length cap1) u13 [(u12.heap.size, C2, s2), (sb, C, sk)]) := Lib.hid (hu13 ▸ HX12.out.add HC2.out HI2.out.mem); have pc13 := HX13.out.pcell; have HBN13 : Hid (Below u12.heap.size u12 u13) := Lib.hid (hu13 ▸ below_setCells (Nat.le_refl _) _ _ _ ((Below.refl _ _).alloc (Nat.le_refl _) _)); clear hu13; have HL13 := Lib.hid (HL12.out.keeps HBN13.out); have HTX13 := Lib.hid ((HBN13.out.block _ (block_lt HTX12.out)).trans HTX12.out); have HXB13 := Lib.hid ((HBN13.out.block _ (block_lt HXB12.out)).trans HXB12.out); obtain ⟨FB, fb, EB, eb, AB, ab, hB⟩ := HX13.out.cin (.head _) HI2.out; have b2 := (HX13.out.cell (.head _) 2).trans hB.c2; rw [HN2.out] at b2; have a2 := (HX13.out.cell (.tail _ (.head _)) 2).trans HCF2.out; have z13 := HX13.out.lt (.head _); have z13s := HX13.out.lt (.tail _ (.head _)); have i4 := (cell_block HXB13.out 4).trans rfl; have z13i := block_lt HXB13.out; clear hB; clear i4) | (refine wpList_load_mid (by rfl) 60 _ (by rfl) g (kg * 14) (by rfl) Fu _ (HRu.out _ HBN13.out) Tryd.underlying60 (by rfl) HIu.out ?_) | (refine wpList_store_mid (by rfl) 60 _ _ (by rfl) u13.heap.size 0 Fu.toArray (by rfl) (by rfl) (there_new u13 [.int .i64 0, .int .i64 0, .int .i64 0, .int .i64 0, .int .i64 0, .int .i64 0, .int .i64 0, .int .i64 0, .int .i64 0, .int .i64 0, .int .i64 0, .int .i64 0, .int .i64 0, .int .i64 0] _ (by simp [HLu.out])) (by simpa using HIu.out) HOu.out ?_; obtain ⟨u14, hu14⟩ : ∃ u14, (u13.alloc (.cells (List.toArray [.int .i64 0, .int .i64 0, .int .i64 0, .int .i64 0, .int .i64 0, .int .i64 0, .int .i64 0, .int .i64 0, .int .i64 0, .int .i64 0, .int .i64 0, .int .i64 0, .int .i64 0, .int .i64 0]) 60)).setCells u13.heap.size 0 Fu.toArray.toList = u14 := ⟨_, rfl⟩; rw [hu14]; have HBu14 : Hid (Below u13.heap.size u13 u14) := Lib.hid (hu14 ▸ below_setCells (Nat.le_refl _) _ _ _ ((Below.refl _ _).alloc (Nat.le_refl _) _)); have HX14 := Lib.hid (HX13.out.keeps HBu14.out); have HTu : Hid (u14.heap[u13.heap.size]? = some (.cells Fu.toArray 60 (0, 0))) := Lib.hid (hu14 ▸ block_full (heap_alloc_new _ _) _ (by simp [HLu.out])); clear hu14))
            have HL14 := Lib.hid (HL13.out.keeps HBu14.out)
            have HLQ := Lib.hid (show PsL w1 w1.heap.size sb (.slice (some ⟨g0, 0, none⟩) p.length cap1) u14 (.slice (some ⟨gs, 0, none⟩) l.length scap) l C sk from by
              have h1 := PsL.pop (n := kf) (l := l) (m := mk) (by rw [← HNLK.out, ← HMS.out]; exact HL14.out) (by rw [HLL.out, HKF.out])
              have h2 : l.length = kf := by rw [HLL.out, HKF.out]
              rw [h2]; exact h1)
            have hll0 : 0 < l.length := by have h2 : l.length = kf := by rw [HLL.out, HKF.out]
                                           omega
            have hz1 : gs < wr.heap.size := by have h1 := hgs2; have h2 := hb10w.out.size; omega
            have hz2 : wr.heap.size ≤ u12.heap.size := HZ12.out
            obtain ⟨g', cap', hv, -, -, -, hfz, hcl⟩ := HLQ.out.lies hll0
            simp only [Value.slice.injEq, Option.some.injEq, Addr.mk.injEq, and_true] at hv
            obtain ⟨hv1, -⟩ := hv
            subst hv1
            have c9 := hcl kg mu (by rw [HL2.out, ← HKG.out]; simp)
            have zg9 : gs < u14.heap.size := by have h3 := HBN13.out.size; have h4 := HBu14.out.size; omega
            have f9 := hfz kg
            have cx := HX14.out.pcell
            have zcx := block_lt HX14.out.pblk
            have hlw := HL14.out.lts
            have hbw := HX14.out.below.size
            have cu1 := (HX14.out.below.cell (p := ⟨cu, _, none⟩) HCU.out).trans HDU1.out
            have cu2 := (HX14.out.below.cell (p := ⟨g0, _, none⟩) HPU.out).trans HDU2.out
            have ct0 := (cell_block HTu.out 0).trans (List.getElem?_toArray.trans HZu.out)
            have ct1 := (cell_block HTu.out 1).trans (List.getElem?_toArray.trans HPu.out)
            have hgu13 : gs < u13.heap.size := by have h3 := HBN13.out.size; omega
            have hgw : w1.heap.size < gs := by have h1 := hgs1; omega
            have hg0w : g0 < w1.heap.size := HPU.out
            have hcuw : cu < w1.heap.size := HCU.out
            have KS := Lib.hid (fun (w' : World) (hb : ∀ k, k ≠ gs → w'.heap[k]? = u14.heap[k]?) => (⟨(cell_eq (hb _ (by omega)) _).trans cx, (cell_eq (hb _ (by omega)) _).trans ct0, (cell_eq (hb _ (by omega)) _).trans ct1, (cell_eq (hb _ (by omega)) _).trans cu2, (cell_eq (hb _ (by omega)) _).trans cu1⟩ :
                w'.cell? ⟨w1.heap.size, 0, none⟩ = some (.slice (some ⟨g0, 0, none⟩) p.length cap1) ∧ w'.cell? ⟨u13.heap.size, 0, none⟩ = some (.int .i64 u.fn) ∧ w'.cell? ⟨u13.heap.size, 1, none⟩ = some (.int .i64 u.pc) ∧ w'.cell? ⟨g0, u.fn.toNat * 3 + 2, none⟩ = some (.slice (some ⟨cu, 0, none⟩) MU cucap) ∧ w'.cell? ⟨cu, u.pc.toNat * 5 + 1, none⟩ = some (.int .i64 (insOf p u).dst)))
            clear hcl hfz hlw hbw cu1 cu2 ct0 ct1 a2 b2 HDU1 HDU2
            refine wp_region_held_drew (S := fun w' => w'.cell? ⟨w1.heap.size, 0, none⟩ = some (.slice (some ⟨g0, 0, none⟩) p.length cap1) ∧ w'.cell? ⟨u13.heap.size, 0, none⟩ = some (.int .i64 u.fn) ∧ w'.cell? ⟨u13.heap.size, 1, none⟩ = some (.int .i64 u.pc) ∧ w'.cell? ⟨g0, u.fn.toNat * 3 + 2, none⟩ = some (.slice (some ⟨cu, 0, none⟩) MU cucap) ∧ w'.cell? ⟨cu, u.pc.toNat * 5 + 1, none⟩ = some (.int .i64 (insOf p u).dst)) (by kernel_rfl) (KS.out _ (fun k _ => rfl)) (fun hHeld => ?_)
            refine wpAnyH_take (i := 0) (v := .slice (some ⟨gs, 0, none⟩) kf scap) rfl (by kernel_rfl) (by kernel_rfl) (by kernel_rfl) (fun _ _ _ h => h) (Or.inl ⟨by rfl, ?_⟩) hHeld ?_
            · intro w hSw
              obtain ⟨q0, q1, q2, q3, q4⟩ := hSw
              simp only [List.getElem_toArray, List.getElem_cons_zero]
              go_simp
            simp only [Act.put, List.getElem_toArray, List.getElem_cons_zero, List.setIfInBounds_toArray, List.set_cons_zero, List.set_cons_succ]
            refine wpAnyH_take (i := 1) (v := .slice (some ⟨gs, 0, none⟩) kf scap) rfl (by kernel_rfl) (by kernel_rfl) (by kernel_rfl) (fun _ _ _ h => h) (Or.inl ⟨by rfl, ?_⟩) hHeld ?_
            · intro w hSw
              obtain ⟨q0, q1, q2, q3, q4⟩ := hSw
              simp only [List.getElem_toArray, List.getElem_cons_zero, List.getElem_cons_succ]
              go_simp
            simp only [Act.put, List.getElem_toArray, List.getElem_cons_zero, List.getElem_cons_succ, List.setIfInBounds_toArray, List.set_cons_zero, List.set_cons_succ]
            refine wpAnyH_take (i := 2) (v := .int .i64 kf) rfl (by kernel_rfl) (by kernel_rfl) (by kernel_rfl) (fun _ _ _ h => h) (Or.inl ⟨by rfl, ?_⟩) hHeld ?_
            · intro w hSw
              obtain ⟨q0, q1, q2, q3, q4⟩ := hSw
              simp only [List.getElem_toArray, List.getElem_cons_zero, List.getElem_cons_succ]
              go_simp
            simp only [Act.put, List.getElem_toArray, List.getElem_cons_zero, List.getElem_cons_succ, List.setIfInBounds_toArray, List.set_cons_zero, List.set_cons_succ]
            refine wpAnyH_take (i := 3) (v := .int .i64 kg) rfl (by kernel_rfl) (by kernel_rfl) (by kernel_rfl) (fun _ _ _ h => h) (Or.inl ⟨by rfl, ?_⟩) hHeld ?_
            · intro w hSw
              obtain ⟨q0, q1, q2, q3, q4⟩ := hSw
              simp only [List.getElem_toArray, List.getElem_cons_zero, List.getElem_cons_succ]
              go_simp
            simp only [Act.put, List.getElem_toArray, List.getElem_cons_zero, List.getElem_cons_succ, List.setIfInBounds_toArray, List.set_cons_zero, List.set_cons_succ]
            refine wpAnyH_take (i := 4) (v := .pointer (some ⟨gs, kg, none⟩)) rfl (by kernel_rfl) (by kernel_rfl) (by kernel_rfl) (fun _ _ _ h => h) (Or.inl ⟨by rfl, ?_⟩) hHeld ?_
            · intro w hSw
              obtain ⟨q0, q1, q2, q3, q4⟩ := hSw
              simp only [List.getElem_toArray, List.getElem_cons_zero, List.getElem_cons_succ]
              go_simp
            simp only [Act.put, List.getElem_toArray, List.getElem_cons_zero, List.getElem_cons_succ, List.setIfInBounds_toArray, List.set_cons_zero, List.set_cons_succ]
            refine wpAnyH_take (i := 6) (v := .pointer (some ⟨w1.heap.size, 0, none⟩)) rfl (by kernel_rfl) (by kernel_rfl) (by kernel_rfl) (fun _ _ _ h => h) (Or.inl ⟨by rfl, ?_⟩) hHeld ?_
            · intro w hSw
              obtain ⟨q0, q1, q2, q3, q4⟩ := hSw
              simp only [List.getElem_toArray, List.getElem_cons_zero, List.getElem_cons_succ]
              go_simp
            simp only [Act.put, List.getElem_toArray, List.getElem_cons_zero, List.getElem_cons_succ, List.setIfInBounds_toArray, List.set_cons_zero, List.set_cons_succ]
            refine wpAnyH_take (i := 7) (v := .slice (some ⟨g0, 0, none⟩) p.length cap1) rfl (by kernel_rfl) (by kernel_rfl) (by kernel_rfl) (fun _ _ _ h => h) (Or.inl ⟨by rfl, ?_⟩) hHeld ?_
            · intro w hSw
              obtain ⟨q0, q1, q2, q3, q4⟩ := hSw
              simp only [List.getElem_toArray, List.getElem_cons_zero, List.getElem_cons_succ]
              go_simp
            simp only [Act.put, List.getElem_toArray, List.getElem_cons_zero, List.getElem_cons_succ, List.setIfInBounds_toArray, List.set_cons_zero, List.set_cons_succ]
            refine wpAnyH_take (i := 8) (v := .pointer (some ⟨u13.heap.size, 0, none⟩)) rfl (by kernel_rfl) (by kernel_rfl) (by kernel_rfl) (fun _ _ _ h => h) (Or.inl ⟨by rfl, ?_⟩) hHeld ?_
            · intro w hSw
              obtain ⟨q0, q1, q2, q3, q4⟩ := hSw
              simp only [List.getElem_toArray, List.getElem_cons_zero, List.getElem_cons_succ]
              go_simp
            simp only [Act.put, List.getElem_toArray, List.getElem_cons_zero, List.getElem_cons_succ, List.setIfInBounds_toArray, List.set_cons_zero, List.set_cons_succ]
            refine wpAnyH_take (i := 9) (v := .int .i64 u.fn) rfl (by kernel_rfl) (by kernel_rfl) (by kernel_rfl) (fun _ _ _ h => h) (Or.inl ⟨by rfl, ?_⟩) hHeld ?_
            · intro w hSw
              obtain ⟨q0, q1, q2, q3, q4⟩ := hSw
              simp only [List.getElem_toArray, List.getElem_cons_zero, List.getElem_cons_succ]
              go_simp
            simp only [Act.put, List.getElem_toArray, List.getElem_cons_zero, List.getElem_cons_succ, List.setIfInBounds_toArray, List.set_cons_zero, List.set_cons_succ]
            refine wpAnyH_take (i := 10) (v := .pointer (some ⟨g0, u.fn.toNat * 3, none⟩)) rfl (by kernel_rfl) (by kernel_rfl) (by kernel_rfl) (fun _ _ _ h => h) (Or.inl ⟨by rfl, ?_⟩) hHeld ?_
            · intro w hSw
              obtain ⟨q0, q1, q2, q3, q4⟩ := hSw
              simp only [List.getElem_toArray, List.getElem_cons_zero, List.getElem_cons_succ]
              go_simp
            simp only [Act.put, List.getElem_toArray, List.getElem_cons_zero, List.getElem_cons_succ, List.setIfInBounds_toArray, List.set_cons_zero, List.set_cons_succ]
            refine wpAnyH_take (i := 11) (v := .pointer (some ⟨g0, u.fn.toNat * 3 + 2, none⟩)) rfl (by kernel_rfl) (by kernel_rfl) (by kernel_rfl) (fun _ _ _ h => h) (Or.inl ⟨by rfl, ?_⟩) hHeld ?_
            · intro w hSw
              obtain ⟨q0, q1, q2, q3, q4⟩ := hSw
              simp only [List.getElem_toArray, List.getElem_cons_zero, List.getElem_cons_succ]
              go_simp
            simp only [Act.put, List.getElem_toArray, List.getElem_cons_zero, List.getElem_cons_succ, List.setIfInBounds_toArray, List.set_cons_zero, List.set_cons_succ]
            refine wpAnyH_take (i := 12) (v := .slice (some ⟨cu, 0, none⟩) MU cucap) rfl (by kernel_rfl) (by kernel_rfl) (by kernel_rfl) (fun _ _ _ h => h) (Or.inl ⟨by rfl, ?_⟩) hHeld ?_
            · intro w hSw
              obtain ⟨q0, q1, q2, q3, q4⟩ := hSw
              simp only [List.getElem_toArray, List.getElem_cons_zero, List.getElem_cons_succ]
              go_simp
            simp only [Act.put, List.getElem_toArray, List.getElem_cons_zero, List.getElem_cons_succ, List.setIfInBounds_toArray, List.set_cons_zero, List.set_cons_succ]
            refine wpAnyH_take (i := 13) (v := .pointer (some ⟨u13.heap.size, 1, none⟩)) rfl (by kernel_rfl) (by kernel_rfl) (by kernel_rfl) (fun _ _ _ h => h) (Or.inl ⟨by rfl, ?_⟩) hHeld ?_
            · intro w hSw
              obtain ⟨q0, q1, q2, q3, q4⟩ := hSw
              simp only [List.getElem_toArray, List.getElem_cons_zero, List.getElem_cons_succ]
              go_simp
            simp only [Act.put, List.getElem_toArray, List.getElem_cons_zero, List.getElem_cons_succ, List.setIfInBounds_toArray, List.set_cons_zero, List.set_cons_succ]
            refine wpAnyH_take (i := 14) (v := .int .i64 u.pc) rfl (by kernel_rfl) (by kernel_rfl) (by kernel_rfl) (fun _ _ _ h => h) (Or.inl ⟨by rfl, ?_⟩) hHeld ?_
            · intro w hSw
              obtain ⟨q0, q1, q2, q3, q4⟩ := hSw
              simp only [List.getElem_toArray, List.getElem_cons_zero, List.getElem_cons_succ]
              go_simp
            simp only [Act.put, List.getElem_toArray, List.getElem_cons_zero, List.getElem_cons_succ, List.setIfInBounds_toArray, List.set_cons_zero, List.set_cons_succ]
            refine wpAnyH_take (i := 15) (v := .pointer (some ⟨cu, u.pc.toNat * 5, none⟩)) rfl (by kernel_rfl) (by kernel_rfl) (by kernel_rfl) (fun _ _ _ h => h) (Or.inl ⟨by rfl, ?_⟩) hHeld ?_
            · intro w hSw
              obtain ⟨q0, q1, q2, q3, q4⟩ := hSw
              simp only [List.getElem_toArray, List.getElem_cons_zero, List.getElem_cons_succ]
              go_simp
            simp only [Act.put, List.getElem_toArray, List.getElem_cons_zero, List.getElem_cons_succ, List.setIfInBounds_toArray, List.set_cons_zero, List.set_cons_succ]
            refine wpAnyH_take (i := 16) (v := .pointer (some ⟨cu, u.pc.toNat * 5 + 1, none⟩)) rfl (by kernel_rfl) (by kernel_rfl) (by kernel_rfl) (fun _ _ _ h => h) (Or.inl ⟨by rfl, ?_⟩) hHeld ?_
            · intro w hSw
              obtain ⟨q0, q1, q2, q3, q4⟩ := hSw
              simp only [List.getElem_toArray, List.getElem_cons_zero, List.getElem_cons_succ]
              go_simp
            simp only [Act.put, List.getElem_toArray, List.getElem_cons_zero, List.getElem_cons_succ, List.setIfInBounds_toArray, List.set_cons_zero, List.set_cons_succ]
            refine wpAnyH_take (i := 17) (v := .int .i64 (insOf p u).dst) rfl (by kernel_rfl) (by kernel_rfl) (by kernel_rfl) (fun _ _ _ h => h) (Or.inl ⟨by rfl, ?_⟩) hHeld ?_
            · intro w hSw
              obtain ⟨q0, q1, q2, q3, q4⟩ := hSw
              simp only [List.getElem_toArray, List.getElem_cons_zero, List.getElem_cons_succ]
              go_simp
            simp only [Act.put, List.getElem_toArray, List.getElem_cons_zero, List.getElem_cons_succ, List.setIfInBounds_toArray, List.set_cons_zero, List.set_cons_succ]
            refine wpAnyH_take (i := 18) (v := .int .i64 (D : Int)) rfl (by kernel_rfl) (by kernel_rfl) (by kernel_rfl) (fun _ _ _ h => h) (Or.inl ⟨by rfl, ?_⟩) hHeld ?_
            · intro w hSw
              obtain ⟨q0, q1, q2, q3, q4⟩ := hSw
              simp only [List.getElem_toArray, List.getElem_cons_zero, List.getElem_cons_succ]
              go_simp
            simp only [Act.put, List.getElem_toArray, List.getElem_cons_zero, List.getElem_cons_succ, List.setIfInBounds_toArray, List.set_cons_zero, List.set_cons_succ]
            refine wpAnyH_ready (rs := [5]) (by kernel_rfl) (by simp) ?_
            refine AllReadyH.cons rfl (fun K hK => ?_) AllReadyH.nil
            simp only [List.getElem_toArray, List.getElem_cons_zero, List.getElem_cons_succ]
            go_simp
            refine hK.out _ _ hHeld (fun hHeld => ?_)
            clear hK K
            refine wpAnyH_take (i := 19) (v := .int .i64 ((mu ||| D : Nat) : Int)) rfl (by kernel_rfl) (by kernel_rfl) (by kernel_rfl) (fun _ _ _ h => h) (Or.inl ⟨by rfl, ?_⟩) hHeld ?_
            · intro w hSw
              obtain ⟨q0, q1, q2, q3, q4⟩ := hSw
              simp only [List.getElem_toArray, List.getElem_cons_zero, List.getElem_cons_succ]
              go_simp
            simp only [Act.put, List.getElem_toArray, List.getElem_cons_zero, List.getElem_cons_succ, List.setIfInBounds_toArray, List.set_cons_zero, List.set_cons_succ]
            refine wpAnyH_take (i := 20) (v := .pointer (some ⟨gs, kg, none⟩)) rfl (by kernel_rfl) (by kernel_rfl) (by kernel_rfl) (fun _ _ _ h => h) (Or.inl ⟨by rfl, ?_⟩) hHeld ?_
            · intro w hSw
              obtain ⟨q0, q1, q2, q3, q4⟩ := hSw
              simp only [List.getElem_toArray, List.getElem_cons_zero, List.getElem_cons_succ]
              go_simp
            simp only [Act.put, List.getElem_toArray, List.getElem_cons_zero, List.getElem_cons_succ, List.setIfInBounds_toArray, List.set_cons_zero, List.set_cons_succ]
            refine wpAnyH_ready (rs := [21]) (by kernel_rfl) (by simp) ?_
            refine AllReadyH.cons rfl (fun K hK => ?_) AllReadyH.nil
            simp only [List.getElem_toArray, List.getElem_cons_zero, List.getElem_cons_succ]
            go_simp
            refine hK.out _ _ (KS.out _ (fun k hk => heap_setCell_ne u14 hk _ _)) (fun hHeld => ?_)
            clear hK K
            clear hHeld
            refine wpAnyH_done (by kernel_rfl) ?_ _
            obtain ⟨u15, hu15⟩ : ∃ u, (u14.setCell ⟨gs, kg, none⟩ (.int .i64 ((mu ||| D : Nat) : Int))).drew = u := ⟨_, rfl⟩
            rw [hu15]
            clear c9 zg9 f9 cx zcx
            have HLS := PsL.store (j := kg) HLQ.out (by omega) (mu ||| D)
            have hset : l.set kg (mu ||| D) = l2 ++ [mu ||| D] := by rw [HL2.out, ← HKG.out]; simp
            have hset2 : (l2 ++ [mu ||| D]).length = kf := by have h1 := HLL2.out; simp; omega
            rw [hset, hset2] at HLS
            have HLA := Lib.hid (hu15 ▸ HLS.keeps (Below.refl _ _).drew)
            have hne : ∀ k, k ≠ gs → u15.heap[k]? = u14.heap[k]? := fun k hk => by rw [← hu15]; exact heap_setCell_ne u14 hk _ _
            have HT16 : Hid (u15.heap[u12.heap.size]? = some (.cells C2.toArray 50 (0, 0))) := Lib.hid ((hne _ (by omega)).trans ((HBu14.out.block _ z13).trans (HX13.out.sts _ (.head _)).1))
            have HAG : Hid (∀ (k : Nat) (o : Obj), wr.heap.size ≤ k → (Value.slice (some ⟨gs, 0, none⟩) kf scap).ownBlock ≠ some k → u12.heap[k]? = some o → u15.heap[k]? = some o) := Lib.hid (fun k o hk _ hh => (hne k (by omega)).trans ((HBu14.out.block k (Nat.lt_of_lt_of_le (block_lt hh) HBN13.out.size)).trans ((HBN13.out.block k (block_lt hh)).trans hh)))
            have HS16 : Hid (∀ k, (Value.slice (some ⟨gs, 0, none⟩) kf scap).ownBlock = some k → k < wr.heap.size ∨ u12.heap.size ≤ k) := Lib.hid (fun k e => by have e1 : gs = k := (by simpa [Value.ownBlock] using e); exact .inl (by omega))
            have HLP := Lib.hid (HLA.out.put HC2t.out HX11.out.below.size (HX11.out.lt (.head _)) HS16.out HAG.out (HCk.out.len HIk.out.mem) (HC2.out.len HI2.out.mem))
            have HR16 := Lib.hid (range_block HT16.out)
            have zt16 : u12.heap.size < u15.heap.size := block_lt HT16.out
            have zs16 : sb < u15.heap.size := block_lt HLA.out.sblk
            clear hne HLS hset hu15
            go_wp2_with (first | (refine wpList_load_mid (by rfl) 50 _ (by rfl) u12.heap.size 0 (by rfl) C2 _ HR16.out Tryd.underlying50 (by rfl) HJ2.out ?_) | (refine wpList_store_mid (by rfl) 50 _ _ (by rfl) sb 0 C2.toArray (by rfl) (by rfl) ?_ ?_ ?_ ?_; go_must (exact there_block HLA.out.sblk (by simp [HC2.out.len HI2.out.mem, HCk.out.len HIk.out.mem])); go_must (simpa using HJ2.out); go_must (exact HC2.out.one); go_must (obtain ⟨u16, hu16⟩ : ∃ w8, u15.setCells sb 0 C2.toArray.toList = w8 := ⟨_, rfl⟩; rw [hu16]; have HL16 := Lib.hid (hu16 ▸ HLP.out); clear hu16)))
            go_roundw
            case rel => exact ⟨k + 1, .slice (some ⟨gs, 0, none⟩) kf scap, l2 ++ [mu ||| D], C2, by omega, by go_num, rfl, by rw [HW2.out]; exact HL16.out, by rw [HW2.out, ← HMA.out]; exact HMN.out⟩
            case measure => simp [intOf]; omega
          · have hgt : ¬ (nf : Int) < (n2 : Int) := by omega
            have hlt : ¬ (n2 : Int) < (nf : Int) := by omega
            by_cases hw : 0 ≤ dR ∧ (insOf p f).op ≠ 17
            · obtain ⟨hdn, h17⟩ := hw
              have hdr : dR < 12 := by have h1 := HDR.out; unfold setR at h1; split at h1 <;> omega
              have sdR := shl_one dR hdn hdr
              have hD : 2 ^ dR.toNat < 4096 := two_pow_lt hdr
              obtain ⟨D, hDe⟩ : ∃ D, 2 ^ dR.toNat = D := ⟨_, rfl⟩
              have HMA := Lib.hid (show nextM p sk ms = l ++ [mk ||| D] by
                unfold nextM
                rw [HS2S.out, HN2.out, HN.out, if_neg hA1, if_neg hB1, topFr_eq HFS.out, HDR.out, if_pos ⟨hdn, h17⟩, HMS.out, hDe, orLast_append])
              rw [hDe] at sdR hD
              have hor := or_nat mk D (by omega) (by omega)
              clear hDe
              go_wp2_with (first | (refine wpList_store_mid (by rfl) 50 _ _ (by rfl) u12.heap.size 0 C2.toArray (by rfl) (by rfl) (there_new u12 zeroV _ (by simp [HC2.out.len HI2.out.mem, zeroV_length])) (by simpa using HJ2.out) HC2.out.one ?_; obtain ⟨u13, hu13⟩ : ∃ u13, (u12.alloc (.cells zeroV.toArray 50)).setCells u12.heap.size 0 C2.toArray.toList = u13 := ⟨_, rfl⟩; rw [hu13]; have HX13 : Hid (Sx w1 w1.heap.size (.slice (some ⟨g0, 0, none⟩) p.length cap1) u13 [(u12.heap.size, C2, s2), (sb, C, sk)]) := Lib.hid (hu13 ▸ HX12.out.add HC2.out HI2.out.mem); have pc13 := HX13.out.pcell; have HBN13 : Hid (Below u12.heap.size u12 u13) := Lib.hid (hu13 ▸ below_setCells (Nat.le_refl _) _ _ _ ((Below.refl _ _).alloc (Nat.le_refl _) _)); clear hu13; have HL13 := Lib.hid (HL12.out.keeps HBN13.out); have HTX13 := Lib.hid ((HBN13.out.block _ (block_lt HTX12.out)).trans HTX12.out); have HXB13 := Lib.hid ((HBN13.out.block _ (block_lt HXB12.out)).trans HXB12.out); obtain ⟨FB, fb, EB, eb, AB, ab, hB⟩ := HX13.out.cin (.head _) HI2.out; have b2 := (HX13.out.cell (.head _) 2).trans hB.c2; rw [HN2.out] at b2; have a2 := (HX13.out.cell (.tail _ (.head _)) 2).trans HCF2.out; have z13 := HX13.out.lt (.head _); have z13s := HX13.out.lt (.tail _ (.head _)); have i4 := (cell_block HXB13.out 4).trans rfl; have z13i := block_lt HXB13.out; clear hB; have j0 := (cell_block HXB13.out 0).trans rfl; go_must (obtain ⟨g', cap', hv, -, -, -, hfz, hcl⟩ := HL13.out.lies (by omega)); go_must (simp only [Value.slice.injEq, Option.some.injEq, Addr.mk.injEq, and_true] at hv); go_must (obtain ⟨hv1, -⟩ := hv; subst hv1); have c9 := hcl kf mk (by rw [HMS.out, ← HKF.out, ← HLL.out]; simp); have zg9 : gs < u13.heap.size := (by have h1 := hgs2; have h2 := hb10w.out.size; have h3 := HZ12.out; have h4 := HBN13.out.size; omega); have f9 := hfz kf; clear hcl hfz))
              refine wp_region_held_drew (S := fun w' => True) (by kernel_rfl) trivial (fun hHeld => ?_)
              refine wpAnyH_take (i := 0) (v := .slice (some ⟨gs, 0, none⟩) nf scap) rfl (by kernel_rfl) (by kernel_rfl) (by kernel_rfl) (fun _ _ _ h => h) (Or.inl ⟨by rfl, ?_⟩) hHeld ?_
              · intro w hSw
                simp only [List.getElem_toArray, List.getElem_cons_zero]
                go_simp
              simp only [Act.put, List.getElem_toArray, List.getElem_cons_zero, List.setIfInBounds_toArray, List.set_cons_zero, List.set_cons_succ]
              refine wpAnyH_take (i := 1) (v := .slice (some ⟨gs, 0, none⟩) nf scap) rfl (by kernel_rfl) (by kernel_rfl) (by kernel_rfl) (fun _ _ _ h => h) (Or.inl ⟨by rfl, ?_⟩) hHeld ?_
              · intro w hSw
                simp only [List.getElem_toArray, List.getElem_cons_zero, List.getElem_cons_succ]
                go_simp
              simp only [Act.put, List.getElem_toArray, List.getElem_cons_zero, List.getElem_cons_succ, List.setIfInBounds_toArray, List.set_cons_zero, List.set_cons_succ]
              refine wpAnyH_take (i := 2) (v := .int .i64 nf) rfl (by kernel_rfl) (by kernel_rfl) (by kernel_rfl) (fun _ _ _ h => h) (Or.inl ⟨by rfl, ?_⟩) hHeld ?_
              · intro w hSw
                simp only [List.getElem_toArray, List.getElem_cons_zero, List.getElem_cons_succ]
                go_simp
              simp only [Act.put, List.getElem_toArray, List.getElem_cons_zero, List.getElem_cons_succ, List.setIfInBounds_toArray, List.set_cons_zero, List.set_cons_succ]
              refine wpAnyH_take (i := 3) (v := .int .i64 kf) rfl (by kernel_rfl) (by kernel_rfl) (by kernel_rfl) (fun _ _ _ h => h) (Or.inl ⟨by rfl, ?_⟩) hHeld ?_
              · intro w hSw
                simp only [List.getElem_toArray, List.getElem_cons_zero, List.getElem_cons_succ]
                go_simp
              simp only [Act.put, List.getElem_toArray, List.getElem_cons_zero, List.getElem_cons_succ, List.setIfInBounds_toArray, List.set_cons_zero, List.set_cons_succ]
              refine wpAnyH_take (i := 4) (v := .pointer (some ⟨gs, kf, none⟩)) rfl (by kernel_rfl) (by kernel_rfl) (by kernel_rfl) (fun _ _ _ h => h) (Or.inl ⟨by rfl, ?_⟩) hHeld ?_
              · intro w hSw
                simp only [List.getElem_toArray, List.getElem_cons_zero, List.getElem_cons_succ]
                go_simp
              simp only [Act.put, List.getElem_toArray, List.getElem_cons_zero, List.getElem_cons_succ, List.setIfInBounds_toArray, List.set_cons_zero, List.set_cons_succ]
              refine wpAnyH_take (i := 6) (v := .int .i64 dR) rfl (by kernel_rfl) (by kernel_rfl) (by kernel_rfl) (fun _ _ _ h => h) (Or.inl ⟨by rfl, ?_⟩) hHeld ?_
              · intro w hSw
                simp only [List.getElem_toArray, List.getElem_cons_zero, List.getElem_cons_succ]
                go_simp
              simp only [Act.put, List.getElem_toArray, List.getElem_cons_zero, List.getElem_cons_succ, List.setIfInBounds_toArray, List.set_cons_zero, List.set_cons_succ]
              refine wpAnyH_take (i := 7) (v := .int .i64 (D : Int)) rfl (by kernel_rfl) (by kernel_rfl) (by kernel_rfl) (fun _ _ _ h => h) (Or.inl ⟨by rfl, ?_⟩) hHeld ?_
              · intro w hSw
                simp only [List.getElem_toArray, List.getElem_cons_zero, List.getElem_cons_succ]
                go_simp
              simp only [Act.put, List.getElem_toArray, List.getElem_cons_zero, List.getElem_cons_succ, List.setIfInBounds_toArray, List.set_cons_zero, List.set_cons_succ]
              refine wpAnyH_ready (rs := [5]) (by kernel_rfl) (by simp) ?_
              refine AllReadyH.cons rfl (fun K hK => ?_) AllReadyH.nil
              simp only [List.getElem_toArray, List.getElem_cons_zero, List.getElem_cons_succ]
              go_simp
              refine hK.out _ _ hHeld (fun hHeld => ?_)
              clear hK K
              refine wpAnyH_take (i := 8) (v := .int .i64 ((mk ||| D : Nat) : Int)) rfl (by kernel_rfl) (by kernel_rfl) (by kernel_rfl) (fun _ _ _ h => h) (Or.inl ⟨by rfl, ?_⟩) hHeld ?_
              · intro w hSw
                simp only [List.getElem_toArray, List.getElem_cons_zero, List.getElem_cons_succ]
                go_simp
              simp only [Act.put, List.getElem_toArray, List.getElem_cons_zero, List.getElem_cons_succ, List.setIfInBounds_toArray, List.set_cons_zero, List.set_cons_succ]
              refine wpAnyH_take (i := 9) (v := .pointer (some ⟨gs, kf, none⟩)) rfl (by kernel_rfl) (by kernel_rfl) (by kernel_rfl) (fun _ _ _ h => h) (Or.inl ⟨by rfl, ?_⟩) hHeld ?_
              · intro w hSw
                simp only [List.getElem_toArray, List.getElem_cons_zero, List.getElem_cons_succ]
                go_simp
              simp only [Act.put, List.getElem_toArray, List.getElem_cons_zero, List.getElem_cons_succ, List.setIfInBounds_toArray, List.set_cons_zero, List.set_cons_succ]
              refine wpAnyH_ready (rs := [10]) (by kernel_rfl) (by simp) ?_
              refine AllReadyH.cons rfl (fun K hK => ?_) AllReadyH.nil
              simp only [List.getElem_toArray, List.getElem_cons_zero, List.getElem_cons_succ]
              go_simp
              refine hK.out _ _ trivial (fun hHeld => ?_)
              clear hK K
              clear hHeld
              refine wpAnyH_done (by kernel_rfl) ?_ _
              obtain ⟨u15, hu15⟩ : ∃ u, (u13.setCell ⟨gs, kf, none⟩ (.int .i64 ((mk ||| D : Nat) : Int))).drew = u := ⟨_, rfl⟩
              rw [hu15]
              clear c9 zg9 f9 j0
              have hz1 : gs < wr.heap.size := by have h1 := hgs2; have h2 := hb10w.out.size; omega
              have hz2 : wr.heap.size ≤ u12.heap.size := HZ12.out
              have HLS := PsL.store (j := kf) (show PsL w1 w1.heap.size sb (.slice (some ⟨g0, 0, none⟩) p.length cap1) u13 (.slice (some ⟨gs, 0, none⟩) ms.length scap) ms C sk from by rw [show ms.length = nf from hmlen]; exact HL13.out) (by omega) (mk ||| D)
              have hset : ms.set kf (mk ||| D) = l ++ [mk ||| D] := by rw [HMS.out, ← HKF.out, ← HLL.out]; simp
              have hset2 : (l ++ [mk ||| D]).length = nf := by have h1 := HLL.out; have h2 := HKF.out; have h3 := HNLK.out; simp; omega
              rw [hset, hset2] at HLS
              have HLA := Lib.hid (hu15 ▸ HLS.keeps (Below.refl _ _).drew)
              have hne : ∀ k, k ≠ gs → u15.heap[k]? = u13.heap[k]? := fun k hk => by rw [← hu15]; exact heap_setCell_ne u13 hk _ _
              have HT16 : Hid (u15.heap[u12.heap.size]? = some (.cells C2.toArray 50 (0, 0))) := Lib.hid ((hne _ (by omega)).trans (HX13.out.sts _ (.head _)).1)
              have HAG : Hid (∀ (k : Nat) (o : Obj), wr.heap.size ≤ k → (Value.slice (some ⟨gs, 0, none⟩) nf scap).ownBlock ≠ some k → u12.heap[k]? = some o → u15.heap[k]? = some o) := Lib.hid (fun k o hk _ hh => (hne k (by omega)).trans ((HBN13.out.block k (block_lt hh)).trans hh))
              have HS16 : Hid (∀ k, (Value.slice (some ⟨gs, 0, none⟩) nf scap).ownBlock = some k → k < wr.heap.size ∨ u12.heap.size ≤ k) := Lib.hid (fun k e => by have e1 : gs = k := (by simpa [Value.ownBlock] using e); exact .inl (by omega))
              have HLP := Lib.hid (HLA.out.put HC2t.out HX11.out.below.size (HX11.out.lt (.head _)) HS16.out HAG.out (HCk.out.len HIk.out.mem) (HC2.out.len HI2.out.mem))
              have HR16 := Lib.hid (range_block HT16.out)
              have zt16 : u12.heap.size < u15.heap.size := block_lt HT16.out
              have zs16 : sb < u15.heap.size := block_lt HLA.out.sblk
              clear hne HLS hset hset2 hu15
              go_wp2_with (first | (refine wpList_load_mid (by rfl) 50 _ (by rfl) u12.heap.size 0 (by rfl) C2 _ HR16.out Tryd.underlying50 (by rfl) HJ2.out ?_) | (refine wpList_store_mid (by rfl) 50 _ _ (by rfl) sb 0 C2.toArray (by rfl) (by rfl) ?_ ?_ ?_ ?_; go_must (exact there_block HLA.out.sblk (by simp [HC2.out.len HI2.out.mem, HCk.out.len HIk.out.mem])); go_must (simpa using HJ2.out); go_must (exact HC2.out.one); go_must (obtain ⟨u16, hu16⟩ : ∃ w8, u15.setCells sb 0 C2.toArray.toList = w8 := ⟨_, rfl⟩; rw [hu16]; have HL16 := Lib.hid (hu16 ▸ HLP.out); clear hu16)))
              go_roundw
              case rel => exact ⟨k + 1, .slice (some ⟨gs, 0, none⟩) nf scap, l ++ [mk ||| D], C2, by omega, by go_num, rfl, by rw [HW2.out]; exact HL16.out, by rw [HW2.out, ← HMA.out]; exact HMN.out⟩
              case measure => simp [intOf]; omega
            have HMA := Lib.hid (show nextM p sk ms = ms by
              unfold nextM
              rw [HS2S.out, HN2.out, HN.out, if_neg hA1, if_neg hB1, topFr_eq HFS.out, HDR.out, if_neg hw])
            by_cases hdn : 0 ≤ dR
            · have h17 : (insOf p f).op = 17 := by omega
              have H17 := Lib.hid h17
              clear h17 hw
              go_wp2_with (first | (refine wpList_store_mid (by rfl) 50 _ _ (by rfl) u12.heap.size 0 C2.toArray (by rfl) (by rfl) (there_new u12 zeroV _ (by simp [HC2.out.len HI2.out.mem, zeroV_length])) (by simpa using HJ2.out) HC2.out.one ?_; obtain ⟨u13, hu13⟩ : ∃ u13, (u12.alloc (.cells zeroV.toArray 50)).setCells u12.heap.size 0 C2.toArray.toList = u13 := ⟨_, rfl⟩; rw [hu13]; have HX13 : Hid (Sx w1 w1.heap.size (.slice (some ⟨g0, 0, none⟩) p.length cap1) u13 [(u12.heap.size, C2, s2), (sb, C, sk)]) := Lib.hid (hu13 ▸ HX12.out.add HC2.out HI2.out.mem); have pc13 := HX13.out.pcell; have HBN13 : Hid (Below u12.heap.size u12 u13) := Lib.hid (hu13 ▸ below_setCells (Nat.le_refl _) _ _ _ ((Below.refl _ _).alloc (Nat.le_refl _) _)); clear hu13; have HL13 := Lib.hid (HL12.out.keeps HBN13.out); have HTX13 := Lib.hid ((HBN13.out.block _ (block_lt HTX12.out)).trans HTX12.out); have HXB13 := Lib.hid ((HBN13.out.block _ (block_lt HXB12.out)).trans HXB12.out); obtain ⟨FB, fb, EB, eb, AB, ab, hB⟩ := HX13.out.cin (.head _) HI2.out; have b2 := (HX13.out.cell (.head _) 2).trans hB.c2; rw [HN2.out] at b2; have a2 := (HX13.out.cell (.tail _ (.head _)) 2).trans HCF2.out; have z13 := HX13.out.lt (.head _); have z13s := HX13.out.lt (.tail _ (.head _)); have i4 := (cell_block HXB13.out 4).trans rfl; have z13i := block_lt HXB13.out; clear hB; have j0 := (cell_block HXB13.out 0).trans rfl; have j1 := j0.trans (congrArg (fun x => some (Value.int .i64 x)) H17.out); clear j0; go_must (have HLA := HL13); go_must (have hz1 : gs < wr.heap.size := by (have h1 := hgs2; have h2 := hb10w.out.size; omega)); go_must (have hz2 : wr.heap.size ≤ u12.heap.size := HZ12.out); go_must (have HT16 : Hid (u13.heap[u12.heap.size]? = some (.cells C2.toArray 50 (0, 0))) := Lib.hid (HX13.out.sts _ (.head _)).1); go_must (have HAG : Hid (∀ (k : Nat) (o : Obj), wr.heap.size ≤ k → (Value.slice (some ⟨gs, 0, none⟩) nf scap).ownBlock ≠ some k → u12.heap[k]? = some o → u13.heap[k]? = some o) := Lib.hid (fun k o hk _ hh => (HBN13.out.block k (block_lt hh)).trans hh)); go_must (have HS16 : Hid (∀ k, (Value.slice (some ⟨gs, 0, none⟩) nf scap).ownBlock = some k → k < wr.heap.size ∨ u12.heap.size ≤ k) := Lib.hid (fun k e => by have e1 : gs = k := (by simpa [Value.ownBlock] using e); exact .inl (by omega))); go_must (have HLP := Lib.hid (HLA.out.put HC2t.out HX11.out.below.size (HX11.out.lt (.head _)) HS16.out HAG.out (HCk.out.len HIk.out.mem) (HC2.out.len HI2.out.mem)); have HR16 := Lib.hid (range_block HT16.out); have zt16 : u12.heap.size < u13.heap.size := block_lt HT16.out; have zs16 : sb < u13.heap.size := block_lt HLA.out.sblk)) | (refine wpList_load_mid (by rfl) 50 _ (by rfl) u12.heap.size 0 (by rfl) C2 _ HR16.out Tryd.underlying50 (by rfl) HJ2.out ?_) | (refine wpList_store_mid (by rfl) 50 _ _ (by rfl) sb 0 C2.toArray (by rfl) (by rfl) ?_ ?_ ?_ ?_; go_must (exact there_block HLA.out.sblk (by simp [HC2.out.len HI2.out.mem, HCk.out.len HIk.out.mem])); go_must (simpa using HJ2.out); go_must (exact HC2.out.one); go_must (obtain ⟨u16, hu16⟩ : ∃ w8, u13.setCells sb 0 C2.toArray.toList = w8 := ⟨_, rfl⟩; rw [hu16]; have HL16 := Lib.hid (hu16 ▸ HLP.out); clear hu16)))
              go_roundw
              case rel => exact ⟨k + 1, .slice (some ⟨gs, 0, none⟩) nf scap, ms, C2, by omega, by go_num, rfl, by rw [HW2.out]; exact HL16.out, by rw [HW2.out, ← HMA.out]; exact HMN.out⟩
              case measure => simp [intOf]; omega
            · clear hw
              go_wp2_with (first | (refine wpList_store_mid (by rfl) 50 _ _ (by rfl) u12.heap.size 0 C2.toArray (by rfl) (by rfl) (there_new u12 zeroV _ (by simp [HC2.out.len HI2.out.mem, zeroV_length])) (by simpa using HJ2.out) HC2.out.one ?_; obtain ⟨u13, hu13⟩ : ∃ u13, (u12.alloc (.cells zeroV.toArray 50)).setCells u12.heap.size 0 C2.toArray.toList = u13 := ⟨_, rfl⟩; rw [hu13]; have HX13 : Hid (Sx w1 w1.heap.size (.slice (some ⟨g0, 0, none⟩) p.length cap1) u13 [(u12.heap.size, C2, s2), (sb, C, sk)]) := Lib.hid (hu13 ▸ HX12.out.add HC2.out HI2.out.mem); have pc13 := HX13.out.pcell; have HBN13 : Hid (Below u12.heap.size u12 u13) := Lib.hid (hu13 ▸ below_setCells (Nat.le_refl _) _ _ _ ((Below.refl _ _).alloc (Nat.le_refl _) _)); clear hu13; have HL13 := Lib.hid (HL12.out.keeps HBN13.out); have HTX13 := Lib.hid ((HBN13.out.block _ (block_lt HTX12.out)).trans HTX12.out); have HXB13 := Lib.hid ((HBN13.out.block _ (block_lt HXB12.out)).trans HXB12.out); obtain ⟨FB, fb, EB, eb, AB, ab, hB⟩ := HX13.out.cin (.head _) HI2.out; have b2 := (HX13.out.cell (.head _) 2).trans hB.c2; rw [HN2.out] at b2; have a2 := (HX13.out.cell (.tail _ (.head _)) 2).trans HCF2.out; have z13 := HX13.out.lt (.head _); have z13s := HX13.out.lt (.tail _ (.head _)); have i4 := (cell_block HXB13.out 4).trans rfl; have z13i := block_lt HXB13.out; clear hB; have j0 := (cell_block HXB13.out 0).trans rfl; go_must (have HLA := HL13); go_must (have hz1 : gs < wr.heap.size := by (have h1 := hgs2; have h2 := hb10w.out.size; omega)); go_must (have hz2 : wr.heap.size ≤ u12.heap.size := HZ12.out); go_must (have HT16 : Hid (u13.heap[u12.heap.size]? = some (.cells C2.toArray 50 (0, 0))) := Lib.hid (HX13.out.sts _ (.head _)).1); go_must (have HAG : Hid (∀ (k : Nat) (o : Obj), wr.heap.size ≤ k → (Value.slice (some ⟨gs, 0, none⟩) nf scap).ownBlock ≠ some k → u12.heap[k]? = some o → u13.heap[k]? = some o) := Lib.hid (fun k o hk _ hh => (HBN13.out.block k (block_lt hh)).trans hh)); go_must (have HS16 : Hid (∀ k, (Value.slice (some ⟨gs, 0, none⟩) nf scap).ownBlock = some k → k < wr.heap.size ∨ u12.heap.size ≤ k) := Lib.hid (fun k e => by have e1 : gs = k := (by simpa [Value.ownBlock] using e); exact .inl (by omega))); go_must (have HLP := Lib.hid (HLA.out.put HC2t.out HX11.out.below.size (HX11.out.lt (.head _)) HS16.out HAG.out (HCk.out.len HIk.out.mem) (HC2.out.len HI2.out.mem)); have HR16 := Lib.hid (range_block HT16.out); have zt16 : u12.heap.size < u13.heap.size := block_lt HT16.out; have zs16 : sb < u13.heap.size := block_lt HLA.out.sblk)) | (refine wpList_load_mid (by rfl) 50 _ (by rfl) u12.heap.size 0 (by rfl) C2 _ HR16.out Tryd.underlying50 (by rfl) HJ2.out ?_) | (refine wpList_store_mid (by rfl) 50 _ _ (by rfl) sb 0 C2.toArray (by rfl) (by rfl) ?_ ?_ ?_ ?_; go_must (exact there_block HLA.out.sblk (by simp [HC2.out.len HI2.out.mem, HCk.out.len HIk.out.mem])); go_must (simpa using HJ2.out); go_must (exact HC2.out.one); go_must (obtain ⟨u16, hu16⟩ : ∃ w8, u13.setCells sb 0 C2.toArray.toList = w8 := ⟨_, rfl⟩; rw [hu16]; have HL16 := Lib.hid (hu16 ▸ HLP.out); clear hu16)))
              go_roundw
              case rel => exact ⟨k + 1, .slice (some ⟨gs, 0, none⟩) nf scap, ms, C2, by omega, by go_num, rfl, by rw [HW2.out]; exact HL16.out, by rw [HW2.out, ← HMA.out]; exact HMN.out⟩
              case measure => simp [intOf]; omega
        · have hj1 : (j : Int) < RL := by omega
          have hj2 : (0 : Int) ≤ j := by omega
          have hjw : IntKind.i64.wrap ((j : Int) + 1) = j + 1 := by rw [IntKind.wrap_i64]; omega
          obtain ⟨r, hr⟩ : ∃ r, (rdL (insOf p f) (parOf p (insOf p f)))[j]? = some r := ⟨(rdL (insOf p f) (parOf p (insOf p f)))[j]'(by rw [HRL.out]; omega), List.getElem?_eq_getElem _⟩
          obtain ⟨rb, ro, rfl, hrb, hrc⟩ := HRA.out (by rw [HRL.out]; omega)
          have cr := (hbj.cell (p := ⟨rb, _, none⟩) hrb).trans (hrc j r hr)
          have cs := (hbj.cell (p := ⟨gs, kf, none⟩) zgs).trans HCSL.out
          have zr1 : rb < wr.heap.size := Nat.lt_of_lt_of_le hrb hbj.size
          have zr2 : gs < wr.heap.size := Nat.lt_of_lt_of_le zgs hbj.size
          obtain ⟨hbt, hr0, hr1⟩ := HBIT.out r (List.mem_of_getElem? hr)
          have hbm := HSUBR.out.bit _ hbt
          have hsh := bit_fact hmk hr0 hr1 hbm
          clear hrc hr hbt hbm hbj hjn
          go_wp2_with fail
          go_quiet (fail)
          go_wp2_with fail
          go_roundw
          case rel => exact ⟨j + 1, by omega, by go_num, HBJ.out.trans (by have hb := Below.refl wr.heap.size wr; exact (Below.mono (by repeat (first | exact hb | exact Below.refl _ _ | apply Below.drew | apply below_drewN | refine Below.alloc ?_ (by first | omega | (simp; done) | (simp; omega)) _ | refine Below.setCell ?_ (by first | omega | (simp; done) | (simp; omega)) _)) (HBJ.out.size)))⟩
          case measure => simp [intOf]; omega
    · obtain ⟨st, hst'⟩ : ∃ x, sk.status = x := ⟨_, rfl⟩
      rw [hst'] at c0
      have hq2 : (st == 0) = false := by rw [← hst']; simpa using hst
      clear hwk hst hst' hFIN hk4
      go_wp2_with fail
      go_ret
      exact ⟨rfl, HFIN.out⟩
end Go.Proofs.YtnbopmlemddakaaDoor
