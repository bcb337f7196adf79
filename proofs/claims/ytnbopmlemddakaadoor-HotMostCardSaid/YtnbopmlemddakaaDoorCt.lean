/-
  The contract of profile.Counts: how often each instruction of a run is done.
-/
import Derived.Test.YtnbopmlemddakaaDoorCtM
namespace Go.Proofs.YtnbopmlemddakaaDoor
open Go.RowKit Tier
set_option maxRecDepth 100000 in
set_option maxHeartbeats 8000000 in
theorem counts_any {p : List Fnc} (hc : checkP p = 0) (args ans : List Int) (XA : Option Addr) (xcap : Nat) (YA : Option Addr) (ycap : Nat) (fuel : Int) (A : Option Addr) (cap : Nat) (w : World) (ht : Tab w) (hP : ProgAt w (.slice A p.length cap) p)
    (hx : IntsAt w XA args) (hlx : (fnOf p 0).params = args.length) (hy : IntsAt w YA ans) (hly : ans.length ≤ 100) (f0 : 0 ≤ fuel) (f1 : fuel ≤ 10000) :
    Calls Tryd.prog 35 #[.agg #[.slice A p.length cap], .slice XA args.length xcap, .slice YA ans.length ycap, .int .i64 fuel] w fun e w' => (∃ (g : Nat) (bs : List Nat) (k : Nat), e = .returned (.tuple #[.slice (some ⟨g, 0, none⟩) p.length p.length, .int .i64 0]) ∧ k ≤ 10001 ∧ (walkSt p k (beginSt args ans fuel)).status ≠ 0 ∧ OutAt w' g bs (cntK p (beginSt args ans fuel) k)) ∧ Below w.heap.size w w' := by
  have hp := right_of hc
  have hl1 := hp.ok.l1
  have hl4 := hp.ok.l2
  have hla : args.length ≤ 2 := by
    obtain ⟨F, -, e, -, h2⟩ := first_params hp
    rw [e] at hlx; omega
  have hi0 := begin_inv hp args ans fuel (by omega) hly f0 f1
  have HBG := Lib.hid (fun (W : World) (h1 : Below w.heap.size w W) => sbegin_any hc args ans XA xcap YA ycap fuel A cap W (ht.keeps h1) (hP.keeps h1) (hx.keeps h1) hlx (hy.keeps h1) hly f0 f1)
  have hcn := cnt_inv hp hi0 rfl _ rfl rfl
  have hfu0 : (beginSt args ans fuel).fuel = fuel := rfl
  have hst00 : (beginSt args ans fuel).status = 0 := rfl
  rw [hfu0] at hcn
  obtain ⟨s0, hs0⟩ : ∃ s0, beginSt args ans fuel = s0 := ⟨_, rfl⟩
  rw [hs0] at HBG hi0 hcn hfu0 hst00 ⊢
  have HS00 := Lib.hid hst00
  clear hst00
  have HCN := Lib.hid hcn
  have HI0 := Lib.hid hi0
  have HIK := Lib.hid (fun (k : Nat) => hi0.walk hp k)
  have HE3 := Lib.hid (walk_ends hp 10001 hi0 (by omega))
  have HRP := Lib.hid hp
  have HP := Lib.hid hP
  have HNX := Lib.hid (fun (s : St) (hs : StInv p s) (C : List Value) (W : World) (hb : Below w.heap.size w W) (hC : CellsSt C W w.heap.size s) => snext_c hc (ht.keeps hb) (hP.keeps hb) hs hC)
  obtain ⟨A0, cap0, hA0, hA⟩ := hP.slice
  simp only [Value.slice.injEq, true_and] at hA0
  obtain ⟨gp, hAg, hgp, hfn⟩ := hA (by omega)
  obtain ⟨rfl, rfl⟩ := hA0
  subst hAg
  have HFN := Lib.hid hfn
  have HFO := Lib.hid (fun (F : Fnc) (h : F ∈ p) => hp.ok.fn F h)
  obtain ⟨n, hn⟩ : ∃ n, p.length = n := ⟨_, rfl⟩
  obtain ⟨m, hm⟩ : ∃ m, args.length = m := ⟨_, rfl⟩
  obtain ⟨ka, hka⟩ : ∃ m, ans.length = m := ⟨_, rfl⟩
  have HNP := Lib.hid hn
  have hmk := make_nils n (by omega)
  have hz := zero_st
  have HZL : Hid ((zeroC p).length = n) := Lib.hid (by simp [zeroC, hn])
  have HP' : Hid (ProgAt w (.slice (some ⟨gp, 0, none⟩) n cap) p) := Lib.hid (by rw [← hn]; exact HP.out)
  rw [hm, hka] at HBG
  rw [hn] at HBG HNX hl1 hl4 ⊢
  rw [hm, hka]
  clear hA hfn hp hc ht hP hx hlx hy hly hcn hi0 hs0 hn hm hka HP
  have hb0 := Lib.hid ((Below.refl w.heap.size w).alloc (Nat.le_refl _) (.cells #[.slice (some ⟨gp, 0, none⟩) n cap] 25))
  go_enter Tryd.func35, Tryd.ntmps35
  go_wp2_with fail
  refine (HBG.out _ hb0.out).mono ?_
  rintro e u1 ⟨⟨C0, rfl, hC0⟩, hb1⟩
  have HX1 : Hid (Sx w w.heap.size (.slice (some ⟨gp, 0, none⟩) n cap) u1 []) := Lib.hid ((Sx.mk hb0.out (heap_alloc_new w _) (fun x hx => by simp at hx)).keeps hb1)
  have HC0 := Lib.hid (hC0.base (by simp : w.heap.size ≤ _))
  have HJ0 := Lib.hid (info_st (HC0.out.len HI0.out.mem))
  clear hC0 hb1 HBG
  have pc1 := HX1.out.pcell
  go_wp2_with (refine wpList_store_mid (by rfl) 50 _ _ (by rfl) u1.heap.size 0 C0.toArray (by rfl) (by rfl) (there_new u1 zeroV _ (by simp [HC0.out.len HI0.out.mem, zeroV_length])) (by simpa using HJ0.out) HC0.out.one ?_; obtain ⟨u2, hu2⟩ : ∃ u2, (u1.alloc (.cells zeroV.toArray 50)).setCells u1.heap.size 0 C0.toArray.toList = u2 := ⟨_, rfl⟩; rw [hu2]; have HX2 : Hid (Sx w w.heap.size (.slice (some ⟨gp, 0, none⟩) n cap) u2 [(u1.heap.size, C0, s0)]) := Lib.hid (hu2 ▸ HX1.out.add HC0.out HI0.out.mem); have pc2 := HX2.out.pcell; have HBN : Hid (Below u1.heap.size u1 u2) := Lib.hid (hu2 ▸ below_setCells (Nat.le_refl _) _ _ _ ((Below.refl _ _).alloc (Nat.le_refl _) _)); clear hu2; have z2 := HX2.out.lt (.head _); have zp := block_lt HX2.out.pblk; clear pc1)
  have HCL0 := Lib.hid (made_nils u2 n (zeroC p))
  obtain ⟨u3, hu3⟩ : ∃ u3, u2.alloc (.cells (madeCells #[.slice none 0 0] n) 28) = u3 := ⟨_, rfl⟩
  rw [hu3] at HCL0 ⊢
  clear hu3 hmk
  go_loopw [36] (fun v wr => ∃ (k : Nat) (bs : List Nat), k ≤ n ∧ v = .int .i64 (k : Int) ∧ Ct1 u2 wr (zeroC p) n k bs) (fun v _ => n - (intOf v).toNat)
  case atStart => exact ⟨0, [], by omega, rfl, HCL0.out⟩
  case round =>
    obtain ⟨k, bs, hk, rfl, hS⟩ := hrel
    clear HCL0
    have HS := Lib.hid hS
    have z3 := hS.below.size
    have z4 := block_lt hS.row
    have HXr := Lib.hid (HX2.out.keeps hS.below)
    have pcr := HXr.out.pcell
    have zr := block_lt HXr.out.pblk
    clear hS pc2
    by_cases hkn : k = n
    · rw [hkn] at HS ⊢
      clear hk hkn
      have hL := HS.out.fin HNP.out HX2.out HC0.out HBN.out (by have := HX1.out.below.size; have := block_lt HX1.out.pblk; omega)
      obtain ⟨sb, hsb⟩ : ∃ sb, u1.heap.size = sb := ⟨_, rfl⟩
      obtain ⟨og, hg⟩ : ∃ g, u2.heap.size = g := ⟨_, rfl⟩
      rw [hsb, hg] at hL
      rw [hsb, hg]
      have HL := Lib.hid hL
      have HLK : Hid (CtL w w.heap.size sb og (.slice (some ⟨gp, 0, none⟩) n cap) wr bs (cntK p s0 0) C0 (walkSt p 0 s0)) := Lib.hid hL
      clear hL hsb hg HXr HS HX2 pcr z3 z4 zr z2 zp HX1 HBN HC0 HJ0
      go_wp2_with fail
      go_loopg [17] (s0.fuel.toNat + 1) (fun q _ wr => ∃ (k : Nat) (C : List Value), k ≤ 10001 ∧ q = (walkSt p k s0).fuel.toNat + (if (walkSt p k s0).status = 0 then 1 else 0) ∧ CtL w w.heap.size sb og (.slice (some ⟨gp, 0, none⟩) n cap) wr bs (cntK p s0 k) C (walkSt p k s0))
      case atStart => exact ⟨0, C0, by omega, by rw [show walkSt p 0 s0 = s0 from rfl, if_pos HS00.out], HLK.out⟩
      case round =>
        obtain ⟨k, C, hk, hq, hL1⟩ := hrel
        clear HL HLK
        have HL := Lib.hid hL1
        have HX5 := Lib.hid hL1.sx
        have HIk0 := HIK.out k
        have hwk := walkSt_succ k s0 (p := p)
        have hcs : cntK p s0 (k + 1) = if (walkSt p k s0).status = 0 then bump (cntK p s0 k) (topF (walkSt p k s0)).fn.toNat (topF (walkSt p k s0)).pc.toNat ((walkSt p k s0).fuel - (walkSt p (k + 1) s0).fuel) else cntK p s0 k := rfl
        have hcn := HCN.out k
        have hk3 : (walkSt p k s0).status = 0 → k < 10001 := fun h => by
          rcases Nat.lt_or_ge k 10001 with h1 | h1
          · exact h1
          · obtain rfl : k = 10001 := by omega
            exact absurd h HE3.out
        have HFS0 := Lib.hid (fun (h : (walkSt p k s0).status ≠ 0) => (⟨hk, h⟩ : k ≤ 10001 ∧ (walkSt p k s0).status ≠ 0))
        obtain ⟨sk, hsk⟩ : ∃ s, walkSt p k s0 = s := ⟨_, rfl⟩
        obtain ⟨ck, hck⟩ : ∃ s, cntK p s0 k = s := ⟨_, rfl⟩
        rw [hck] at HL hcs hcn
        rw [hsk] at HL HX5 HIk0 hwk hcs hcn hk3 hq HFS0
        have HIk := Lib.hid HIk0
        have HI1 := HIk
        have HCk := Lib.hid (HX5.out.sts _ (.head _)).2
        have HJk := Lib.hid (info_st (HCk.out.len HIk.out.mem))
        have pc5 := HX5.out.pcell
        obtain ⟨FA, fa, EA, ea, AA, aa, hA⟩ := HCk.out.cin HIk.out.mem (fun f hf => (HIk.out.fr f hf).regs)
        have c0 := (HX5.out.cell (.head _) 0).trans hA.c0
        have zk := HX5.out.lt (.head _)
        clear hL1 HIk0 hA
        by_cases hst : sk.status = 0
        · have hk1 := hk3 hst
          rw [if_pos hst] at hcs hq
          rw [hst] at c0
          obtain ⟨s2, hs2⟩ : ∃ s, nextSt p sk = s := ⟨_, rfl⟩
          have HI2 : Hid (StInv p s2) := Lib.hid (by rw [← hs2, ← hwk]; exact HIK.out (k + 1))
          have HN1 := Lib.hid (HNX.out sk HIk.out)
          rw [hs2] at HN1 hwk
          have HW2 := Lib.hid hwk
          have hfall := nxt_falls HIk.out hst
          rw [hs2] at hfall
          have f1' := HIk.out.fuel0
          have f2' := HIk.out.fuel1
          obtain ⟨fs, f, hf⟩ := HIk.out.running hst
          have HFS := Lib.hid hf
          rw [topF_eq hf, hwk] at hcs
          have HCS := Lib.hid hcs
          have HCNk := Lib.hid hcn
          clear hs2 hwk hcs hcn hf hk3 HFS0 hsk hck
          obtain ⟨FA, fa, EA, ea, AA, aa, hA⟩ := HX5.out.cin (.head _) HIk.out
          have hfo : FrOk p f := HIk.out.fr f (by rw [HFS.out]; simp)
          have HFO' := Lib.hid hfo
          obtain ⟨g, hFA, gz, rF⟩ := top_range hA HFS.out hfo.regs
          obtain ⟨kf, hkf⟩ : ∃ kf, fs.length = kf := ⟨_, rfl⟩
          have HKF := Lib.hid hkf
          have hnl : sk.frames.length = kf + 1 := by rw [HFS.out, ← hkf]; simp
          have HNL := Lib.hid hnl
          have hdp := HIk.out.deep
          obtain ⟨nf, hn⟩ : ∃ nf, sk.frames.length = nf := ⟨_, rfl⟩
          have HN := Lib.hid hn
          have c2 := hA.c2
          rw [hn, hFA] at c2
          have HCF2 := Lib.hid c2
          rw [hn] at hnl hdp
          rw [hkf] at rF
          have hk0 : (0 : Int) ≤ kf := by omega
          have hk1 : (kf : Int) < nf := by omega
          have hk2 : (nf : Int) ≤ 8 := by omega
          have hwn : IntKind.i64.wrap ((nf : Int) - 1) = (kf : Int) := by rw [IntKind.wrap_i64]; omega
          have hFl : (frCell f).length = 14 := frCell_length hfo.regs
          have HFL := Lib.hid hFl
          have HFI : Hid ((Tryd.prog.info? 60).map (·.size) = some (frCell f).length) := Lib.hid (by rw [hFl]; exact info_fr)
          have HFOn : Hid ((frCell f).toArray.all (·.oneCell') = true) := Lib.hid (all_oneCell_toArray (fun v hv => frCells_cell (l := [f]) v (by rw [frCells_one]; exact hv)))
          have HF0 : Hid ((frCell f)[0]? = some (.int .i64 f.fn)) := Lib.hid rfl
          have HF1 : Hid ((frCell f)[1]? = some (.int .i64 f.pc)) := Lib.hid rfl
          have HFG := Lib.hid (fun (r : Int) (h0 : 0 ≤ r) (h1 : r < 12) => frCell_reg hfo.regs h0 h1)
          have fn0 := hfo.fn0
          have pc0 := hfo.pc0
          have fnb : decide (f.fn < 0) = false := by simpa using fn0
          obtain ⟨F, hF'⟩ : ∃ F, frCell f = F := ⟨_, rfl⟩
          rw [hF'] at HFL HFI HFOn HF0 HF1 HFG rF hFl
          have HFF := Lib.hid hF'
          have HRF := Lib.hid (fun (W : World) (hb : Below wr.heap.size wr W) => range_below rF gz hb)
          clear hF' hA rF c2 hfo hFA hkf hn
          have a2 := (HX5.out.cell (.head _) 2).trans HCF2.out
          have rF := HRF.out _ (Below.refl _ _)
          have HCNk2 := HCNk.out
          obtain ⟨F', mm, hF1, hF2, -, hF4⟩ := HFO'.out.parts
          obtain ⟨cc, hcc⟩ : ∃ c, ck[f.fn.toNat]? = some c := ⟨_, List.getElem?_eq_getElem (by rw [HCNk.out.len]; exact (List.getElem?_eq_some_iff.1 hF1).1)⟩
          have hccl := HCNk.out.lens _ F' cc hF1 hcc
          obtain ⟨x, hx⟩ : ∃ x, cc[f.pc.toNat]? = some x := ⟨_, List.getElem?_eq_getElem (by rw [hccl]; exact (List.getElem?_eq_some_iff.1 hF4).1)⟩
          have hxb := HCNk.out.bound (List.mem_of_getElem? hcc) (List.mem_of_getElem? hx)
          have hckl := HCNk.out.len
          rw [HNP.out] at hckl
          have hfnl : f.fn < n := by have := (List.getElem?_eq_some_iff.1 hF1).1; rw [HNP.out] at this; have := HFO'.out.fn0; omega
          have hpcl : f.pc < cc.length := by have := (List.getElem?_eq_some_iff.1 hx).1; have := HFO'.out.pc0; omega
          rw [bump_get hcc hx] at HCS
          obtain ⟨b, hbs, -, -, -, -⟩ := HL.out.out.of hcc
          have HBS := Lib.hid hbs
          have HCC := Lib.hid hcc
          have HXX := Lib.hid hx
          obtain ⟨cl, hcl⟩ : ∃ n, cc.length = n := ⟨_, rfl⟩
          have HCL := Lib.hid hcl
          rw [hcl] at hpcl
          clear HCNk2 hF1 hF2 hF4 hccl hbs hcc hx hcl
          go_wp2_with (first | (refine wpList_load_mid (by rfl) 60 _ (by rfl) g (kf * 14) (by rfl) F _ rF Tryd.underlying60 (by rfl) HFI.out ?_) | (refine wpList_store_mid (by rfl) 60 _ _ (by rfl) wr.heap.size 0 F.toArray (by rfl) (by rfl) (there_new wr [.int .i64 0, .int .i64 0, .int .i64 0, .int .i64 0, .int .i64 0, .int .i64 0, .int .i64 0, .int .i64 0, .int .i64 0, .int .i64 0, .int .i64 0, .int .i64 0, .int .i64 0, .int .i64 0] _ (by simp [HFL.out])) (by simpa using HFI.out) HFOn.out ?_; obtain ⟨wt, hwt⟩ : ∃ wt, (wr.alloc (.cells (List.toArray [.int .i64 0, .int .i64 0, .int .i64 0, .int .i64 0, .int .i64 0, .int .i64 0, .int .i64 0, .int .i64 0, .int .i64 0, .int .i64 0, .int .i64 0, .int .i64 0, .int .i64 0, .int .i64 0]) 60)).setCells wr.heap.size 0 F.toArray.toList = wt := ⟨_, rfl⟩; rw [hwt]; have HBT : Hid (Below wr.heap.size wr wt) := Lib.hid (hwt ▸ below_setCells (Nat.le_refl _) _ _ _ ((Below.refl _ _).alloc (Nat.le_refl _) _)); have HX7 := Lib.hid (HX5.out.keeps HBT.out); have HTB : Hid (wt.heap[wr.heap.size]? = some (.cells F.toArray 60 (0, 0))) := Lib.hid (hwt ▸ block_full (heap_alloc_new _ _) _ (by simp [HFL.out])); have HL7 := Lib.hid (HL.out.keeps HBT.out); have pc7 := HX7.out.pcell; clear hwt a2 rF pc5 c0) | (refine wpList_load_mid (by rfl) 50 _ (by rfl) sb 0 (by rfl) C _ (HX7.out.range (.head _)) Tryd.underlying50 (by rfl) HJk.out ?_))
          refine (HN1.out C _ HX7.out.below (HX7.out.sts _ (.head _)).2).mono ?_
          rintro e u8 ⟨⟨C2, rfl, hC2⟩, hb8⟩
          have HC2t := Lib.hid hC2
          have HX8 := Lib.hid (HX7.out.keeps hb8)
          have HL8 := Lib.hid (HL7.out.keeps hb8)
          have HTX8 := Lib.hid ((hb8.block _ (block_lt HTB.out)).trans HTB.out)
          have HC2 := Lib.hid (hC2.base HX7.out.below.size)
          have HJ2 := Lib.hid (info_st (HC2.out.len HI2.out.mem))
          have HZ8 := Lib.hid hb8.size
          clear hC2 hb8 pc7
          have pc8 := HX8.out.pcell
          go_wp2_with (refine wpList_store_mid (by rfl) 50 _ _ (by rfl) u8.heap.size 0 C2.toArray (by rfl) (by rfl) (there_new u8 zeroV _ (by simp [HC2.out.len HI2.out.mem, zeroV_length])) (by simpa using HJ2.out) HC2.out.one ?_; obtain ⟨u9, hu9⟩ : ∃ u9, (u8.alloc (.cells zeroV.toArray 50)).setCells u8.heap.size 0 C2.toArray.toList = u9 := ⟨_, rfl⟩; rw [hu9]; have HX9 : Hid (Sx w w.heap.size (.slice (some ⟨gp, 0, none⟩) n cap) u9 [(u8.heap.size, C2, s2), (sb, C, sk)]) := Lib.hid (hu9 ▸ HX8.out.add HC2.out HI2.out.mem); have pc9 := HX9.out.pcell; have HBN9 : Hid (Below u8.heap.size u8 u9) := Lib.hid (hu9 ▸ below_setCells (Nat.le_refl _) _ _ _ ((Below.refl _ _).alloc (Nat.le_refl _) _)); clear hu9)
          have HL9 := Lib.hid (HL8.out.keeps HBN9.out)
          have HTX9 := Lib.hid ((HBN9.out.block _ (block_lt HTX8.out)).trans HTX8.out)
          obtain ⟨b', hb', e1, zg, zb, hib⟩ := HL9.out.out.of HCC.out
          obtain rfl : b = b' := by have := HBS.out; rw [hb'] at this; exact (Option.some.inj this).symm
          rw [HCL.out] at e1
          have e2 := hib.cell HXX.out
          have e3 := (cell_block HTX9.out 0).trans (List.getElem?_toArray.trans HF0.out)
          have e4 := (cell_block HTX9.out 1).trans (List.getElem?_toArray.trans HF1.out)
          obtain ⟨FA1, fa1, EA1, ea1, AA1, aa1, hA⟩ := HX9.out.cin (.tail _ (.head _)) HIk.out
          obtain ⟨FB1, fb1, EB1, eb1, AB1, ab1, hB⟩ := HX9.out.cin (.head _) HI2.out
          have e5 := (HX9.out.cell (.tail _ (.head _)) 19).trans hA.c19
          have e6 := (HX9.out.cell (.head _) 19).trans hB.c19
          have e7 := hib.frozen f.pc.toNat
          have hwd : IntKind.i64.wrap (sk.fuel - s2.fuel) = sk.fuel - s2.fuel := by rw [IntKind.wrap_i64]; omega
          have hwx : IntKind.i64.wrap (x + (sk.fuel - s2.fuel)) = x + (sk.fuel - s2.fuel) := by rw [IntKind.wrap_i64]; omega
          have fn0' := HFO'.out.fn0
          have pc0' := HFO'.out.pc0
          have hbz := hib.lt
          have HL10 := Lib.hid ((HL9.out.keeps (Below.refl _ _).drew).bump hb' HCC.out (pc := f.pc.toNat) (x + (sk.fuel - s2.fuel)))
          rw [← HCS.out] at HL10
          have HBX : Hid (∀ y ∈ sb :: bs, y < wt.heap.size) := Lib.hid (fun y hy => by
            rcases List.mem_cons.1 hy with rfl | hy
            · exact HX7.out.lt (.head _)
            · obtain ⟨i, hi⟩ := List.mem_iff_getElem?.1 hy
              have hil : i < ck.length := by rw [← HL7.out.out.blen]; exact (List.getElem?_eq_some_iff.1 hi).1
              exact (HL7.out.out.blk i y _ hi (List.getElem?_eq_getElem hil)).lt)
          have hb1 := HL9.out.bge b (List.mem_of_getElem? hb')
          obtain ⟨-, -, hb2⟩ := HL9.out.lts
          have hb3 : b < wr.heap.size := (HL.out.out.blk _ b _ hb' HCC.out).lt
          have hb4 := HX7.out.below.size
          have hb5 : wr.heap.size ≤ u8.heap.size := Nat.le_trans HBT.out.size HZ8.out
          have HBB : Hid (b ∈ sb :: bs) := Lib.hid (List.mem_cons_of_mem _ (List.mem_of_getElem? hb'))
          clear hA hB hib hb'
          have HSA : Hid ((u9.drew.setCell ⟨b, f.pc.toNat, none⟩ (.int .i64 (x + (sk.fuel - s2.fuel)))).cell? ⟨og, f.fn.toNat, none⟩ = some (.slice (some ⟨b, 0, none⟩) cl cl) ∧ (u9.drew.setCell ⟨b, f.pc.toNat, none⟩ (.int .i64 (x + (sk.fuel - s2.fuel)))).cell? ⟨wr.heap.size, 0, none⟩ = some (.int .i64 f.fn) ∧ (u9.drew.setCell ⟨b, f.pc.toNat, none⟩ (.int .i64 (x + (sk.fuel - s2.fuel)))).cell? ⟨wr.heap.size, 1, none⟩ = some (.int .i64 f.pc) ∧ (u9.drew.setCell ⟨b, f.pc.toNat, none⟩ (.int .i64 (x + (sk.fuel - s2.fuel)))).cell? ⟨sb, 19, none⟩ = some (.int .i64 sk.fuel) ∧ (u9.drew.setCell ⟨b, f.pc.toNat, none⟩ (.int .i64 (x + (sk.fuel - s2.fuel)))).cell? ⟨u8.heap.size, 19, none⟩ = some (.int .i64 s2.fuel)) := Lib.hid ⟨(World.cell?_of_block (heap_setCell_ne u9.drew (show og ≠ b by omega) _ _)).trans e1, (World.cell?_of_block (heap_setCell_ne u9.drew (show wr.heap.size ≠ b by omega) _ _)).trans e3, (World.cell?_of_block (heap_setCell_ne u9.drew (show wr.heap.size ≠ b by omega) _ _)).trans e4, (World.cell?_of_block (heap_setCell_ne u9.drew (show sb ≠ b by omega) _ _)).trans e5, (World.cell?_of_block (heap_setCell_ne u9.drew (show u8.heap.size ≠ b by omega) _ _)).trans e6⟩
          refine wp_region_held_drew (S := fun w' => w'.cell? ⟨og, f.fn.toNat, none⟩ = some (.slice (some ⟨b, 0, none⟩) cl cl) ∧ w'.cell? ⟨wr.heap.size, 0, none⟩ = some (.int .i64 f.fn) ∧ w'.cell? ⟨wr.heap.size, 1, none⟩ = some (.int .i64 f.pc) ∧ w'.cell? ⟨sb, 19, none⟩ = some (.int .i64 sk.fuel) ∧ w'.cell? ⟨u8.heap.size, 19, none⟩ = some (.int .i64 s2.fuel)) (by kernel_rfl) ⟨e1, e3, e4, e5, e6⟩ (fun hHeld => ?_)
          refine wpAnyH_take (i := 0) (v := .slice (some ⟨og, 0, none⟩) n n) rfl (by kernel_rfl) (by kernel_rfl) (by kernel_rfl) (fun _ _ _ h => h) (Or.inl ⟨by rfl, ?_⟩) hHeld ?_
          · intro w hSw
            obtain ⟨q0, q1, q2, q3, q4⟩ := hSw
            simp only [List.getElem_toArray, List.getElem_cons_zero]
            go_simp
          simp only [Act.put, List.getElem_toArray, List.getElem_cons_zero, List.setIfInBounds_toArray, List.set_cons_zero, List.set_cons_succ]
          refine wpAnyH_take (i := 1) (v := .pointer (some ⟨wr.heap.size, 0, none⟩)) rfl (by kernel_rfl) (by kernel_rfl) (by kernel_rfl) (fun _ _ _ h => h) (Or.inl ⟨by rfl, ?_⟩) hHeld ?_
          · intro w hSw
            obtain ⟨q0, q1, q2, q3, q4⟩ := hSw
            simp only [List.getElem_toArray, List.getElem_cons_zero, List.getElem_cons_succ]
            go_simp
          simp only [Act.put, List.getElem_toArray, List.getElem_cons_zero, List.getElem_cons_succ, List.setIfInBounds_toArray, List.set_cons_zero, List.set_cons_succ]
          refine wpAnyH_take (i := 2) (v := .int .i64 f.fn) rfl (by kernel_rfl) (by kernel_rfl) (by kernel_rfl) (fun _ _ _ h => h) (Or.inl ⟨by rfl, ?_⟩) hHeld ?_
          · intro w hSw
            obtain ⟨q0, q1, q2, q3, q4⟩ := hSw
            simp only [List.getElem_toArray, List.getElem_cons_zero, List.getElem_cons_succ]
            go_simp
          simp only [Act.put, List.getElem_toArray, List.getElem_cons_zero, List.getElem_cons_succ, List.setIfInBounds_toArray, List.set_cons_zero, List.set_cons_succ]
          refine wpAnyH_take (i := 3) (v := .pointer (some ⟨og, f.fn.toNat, none⟩)) rfl (by kernel_rfl) (by kernel_rfl) (by kernel_rfl) (fun _ _ _ h => h) (Or.inl ⟨by rfl, ?_⟩) hHeld ?_
          · intro w hSw
            obtain ⟨q0, q1, q2, q3, q4⟩ := hSw
            simp only [List.getElem_toArray, List.getElem_cons_zero, List.getElem_cons_succ]
            go_simp
          simp only [Act.put, List.getElem_toArray, List.getElem_cons_zero, List.getElem_cons_succ, List.setIfInBounds_toArray, List.set_cons_zero, List.set_cons_succ]
          refine wpAnyH_take (i := 4) (v := .slice (some ⟨b, 0, none⟩) cl cl) rfl (by kernel_rfl) (by kernel_rfl) (by kernel_rfl) (fun _ _ _ h => h) (Or.inl ⟨by rfl, ?_⟩) hHeld ?_
          · intro w hSw
            obtain ⟨q0, q1, q2, q3, q4⟩ := hSw
            simp only [List.getElem_toArray, List.getElem_cons_zero, List.getElem_cons_succ]
            go_simp
          simp only [Act.put, List.getElem_toArray, List.getElem_cons_zero, List.getElem_cons_succ, List.setIfInBounds_toArray, List.set_cons_zero, List.set_cons_succ]
          refine wpAnyH_take (i := 5) (v := .pointer (some ⟨wr.heap.size, 1, none⟩)) rfl (by kernel_rfl) (by kernel_rfl) (by kernel_rfl) (fun _ _ _ h => h) (Or.inl ⟨by rfl, ?_⟩) hHeld ?_
          · intro w hSw
            obtain ⟨q0, q1, q2, q3, q4⟩ := hSw
            simp only [List.getElem_toArray, List.getElem_cons_zero, List.getElem_cons_succ]
            go_simp
          simp only [Act.put, List.getElem_toArray, List.getElem_cons_zero, List.getElem_cons_succ, List.setIfInBounds_toArray, List.set_cons_zero, List.set_cons_succ]
          refine wpAnyH_take (i := 6) (v := .int .i64 f.pc) rfl (by kernel_rfl) (by kernel_rfl) (by kernel_rfl) (fun _ _ _ h => h) (Or.inl ⟨by rfl, ?_⟩) hHeld ?_
          · intro w hSw
            obtain ⟨q0, q1, q2, q3, q4⟩ := hSw
            simp only [List.getElem_toArray, List.getElem_cons_zero, List.getElem_cons_succ]
            go_simp
          simp only [Act.put, List.getElem_toArray, List.getElem_cons_zero, List.getElem_cons_succ, List.setIfInBounds_toArray, List.set_cons_zero, List.set_cons_succ]
          refine wpAnyH_take (i := 7) (v := .pointer (some ⟨b, f.pc.toNat, none⟩)) rfl (by kernel_rfl) (by kernel_rfl) (by kernel_rfl) (fun _ _ _ h => h) (Or.inl ⟨by rfl, ?_⟩) hHeld ?_
          · intro w hSw
            obtain ⟨q0, q1, q2, q3, q4⟩ := hSw
            simp only [List.getElem_toArray, List.getElem_cons_zero, List.getElem_cons_succ]
            go_simp
          simp only [Act.put, List.getElem_toArray, List.getElem_cons_zero, List.getElem_cons_succ, List.setIfInBounds_toArray, List.set_cons_zero, List.set_cons_succ]
          refine wpAnyH_take (i := 9) (v := .pointer (some ⟨sb, 19, none⟩)) rfl (by kernel_rfl) (by kernel_rfl) (by kernel_rfl) (fun _ _ _ h => h) (Or.inl ⟨by rfl, ?_⟩) hHeld ?_
          · intro w hSw
            obtain ⟨q0, q1, q2, q3, q4⟩ := hSw
            simp only [List.getElem_toArray, List.getElem_cons_zero, List.getElem_cons_succ]
            go_simp
          simp only [Act.put, List.getElem_toArray, List.getElem_cons_zero, List.getElem_cons_succ, List.setIfInBounds_toArray, List.set_cons_zero, List.set_cons_succ]
          refine wpAnyH_take (i := 10) (v := .int .i64 sk.fuel) rfl (by kernel_rfl) (by kernel_rfl) (by kernel_rfl) (fun _ _ _ h => h) (Or.inl ⟨by rfl, ?_⟩) hHeld ?_
          · intro w hSw
            obtain ⟨q0, q1, q2, q3, q4⟩ := hSw
            simp only [List.getElem_toArray, List.getElem_cons_zero, List.getElem_cons_succ]
            go_simp
          simp only [Act.put, List.getElem_toArray, List.getElem_cons_zero, List.getElem_cons_succ, List.setIfInBounds_toArray, List.set_cons_zero, List.set_cons_succ]
          refine wpAnyH_take (i := 11) (v := .pointer (some ⟨u8.heap.size, 19, none⟩)) rfl (by kernel_rfl) (by kernel_rfl) (by kernel_rfl) (fun _ _ _ h => h) (Or.inl ⟨by rfl, ?_⟩) hHeld ?_
          · intro w hSw
            obtain ⟨q0, q1, q2, q3, q4⟩ := hSw
            simp only [List.getElem_toArray, List.getElem_cons_zero, List.getElem_cons_succ]
            go_simp
          simp only [Act.put, List.getElem_toArray, List.getElem_cons_zero, List.getElem_cons_succ, List.setIfInBounds_toArray, List.set_cons_zero, List.set_cons_succ]
          refine wpAnyH_take (i := 12) (v := .int .i64 s2.fuel) rfl (by kernel_rfl) (by kernel_rfl) (by kernel_rfl) (fun _ _ _ h => h) (Or.inl ⟨by rfl, ?_⟩) hHeld ?_
          · intro w hSw
            obtain ⟨q0, q1, q2, q3, q4⟩ := hSw
            simp only [List.getElem_toArray, List.getElem_cons_zero, List.getElem_cons_succ]
            go_simp
          simp only [Act.put, List.getElem_toArray, List.getElem_cons_zero, List.getElem_cons_succ, List.setIfInBounds_toArray, List.set_cons_zero, List.set_cons_succ]
          refine wpAnyH_take (i := 13) (v := .int .i64 (sk.fuel - s2.fuel)) rfl (by kernel_rfl) (by kernel_rfl) (by kernel_rfl) (fun _ _ _ h => h) (Or.inl ⟨by rfl, ?_⟩) hHeld ?_
          · intro w hSw
            obtain ⟨q0, q1, q2, q3, q4⟩ := hSw
            simp only [List.getElem_toArray, List.getElem_cons_zero, List.getElem_cons_succ]
            go_simp
          simp only [Act.put, List.getElem_toArray, List.getElem_cons_zero, List.getElem_cons_succ, List.setIfInBounds_toArray, List.set_cons_zero, List.set_cons_succ]
          refine wpAnyH_ready (rs := [8]) (by kernel_rfl) (by simp) ?_
          refine AllReadyH.cons rfl (fun K hK => ?_) AllReadyH.nil
          simp only [List.getElem_toArray, List.getElem_cons_zero, List.getElem_cons_succ]
          go_simp
          refine hK.out _ _ hHeld (fun hHeld => ?_)
          clear hK K
          refine wpAnyH_take (i := 14) (v := .int .i64 (x + (sk.fuel - s2.fuel))) rfl (by kernel_rfl) (by kernel_rfl) (by kernel_rfl) (fun _ _ _ h => h) (Or.inl ⟨by rfl, ?_⟩) hHeld ?_
          · intro w hSw
            obtain ⟨q0, q1, q2, q3, q4⟩ := hSw
            simp only [List.getElem_toArray, List.getElem_cons_zero, List.getElem_cons_succ]
            go_simp
          simp only [Act.put, List.getElem_toArray, List.getElem_cons_zero, List.getElem_cons_succ, List.setIfInBounds_toArray, List.set_cons_zero, List.set_cons_succ]
          refine wpAnyH_take (i := 15) (v := .pointer (some ⟨b, f.pc.toNat, none⟩)) rfl (by kernel_rfl) (by kernel_rfl) (by kernel_rfl) (fun _ _ _ h => h) (Or.inl ⟨by rfl, ?_⟩) hHeld ?_
          · intro w hSw
            obtain ⟨q0, q1, q2, q3, q4⟩ := hSw
            simp only [List.getElem_toArray, List.getElem_cons_zero, List.getElem_cons_succ]
            go_simp
          simp only [Act.put, List.getElem_toArray, List.getElem_cons_zero, List.getElem_cons_succ, List.setIfInBounds_toArray, List.set_cons_zero, List.set_cons_succ]
          refine wpAnyH_ready (rs := [16]) (by kernel_rfl) (by simp) ?_
          refine AllReadyH.cons rfl (fun K hK => ?_) AllReadyH.nil
          simp only [List.getElem_toArray, List.getElem_cons_zero, List.getElem_cons_succ]
          go_simp
          refine hK.out _ _ HSA.out (fun hHeld => ?_)
          clear hK K
          clear hHeld
          refine wpAnyH_done (by kernel_rfl) ?_ _
          clear HSA e1 e2 e3 e4 e5 e6 e7
          obtain ⟨u10, hu10⟩ : ∃ u, (u9.setCell ⟨b, f.pc.toNat, none⟩ (.int .i64 (x + (sk.fuel - s2.fuel)))).drew = u := ⟨_, rfl⟩
          rw [hu10]
          have HT16 : Hid (u10.heap[u8.heap.size]? = some (.cells C2.toArray 50 (0, 0))) := Lib.hid (by rw [← hu10]; exact (heap_setCell_ne u9.drew (by have := HBX.out b HBB.out; have := HZ8.out; omega) _ _).trans (HX9.out.sts _ (.head _)).1)
          have HLA : Hid (CtL w w.heap.size sb og (.slice (some ⟨gp, 0, none⟩) n cap) u10 bs (cntK p s0 (k + 1)) C sk) := Lib.hid (by rw [← hu10]; exact HL10.out)
          have HAG : Hid (∀ (j : Nat) (o : Obj), wt.heap.size ≤ j → u8.heap[j]? = some o → u10.heap[j]? = some o) := Lib.hid (fun j o hj hh => by
            rw [← hu10]
            have h1 := HBX.out b HBB.out
            refine (heap_setCell_ne u9.drew (show j ≠ b by omega) _ _).trans ?_
            exact (HBN9.out.block j (Array.getElem?_eq_some_iff.1 hh).1).trans hh)
          have HLP := Lib.hid (HLA.out.put HC2t.out HX7.out.below.size HBX.out HAG.out (HCk.out.len HIk.out.mem) (HC2.out.len HI2.out.mem))
          rw [← HW2.out] at HLP
          have hu10z : u8.heap.size < u10.heap.size := block_lt HT16.out
          have hsbz := block_lt HLA.out.sblk
          have HR16 := Lib.hid (range_block HT16.out)
          clear hu10
          go_wp2_with (first | (refine wpList_load_mid (by rfl) 50 _ (by rfl) u8.heap.size 0 (by rfl) C2 _ HR16.out Tryd.underlying50 (by rfl) HJ2.out ?_) | (refine wpList_store_mid (by rfl) 50 _ _ (by rfl) sb 0 C2.toArray (by rfl) (by rfl) ?_ ?_ ?_ ?_; go_must (exact there_block HLA.out.sblk (by simp [HC2.out.len HI2.out.mem, HCk.out.len HIk.out.mem])); go_must (simpa using HJ2.out); go_must (exact HC2.out.one); go_must (obtain ⟨u11, hu11⟩ : ∃ w8, u10.setCells sb 0 C2.toArray.toList = w8 := ⟨_, rfl⟩; rw [hu11]; have HL11 : Hid (CtL w w.heap.size sb og (.slice (some ⟨gp, 0, none⟩) n cap) u11 bs (cntK p s0 (k + 1)) C2 (walkSt p (k + 1) s0)) := Lib.hid (hu11 ▸ HLP.out); clear hu11)))
          go_roundg (s2.fuel.toNat + (if s2.status = 0 then 1 else 0))
          case measure => have f3' := HI2.out.fuel0; rcases hfall with ⟨h1, -⟩ | ⟨h1, h2, h3⟩ | ⟨h1, h2⟩ <;> split <;> omega
          case rel => exact ⟨k + 1, C2, by omega, by rw [HW2.out], HL11.out⟩
        · obtain ⟨st, hst'⟩ : ∃ x, sk.status = x := ⟨_, rfl⟩
          rw [hst'] at c0
          have hq2 : (st == 0) = false := by rw [← hst']; simpa using hst
          have HRES : Hid (k ≤ 10001 ∧ (walkSt p k s0).status ≠ 0 ∧ OutAt wr og bs (cntK p s0 k)) := Lib.hid ⟨hk, by rw [hsk]; exact hst, by rw [hck]; exact HL.out.out⟩
          clear hcs hcn hwk hk3 hst hst' hq hsk hck
          go_wp2_with fail
          go_ret2
          refine ⟨⟨og, ?_, bs, k, HRES.out⟩, HL.out.below⟩
          first | rfl | (go_light; rfl) | (go_light; simp; done)
    · have hkn' : (k : Int) < n := by omega
      have hk0 : (0 : Int) ≤ k := by omega
      obtain ⟨F, hF⟩ : ∃ F, p[k]? = some F := ⟨p[k]'(by rw [HNP.out]; omega), List.getElem?_eq_getElem _⟩
      have hFO := HFO.out F (List.mem_of_getElem? hF)
      have hzk : (zeroC p)[k]? = some (List.replicate F.code.length 0) := by unfold zeroC; rw [List.getElem?_map, hF]; rfl
      obtain ⟨u, hu, c0, c1, c2⟩ := HFN.out k F hF
      have hbw := HXr.out.below
      rw [← hbw.cell (p := ⟨gp, _, none⟩) hgp] at c0 c1 c2
      obtain ⟨CA, ccap, rfl, -⟩ := hu.slice
      have hgr : gp < wr.heap.size := Nat.lt_of_lt_of_le hgp hbw.size
      have hm40 := hFO.c2
      obtain ⟨M, hM⟩ : ∃ M, F.code.length = M := ⟨_, rfl⟩
      rw [hM] at hzk c2 hm40
      have HZK := Lib.hid hzk
      have hmi := make_ints0 M hm40
      have e1 : wr.cell? ⟨u2.heap.size, k, none⟩ = some (.slice none 0 0) := by
        rw [cell_block HS.out.row, List.getElem?_toArray, List.getElem?_append_right (by unfold outRow; simp [HS.out.blen]; omega), List.getElem?_replicate, if_pos (by unfold outRow; simp [HS.out.blen]; have := HZL.out; omega)]
      have e2 := frozen_block HS.out.row k
      clear hu hzk hF hFO hM hbw hkn
      go_wp2_with fail
      go_roundw
      case rel =>
        refine ⟨k + 1, bs ++ [wr.heap.size + 1], by omega, by go_num, ?_⟩
        have hbl : Below wr.heap.size wr ((wr.alloc (.cells #[.int .i64 F.params, .int .i64 F.regs, .slice CA M ccap] 36)).alloc (.cells (madeCells #[.int .i64 0] M) 3)) := ((Below.refl _ _).alloc (Nat.le_refl _) _).alloc (by simp) _
        have h1 := (HS.out.keeps hbl).step (b := wr.heap.size + 1) (m := M) (by omega) HZL.out (by have := made_ints (wr.alloc (.cells #[.int .i64 F.params, .int .i64 F.regs, .slice CA M ccap] 36)) M; simpa using this) (fun hm => by have := (HS.out.bge _ hm).2; omega) (by omega) HZK.out
        rw [World.setCell_alloc_past _ _ _ _ (by simp; omega), World.setCell_alloc_past _ _ _ _ (by omega)] at h1
        exact h1
      case measure => simp [intOf]; omega
theorem progE_of {p : List Fnc} (h : checkP p = 0) : progE p = 0 := by
  unfold checkP at h
  by_cases hE : progE p = 0
  · exact hE
  · rw [if_pos hE] at h; exact absurd h hE
theorem counts_k {p : List Fnc} (hc : checkP p = 0) (a0 a1 fuel : Int) (ans : List Int) (YA : Option Addr) (ycap : Nat) (A : Option Addr) (cap : Nat) (w : World) (ht : Tab w) (hP : ProgAt w (.slice A p.length cap) p) {ib : Nat} {V : Value} {fu : Int}
    (hib : w.heap[ib]? = some (.cells #[.int .i64 a0, .int .i64 a1, V, .int .i64 fu] 46 (0, 0))) (hy : IntsAt w YA ans) :
    Calls Tryd.prog 35 #[.agg #[.slice A p.length cap], .slice (some ⟨ib, 0, none⟩) (inArgs p a0 a1).length 2, .slice YA (ans.take 10).length ycap, .int .i64 (pickedI fuel 300)] w fun e w' => (∃ (g : Nat) (bs : List Nat) (k : Nat), e = .returned (.tuple #[.slice (some ⟨g, 0, none⟩) p.length p.length, .int .i64 0]) ∧ k ≤ 10001 ∧ (walkSt p k (inSt p a0 a1 ans fuel)).status ≠ 0 ∧ OutAt w' g bs (cntK p (inSt p a0 a1 ans fuel) k)) ∧ Below w.heap.size w w' := by
  have hp := right_of hc
  have p0 := picked_in fuel 300 (by omega)
  exact counts_any hc (inArgs p a0 a1) (ans.take 10) (some ⟨ib, 0, none⟩) 2 YA ycap (pickedI fuel 300) A cap w ht hP (args_at p hib) (inArgs_len hp a0 a1) (hy.take 10) (by simp; omega) p0.1 (by omega)
end Go.Proofs.YtnbopmlemddakaaDoor
