/-
  The walk of FactsLoop: it returns true.
-/
import Derived.Test.YtappljijljjkiaaDoorFd6
import Derived.Test.YtappljijljjkiaaDoorFsP
import Derived.Test.YtappljijljjkiaaDoorOpn
namespace Go.Proofs.YtappljijljjkiaaDoor
open Go.RowKit Tier
set_option maxRecDepth 100000 in
set_option maxHeartbeats 8000000 in
theorem factsLoop_walk(n m:Int)(w:World)(ht:Tab w)(hn:In n)(hm:In m):Calls Tryd.prog 8 #[.int .i64 n, .int .i64 m] w fun e w' =>e= .returned (.bool true)∧Below w.heap.size w w' :=by
 have HT:=Lib.hid ht
 have HIN:=Lib.hid hn
 have HIM:=Lib.hid hm
 have HCK:Hid (checkP [loopF n m]=0):=Lib.hid (loopF_ok n m)
 obtain⟨L,hL⟩:∃L,w.heap.size=L:=⟨_,rfl⟩
 obtain⟨wa,hwa⟩:∃W,w.alloc (.cells #[.int .i64 1, .int .i64 1, .int .i64 0, .int .i64 0, .int .i64 n, .int .i64 1, .int .i64 2, .int .i64 0, .int .i64 0, .int .i64 m, .int .i64 1, .int .i64 3, .int .i64 0, .int .i64 0, .int .i64 (-1), .int .i64 16, .int .i64 0, .int .i64 0, .int .i64 0, .int .i64 5, .int .i64 19, .int .i64 0, .int .i64 1, .int .i64 0, .int .i64 0, .int .i64 2, .int .i64 2, .int .i64 2, .int .i64 3, .int .i64 0, .int .i64 7, .int .i64 1, .int .i64 1, .int .i64 1, .int .i64 0, .int .i64 2, .int .i64 0, .int .i64 0, .int .i64 2, .int .i64 0, .int .i64 15, .int .i64 0, .int .i64 0, .int .i64 0, .int .i64 3] 42)=W:=⟨_,rfl⟩
 obtain⟨L1,hL1⟩:∃L,wa.heap.size=L:=⟨_,rfl⟩
 obtain⟨wb,hwb⟩:∃W,wa.alloc (.cells #[.int .i64 1, .int .i64 4, .slice (some ⟨L,0,none⟩) 9 9] 36)=W:=⟨_,rfl⟩
 obtain⟨L2,hL2⟩:∃L,wb.heap.size=L:=⟨_,rfl⟩
 obtain⟨w1,hw1⟩:∃W,wb.alloc (.cells #[.slice (some ⟨L1,0,none⟩) 1 1] 25)=W:=⟨_,rfl⟩
 have HX:Hid ((w1.heap[L]? =some (.cells #[.int .i64 1, .int .i64 1, .int .i64 0, .int .i64 0, .int .i64 n, .int .i64 1, .int .i64 2, .int .i64 0, .int .i64 0, .int .i64 m, .int .i64 1, .int .i64 3, .int .i64 0, .int .i64 0, .int .i64 (-1), .int .i64 16, .int .i64 0, .int .i64 0, .int .i64 0, .int .i64 5, .int .i64 19, .int .i64 0, .int .i64 1, .int .i64 0, .int .i64 0, .int .i64 2, .int .i64 2, .int .i64 2, .int .i64 3, .int .i64 0, .int .i64 7, .int .i64 1, .int .i64 1, .int .i64 1, .int .i64 0, .int .i64 2, .int .i64 0, .int .i64 0, .int .i64 2, .int .i64 0, .int .i64 15, .int .i64 0, .int .i64 0, .int .i64 0, .int .i64 3] 42 (0,0))∧w1.heap[L1]? =some (.cells #[.int .i64 1, .int .i64 4, .slice (some ⟨L,0,none⟩) 9 9] 36 (0,0)))∧w1.heap[L2]? =some (.cells #[.slice (some ⟨L1,0,none⟩) 1 1] 25 (0,0))∧Below L w w1):=Lib.hid (by
  have sa:L1=L+1:=by rw[←hL1,←hwa,←hL];simp
  have sb:L2=L1+1:=by rw[←hL2,←hwb,←hL1];simp
  have ba:Below L w wa:=by rw[←hwa,←hL];exact(Below.refl _ _).alloc (Nat.le_refl _) _
  have bb:Below L1 wa wb:=by rw[←hwb,←hL1];exact(Below.refl _ _).alloc (Nat.le_refl _) _
  have bc:Below L2 wb w1:=by rw[←hw1,←hL2];exact(Below.refl _ _).alloc (Nat.le_refl _) _
  have xa:wa.heap[L]? =some (.cells #[.int .i64 1, .int .i64 1, .int .i64 0, .int .i64 0, .int .i64 n, .int .i64 1, .int .i64 2, .int .i64 0, .int .i64 0, .int .i64 m, .int .i64 1, .int .i64 3, .int .i64 0, .int .i64 0, .int .i64 (-1), .int .i64 16, .int .i64 0, .int .i64 0, .int .i64 0, .int .i64 5, .int .i64 19, .int .i64 0, .int .i64 1, .int .i64 0, .int .i64 0, .int .i64 2, .int .i64 2, .int .i64 2, .int .i64 3, .int .i64 0, .int .i64 7, .int .i64 1, .int .i64 1, .int .i64 1, .int .i64 0, .int .i64 2, .int .i64 0, .int .i64 0, .int .i64 2, .int .i64 0, .int .i64 15, .int .i64 0, .int .i64 0, .int .i64 0, .int .i64 3] 42 (0,0)):=by rw[←hwa,←hL];exact heap_alloc_new _ _
  have xb:wb.heap[L1]? =some (.cells #[.int .i64 1, .int .i64 4, .slice (some ⟨L,0,none⟩) 9 9] 36 (0,0)):=by rw[←hwb,←hL1];exact heap_alloc_new _ _
  have xc:w1.heap[L2]? =some (.cells #[.slice (some ⟨L1,0,none⟩) 1 1] 25 (0,0)):=by rw[←hw1,←hL2];exact heap_alloc_new _ _
  exact⟨⟨(bc.block L (by omega)).trans ((bb.block L (by omega)).trans xa),(bc.block _ (by omega)).trans xb⟩,xc,ba.trans ((bb.mono (by omega)).trans (bc.mono (by omega)))⟩)
 go_enter Tryd.func8,Tryd.ntmps8
 go_upto_region 2 with fail
 obtain⟨⟨hx1,hx2⟩,hx3,hb1⟩:=HX.out
 have hpa:ProgAt w1 (.slice (some ⟨L1,0,none⟩) 1 1) [loopF n m]:=one_prog (gi:=L) rfl hx1 hx2 rfl (by decide)
 obtain⟨F,hFe⟩:∃F,loopF n m=F:=⟨_,rfl⟩
 have HP0:Hid (F.params=1):=Lib.hid (by subst hFe;rfl)
 have HLAW:=Lib.hid (fun(O:List Nat) (bs:List BR) (l:List Int) (s s1 s2:SB) (K:Nat) (y:SV) (h:BuiltX [F] F O bs K s1 s2 l s) (he:EndF (actsF F bs s) bs.length (stF F.params.toNat (valN F bs s2 l) bs.length) y)=>(by subst hFe;exact loop_law HIN.out HIM.out h he:bs.length=4∧LoopP n (valN F bs s2 l) s y))
 rw[hFe] at HCK hpa
 have HPA:=Lib.hid hpa
 have HT1:=Lib.hid (HT.out.keeps (hL▸hb1))
 have HB1:=Lib.hid hb1
 have HFC:Hid (Calls Tryd.prog 19 #[.agg #[.slice (some ⟨L1,0,none⟩) 1 1], .int .i64 0] w1 fun e w' =>FactsRet [F] F w1.heap.size e w' ∧Below w1.heap.size w1 w'):=Lib.hid (facts_any [F] F (some ⟨L1,0,none⟩) 1 0 w1 HT1.out HPA.out HCK.out rfl)
 have HBU:Hid (∀W,Below w1.heap.size w1 W→Calls Tryd.prog 20 #[.agg #[.slice (some ⟨L1,0,none⟩) 1 1], .int .i64 0] W fun e w' =>BuildRet [F] F W.heap.size e w' ∧Below W.heap.size W w'):=Lib.hid (fun W hb=>build_all (some ⟨L1,0,none⟩) 1 0 W (HT1.out.keeps hb) (HPA.out.keeps hb) HCK.out rfl)
 have p1:=cell_block hx3 0
 have zp1:=block_lt hx3
 have HX3:=Lib.hid hx3
 clear hwa hwb hw1 hL1 hL2 hx1 hx2 hx3 hb1 HX hFe hpa
 go_upto_region 3 with(go_at_call 19;go_must (refine HFC.out.mono ?_;rintro e w2 ⟨⟨s0,O0,bs0,K0,s10,s20,l0,y,gf,gm,rfl,hzf,hzm,hbx0,hend,hff,hfm⟩,hb⟩;obtain⟨hb4,hsp⟩:=HLAW.out _ _ _ _ _ _ _ _ hbx0 hend;have hfm0:=hbx0.form hend;rw[hb4];have HBX0:=Lib.hid hbx0;have HSP:=Lib.hid hsp;have HB4:=Lib.hid hb4;have HFF:=Lib.hid hff;have HFM2:=Lib.hid hfm;have HFL:=Lib.hid (show y.F.length=_∧y.met.length=4 from⟨hfm0.n,hfm0.m.trans hb4⟩);have HB12:=Lib.hid hb;have HX3b:=Lib.hid ((hb.block L2 zp1).trans HX3.out);have p2:=cell_block HX3b.out 0;have zp2:=block_lt HX3b.out;clear hzf hzm hbx0 hend hff hfm hb hsp hb4 hfm0 p1 zp1))
 go_upto_region 4 with(go_at_call 20;go_must (refine(HBU.out _ HB12.out).mono ?_;rintro e w3 ⟨⟨b,c,s,V,O,bs,K,s2,l,rfl,hbb,hsb,hbl⟩,hb⟩;have HBX:=Lib.hid (BuiltX.mk hbl HCK.out (.head _) rfl:BuiltX _ _ O bs K _ s2 l s);have hun:=HBX.out.unique HBX0.out;have HUN:=Lib.hid hun.1;have hbsl:bs.length=4:=hun.2.1.trans HB4.out;obtain⟨Ap,cp,hvp,-,hpA⟩:=hsb.rowV .parts (n:=4) (by show s.parts.length=4;rw[HBX.out.finP.len,hbsl]);obtain⟨gp,rfl,-,-⟩:=hpA (by omega);have HVP:=Lib.hid hvp;have HSB:=Lib.hid hsb;have HBSL:=Lib.hid hbsl;have hvl:=hun.2.2.1;rw[hvp,show((F.params.toNat+(allG {s2 with same:=l} bs.length).length:Nat):Int)=((valN F bs0 s20 l0:Nat):Int) from congrArg Int.ofNat hvl,HP0.out];have HB23:=Lib.hid hb;clear hbb hsb hbl hb hvp hvl hbsl hpA hun p2 zp2))
 have hvs:=HBX0.out.few.1
 obtain⟨vl,hvl⟩:∃v,valN F bs0 s20 l0=v:=⟨_,rfl⟩
 rw[hvl] at hvs HSP HFL⊢
 have HS2:=Lib.hid (HSP.out.two HUN.out.symm)
 have HSL:Hid (s.parts.length=4):=Lib.hid (by rw[HBX.out.finP.len,HBSL.out])
 have HIL:=Lib.hid HBX.out.finP.inn
 obtain⟨w4,hw4⟩:∃W,w3.alloc (.cells #[.int .i64 1, .int .i64 (vl:Int), .slice (some ⟨gp,0,none⟩) 4 cp] 49)=W:=⟨_,rfl⟩
 have HXS:Hid (w4.heap[w3.heap.size]? =some (.cells #[.int .i64 1, .int .i64 (vl:Int), .slice (some ⟨gp,0,none⟩) 4 cp] 49 (0,0))):=Lib.hid (hw4▸heap_alloc_new _ _)
 have HB34:Hid (Below w3.heap.size w3 w4):=Lib.hid (hw4▸(Below.refl _ _).alloc (Nat.le_refl _) _)
 have HB24:=Lib.hid (HB23.out.trans (HB34.out.mono HB23.out.size))
 have HB04:Hid (Below L w w4):=Lib.hid (HB1.out.trans ((HB12.out.trans (HB24.out.mono HB12.out.size)).mono (by rw[←hL];exact HB1.out.size)))
 have HSB4:=Lib.hid (HSB.out.keeps HB34.out)
 have hff:=(HB24.out.block _ (block_lt HFF.out)).trans HFF.out
 have hfm:=(HB24.out.block _ (block_lt HFM2.out)).trans HFM2.out
 have hyn:=HFL.out.1
 have hym:=HFL.out.2
 have KX:=Lib.hid (fun(W:World) (hb:Below w4.heap.size w4 W)=>(by
  have hx:=(hb.block _ (block_lt HXS.out)).trans HXS.out
  exact⟨cell_block hx 2,block_lt hx,Nat.lt_of_lt_of_le (block_lt hff) hb.size,Nat.lt_of_lt_of_le (block_lt hfm) hb.size,Nat.lt_of_lt_of_le (HSB4.out.rlt .parts (g:=gp) (by rw[HVP.out];rfl)).2 hb.size⟩:
  W.cell? ⟨w3.heap.size,2,none⟩=some (.slice (some ⟨gp,0,none⟩) 4 cp)∧w3.heap.size<W.heap.size∧gf<W.heap.size∧gm<W.heap.size∧gp<W.heap.size))
 have KF:=Lib.hid (fun(W:World) (hb:Below w4.heap.size w4 W) (v:Nat) (hv:v<vl)=>(fact_cell ((hb.block _ (block_lt hff)).trans hff) (by rw[hyn];exact hv):W.cell? ⟨gf,v*2,none⟩=some (.int .i64 (y.F.getD v noF).k)∧W.cell? ⟨gf,v*2+1,none⟩=some (.int .i64 (y.F.getD v noF).v)))
 have KM:=Lib.hid (fun(W:World) (hb:Below w4.heap.size w4 W) (i:Nat) (hi:i<4)=>(met_cell ((hb.block _ (block_lt hfm)).trans hfm) (by rw[hym];exact hi):W.cell? ⟨gm,i,none⟩=some (.bool (y.met.getD i false))))
 have KSB:=Lib.hid (fun(W:World) (hb:Below w4.heap.size w4 W)=>(HSB4.out.keeps hb:SbAt W b c s V))
 obtain⟨M,hM⟩:∃n,w3.heap.size=n:=⟨_,rfl⟩
 rw[hM] at KX
 rw[hw4,hM]
 clear hw4 hM hff hfm hyn hym HFF HFM2 HSB HXS hvl HSP HBX0 HFL HUN HFC HBU
 have HB44:Hid (Below w4.heap.size w4 w4):=Lib.hid (Below.refl _ _)
 obtain⟨k2,z0,z1,z2,z3⟩:=KX.out w4 HB44.out
 go_upto_region 6 with fail
 clear k2 z0 z1 z2 z3
 go_wp2_with fail
 go_loopw [11] (fun x wr=>∃i:Nat,i≤4∧x= .int .i64 (i:Int)∧Below w4.heap.size w4 wr) (fun x _=>4-(intOf x).toNat)
 case atStart=>exact⟨0,by omega,rfl,HB44.out⟩
 case round=>
  obtain⟨i,hi,rfl,hb⟩:=hrel
  have HB:=Lib.hid hb
  obtain⟨k2,z0,z1,z2,z3⟩:=KX.out wr hb
  by_cases hi4:i=4
  ·subst hi4
   have hsb:=KSB.out wr hb
   have hrg:=hsb.innRange HIL.out HVP.out (i:=1) (by rw[HSL.out];omega)
   have hR12:=HBX.out.inn12 (j:=1) (by rw[HBSL.out];omega)
   obtain⟨d0,d1,d2,d3,e0,e1,e2,e3,l0,l1,l2,l3,f1,f2,f0,f3⟩:=HS2.out.x
   obtain⟨R0,hR0⟩:∃R,(s.part 1).inn=R:=⟨_,rfl⟩
   rw[hR0] at hR12 hrg e0 e1 e2 e3
   have HRG:=Lib.hid hrg
   have HR12:=Lib.hid hR12
   have HE:=Lib.hid (show _∧_∧_∧_ from⟨e0,e1,e2,e3⟩)
   have HLT:=Lib.hid (show _∧_∧_∧_ from⟨l0,l1,l2,l3⟩)
   obtain⟨v2,hv2⟩:∃v,(y.F.getD d2 noF).v=v:=⟨_,rfl⟩
   obtain⟨v0,hv0⟩:∃v,(y.F.getD d0 noF).v=v:=⟨_,rfl⟩
   have HFA:=Lib.hid (fun(W:World) (hb:Below w4.heap.size w4 W)=>(by
    obtain⟨a0,a1⟩:=KF.out W hb d0 l0
    obtain⟨b0,b1⟩:=KF.out W hb d1 l1
    obtain⟨c0,c1⟩:=KF.out W hb d2 l2
    obtain⟨g0,g1⟩:=KF.out W hb d3 l3
    rw[f0] at a0
    rw[f1] at b0 b1
    rw[f2] at c0
    rw[f3] at g0 g1
    exact⟨a0,b0,b1,c0,g0,g1⟩:W.cell? ⟨gf,d0*2,none⟩=some (.int .i64 2)∧W.cell? ⟨gf,d1*2,none⟩=some (.int .i64 1)∧W.cell? ⟨gf,d1*2+1,none⟩=some (.int .i64 n)∧W.cell? ⟨gf,d2*2,none⟩=some (.int .i64 2)∧W.cell? ⟨gf,d3*2,none⟩=some (.int .i64 1)∧W.cell? ⟨gf,d3*2+1,none⟩=some (.int .i64 (-1))))
   obtain⟨Lr,hLr⟩:∃n,wr.heap.size=n:=⟨_,rfl⟩
   have HLRE:=Lib.hid hLr
   clear hb hi hsb hrg hR12 hR0 e0 e1 e2 e3 l0 l1 l2 l3 f0 f1 f2 f3 hv2 hv0 hLr
   go_upto_region 12 with(first|(refine wpList_load_mid (by rfl) 54 _ (by rfl) gp (1*15+3) (by rfl) (intsV R0) _ HRG.out Tryd.underlying54 (by rfl) (boxI_info HR12.out) ?_)|(refine wpList_store_mid (by rfl) 54 _ _ (by rfl) wr.heap.size 0 (intsV R0).toArray (by rfl) (by rfl) (there_block (heap_alloc_new wr _) (by simp[intsV,HR12.out])) (by simpa using boxI_info HR12.out) (boxI_one R0) ?_;obtain⟨wc,hwc⟩:∃W,(wr.alloc (.cells #[.int .i64 0, .int .i64 0, .int .i64 0, .int .i64 0, .int .i64 0, .int .i64 0, .int .i64 0, .int .i64 0, .int .i64 0, .int .i64 0, .int .i64 0, .int .i64 0] 54)).setCells wr.heap.size 0 (intsV R0).toArray.toList=W:=⟨_,rfl⟩;have HXR:Hid (wc.heap[Lr]? =some (boxI R0)):=Lib.hid (hwc▸HLRE.out▸box_fill (heap_alloc_new wr _) R0 (by simp[intsV,HR12.out]));have HBc:Hid (Below w4.heap.size w4 wc):=Lib.hid (hwc▸below_setCells HB.out.size _ _ _ (HB.out.alloc HB.out.size _));rw[hwc,HLRE.out];clear hwc k2 z0 z1 z2 z3;obtain⟨k2,z0,z1,z2,z3⟩:=KX.out wc HBc.out))
   have b0:=boxI_cell HXR.out (j:=0) (by rw[HR12.out];omega)
   have b1:=boxI_cell HXR.out (j:=1) (by rw[HR12.out];omega)
   have b2:=boxI_cell HXR.out (j:=2) (by rw[HR12.out];omega)
   have b3:=boxI_cell HXR.out (j:=3) (by rw[HR12.out];omega)
   rw[HE.out.1] at b0
   rw[HE.out.2.1] at b1
   rw[HE.out.2.2.1] at b2
   rw[HE.out.2.2.2] at b3
   have zL:=block_lt HXR.out
   obtain⟨g0,g1,g2,g3,g4,g5⟩:=HFA.out wc HBc.out
   have t0:(0:Int)≤d0:=by omega
   have t1:(0:Int)≤d1:=by omega
   have t2:(0:Int)≤d2:=by omega
   have t3:(0:Int)≤d3:=by omega
   have u0:(d0:Int)<vl:=by have:=HLT.out.1;omega
   have u1:(d1:Int)<vl:=by have:=HLT.out.2.1;omega
   have u2:(d2:Int)<vl:=by have:=HLT.out.2.2.1;omega
   have u3:(d3:Int)<vl:=by have:=HLT.out.2.2.2;omega
   have heq:=eq_fact 1 n 1 n
   rw[decide_eq_true ⟨rfl,rfl⟩] at heq
   have heq3:=eq_fact 1 (-1) 1 (-1)
   rw[decide_eq_true ⟨rfl,rfl⟩] at heq3
   clear k2 z0 z2 z3 HXR
   go_wp2_with fail
   go_ret
   exact⟨rfl,by rw[hL];exact HB04.out.trans (HBc.out.mono (by rw[←hL];exact HB04.out.size))⟩
  ·have hi1:(i:Int)<4:=by omega
   have hi2:(0:Int)≤i:=by omega
   have hm:=KM.out wr hb i (by omega)
   rw[HS2.out.m i (by omega)] at hm
   clear hb hi4
   go_wp2_with fail
   go_roundw
   case rel=>exact⟨i+1,by omega,by go_num,HB.out⟩
   case measure=>simp[intOf];omega
end Go.Proofs.YtappljijljjkiaaDoor
