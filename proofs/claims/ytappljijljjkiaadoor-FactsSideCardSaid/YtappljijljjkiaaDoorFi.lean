/-
  The walk of FactsSide: it returns true.
-/
import Derived.Test.YtappljijljjkiaaDoorFd6
import Derived.Test.YtappljijljjkiaaDoorFsP
import Derived.Test.YtappljijljjkiaaDoorOpn
namespace Go.Proofs.YtappljijljjkiaaDoor
open Go.RowKit Tier
set_option maxRecDepth 100000 in
set_option maxHeartbeats 8000000 in
theorem factsSide_walk(n m:Int)(w:World)(ht:Tab w)(hn:In n)(hm:In m):Calls Tryd.prog 7 #[.int .i64 n, .int .i64 m] w fun e w' =>e= .returned (.bool true)∧Below w.heap.size w w' :=by
 have HT:=Lib.hid ht
 have HIN:=Lib.hid hn
 have HIM:=Lib.hid hm
 have HCK:Hid (checkP [sideF n m]=0):=Lib.hid (sideF_ok n m)
 obtain⟨L,hL⟩:∃L,w.heap.size=L:=⟨_,rfl⟩
 obtain⟨wa,hwa⟩:∃W,w.alloc (.cells #[.int .i64 1, .int .i64 0, .int .i64 0, .int .i64 0, .int .i64 n, .int .i64 16, .int .i64 0, .int .i64 0, .int .i64 0, .int .i64 4, .int .i64 1, .int .i64 1, .int .i64 0, .int .i64 0, .int .i64 m, .int .i64 15, .int .i64 0, .int .i64 0, .int .i64 0, .int .i64 5, .int .i64 1, .int .i64 1, .int .i64 0, .int .i64 0, .int .i64 8, .int .i64 19, .int .i64 0, .int .i64 1, .int .i64 0, .int .i64 0] 42)=W:=⟨_,rfl⟩
 obtain⟨L1,hL1⟩:∃L,wa.heap.size=L:=⟨_,rfl⟩
 obtain⟨wb,hwb⟩:∃W,wa.alloc (.cells #[.int .i64 0, .int .i64 2, .slice (some ⟨L,0,none⟩) 6 6] 36)=W:=⟨_,rfl⟩
 obtain⟨L2,hL2⟩:∃L,wb.heap.size=L:=⟨_,rfl⟩
 obtain⟨w1,hw1⟩:∃W,wb.alloc (.cells #[.slice (some ⟨L1,0,none⟩) 1 1] 25)=W:=⟨_,rfl⟩
 have HX:Hid ((w1.heap[L]? =some (.cells #[.int .i64 1, .int .i64 0, .int .i64 0, .int .i64 0, .int .i64 n, .int .i64 16, .int .i64 0, .int .i64 0, .int .i64 0, .int .i64 4, .int .i64 1, .int .i64 1, .int .i64 0, .int .i64 0, .int .i64 m, .int .i64 15, .int .i64 0, .int .i64 0, .int .i64 0, .int .i64 5, .int .i64 1, .int .i64 1, .int .i64 0, .int .i64 0, .int .i64 8, .int .i64 19, .int .i64 0, .int .i64 1, .int .i64 0, .int .i64 0] 42 (0,0))∧w1.heap[L1]? =some (.cells #[.int .i64 0, .int .i64 2, .slice (some ⟨L,0,none⟩) 6 6] 36 (0,0)))∧w1.heap[L2]? =some (.cells #[.slice (some ⟨L1,0,none⟩) 1 1] 25 (0,0))∧Below L w w1):=Lib.hid (by
  have sa:L1=L+1:=by rw[←hL1,←hwa,←hL];simp
  have sb:L2=L1+1:=by rw[←hL2,←hwb,←hL1];simp
  have ba:Below L w wa:=by rw[←hwa,←hL];exact(Below.refl _ _).alloc (Nat.le_refl _) _
  have bb:Below L1 wa wb:=by rw[←hwb,←hL1];exact(Below.refl _ _).alloc (Nat.le_refl _) _
  have bc:Below L2 wb w1:=by rw[←hw1,←hL2];exact(Below.refl _ _).alloc (Nat.le_refl _) _
  have xa:wa.heap[L]? =some (.cells #[.int .i64 1, .int .i64 0, .int .i64 0, .int .i64 0, .int .i64 n, .int .i64 16, .int .i64 0, .int .i64 0, .int .i64 0, .int .i64 4, .int .i64 1, .int .i64 1, .int .i64 0, .int .i64 0, .int .i64 m, .int .i64 15, .int .i64 0, .int .i64 0, .int .i64 0, .int .i64 5, .int .i64 1, .int .i64 1, .int .i64 0, .int .i64 0, .int .i64 8, .int .i64 19, .int .i64 0, .int .i64 1, .int .i64 0, .int .i64 0] 42 (0,0)):=by rw[←hwa,←hL];exact heap_alloc_new _ _
  have xb:wb.heap[L1]? =some (.cells #[.int .i64 0, .int .i64 2, .slice (some ⟨L,0,none⟩) 6 6] 36 (0,0)):=by rw[←hwb,←hL1];exact heap_alloc_new _ _
  have xc:w1.heap[L2]? =some (.cells #[.slice (some ⟨L1,0,none⟩) 1 1] 25 (0,0)):=by rw[←hw1,←hL2];exact heap_alloc_new _ _
  exact⟨⟨(bc.block L (by omega)).trans ((bb.block L (by omega)).trans xa),(bc.block _ (by omega)).trans xb⟩,xc,ba.trans ((bb.mono (by omega)).trans (bc.mono (by omega)))⟩)
 go_enter Tryd.func7,Tryd.ntmps7
 go_upto_region 2 with fail
 obtain⟨⟨hx1,hx2⟩,hx3,hb1⟩:=HX.out
 have hpa:ProgAt w1 (.slice (some ⟨L1,0,none⟩) 1 1) [sideF n m]:=one_prog (gi:=L) rfl hx1 hx2 rfl (by decide)
 obtain⟨F,hFe⟩:∃F,sideF n m=F:=⟨_,rfl⟩
 have HP0:Hid (F.params=0):=Lib.hid (by subst hFe;rfl)
 have HLAW:=Lib.hid (fun(O:List Nat) (bs:List BR) (l:List Int) (s s1 s2:SB) (K:Nat) (y:SV) (h:BuiltX [F] F O bs K s1 s2 l s) (he:EndF (actsF F bs s) bs.length (stF F.params.toNat (valN F bs s2 l) bs.length) y)=>(by subst hFe;exact side_law h he:bs.length=4∧SideP n m (valN F bs s2 l) s y))
 rw[hFe] at HCK hpa
 have HPA:=Lib.hid hpa
 have HT1:=Lib.hid (HT.out.keeps (hL▸hb1))
 have HB1:=Lib.hid hb1
 have HFC:Hid (Calls Tryd.prog 19 #[.agg #[.slice (some ⟨L1,0,none⟩) 1 1], .int .i64 0] w1 fun e w' =>FactsRet [F] F w1.heap.size e w' ∧Below w1.heap.size w1 w'):=Lib.hid (facts_any [F] F (some ⟨L1,0,none⟩) 1 0 w1 HT1.out HPA.out HCK.out rfl)
 have HBU:Hid (∀W,Below w1.heap.size w1 W→Calls Tryd.prog 20 #[.agg #[.slice (some ⟨L1,0,none⟩) 1 1], .int .i64 0] W fun e w' =>BuildRet [F] F W.heap.size e w' ∧Below W.heap.size W w'):=Lib.hid (fun W hb=>build_all (some ⟨L1,0,none⟩) 1 0 W (HT1.out.keeps hb) (HPA.out.keeps hb) HCK.out rfl)
 have p1:=cell_block hx3 0
 have zp1:=block_lt hx3
 have HX3:=Lib.hid hx3
 clear hwa hwb hw1 hL1 hL2 hx1 hx2 hx3 hb1 HX hFe hpa
 go_upto_region 3 with(go_at_call 19;go_must (refine HFC.out.mono ?_;rintro e w2 ⟨⟨s0,O0,bs0,K0,s10,s20,l0,y,gf,gm,rfl,hzf,hzm,hbx0,hend,hff,hfm⟩,hb⟩;obtain⟨hb4,hsp⟩:=HLAW.out _ _ _ _ _ _ _ _ hbx0 hend;have hfm0:=hbx0.form hend;rw[hb4];have HBX0:=Lib.hid hbx0;have HSP:=Lib.hid hsp;have HB4:=Lib.hid hb4;have HFF:=Lib.hid hff;have HFM2:=Lib.hid hfm;have HFL:=Lib.hid (show y.F.length=_∧y.met.length=4 from⟨hfm0.n,hfm0.m.trans hb4⟩);have HB12:=Lib.hid hb;have HX3b:=Lib.hid ((hb.block L2 zp1).trans HX3.out);have p2:=cell_block HX3b.out 0;have zp2:=block_lt HX3b.out;clear hzf hzm hbx0 hend hff hfm hb hsp hb4 hfm0 p1 zp1))
 go_upto_region 4 with(go_at_call 20;go_must (refine(HBU.out _ HB12.out).mono ?_;rintro e w3 ⟨⟨b,c,s,V,O,bs,K,s2,l,rfl,hbb,hsb,hbl⟩,hb⟩;have HBX:=Lib.hid (BuiltX.mk hbl HCK.out (.head _) rfl:BuiltX _ _ O bs K _ s2 l s);have hun:=HBX.out.unique HBX0.out;have HUN:=Lib.hid hun.1;have hbsl:bs.length=4:=hun.2.1.trans HB4.out;obtain⟨Ap,cp,hvp,-,hpA⟩:=hsb.rowV .parts (n:=4) (by show s.parts.length=4;rw[HBX.out.finP.len,hbsl]);obtain⟨gp,rfl,-,-⟩:=hpA (by omega);have HVP:=Lib.hid hvp;have HSB:=Lib.hid hsb;have HBSL:=Lib.hid hbsl;have hvl:=hun.2.2.1;rw[hvp,show((F.params.toNat+(allG {s2 with same:=l} bs.length).length:Nat):Int)=((valN F bs0 s20 l0:Nat):Int) from congrArg Int.ofNat hvl,HP0.out];have HB23:=Lib.hid hb;clear hbb hsb hbl hb hvp hvl hbsl hpA hun p2 zp2))
 have hvs:=HBX0.out.few.1
 obtain⟨vl,hvl⟩:∃v,valN F bs0 s20 l0=v:=⟨_,rfl⟩
 rw[hvl] at hvs HSP HFL⊢
 have HS2:=Lib.hid (HSP.out.two HUN.out.symm)
 have HSL:Hid (s.parts.length=4):=Lib.hid (by rw[HBX.out.finP.len,HBSL.out])
 have HIL:=Lib.hid HBX.out.finP.inn
 obtain⟨w4,hw4⟩:∃W,w3.alloc (.cells #[.int .i64 0, .int .i64 (vl:Int), .slice (some ⟨gp,0,none⟩) 4 cp] 49)=W:=⟨_,rfl⟩
 have HXS:Hid (w4.heap[w3.heap.size]? =some (.cells #[.int .i64 0, .int .i64 (vl:Int), .slice (some ⟨gp,0,none⟩) 4 cp] 49 (0,0))):=Lib.hid (hw4▸heap_alloc_new _ _)
 have HB34:Hid (Below w3.heap.size w3 w4):=Lib.hid (hw4▸(Below.refl _ _).alloc (Nat.le_refl _) _)
 have HB24:=Lib.hid (HB23.out.trans (HB34.out.mono HB23.out.size))
 have HB04:Hid (Below L w w4):=Lib.hid (HB1.out.trans ((HB12.out.trans (HB24.out.mono HB12.out.size)).mono (by rw[←hL];exact HB1.out.size)))
 have HSB4:=Lib.hid (HSB.out.keeps HB34.out)
 have hff:=(HB24.out.block _ (block_lt HFF.out)).trans HFF.out
 have hfm:=(HB24.out.block _ (block_lt HFM2.out)).trans HFM2.out
 have hyn:=HFL.out.1
 have hym:=HFL.out.2
 have KX:=Lib.hid (fun(W:World) (hb:Below w4.heap.size w4 W)=>(by
  have hx:=(hb.block _ (block_lt HXS.out)).trans HXS.out
  exact⟨cell_block hx 2,block_lt hx,Nat.lt_of_lt_of_le (block_lt hff) hb.size,Nat.lt_of_lt_of_le (block_lt hfm) hb.size,Nat.lt_of_lt_of_le (HSB4.out.rlt .parts (g:=gp) (by rw[HVP.out];rfl)).2 hb.size⟩:
  W.cell? ⟨w3.heap.size,2,none⟩=some (.slice (some ⟨gp,0,none⟩) 4 cp)∧w3.heap.size<W.heap.size∧gf<W.heap.size∧gm<W.heap.size∧gp<W.heap.size))
 have KF:=Lib.hid (fun(W:World) (hb:Below w4.heap.size w4 W) (v:Nat) (hv:v<vl)=>(fact_cell ((hb.block _ (block_lt hff)).trans hff) (by rw[hyn];exact hv):W.cell? ⟨gf,v*2,none⟩=some (.int .i64 (y.F.getD v noF).k)∧W.cell? ⟨gf,v*2+1,none⟩=some (.int .i64 (y.F.getD v noF).v)))
 have KM:=Lib.hid (fun(W:World) (hb:Below w4.heap.size w4 W) (i:Nat) (hi:i<4)=>(met_cell ((hb.block _ (block_lt hfm)).trans hfm) (by rw[hym];exact hi):W.cell? ⟨gm,i,none⟩=some (.bool (y.met.getD i false))))
 have KSB:=Lib.hid (fun(W:World) (hb:Below w4.heap.size w4 W)=>(HSB4.out.keeps hb:SbAt W b c s V))
 obtain⟨M,hM⟩:∃n,w3.heap.size=n:=⟨_,rfl⟩
 rw[hM] at KX
 rw[hw4,hM]
 clear hw4 hM hff hfm hyn hym HFF HFM2 HSB HXS hvl HSP HBX0 HFL HUN HFC HBU
 obtain⟨PA,pc,hvph,-,hpa⟩:=(HSB4.out).rowV (.phis 3) (n:=1) HS2.out.ph
 obtain⟨gh,rfl,-,hgh⟩:=hpa (by omega)
 have c1:w4.cell? ⟨gp,46,none⟩=some (.slice (some ⟨gh,0,none⟩) 1 pc):=by
  have h1:=(HSB4.out.partCell HIL.out HVP.out (i:=3) (by rw[HSL.out];omega)).1
  rw[hvph] at h1
  exact h1
 obtain⟨d,hd,hdv,hdf⟩:=HS2.out.x
 have c2:w4.cell? ⟨gh,1,none⟩=some (.int .i64 (d:Int)):=by
  have h1:=(HSB4.out.phiCell hvph (k:=0) (by rw[HS2.out.ph];omega)).2.1
  rw[hd] at h1
  exact h1
 obtain⟨f0,f1⟩:=KF.out w4 (Below.refl _ _) d hdv
 rw[hdf] at f0 f1
 obtain⟨k2,z0,z1,z2,z3⟩:=KX.out w4 (Below.refl _ _)
 have e0:=KM.out w4 (Below.refl _ _) 0 (by omega)
 have e1:=KM.out w4 (Below.refl _ _) 1 (by omega)
 have e2:=KM.out w4 (Below.refl _ _) 2 (by omega)
 have e3:=KM.out w4 (Below.refl _ _) 3 (by omega)
 rw[HS2.out.m0] at e0
 rw[HS2.out.m1] at e1
 rw[HS2.out.m2] at e2
 rw[HS2.out.m3] at e3
 have hd1:(d:Int)<vl:=by omega
 have hd2:(0:Int)≤d:=by omega
 have hvph' :=hvph
 clear hvph hd hdf hdv hpa HS2 HVP HSB4 KSB KF KM KX HSL HIL hvph' hn hm
 by_cases h0:n=0
 ·have g0:decide (n=0)=true:=decide_eq_true h0
  have g1:(n==0)=true:=by simpa using h0
  have g2:(n !=0)=false:=by simp[h0]
  have g3:decide (n≠0)=false:=by simp[h0]
  rw[g0] at e1
  rw[g3] at e2
  rw[if_pos h0] at f1
  have heq:=eq_fact 1 (m) 1 (m)
  rw[decide_eq_true ⟨rfl,rfl⟩] at heq
  clear h0
  go_wp2_with fail
  go_ret
  exact⟨rfl,HB04.out.alloc (by rw[←hL];exact HB04.out.size) _⟩
 ·have g0:decide (n=0)=false:=decide_eq_false h0
  have g1:(n==0)=false:=by simpa using h0
  have g2:(n !=0)=true:=by simp[h0]
  have g3:decide (n≠0)=true:=by simp[h0]
  rw[g0] at e1
  rw[g3] at e2
  rw[if_neg h0] at f1
  have heq:=eq_fact 1 (8) 1 (8)
  rw[decide_eq_true ⟨rfl,rfl⟩] at heq
  clear h0
  go_wp2_with fail
  go_ret
  exact⟨rfl,HB04.out.alloc (by rw[←hL];exact HB04.out.size) _⟩
end Go.Proofs.YtappljijljjkiaaDoor
