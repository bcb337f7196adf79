/-
  The solver of facts: leave.
-/
import Derived.Test.YtappljijljjkiaaDoorZfFdP
namespace Go.Proofs.YtappljijljjkiaaDoor
open Go.RowKit Tier
def leaveTo(F:Fnc)(i:Nat)(op a imm:Int)(x:SV)(q:Nat):SV:=((nxI F (hdA F i)).take q).foldl (fun y n=>if op≠16∨wayB (ofF x.F a) imm (toF F (hdA F i)) (hdA F n)=true then goF y i n else y) x
theorem leaveTo_succ{F:Fnc}{i:Nat}{op a imm:Int}{x:SV}{q n:Nat}(h:(nxI F (hdA F i))[q]? =some n):leaveTo F i op a imm x (q+1)=if op≠16∨wayB (ofF x.F a) imm (toF F (hdA F i)) (hdA F n)=true then goF (leaveTo F i op a imm x q) i n else leaveTo F i op a imm x q:=by
 unfold leaveTo
 rw[List.take_add_one,h,List.foldl_append];rfl
set_option maxRecDepth 100000 in
set_option maxHeartbeats 8000000 in
theorem leave_any(b:Nat)(h:SH)(x:SV)(F:Fnc)(bs:List BR)(gb Bb i:Nat)(op id a c imm pc:Int)(w:World)(hs:SolX w b h x)(hB:BlkB w gb Bb bs)(hok:BlkOk F bs)(hbv:h.bv= .slice (some ⟨gb,0,none⟩) bs.length bs.length)(hi:i<bs.length)(hH:h.H=bs.length)(hle:bs.length≤40)(ha:a<h.n)(hnx:∀n∈nxI F (hdA F i),n<bs.length)(hnl:(nxI F (hdA F i)).length≤100):
 Calls Tryd.prog 85 #[.pointer (some ⟨b,0,none⟩), .int .i64 (i:Int), .agg #[.int .i64 op, .int .i64 id, .int .i64 a, .int .i64 c, .int .i64 imm, .int .i64 pc]] w fun e w' =>e= .returned (.tuple #[])∧SolX w' b h (leaveTo F i op a imm x (nxI F (hdA F i)).length)∧FrV w b h w' :=by
 obtain⟨r,hr⟩:∃r,bs[i]? =some r:=⟨_,gE hi⟩
 obtain⟨e1,e2,e3,-⟩:=hok.at_ i r hr
 obtain⟨NA,ncap,hnv,-⟩:=own_slice (hB.rows.own i r false hr)
 obtain⟨PA,pcap,hpv,-⟩:=own_slice (hB.rows.own i r true hr)
 have hnv' :r.nv= .slice NA r.nl.length ncap:=hnv
 have hpv' :r.pv= .slice PA r.pl.length pcap:=hpv
 have hLS0:=Lib.hid (fun(q n:Nat) (hq:(nxI F (hdA F i))[q]? =some n)=>leaveTo_succ (op:=op) (a:=a) (imm:=imm) (x:=x) hq)
 have HL0:=Lib.hid (show leaveTo F i op a imm x 0=x from rfl)
 obtain⟨L,hL⟩:∃L,nxI F (hdA F i)=L:=⟨_,rfl⟩
 obtain⟨n,hn⟩:∃n,L.length=n:=⟨_,rfl⟩
 obtain⟨pn,hpn⟩:∃n,r.pl.length=n:=⟨_,rfl⟩
 rw[hL] at e3 hnx hnl hLS0⊢
 rw[hn] at hnl⊢
 have hnl2:r.nl.length=n:=by rw[e3,natI_length,hn]
 rw[hnl2] at hnv'
 rw[hpn] at hpv'
 obtain⟨w1,hw1⟩:∃W,w.alloc (.cells #[.int .i64 op, .int .i64 id, .int .i64 a, .int .i64 c, .int .i64 imm, .int .i64 pc] 80)=W:=⟨_,rfl⟩
 obtain⟨hd,hhd⟩:∃d,hdA F i=d:=⟨_,rfl⟩
 obtain⟨tf,htf⟩:∃d,toF F hd=d:=⟨_,rfl⟩
 obtain⟨w2,hw2⟩:∃W,w1.alloc (.cells #[.int .i64 (hd:Int), .int .i64 (tf:Int), .slice NA n ncap, .slice PA pn pcap] 91)=W:=⟨_,rfl⟩
 have hb1:Below w.heap.size w w1:=hw1▸(Below.refl _ _).alloc (Nat.le_refl _) _
 have hb2:Below w1.heap.size w1 w2:=hw2▸(Below.refl _ _).alloc (Nat.le_refl _) _
 have hb12:Below w.heap.size w w2:=hb1.trans (hb2.mono hb1.size)
 have hsz:w1.heap.size=w.heap.size+1:=hw1▸by simp
 have hx5:w2.heap[w.heap.size]? =some (.cells #[.int .i64 op, .int .i64 id, .int .i64 a, .int .i64 c, .int .i64 imm, .int .i64 pc] 80 (0,0)):=(hb2.block _ (by omega)).trans (hw1▸heap_alloc_new _ _)
 have hx6:w2.heap[w.heap.size+1]? =some (.cells #[.int .i64 (hd:Int), .int .i64 (tf:Int), .slice NA n ncap, .slice PA pn pcap] 91 (0,0)):=by rw[←hsz];exact hw2▸heap_alloc_new _ _
 rw[hhd] at hLS0 e1 e2
 rw[htf] at hLS0 e2
 have hs2:=hs.keeps hb12
 have HS2:=Lib.hid hs2
 have HF2:=Lib.hid (FrV.of_below (b:=b) (h:=h) hb12)
 have HB2:=Lib.hid (hB.keeps hb12)
 have KS:=Lib.hid (fun(W:World) (y:SV) (hW:SolX W b h y) (hf:FrV w2 b h W)=>(by
  have q3:W.cell? ⟨b,3,none⟩=some h.bv:=(SolAt.cell hW 3).trans rfl
  have x5:=hf.block hs2 hx5 (by decide) (by decide) (by decide)
  have x6:=hf.block hs2 hx6 (by decide) (by decide) (by decide)
  rw[hbv] at q3
  exact⟨q3,(SolAt.lt hW).1,cell_block x5 0,cell_block x5 2,cell_block x5 4,block_lt x5,cell_block x6 1,cell_block x6 2,block_lt x6⟩:
  W.cell? ⟨b,3,none⟩=some (.slice (some ⟨gb,0,none⟩) bs.length bs.length)∧b<W.heap.size∧W.cell? ⟨w.heap.size,0,none⟩=some (.int .i64 op)∧W.cell? ⟨w.heap.size,2,none⟩=some (.int .i64 a)∧W.cell? ⟨w.heap.size,4,none⟩=some (.int .i64 imm)∧w.heap.size<W.heap.size∧W.cell? ⟨w.heap.size+1,1,none⟩=some (.int .i64 (tf:Int))∧W.cell? ⟨w.heap.size+1,2,none⟩=some (.slice NA n ncap)∧w.heap.size+1<W.heap.size))
 have KC:=Lib.hid (fun(W:World) (hf:FrV w2 b h W) (q:Nat) (hq:q<n)=>(by
  have hBW:=hf.blk hs2 HB2.out
  obtain⟨NA',ncap',hnv2,hncell⟩:=own_slice (hBW.rows.own i r false hr)
  have hnv3:r.nv= .slice NA' r.nl.length ncap' :=hnv2
  rw[hnv'] at hnv3
  simp only[Value.slice.injEq] at hnv3
  obtain⟨rfl,-,rfl⟩:=hnv3
  have hnl3:(r.lst false).length=n:=hnl2
  obtain⟨g,f1,f2,f3⟩:=hncell (by rw[hnl3];omega)
  obtain⟨m,hm⟩:∃m,L[q]? =some m:=⟨_,gE (by rw[hn];exact hq)⟩
  have hmH:=hnx m (gM hm)
  obtain⟨rm,hrm⟩:∃y,bs[m]? =some y:=⟨_,gE hmH⟩
  refine⟨g,m,f1,f2,hm,?_,hmH,?_,block_lt hBW.blk⟩
  ·rw[f3 q (by rw[hnl3];omega)]
   have e4:r.lst false=natI L:=e3
   rw[e4]
   simp[natI,hm]
  ·exact(hBW.cell hrm (j:=0) (by omega)).trans (by show some (Value.int .i64 rm.fr)=_;rw[(hok.at_ m rm hrm).1]):
  ∃g m,NA=some ⟨g,0,none⟩∧g<W.heap.size∧L[q]? =some m∧W.cell? ⟨g,q,none⟩=some (.int .i64 (m:Int))∧m<bs.length∧W.cell? ⟨gb,m*4,none⟩=some (.int .i64 (hdA F m:Int))∧gb<W.heap.size))
 have HGT:=Lib.hid (fun(W:World) (y:SV) (hy:SolX W b h y) (m:Nat) (hm:m<bs.length)=>goX_any b h y (i:Int) m W hy ⟨by omega,by rw[hH];omega⟩ (by rw[hH];exact hm) (by rw[hH];exact hle))
 have HOF:=Lib.hid (of_any b h _ x a w2 hs2 ha)
 have k3:w1.cell? ⟨b,3,none⟩=some h.bv:=(SolAt.cell (hs.keeps hb1) 3).trans rfl
 rw[hbv] at k3
 have hB1:=hB.keeps hb1
 have x0:w1.cell? ⟨gb,i*4,none⟩=some (.int .i64 (hd:Int)):=(hB1.cell hr (j:=0) (by omega)).trans (by show some (Value.int .i64 r.fr)=_;rw[e1])
 have x1:w1.cell? ⟨gb,i*4+1,none⟩=some (.int .i64 (tf:Int)):=(hB1.cell hr (j:=1) (by omega)).trans (by show some (Value.int .i64 r.to)=_;rw[e2])
 have x2:w1.cell? ⟨gb,i*4+2,none⟩=some (.slice NA n ncap):=(hB1.cell hr (j:=2) (by omega)).trans (by show some r.nv=_;rw[hnv'])
 have x3:w1.cell? ⟨gb,i*4+3,none⟩=some (.slice PA pn pcap):=(hB1.cell hr (j:=3) (by omega)).trans (by show some r.pv=_;rw[hpv'])
 have zgb:=block_lt hB1.blk
 have zb:=(SolAt.lt (hs.keeps hb1)).1
 have HLB:=Lib.hid (show b<w.heap.size∧h.gf<w.heap.size∧h.gm<w.heap.size∧h.ge<w.heap.size from SolAt.lt hs)
 obtain⟨H,hHe⟩:∃n,bs.length=n:=⟨_,rfl⟩
 rw[hHe] at KS KC HGT k3 hi hle
 have hi1:(i:Int)<H:=by omega
 have hi0:(0:Int)≤i:=by omega
 have hb12s:=hb12.size
 obtain⟨Lz,hLz⟩:∃z,w.heap.size=z:=⟨_,rfl⟩
 rw[hLz] at KS HLB hsz
 obtain⟨y0,y1,y2,y3,y4,y5,y6,y7,y8⟩:=KS.out w2 x hs2 (FrV.refl _ _ _)
 have HWA:=Lib.hid (show∀fk fv:Int,ofF x.F a=⟨fk,fv⟩→True from fun _ _ _=>trivial)
 clear hs hB hok hbv hnx hr e1 e2 e3 hnv hpv hnv' hpv' hn hL hnl2 hpn hb1 hb2 hb12 hx5 hx6 hs2 hB1 hhd htf hH ha HWA
 by_cases ho:op=16
 ·have HOP:=Lib.hid ho
  have o1:(op !=16)=false:=by simp[ho]
  have o2:decide (op=16)=true:=decide_eq_true ho
  clear ho
  obtain⟨⟨fk,fv⟩,hfa⟩:∃f,ofF x.F a=f:=⟨_,rfl⟩
  have HFA:=Lib.hid hfa
  rw[hfa] at HOF
  have HOF:Hid (Calls Tryd.prog 82 #[.pointer (some ⟨b,0,none⟩), .int .i64 a] w2 fun e w' =>e= .returned (.agg #[.int .i64 fk, .int .i64 fv])∧Below w2.heap.size w2 w'):=HOF
  clear hfa
  go_enter Tryd.func85,Tryd.ntmps85
  go_wp2_with (go_at_call 82;go_must (refine HOF.out.mono ?_;rintro e w3 ⟨rfl,hb3⟩;have HF3:=Lib.hid (FrV.of_below (b:=b) (h:=h) hb3);have HS3:=Lib.hid (HS2.out.keeps hb3);clear hb3 y0 y1 y2 y3 y4 y5 y6 y7 y8 x0 x1 x2 x3 zgb zb k3;obtain⟨y0,y1,y2,y3,y4,y5,y6,y7,y8⟩:=KS.out w3 x HS3.out HF3.out;obtain⟨w4,hw4⟩:∃W,w3.alloc (.cells #[.int .i64 fk, .int .i64 fv] 58)=W:=⟨_,rfl⟩;have hb34:Below w3.heap.size w3 w4:=hw4▸(Below.refl _ _).alloc (Nat.le_refl _) _;have HX9:Hid (w4.heap[w3.heap.size]? =some (.cells #[.int .i64 fk, .int .i64 fv] 58 (0,0))):=Lib.hid (hw4▸heap_alloc_new _ _);have HF4:=Lib.hid (HF3.out.trans (FrV.of_below (b:=b) (h:=h) hb34));have HS4:=Lib.hid (HS3.out.keeps hb34);have HLG:=Lib.hid (Nat.le_trans hb12s HF3.out.size);clear hb34 y0 y1 y2 y3 y4 y5 y6 y7 y8;obtain⟨y0,y1,y2,y3,y4,y5,y6,y7,y8⟩:=KS.out w4 x HS4.out HF4.out))
  have K9:=Lib.hid (fun(W:World) (hf:FrV w4 b h W)=>(by
   have h9:=(hf.kept w3.heap.size (block_lt HX9.out) (by have:=HLB.out;have:=HLG.out;omega) (by have:=HLB.out;have:=HLG.out;omega) (by have:=HLB.out;have:=HLG.out;omega) (by have:=HLB.out;have:=HLG.out;omega)).trans HX9.out
   exact⟨cell_block h9 0,cell_block h9 1,block_lt h9⟩:W.cell? ⟨w3.heap.size,0,none⟩=some (.int .i64 fk)∧W.cell? ⟨w3.heap.size,1,none⟩=some (.int .i64 fv)∧w3.heap.size<W.heap.size))
  obtain⟨L9,hL9⟩:∃z,w3.heap.size=z:=⟨_,rfl⟩
  rw[hL9] at K9⊢
  clear y0 y1 y2 y3 y4 y5 y6 y7 y8 hw4 hL9 HX9 HS3 HF3
  go_loopw [43] (fun v wr=>∃q:Nat,q≤n∧v= .int .i64 (q:Int)∧SolX wr b h (leaveTo F i op a imm x q)∧FrV w4 b h wr) (fun v _=>n-(intOf v).toNat)
  case atStart=>exact⟨0,by omega,rfl,by rw[HL0.out];exact HS4.out,FrV.refl _ _ _⟩
  case round=>
   obtain⟨q,hqn,rfl,hse,hfe⟩:=hrel
   have HS:=Lib.hid hse
   have HF:=Lib.hid hfe
   by_cases hq0:q=n
   ·have hq0' :=hq0.symm
    subst hq0'
    clear hse hfe
    go_wp2_with fail
    refine bodyPost_end (v:= .tuple #[]) (by simp[results,Tryd.results85]) rfl ⟨rfl,HS.out,HF2.out.trans (HF4.out.trans HF.out)⟩
   ·have hq1:(q:Int)<n:=by omega
    have hq2:(0:Int)≤q:=by omega
    obtain⟨g,m,rfl,zg,hm,cg,hmH,cm,zgb⟩:=KC.out wr (HF4.out.trans hfe) q (by omega)
    have HLS:=Lib.hid (hLS0.out q m hm)
    rw[HFA.out] at HLS
    obtain⟨fm,hfm⟩:∃d,hdA F m=d:=⟨_,rfl⟩
    rw[hfm] at cm HLS
    obtain⟨y0,y1,y2,y3,y4,y5,y6,y7,y8⟩:=KS.out wr _ hse (HF4.out.trans hfe)
    obtain⟨z0,z1,z2⟩:=K9.out wr hfe
    have hm1:(m:Int)<H:=by omega
    have hm0:(0:Int)≤m:=by omega
    have HM:=Lib.hid hm
    have HFM2:=Lib.hid hfm
    obtain⟨bi,hbi⟩:∃z,decide ((fm:Int)=imm)=z:=⟨_,rfl⟩
    obtain⟨bt,hbt⟩:∃z,decide ((fm:Int)=(tf:Int))=z:=⟨_,rfl⟩
    have hbi2:((fm:Int)==imm)=bi:=by rw[←hbi];rfl
    have hbt2:((fm:Int)==(tf:Int))=bt:=by rw[←hbt];rfl
    have hbt3:decide (fm=tf)=bt:=by rw[←hbt];exact decide_eq_decide.2 (by omega)
    have hbt4:(fm==tf)=bt:=by rw[←hbt3];rfl
    have HWY0:=Lib.hid (show wayB ⟨fk,fv⟩ imm (tf:Int) (fm:Int)=(decide (fk=2)||(decide (fk=1)&&((decide (fv≠0)&&bi)||(decide (fv=0)&&bt)))) by unfold wayB;rw[hbi,hbt])
    clear hse hfe hm hfm hq0 y2 y3 y7 y8
    go_upto_region 12 with fail
    go_quiet (fail)
    obtain⟨w5,hw5⟩:∃W,wr.drewN nq=W:=⟨_,rfl⟩
    have hb5:Below wr.heap.size wr w5:=hw5▸below_drewN (Below.refl _ _) _
    have HS5:=Lib.hid (HS.out.keeps hb5)
    have HF5:=Lib.hid (HF.out.trans (FrV.of_below hb5))
    rw[hw5]
    clear hw5 nq hb5 cg cm zg zgb y0 y1 y4 y5 y6 z0 z1 z2
    obtain⟨y0,y1,y2,y3,y4,y5,y6,y7,y8⟩:=KS.out w5 _ HS5.out (HF4.out.trans HF5.out)
    obtain⟨g',m',-,-,hm',-,-,cm,zgb⟩:=KC.out w5 (HF4.out.trans HF5.out) q (by omega)
    have em:m' =m:=Option.some.inj (hm'.symm.trans HM.out)
    rw[em,HFM2.out] at cm
    clear hm' em y2 y3 y4 y5 y7
    go_upto_region 13 with fail
    go_quiet (fail)
    obtain⟨w6,hw6⟩:∃W,w5.drewN nq=W:=⟨_,rfl⟩
    have hb6:Below w5.heap.size w5 w6:=hw6▸below_drewN (Below.refl _ _) _
    have HSD:=Lib.hid (HS5.out.keeps hb6)
    have HFD:=Lib.hid (HF5.out.trans (FrV.of_below hb6))
    rw[hw6]
    clear hw6 nq hb6 cm zgb y0 y1 y6 y8 hbi hbt hbi2 hbt2 hbt3 hbt4
    obtain⟨z0,z1,z2⟩:=K9.out w6 HFD.out
    by_cases a2:fk=2
    ·have d1:decide (fk=2)=true:=decide_eq_true a2
     have d2:(fk==2)=true:=by simpa using a2
     have HWY:=Lib.hid (show wayB ⟨fk,fv⟩ imm (tf:Int) (fm:Int)=true by rw[HWY0.out,d1];rfl)
     clear a2
     go_wp2_with (go_at_call 43;go_must (refine(HGT.out _ _ HSD.out m hmH).mono ?_;rintro e we ⟨rfl,hse,hfe⟩;have HSE:=Lib.hid hse;have HFE:=Lib.hid (HFD.out.trans hfe);clear hse hfe))
     go_roundw
     case rel=>exact⟨q+1,by omega,by go_num,by rw[HLS.out,if_pos (.inr HWY.out)];exact HSE.out,HFE.out⟩
     case measure=>simp[intOf];omega
    have d1:decide (fk=2)=false:=decide_eq_false a2
    have d2:(fk==2)=false:=by simpa using a2
    by_cases a1:fk=1
    ·have d3:decide (fk=1)=true:=decide_eq_true a1
     have d4:(fk==1)=true:=by simpa using a1
     clear a1 a2
     by_cases v0:fv=0
     ·have d5:decide (fv=0)=true:=decide_eq_true v0
      have d6:(fv==0)=true:=by simpa using v0
      have d7:(fv !=0)=false:=by simp[v0]
      have d8:decide (fv≠0)=false:=by simp[v0]
      have HW1:=Lib.hid (show wayB ⟨fk,fv⟩ imm (tf:Int) (fm:Int)=bt by rw[HWY0.out,d1,d3,d5,d8];simp)
      clear v0
      cases bt with
      |true=>
       have HWY:=HW1
       go_wp2_with (go_at_call 43;go_must (refine(HGT.out _ _ HSD.out m hmH).mono ?_;rintro e we ⟨rfl,hse,hfe⟩;have HSE:=Lib.hid hse;have HFE:=Lib.hid (HFD.out.trans hfe);clear hse hfe))
       go_roundw
       case rel=>exact⟨q+1,by omega,by go_num,by rw[HLS.out,if_pos (.inr HWY.out)];exact HSE.out,HFE.out⟩
       case measure=>simp[intOf];omega
      |false=>
       have HWY:=HW1
       go_wp2_with fail
       go_roundw
       case rel=>exact⟨q+1,by omega,by go_num,by rw[HLS.out,if_neg (fun h=>by rcases h with h|h;exact h HOP.out;rw[HWY.out] at h;cases h)];exact HSD.out,HFD.out⟩
       case measure=>simp[intOf];omega
     ·have d5:decide (fv=0)=false:=decide_eq_false v0
      have d6:(fv==0)=false:=by simpa using v0
      have d7:(fv !=0)=true:=by simp[v0]
      have d8:decide (fv≠0)=true:=by simp[v0]
      have HW1:=Lib.hid (show wayB ⟨fk,fv⟩ imm (tf:Int) (fm:Int)=bi by rw[HWY0.out,d1,d3,d5,d8];simp)
      clear v0
      cases bi with
      |true=>
       have HWY:=HW1
       go_wp2_with (go_at_call 43;go_must (refine(HGT.out _ _ HSD.out m hmH).mono ?_;rintro e we ⟨rfl,hse,hfe⟩;have HSE:=Lib.hid hse;have HFE:=Lib.hid (HFD.out.trans hfe);clear hse hfe))
       go_roundw
       case rel=>exact⟨q+1,by omega,by go_num,by rw[HLS.out,if_pos (.inr HWY.out)];exact HSE.out,HFE.out⟩
       case measure=>simp[intOf];omega
      |false=>
       have HWY:=HW1
       go_wp2_with fail
       go_roundw
       case rel=>exact⟨q+1,by omega,by go_num,by rw[HLS.out,if_neg (fun h=>by rcases h with h|h;exact h HOP.out;rw[HWY.out] at h;cases h)];exact HSD.out,HFD.out⟩
       case measure=>simp[intOf];omega
    ·have d3:decide (fk=1)=false:=decide_eq_false a1
     have d4:(fk==1)=false:=by simpa using a1
     have HWY:=Lib.hid (show wayB ⟨fk,fv⟩ imm (tf:Int) (fm:Int)=false by rw[HWY0.out,d1,d3];rfl)
     clear a1 a2
     go_wp2_with fail
     go_roundw
     case rel=>exact⟨q+1,by omega,by go_num,by rw[HLS.out,if_neg (fun h=>by rcases h with h|h;exact h HOP.out;rw[HWY.out] at h;cases h)];exact HSD.out,HFD.out⟩
     case measure=>simp[intOf];omega
 ·have o1:(op !=16)=true:=by simp[ho]
  have o2:decide (op=16)=false:=decide_eq_false ho
  have HOP:=Lib.hid ho
  clear ho
  go_enter Tryd.func85,Tryd.ntmps85
  go_wp2_with fail
  clear y0 y1 y2 y3 y4 y5 y6 y7 y8 x0 x1 x2 x3 zgb zb k3
  go_loopw [27] (fun v wr=>∃q:Nat,q≤n∧v= .int .i64 (q:Int)∧SolX wr b h (leaveTo F i op a imm x q)∧FrV w2 b h wr) (fun v _=>n-(intOf v).toNat)
  case atStart=>exact⟨0,by omega,rfl,by rw[HL0.out];exact HS2.out,FrV.refl _ _ _⟩
  case round=>
   obtain⟨q,hqn,rfl,hse,hfe⟩:=hrel
   have HS:=Lib.hid hse
   have HF:=Lib.hid hfe
   by_cases hq0:q=n
   ·have hq0' :=hq0.symm
    subst hq0'
    clear hse hfe
    go_wp2_with fail
    refine bodyPost_ret (v:= .tuple #[]) (by simp[results,Tryd.results85]) rfl ⟨rfl,HS.out,HF2.out.trans HF.out⟩
   ·have hq1:(q:Int)<n:=by omega
    have hq2:(0:Int)≤q:=by omega
    obtain⟨g,m,rfl,zg,hm,cg,hmH,cm,zgb⟩:=KC.out wr hfe q (by omega)
    have HLS:=Lib.hid (hLS0.out q m hm)
    clear hse hfe hm cm zgb hq0
    go_wp2_with (go_at_call 43;go_must (refine(HGT.out _ _ HS.out m hmH).mono ?_;rintro e we ⟨rfl,hse,hfe⟩;have HSE:=Lib.hid hse;have HFE:=Lib.hid (HF.out.trans hfe);clear hse hfe))
    go_roundw
    case rel=>exact⟨q+1,by omega,by go_num,by rw[HLS.out,if_pos (.inl HOP.out)];exact HSE.out,HFE.out⟩
    case measure=>simp[intOf];omega
end Go.Proofs.YtappljijljjkiaaDoor
