/-
  The contract of keep.followed, with the watcher of SsaTrue.
-/
import Derived.Test.YtedcjapmmnbamaaDoorFoQ
import Derived.Test.YtedcjapmmnbamaaDoorOpn
namespace Go.Proofs.YtedcjapmmnbamaaDoor
open Go.RowKit Tier
set_option linter.unusedVariables false in
set_option linter.unusedSimpArgs false in
set_option maxRecDepth 100000 in
set_option maxHeartbeats 8000000 in
theorem ssaTrue_fol{p:List Fnc}{F:Fnc}(hright:checkP p=0)(hF:p[0]? =some F)(a0 a1 fuel:Int)(YA:Option Addr)(ans:List Int)(ycap:Nat)(A1:Option Addr)(cap1:Nat)(cb:Nat)(w0 w1:World)(ht:Tab w0)(hP:ProgAt w0 (.slice A1 p.length cap1) p)(hb01:Below w0.heap.size w0 w1)(hy:IntsAt w0 YA ans)(hly:(ans.length:Int)≤9223372036854775807)(hcy:ans.length≤ycap)(hfu:In fuel)(WI WB:World→FoS→Prop)
 (hW0:∀W E D,(∀k,k<w1.heap.size→W.heap[k]? =w1.heap[k]?)→(∀v,D.getD v false=true→v<F.params.toNat)→WI W ⟨inSt p a0 a1 ans fuel,-1,E,D⟩)
 (hWI:∀W W' x,(∀k,k<w1.heap.size→W'.heap[k]? =W.heap[k]?)→WI W x→WI W' x)
 (hWB:∀W W' x,(∀k,k<w1.heap.size→W'.heap[k]? =W.heap[k]?)→WB W x→WB W' x)
 (hst:∀O bs K s1 s2 l s W x f j t,BuiltX p F O bs K s1 s2 l s→FolI F O bs s (valN F bs s2 l) x→FolW F O bs s (valN F bs s2 l) x f j t→StInv p x.st→x.st.status=0→x.st.frames.length=1→WB W x→WI W (folNext p F bs s x))
 (hdp:∀O bs K s1 s2 l s W x,BuiltX p F O bs K s1 s2 l s→FolI F O bs s (valN F bs s2 l) x→StInv p x.st→x.st.status=0→x.st.frames.length≠1→WI W x→WI W (folNext p F bs s x))
 (hWT:∀O bs K s1 s2 l s (W:World) (x:FoS) (f:Fr) (j t:Nat) (C:List Value) (ge gm:Nat),BuiltX p F O bs K s1 s2 l s→FolI F O bs s (valN F bs s2 l) x→FolW F O bs s (valN F bs s2 l) x f j t→StInv p x.st→x.st.status=0→Below w0.heap.size w0 W→WI W x→IntsB W ge (watE F bs s x)→BoolsB W gm (watD F s x)→CellsSt C W w1.heap.size x.st→w1.heap.size≤ge→w1.heap.size≤gm→
   Calls Tryd.prog 9 #[.int .i64 (j:Int), .slice (some ⟨ge,0,none⟩) (valN F bs s2 l) (valN F bs s2 l), .slice (some ⟨gm,0,none⟩) (valN F bs s2 l) (valN F bs s2 l), .agg C.toArray, .pointer (some ⟨cb,0,none⟩)] W fun e W' =>e= .returned (.bool true)∧FW w0 w1 W W' ∧WB W' x):
 Calls Tryd.prog 8 #[.agg #[.slice A1 p.length cap1], .agg #[.int .i64 a0, .int .i64 a1, .slice YA ans.length ycap, .int .i64 fuel], .func (.func 9) #[] #[.pointer (some ⟨cb,0,none⟩)]] w1 fun e w' =>e= .returned (.bool true)∧Below w0.heap.size w0 w' :=by
 have hp:=right_of hright
 have HRT:=Lib.hid hp
 have HCK:=Lib.hid hright
 have HFM:=Lib.hid (gM hF)
 have HF0:=Lib.hid hF
 have HB01:=Lib.hid hb01
 have hfo:=hp.ok.fn F (gM hF)
 have HFO:=Lib.hid hfo
 have HW0:=Lib.hid hW0
 have HWI:=Lib.hid hWI
 have HWB:=Lib.hid hWB
 have HSTH:=Lib.hid hst
 have HDP:=Lib.hid hdp
 have HWT:=Lib.hid hWT
 have HI0:=Lib.hid (inSt_inv hp a0 a1 ans fuel)
 have HFR0:Hid ((inSt p a0 a1 ans fuel).status=0∧∃f,(inSt p a0 a1 ans fuel).frames=[f]∧f.fn=0∧f.pc=0):=Lib.hid ⟨rfl,_,rfl,rfl,rfl⟩
 obtain⟨H,hH⟩:∃H,(hdL F).length=H:=⟨_,rfl⟩
 have HH:=Lib.hid hH
 have hHM:H≤40:=by have h0:=hfo.c2;have h1:=hdTo_len F F.code.length;have h2:hdTo F F.code.length=hdL F:=rfl;rw[h2,hH] at h1;omega
 have hH1:0<H:=by have:=(gI.1 (zero_head hp HFM.out)).1;omega
 obtain⟨P,hPn⟩:∃n:Nat,F.params=n:=⟨F.params.toNat,by have:=hfo.p1;omega⟩
 have HPP:=Lib.hid hPn
 have hP2:P≤2:=by have:=hfo.p2;omega
 obtain⟨L1,hL1⟩:∃L,w1.heap.size=L:=⟨_,rfl⟩
 obtain⟨wa,hwa⟩:∃W,w1.alloc (.cells #[.slice A1 p.length cap1] 29)=W:=⟨_,rfl⟩
 obtain⟨L2,hL2⟩:∃L,wa.heap.size=L:=⟨_,rfl⟩
 obtain⟨wb,hwb⟩:∃W,wa.alloc (.cells #[.int .i64 a0, .int .i64 a1, .slice YA ans.length ycap, .int .i64 fuel] 26)=W:=⟨_,rfl⟩
 have HX:Hid (wb.heap[L1]? =some (.cells #[.slice A1 p.length cap1] 29 (0,0))∧wb.heap[L2]? =some (.cells #[.int .i64 a0, .int .i64 a1, .slice YA ans.length ycap, .int .i64 fuel] 26 (0,0))∧Below w1.heap.size w1 wb∧wb.heap.size=L1+2):=Lib.hid (by
  have sa:L2=L1+1:=by rw[←hL2,←hwa,←hL1];simp
  have ba:Below L1 w1 wa:=by rw[←hwa,←hL1];exact(Below.refl _ _).alloc (Nat.le_refl _) _
  have bb:Below L2 wa wb:=by rw[←hwb,←hL2];exact(Below.refl _ _).alloc (Nat.le_refl _) _
  have xa:wa.heap[L1]? =some (.cells #[.slice A1 p.length cap1] 29 (0,0)):=by rw[←hwa,←hL1];exact heap_alloc_new _ _
  have xb:wb.heap[L2]? =some (.cells #[.int .i64 a0, .int .i64 a1, .slice YA ans.length ycap, .int .i64 fuel] 26 (0,0)):=by rw[←hwb,←hL2];exact heap_alloc_new _ _
  exact⟨(bb.block L1 (by omega)).trans xa,xb,by rw[hL1];exact ba.trans (bb.mono (by omega)),by rw[←hwb];simp;omega⟩)
 have HT1:=Lib.hid (ht.keeps hb01)
 have HP1:=Lib.hid (hP.keeps hb01)
 have HBG:Hid (Calls Tryd.prog 22 #[.agg #[.slice A1 p.length cap1], .agg #[.int .i64 a0, .int .i64 a1, .slice YA ans.length ycap, .int .i64 fuel]] wb fun e w' =>(∃C:List Value,e= .returned (.tuple #[.agg C.toArray, .bool true])∧CellsSt C w' wb.heap.size (inSt p a0 a1 ans fuel))∧Below wb.heap.size wb w'):=Lib.hid (kbegin_any hright a0 a1 fuel ans YA ycap A1 cap1 wb (HT1.out.keeps HX.out.2.2.1) (HP1.out.keeps HX.out.2.2.1) ((hy.keeps hb01).keeps HX.out.2.2.1) hly hcy hfu)
 have HNX:=Lib.hid (fun(C:List Value) (s:St) (B:Nat) (hi:StInv p s) (W:World) (hb:Below w0.heap.size w0 W) (hC:CellsSt C W B s)=>snext_c hright (ht.keeps hb) (hP.keeps hb) hi hC)
 have HBK:Hid (∀W,Below w1.heap.size w1 W→Calls Tryd.prog 18 #[.agg #[.slice A1 p.length cap1], .int .i64 0] W fun e w' =>BlocksRet F W.heap.size e w' ∧Below W.heap.size W w'):=Lib.hid (fun W hb=>blocks_any p A1 cap1 0 F W (HT1.out.keeps hb) (HP1.out.keeps hb) hright hF)
 have HBU:Hid (∀W,Below w1.heap.size w1 W→Calls Tryd.prog 12 #[.agg #[.slice A1 p.length cap1], .int .i64 0] W fun e w' =>BuildRet p F W.heap.size e w' ∧Below W.heap.size W w'):=Lib.hid (fun W hb=>build_all A1 cap1 0 W (HT1.out.keeps hb) (HP1.out.keeps hb) hright hF)
 have HSb:=Lib.hid HX.out.2.2.1.size
 obtain⟨ga,gc,cc,hA1,hga,hgac,hgcl,hgcc⟩:∃(ga gc cc:Nat),A1=some ⟨ga,0,none⟩∧ga<w0.heap.size∧w0.cell? ⟨ga,2,none⟩=some (.slice (some ⟨gc,0,none⟩) F.code.length cc)∧gc<w0.heap.size∧∀(i:Nat) (x:Ins),F.code[i]? =some x→w0.cell? ⟨gc,i*5,none⟩=some (.int .i64 x.op)∧w0.cell? ⟨gc,i*5+1,none⟩=some (.int .i64 x.dst)∧w0.cell? ⟨gc,i*5+2,none⟩=some (.int .i64 x.a)∧w0.cell? ⟨gc,i*5+3,none⟩=some (.int .i64 x.b)∧w0.cell? ⟨gc,i*5+4,none⟩=some (.int .i64 x.imm):=by
  obtain⟨Ag,cg,hvg,hag⟩:=hP.slice
  obtain⟨ga,rfl,hga,hgx⟩:=hag (gI.1 hF).1
  obtain⟨u,hu,-,-,hcu⟩:=hgx 0 F hF
  obtain⟨Ac,cc,rfl,hac⟩:=hu.slice
  obtain⟨gc,rfl,h3,h4⟩:=hac (by have:=hfo.c1;omega)
  simp only[Value.slice.injEq] at hvg
  exact⟨ga,gc,cc,hvg.1,hga,hcu,h3,h4⟩
 have HA1:=Lib.hid hA1
 have HCOD:=Lib.hid (And.intro hga (And.intro hgac (And.intro hgcl hgcc)))
 clear hA1 hga hgac hgcl hgcc
 clear hW0 hWI hWB hst hdp hWT hp hfo hH hPn hright hF ht hP hb01 hy
 go_enter Tryd.func8,Tryd.ntmps8
 go_upto_region 1 with fail
 have pa:=cell_block HX.out.1 0
 have za:=block_lt HX.out.1
 have ib0:=cell_block HX.out.2.1 0
 have ib1:=cell_block HX.out.2.1 1
 have ib2:=cell_block HX.out.2.1 2
 have ib3:=cell_block HX.out.2.1 3
 have zb:=block_lt HX.out.2.1
 have hzst:=zero_st
 clear hwa hwb hL2
 go_upto_region 2 with(first|(go_at_call 22;go_must (refine HBG.out.mono ?_;rintro e w2 ⟨⟨C0,rfl,hC0⟩,hb⟩;have HBb2:=Lib.hid hb;have HC0:=Lib.hid (hC0.base (B' :=w1.heap.size) HSb.out);have HC0L:=Lib.hid (HC0.out.len HI0.out.mem);clear hC0 hb pa za ib0 ib1 ib2 ib3 zb))|(refine wpList_store_mid (by rfl) 36 _ _ (by rfl) w2.heap.size 0 C0.toArray (by rfl) (by rfl) (there_new w2 zeroV _ (by simp[HC0L.out,zeroV_length])) (by simpa using info_st HC0L.out) HC0.out.one ?_;obtain⟨w3,hw3⟩:∃W,(w2.alloc (.cells zeroV.toArray 36)).setCells w2.heap.size 0 C0.toArray.toList=W:=⟨_,rfl⟩;have HX3:Hid (w3.heap[w2.heap.size]? =some (.cells C0.toArray 36 (0,0))):=Lib.hid (hw3▸block_full (heap_alloc_new w2 _) C0 (by simp[HC0L.out,zeroV_length]));have HB23:Hid (Below w2.heap.size w2 w3):=Lib.hid (hw3▸below_setCells (Nat.le_refl _) _ _ _ ((Below.refl _ _).alloc (Nat.le_refl _) _));rw[hw3];clear hw3))
 clear hzst
 have HB1b:=Lib.hid HX.out.2.2.1
 have HB13:=Lib.hid (HB1b.out.trans ((HBb2.out.trans (HB23.out.mono HBb2.out.size)).mono HB1b.out.size))
 have HX3p:Hid (w3.heap[L1]? =some (.cells #[.slice A1 p.length cap1] 29 (0,0))):=Lib.hid ((HB23.out.block _ (Nat.lt_of_lt_of_le (block_lt HX.out.1) HBb2.out.size)).trans ((HBb2.out.block _ (block_lt HX.out.1)).trans HX.out.1))
 have p3:=cell_block HX3p.out 0
 have z3:=block_lt HX3p.out
 obtain⟨bS,hbS⟩:∃n,w2.heap.size=n:=⟨_,rfl⟩
 have HLS:=Lib.hid (show L1+2≤bS∧bS<w3.heap.size from by
  have h1:=HBb2.out.size
  have h2:=HX.out.2.2.2
  have h3:=block_lt HX3.out
  omega)
 rw[hbS] at HX3⊢
 go_upto_region 3 with(go_at_call 12;go_must (refine(HBU.out _ HB13.out).mono ?_;rintro e w4 ⟨⟨b,c,s,V,O,bs,K,s2,l,rfl,hbb,hsb,hbl⟩,hb⟩;have HBX:=Lib.hid (BuiltX.mk hbl HCK.out HFM.out rfl:BuiltX p F O bs K _ s2 l s);have hbsl:bs.length=H:=(by rw[hbl.bok.len,HH.out]);obtain⟨Ap,cp,hvp,-,hpA⟩:=hsb.rowV .parts (n:=H) (by show s.parts.length=H;rw[HBX.out.finP.len,hbsl]);obtain⟨gp,rfl,-,-⟩:=hpA hH1;have HVP:=Lib.hid hvp;have HSB:=Lib.hid hsb;have HBB:=Lib.hid hbb;have HSL:=Lib.hid hbsl;rw[hvp,show((F.params.toNat+(allG {s2 with same:=l} bs.length).length:Nat):Int)=((valN F bs s2 l:Nat):Int) from rfl,HPP.out];have HB34:=Lib.hid hb;clear hbb hsb hbl hb hvp hbsl hpA p3 z3))
 have hvs:=HBX.out.few0.1
 obtain⟨vl,hvl⟩:∃v,valN F bs s2 l=v:=⟨_,rfl⟩
 have HVL:=Lib.hid hvl
 rw[hvl] at hvs⊢
 obtain⟨w5,hw5⟩:∃W,w4.alloc (.cells #[.int .i64 (P:Int), .int .i64 (vl:Int), .slice (some ⟨gp,0,none⟩) H cp] 50)=W:=⟨_,rfl⟩
 obtain⟨L5,hL5⟩:∃L,w4.heap.size=L:=⟨_,rfl⟩
 have HXS:Hid (w5.heap[L5]? =some (.cells #[.int .i64 (P:Int), .int .i64 (vl:Int), .slice (some ⟨gp,0,none⟩) H cp] 50 (0,0))):=Lib.hid (by rw[←hw5,←hL5];exact heap_alloc_new _ _)
 have HB45:Hid (Below w4.heap.size w4 w5):=Lib.hid (by rw[←hw5];exact(Below.refl _ _).alloc (Nat.le_refl _) _)
 have HL5:=Lib.hid hL5
 rw[hw5,hL5]
 have HB35:=Lib.hid (HB34.out.trans (HB45.out.mono HB34.out.size))
 have HB15:=Lib.hid (HB13.out.trans (HB35.out.mono HB13.out.size))
 have HX5p:Hid (w5.heap[L1]? =some (.cells #[.slice A1 p.length cap1] 29 (0,0))):=Lib.hid ((HB35.out.block _ (block_lt HX3p.out)).trans HX3p.out)
 have p5:=cell_block HX5p.out 0
 have z5:=block_lt HX5p.out
 clear hw5 hL5 hvl hbS
 go_upto_region 4 with(go_at_call 18;go_must (refine(HBK.out _ HB15.out).mono ?_;rintro e w6 ⟨⟨gb,Bb,bs2,rfl,hgb,hBK,hOK⟩,hb⟩;rw[HH.out];have HB56:=Lib.hid hb;have HBLK:=Lib.hid hBK;have HGB:=Lib.hid hgb;have HOK:=Lib.hid hOK;clear hgb hBK hOK hb p5 z5))
 have HB16:=Lib.hid (HB15.out.trans (HB56.out.mono HB15.out.size))
 have hXS6:=(HB56.out.block _ (block_lt HXS.out)).trans HXS.out
 have x1:=cell_block hXS6 1
 have x2:=cell_block hXS6 2
 have zx:=block_lt hXS6
 have zgp:gp<w6.heap.size:=Nat.lt_of_lt_of_le (HSB.out.rlt .parts (g:=gp) (by rw[HVP.out];rfl)).2 (Nat.le_trans HB45.out.size HB56.out.size)
 have zgb:=block_lt HBLK.out.blk
 have hmk1:=make_envN vl hvs
 have hmk2:=make_madeN vl hvs
 obtain⟨ge,hge⟩:∃n,w6.heap.size=n:=⟨_,rfl⟩
 obtain⟨w7,hw7⟩:∃W,w6.alloc (.cells (madeCells #[.int .i64 0] vl) 3)=W:=⟨_,rfl⟩
 obtain⟨gm,hgm⟩:∃n,w7.heap.size=n:=⟨_,rfl⟩
 obtain⟨w8,hw8⟩:∃W,w7.alloc (.cells (madeCells #[.bool false] vl) 4)=W:=⟨_,rfl⟩
 have HB68:Hid (Below w6.heap.size w6 w8):=Lib.hid (by
  have h1:Below w6.heap.size w6 w7:=by rw[←hw7];exact(Below.refl _ _).alloc (Nat.le_refl _) _
  have h2:Below w7.heap.size w7 w8:=by rw[←hw8];exact(Below.refl _ _).alloc (Nat.le_refl _) _
  exact h1.trans (h2.mono h1.size))
 have HFA:Hid (FoA w0 w1 w8 bS ge gm):=Lib.hid (by
  have h7:w7.heap.size=w6.heap.size+1:=by rw[←hw7];simp
  have h8:w8.heap.size=w7.heap.size+1:=by rw[←hw8];simp
  have h5:=HLS.out
  have h6:=HB35.out.size
  have h9:=HB56.out.size
  exact⟨HB01.out.size,by omega,by omega,by omega,by omega⟩)
 have HE0:Hid (IntsB w8 ge (List.replicate vl 0)):=Lib.hid (by
  have h1:IntsB w7 ge (List.replicate vl 0):=by rw[←hw7,←hge];exact made_ints w6 vl
  have h2:Below w7.heap.size w7 w8:=by rw[←hw8];exact(Below.refl _ _).alloc (Nat.le_refl _) _
  exact(h2.block _ (block_lt h1)).trans h1)
 have HD0:Hid (BoolsB w8 gm (List.replicate vl false)):=Lib.hid (by rw[←hw8,←hgm];exact made_boolsF w7 vl)
 have HGE:=Lib.hid hge
 go_upto_region 7 with fail
 have h67:Below w6.heap.size w6 w7:=by rw[←hw7];exact(Below.refl _ _).alloc (Nat.le_refl _) _
 have hXS7:=(h67.block _ (block_lt hXS6)).trans hXS6
 have x17:=cell_block hXS7 1
 have zx7:=block_lt hXS7
 go_upto_region 8 with fail
 clear x1 x2 zx zgp zgb hXS6 hmk1 hmk2 hge hgm hw7 hw8 h67 hXS7 x17 zx7
 have HB18:=Lib.hid (HB16.out.trans (HB68.out.mono HB16.out.size))
 have HB08:Hid (Below w0.heap.size w0 w8):=Lib.hid (HB01.out.trans (HB18.out.mono HB01.out.size))
 have HB38:=Lib.hid (HB35.out.trans ((HB56.out.trans (HB68.out.mono HB56.out.size)).mono HB35.out.size))
 have HM0:Hid (FoM w0 w1 w8 w8 bS ge gm C0 (inSt p a0 a1 ans fuel) (List.replicate vl 0) (List.replicate vl false)):=Lib.hid (by
  have hb28:Below w2.heap.size w2 w8:=HB23.out.trans (HB38.out.mono HB23.out.size)
  have hz:w2.heap.size≤ge:=by
   have h1:=HGE.out
   have h2:=HB35.out.size
   have h3:=HB23.out.size
   have h4:=HB56.out.size
   omega
  have h1:=HFA.out.l3
  exact⟨HB08.out,Nat.le_refl _,fun _ _ _ _ _ _=>rfl,(HB38.out.block _ (block_lt HX3.out)).trans HX3.out,(StA.old HC0.out hz (by omega)).same hb28.size (fun k _ hk _ _=>hb28.block k hk),HE0.out,HD0.out⟩)
 have HG5:=Lib.hid (show w1.heap.size≤L5∧bS<L5∧L5<ge∧L1<bS∧w1.heap.size≤L1∧bS<gb∧bS<b from(by
  have h1:=HL5.out
  have h2:=HLS.out
  have h3:=HB34.out.size
  have h4:=HGE.out
  have h5:=block_lt HXS.out
  have h6:=HB56.out.size
  have h7:=HGB.out
  have h8:=HBB.out
  have h9:=HB45.out.size
  omega))
 have KP:=Lib.hid (fun(W:World) (C:List Value) (z:St) (E:List Int) (D:List Bool) (hm:FoM w0 w1 w8 W bS ge gm C z E D)=>(by
  have a:=HFA.out
  obtain⟨g1,g2,g3,g4,g5,-⟩:=HG5.out
  have h1:w8.heap[L1]? =some (.cells #[.slice A1 p.length cap1] 29 (0,0)):=(HB38.out.block _ (block_lt HX3p.out)).trans HX3p.out
  have h5:w8.heap[L5]? =some (.cells #[.int .i64 (P:Int), .int .i64 (vl:Int), .slice (some ⟨gp,0,none⟩) H cp] 50 (0,0)):=(HB68.out.block _ (block_lt ((HB56.out.block _ (block_lt HXS.out)).trans HXS.out))).trans ((HB56.out.block _ (block_lt HXS.out)).trans HXS.out)
  have l2:=a.l2
  have l3:=a.l3
  have q1:=hm.old h1 g5 (by omega) (by omega) (by omega)
  have q5:=hm.old h5 g1 (by omega) (by omega) (by omega)
  have hsz:=hm.size
  have hl4:=a.l4
  exact⟨cell_block q1 0,cell_block q5 0,cell_block q5 1,cell_block q5 2,block_lt q1,block_lt q5,block_lt hm.box,by omega,by omega⟩:
  W.cell? ⟨L1,0,none⟩=some (.slice A1 p.length cap1)∧W.cell? ⟨L5,0,none⟩=some (.int .i64 (P:Int))∧W.cell? ⟨L5,1,none⟩=some (.int .i64 (vl:Int))∧W.cell? ⟨L5,2,none⟩=some (.slice (some ⟨gp,0,none⟩) H cp)∧L1<W.heap.size∧L5<W.heap.size∧bS<W.heap.size∧ge<W.heap.size∧gm<W.heap.size))
 have HSBW:=Lib.hid (fun(W:World) (C:List Value) (z:St) (E:List Int) (D:List Bool) (hm:FoM w0 w1 w8 W bS ge gm C z E D)=>(hm.sb HFA.out HSB.out HG5.out.2.2.2.2.2.2 (HB45.out.trans ((HB56.out.trans (HB68.out.mono HB56.out.size)).mono HB45.out.size)) (by
  have h1:=HGE.out
  have h2:=HB45.out.size
  have h3:=HB56.out.size
  omega):SbAt W b c s V))
 have HBLW:=Lib.hid (fun(W:World) (C:List Value) (z:St) (E:List Int) (D:List Bool) (hm:FoM w0 w1 w8 W bS ge gm C z E D)=>(hm.bl HFA.out HBLK.out HG5.out.2.2.2.2.2.1 HB68.out (by rw[HGE.out];exact Nat.le_refl _):BlkB W gb Bb bs2))
 have HPV:Hid (P≤vl∧P≤12):=Lib.hid ⟨by rw[←HVL.out];unfold valN;rw[HPP.out];simp,by omega⟩
 have hPvl:=HPV.out.1
 obtain⟨s0,hs0⟩:∃z,inSt p a0 a1 ans fuel=z:=⟨_,rfl⟩
 rw[hs0] at HFR0 HI0 HM0 HW0
 obtain⟨f0,hf0⟩:=HFR0.out.2
 have HF00:=Lib.hid hf0
 clear hs0 hf0 HB56 HXS HX3 HX3p HX HBK HBU HE0 HD0 HBG HC0
 obtain⟨k1,k2,k3,k4,z1,z2,z3,z4,z5⟩:=KP.out _ _ _ _ _ HM0.out
 go_wp2_with fail
 clear k1 k2 k3 k4 z1 z2 z3 z4 z5
 go_loopw [15] (fun v15 wr=>∃(i:Nat) (E:List Int) (D:List Bool),i≤P∧v15= .int .i64 (i:Int)∧FoM w0 w1 w8 wr bS ge gm C0 s0 E D∧E.length=vl∧D.length=vl∧(∀k,k<w1.heap.size→wr.heap[k]? =w1.heap[k]?)∧(∀v,D.getD v false=true→v<i)∧∀r,r<i→D.getD r false=true∧E.getD r 0=f0.regs.getD r 0) (fun v15 _=>P-(intOf v15).toNat)
 case atStart=>exact⟨0,_,_,by omega,rfl,HM0.out,by simp,by simp,HB18.out.block,fun v hv=>(by rw[getD_repf] at hv;exact absurd hv (by decide)),fun r hr=>by omega⟩
 case round=>
  obtain⟨i,E,D,hiP,rfl,hm,hE,hD,hsm,hdm,hpar⟩:=hrel
  have HDM:=Lib.hid hdm
  have HSM:=Lib.hid hsm
  clear HM0
  have HM:=Lib.hid hm
  have HEL:=Lib.hid hE
  have HDL:=Lib.hid hD
  have HPAR:=Lib.hid hpar
  obtain⟨k1,k2,k3,k4,z1,z2,z3,z4,z5⟩:=KP.out _ _ _ _ _ hm
  by_cases hip:i=P
  ·subst hip
   clear hm hE hD hpar hiP hsm hdm
   go_upto_region 15 with fail
   as_aux_lemma=>
    obtain⟨x0,hx0⟩:∃z:FoS,(⟨s0,-1,E,D⟩:FoS)=z:=⟨_,rfl⟩
    have HX0:Hid (FoM w0 w1 w8 wr bS ge gm C0 x0.st x0.E x0.D∧StInv p x0.st∧WI wr x0∧FolI F O bs s vl x0∧x0.fr= -1):=Lib.hid (by
     rw[←hx0]
     refine⟨HM.out,HI0.out,HW0.out _ _ _ HSM.out (fun v hv=>by have:=HDM.out v hv;have:=HPP.out;omega),?_,rfl⟩
     rw[←HVL.out]
     refine FolI.start HBX.out HF00.out.1 HF00.out.2.1 HF00.out.2.2 (by rw[HVL.out];exact HEL.out) (by rw[HVL.out];exact HDL.out) (fun r hr=>HPAR.out r (by rw[HPP.out] at hr;simpa using hr)))
    clear hx0 k1 k2 k3 k4 z1 z2 z3 z4 z5
    go_upto_region 15 with fail
    go_loopw [16,17] (fun va v wr=>∃(i:Nat) (x:FoS) (C:List Value),i≤300∧v= .int .i64 (i:Int)∧va= .int .i64 x.fr∧FoM w0 w1 w8 wr bS ge gm C x.st x.E x.D∧StInv p x.st∧WI wr x∧(x.st.status=0→FolI F O bs s vl x)) (fun _ v _=>300-(intOf v).toNat)
    case atStart=>exact⟨0,x0,C0,by omega,rfl,by rw[HX0.out.2.2.2.2],HX0.out.1,HX0.out.2.1,HX0.out.2.2.1,fun _=>HX0.out.2.2.2.1⟩
    case round=>
     as_aux_lemma=>
      clear HX0 HM HEL HDL HPAR HSM HI0 HW0 HF00 HFR0 HDM
      obtain⟨i,x,C,hi,rfl,rfl,hm,his,hwi,hfol⟩:=hrel
      have HM:=Lib.hid hm
      have HIS:=Lib.hid his
      have HWX:=Lib.hid hwi
      have HFOL:=Lib.hid hfol
      obtain⟨FA,fcap,EA,ea,AA,aa,hci⟩:=hm.st.cells.cin his.mem (fun f hf=>(his.fr f hf).regs)
      have c0:=(hm.cell 0).trans hci.c0
      have c2:=(hm.cell 2).trans hci.c2
      have HFRM:=Lib.hid hci.fr
      have HJC:=Lib.hid (info_st hci.len)
      have HCL:=Lib.hid hci.len
      obtain⟨k1,k2,k3,k4,z1,z2,z3,z4,z5⟩:=KP.out _ _ _ _ _ hm
      clear hm hwi hfol hci
      by_cases hi300:i=300
      ·subst hi300
       clear c0 c2 his k1 k2 k3 k4 z1 z2 z3 z4 z5
       go_wp2_with fail
       go_ret
       exact⟨rfl,HM.out.base⟩
      ·have i1:(i:Int)<300:=by omega
       have i2:(0:Int)≤i:=by omega
       by_cases hst:x.st.status=0
       ·rw[hst] at c0
        have HST:=Lib.hid hst
        have hfx:=HFOL.out hst
        rw[←HVL.out] at hfx
        clear hst
        obtain⟨nf,hnf⟩:∃n,x.st.frames.length=n:=⟨_,rfl⟩
        have HNF:=Lib.hid hnf
        obtain⟨y,hy⟩:∃z,stepSt p x.st=z:=⟨_,rfl⟩
        have HY:=Lib.hid hy
        have HNS:=Lib.hid (HNX.out C x.st w1.heap.size HIS.out)
        rw[nxt_run HST.out,hy] at HNS
        have HI2:Hid (StInv p y):=Lib.hid (by have:=HIS.out.next HRT.out;rw[nxt_run HST.out,hy] at this;exact this)
        have hdp:=his.deep
        rw[hnf] at c2 hdp
        by_cases hn1:nf=1
        ·as_aux_lemma=>
          subst hn1
          obtain⟨f,j,t,hW⟩:=hfx.watch HBX.out HNF.out
          have HFW:=Lib.hid hW
          have HBS:Hid (bs.length=H):=Lib.hid (by rw[HBX.out.b.bok.len,HH.out])
          have hjH:j<H:=by have:=hW.jl;rw[HBS.out] at this;exact this
          have HJH:=Lib.hid hjH
          obtain⟨gf,hgf,hgl,hgc⟩:=HFRM.out (by rw[HNF.out];exact Nat.zero_lt_one)
          subst hgf
          obtain⟨q,hq⟩:∃q,hdA F j+t=q:=⟨_,rfl⟩
          have HQ:=Lib.hid hq
          have cpc:wr.cell? ⟨gf,1,none⟩=some (.int .i64 (q:Int)):=by
           have:=hgc 0 f 1 (by rw[hW.fr];rfl) (by omega)
           rw[←hq,←hW.pc];exact this
          have hrl:=(HIS.out.fr f (by rw[hW.fr];simp)).regs
          have HREG:=Lib.hid (fun(r:Nat) (hr:r<12)=>(by
           have h1:=hgc 0 f (2+r) (by rw[hW.fr];rfl) (by omega)
           rw[show 0*14+(2+r)=2+r by omega,fr_reg f (by rw[hrl];exact hr)] at h1
           exact h1:wr.cell? ⟨gf,2+r,none⟩=some (.int .i64 (f.regs.getD r 0))))
          have HGFL:=Lib.hid hgl
          have HFA2:=Lib.hid (hdA_mem2 (F:=F) (show j<(hdL F).length by rw[HH.out];exact hjH)).1
          have HIL:=Lib.hid (HBX.out.finP.il j hW.jl)
          have HTI:=Lib.hid hW.tl
          have HLH:Hid (hdA F j≤q∧q<toF F (hdA F j)):=Lib.hid (by
           have h1:=(toF_spec HRT.out HFM.out HFA2.out).1
           have h2:=HIL.out
           have h3:=hW.tl
           omega)
          have HUN:=Lib.hid (fun(b:Nat) (hb:b<H) (h3:hdA F b≤q) (h4:q<toF F (hdA F b))=>(by
           have h5:=cov_one HRT.out HFM.out (hdA_mem2 (F:=F) (show b<(hdL F).length by rw[HH.out];exact hb)).1 HFA2.out h3 h4 HLH.out.1 HLH.out.2
           have h6:=posH_hdA2 (F:=F) (show b<(hdL F).length by rw[HH.out];exact hb)
           have h7:=posH_hdA2 (F:=F) (show j<(hdL F).length by rw[HH.out];exact hjH)
           rw[←h6,←h7,h5]:b=j))
          have HC2F:=Lib.hid (show C[2]? =some (.slice (some ⟨gf,0,none⟩) 1 fcap) from(HM.out.cell 2).symm.trans c2)
          have HPCC:=Lib.hid cpc
          have HFX:=Lib.hid hfx
          have HELX:=Lib.hid hfx.el
          have HDLX:=Lib.hid hfx.dl
          clear hfx hW hgl hgc hq hrl hy his hnf hi300
          go_upto_region 30 with fail
          clear c0 cpc
          go_loopw [23,24] (fun va v wq=>∃k:Nat,k≤H∧v= .int .i64 (k:Int)∧va= .int .i64 (if j<k then(j:Int) else -1)∧wq=wr) (fun _ v _=>H-(intOf v).toNat)
          case atStart=>exact⟨0,by omega,rfl,by rw[if_neg (by omega)],rfl⟩
          case round=>
           as_aux_lemma=>
            obtain⟨k,hk,rfl,rfl,hwq⟩:=hrel
            subst hwq
            have zgb:=block_lt (HBLW.out _ _ _ _ _ HM.out).blk
            by_cases hbH:k=H
            ·obtain rfl:H=k:=hbH.symm
             rw[if_pos hjH]
             clear hk hbH
             as_aux_lemma=>
              have HY0:=Lib.hid (fun(W:World) (hm:BlkB W gb Bb bs2)=>(by
               obtain⟨r,hr⟩:∃r,bs2[j]? =some r:=⟨_,gE (by rw[HOK.out.len,HH.out];exact HJH.out)⟩
               obtain⟨hfr,hto,-,hpl⟩:=HOK.out.at_ j r hr
               exact⟨(hm.cell hr (j:=0) (by omega)).trans (show some (Value.int .i64 r.fr)=_ by rw[hfr]),r,hr,hpl⟩:W.cell? ⟨gb,j*4,none⟩=some (.int .i64 (hdA F j:Int))∧∃r,bs2[j]? =some r∧r.pl=prevF F j))
              have y0:=(HY0.out _ (HBLW.out _ _ _ _ _ HM.out)).1
              have j1:(j:Int)<H:=by have:=HJH.out;omega
              have j2:(0:Int)≤j:=by omega
              obtain⟨fj,hfj⟩:∃z,hdA F j=z:=⟨_,rfl⟩
              rw[hfj] at y0
              have HFJ:=Lib.hid hfj
              have HXF:Hid (x.f.pc.toNat=q∧blkF F q=j):=Lib.hid (by
               have h1:x.f=f:=by unfold FoS.f;rw[HFW.out.fr];rfl
               have h2:=HFW.out.blk
               rw[HQ.out] at h2
               refine⟨?_,h2⟩
               rw[h1,HFW.out.pc,HQ.out,Int.toNat_natCast])
              have HWE:Hid ((q=fj→watE F bs s x=phE s j ((prevL bs j).idxOf x.fr) x.E (s.part j).phis.length∧watD F s x=phD s j x.D (s.part j).phis.length)∧(q≠fj→watE F bs s x=x.E∧watD F s x=x.D)):=Lib.hid (by
               unfold watE watD
               rw[HXF.out.1,HXF.out.2,HFJ.out]
               exact⟨fun e=>by rw[if_pos e,if_pos e];exact⟨rfl,rfl⟩,fun e=>by rw[if_neg e,if_neg e];exact⟨rfl,rfl⟩⟩)
              clear hfj
              go_upto_if 198 with fail
              go_cut [] (fun wx=>FoM w0 w1 w8 wx bS ge gm C x.st (watE F bs s x) (watD F s x)∧(∀k,k<w1.heap.size→wx.heap[k]? =wr.heap[k]?)∧wr.heap.size≤wx.heap.size)
              case first=>
               as_aux_lemma=>
                by_cases hqf:q=fj
                ·as_aux_lemma=>
                  have e1:((q:Int)==(fj:Int))=true:=by rw[hqf];simp
                  have e2:decide ((q:Int)=fj)=true:=decide_eq_true (by rw[hqf])
                  have e3:decide (q=fj)=true:=decide_eq_true hqf
                  have ht0:t=0:=by have h1:=HQ.out;have h2:=HFJ.out;omega
                  subst ht0
                  have HWX2:=Lib.hid (HWE.out.1 hqf)
                  have hjb:j<bs.length:=by rw[HBS.out];exact HJH.out
                  have HJB:=Lib.hid hjb
                  obtain⟨kk,hkk⟩:∃n,(prevL bs j).idxOf x.fr=n:=⟨_,rfl⟩
                  obtain⟨np,hnp⟩:∃n,(prevL bs j).length=n:=⟨_,rfl⟩
                  have hpm:=HFW.out.ent rfl
                  have hkp:kk<np:=by rw[←hkk,←hnp];exact List.idxOf_lt_length_of_mem hpm
                  have HKP:=Lib.hid hkp
                  have HAT:=Lib.hid (fun(k:Nat) (hk:k<np)=>(by
                   have e:=prevL_at HRT.out HFM.out HBX.out.b.bok hjb hpm (k:=k) (by rw[hnp];exact hk)
                   rw[hkk] at e
                   obtain⟨z,hz⟩:∃z,(prevL bs j)[k]? =some z:=⟨_,gE (by rw[hnp];exact hk)⟩
                   exact⟨z,hz,by rw[hz] at e;simpa using e⟩:∃z:Int,(prevL bs j)[k]? =some z∧(z=x.fr↔k=kk)))
                  rw[hkk] at HWX2
                  have hnp3:=(prevF_len300 HCK.out HFM.out HBX.out.b.bok (by rw[HBS.out];exact hHM) j).1
                  have HPV2:=Lib.hid (fun(W:World) (hm:BlkB W gb Bb bs2)=>(by
                   obtain⟨-,r,hr,hpl⟩:=HY0.out W hm
                   have h:=fol_prev hm hr (hpl.trans (prevL_eq HBX.out.b.bok hjb).symm)
                   rw[hnp] at h
                   exact h:∃PA pcap,W.cell? ⟨gb,j*4+3,none⟩=some (.slice PA np pcap)∧gb<W.heap.size∧∀(q:Nat) (z:Int),(prevL bs j)[q]? =some z→∃g,PA=some ⟨g,0,none⟩∧g<W.heap.size∧W.cell? ⟨g,q,none⟩=some (.int .i64 z)))
                  obtain⟨nf,hnf⟩:∃n,(s.part j).phis.length=n:=⟨_,rfl⟩
                  have hnf12:=HBX.out.finP.phl j hjb
                  rw[hnf] at hnf12 HWX2
                  rw[hnp] at hnp3
                  obtain⟨Ah,ch,hvh,-⟩:=fol_phi HBX.out (HSBW.out _ _ _ _ _ HM.out) HVP.out hjb
                  have HVH:=Lib.hid hvh
                  have HPH:=Lib.hid (fun(W:World) (C:List Value) (z:St) (E:List Int) (D:List Bool) (hm:FoM w0 w1 w8 W bS ge gm C z E D)=>(by
                   obtain⟨Ah',ch',h1,h2,h3,h4⟩:=fol_phi HBX.out (HSBW.out _ _ _ _ _ hm) HVP.out hjb
                   rw[HVH.out] at h1
                   simp only[Value.slice.injEq] at h1
                   obtain⟨rfl,-,rfl⟩:=h1
                   rw[hnf] at h2 h4
                   rw[HVL.out,hnp] at h4
                   exact⟨h2,h3,h4⟩:W.cell? ⟨gp,j*15+1,none⟩=some (.slice Ah nf ch)∧gp<W.heap.size∧∀m,m<nf→∃(gh gq cq v:Nat),Ah=some ⟨gh,0,none⟩∧gh<W.heap.size∧W.cell? ⟨gh,m*3+1,none⟩=some (.int .i64 (v:Int))∧(s.phi j m).id=v∧v<vl∧W.cell? ⟨gh,m*3+2,none⟩=some (.slice (some ⟨gq,0,none⟩) np cq)∧gq<W.heap.size∧∀kk,kk<np→∃u:Nat,(s.phi j m).args.getD kk 0=u∧u<vl∧W.cell? ⟨gq,kk,none⟩=some (.int .i64 (u:Int))))
                  have h45:w4.heap.size≤ge:=Nat.le_trans HB45.out.size (Nat.le_trans HB56.out.size (Nat.le_of_eq HGE.out))
                  have HHG:=Lib.hid (fun(gh:Nat) (e:Ah=some ⟨gh,0,none⟩)=>(Nat.lt_of_lt_of_le (row_lt HSB.out HVH.out e).2 h45:gh<ge))
                  have HGPE:Hid (gp<ge∧L5<ge):=Lib.hid ⟨Nat.lt_of_lt_of_le (row_lt HSB.out HVP.out rfl).2 h45,HG5.out.2.2.1⟩
                  clear h45
                  have HGFN:Hid (gf≠ge∧gf≠gm∧gf<wr.heap.size):=Lib.hid (by
                   obtain⟨FS,ES,AS,e,hr,ha⟩:=HM.out.st
                   have hF2:=HC2F.out
                   have hFS:FS= .slice (some ⟨gf,0,none⟩) 1 fcap:=by rw[e] at hF2;simpa [stCells] using hF2
                   have h:=ha gf (.inl (by rw[hFS];rfl))
                   exact⟨h.2.2.1,h.2.2.2,h.2.1⟩)
                  clear hkk hnp hpm hnf hvh hqf
                  go_upto_region 39 with fail
                  clear e1 e2 e3 y0 k1 k2 k3 k4 z1 z2 z3 z4 z5 zgb c2
                  obtain⟨wo,hwo⟩:∃wo:World,wo=wr:=⟨_,rfl⟩
                  subst hwo
                  go_loopw [25,26] (fun v25 v26 wq=>∃(k n:Nat) (Aq:Option Addr) (cq:Nat),k≤np∧n=(if kk<k then nf else 0)∧v26= .int .i64 (k:Int)∧v25= .slice Aq n cq∧wq.ownsRow wo.heap.size 3 1 (.slice Aq n cq) n (intsV (cameL s j kk x.E n))∧Below wo.heap.size wo wq) (fun _ v _=>np-(intOf v).toNat)
                  case atStart=>exact⟨0,0,none,0,Nat.zero_le _,(if_neg (Nat.not_lt_zero _)).symm,rfl,rfl,came_nil _ _ _ _ _ _,Below.refl _ _⟩
                  case round=>
                   as_aux_lemma=>
                    obtain⟨k,n,Aq,cq,hk,hn,rfl,rfl,hown,hb⟩:=hrel
                    have HOW:=Lib.hid hown
                    have HB:=Lib.hid hb
                    have HMK:=Lib.hid (HM.out.keeps hb)
                    obtain⟨k1,k2,k3,k4,z1,z2,z3,z4,z5⟩:=KP.out _ _ _ _ _ HMK.out
                    obtain⟨PA,pcap,p1,zgb,p3⟩:=HPV2.out _ (HBLW.out _ _ _ _ _ HMK.out)
                    have hn12:n≤12:=by rw[hn];split<;>omega
                    clear hown hb
                    by_cases hkn:k=np
                    ·subst hkn
                     have hn' :n=nf:=by rw[hn,if_pos hkp]
                     subst hn'
                     clear p3 hk hn
                     obtain⟨c1,zgp,-⟩:=HPH.out _ _ _ _ _ HMK.out
                     have b1:((n:Int) !=(n:Int))=false:=by simp
                     have b2:((n:Int)==(n:Int))=true:=by simp
                     have b3:decide ((n:Int)=(n:Int))=true:=by simp
                     have b4:decide ((n:Int)≠(n:Int))=false:=by simp
                     have b5:decide (n=n)=true:=by simp
                     have b6:(n==n)=true:=by simp
                     have b7:(n !=n)=false:=by simp
                     go_upto_region 49 with fail
                     clear b1 b2 b3 b4 b5 b6 b7 p1
                     clear k1 k2 k3 k4 z1 z2 z3 z4 z5 c1 zgp zgb
                     obtain⟨wp,hwp⟩:∃wo:World,wo=wr:=⟨_,rfl⟩
                     subst hwp
                     have hzp:=HB.out.size
                     have HCA:=Lib.hid (fun(i:Nat) (hi:i<n)=>(by
                      obtain⟨A',c',e1,e2⟩:=own_slice HOW.out
                      simp only[Value.slice.injEq] at e1
                      obtain⟨rfl,-,rfl⟩:=e1
                      obtain⟨g,rfl,h1,h2⟩:=e2 (by omega)
                      refine⟨g,rfl,h1,?_,?_⟩
                      ·exact(World.ownsRow.lt HOW.out g rfl).1
                      ·refine(h2 i (by omega)).trans ?_
                       show(List.map _ (cameL s j kk x.E n))[i]? =_
                       rw[List.getElem?_map,cameL_at s j kk x.E hi];rfl:∃gq,Aq=some ⟨gq,0,none⟩∧gq<wp.heap.size∧wo.heap.size≤gq∧wp.cell? ⟨gq,i,none⟩=some (.int .i64 (x.E.getD ((s.phi j i).args.getD kk 0).toNat 0))))
                     go_loopw [28] (fun v wq=>∃i:Nat,i≤n∧v= .int .i64 (i:Int)∧FoM w0 w1 w8 wq bS ge gm C x.st (phE s j kk x.E i) (phD s j x.D i)∧(∀k,k≠ge→k≠gm→wq.heap[k]? =wp.heap[k]?)∧wq.heap.size=wp.heap.size) (fun v _=>n-(intOf v).toNat)
                     case atStart=>exact⟨0,by omega,rfl,HMK.out,fun _ _ _=>rfl,rfl⟩
                     case round=>
                      as_aux_lemma=>
                       clear HMK
                       obtain⟨i,hi,rfl,hm,hsm,hsz⟩:=hrel
                       have HMI:=Lib.hid hm
                       have HSM:=Lib.hid hsm
                       have HSZ:=Lib.hid hsz
                       obtain⟨k1,k2,k3,k4,z1,z2,z3,z4,z5⟩:=KP.out _ _ _ _ _ hm
                       obtain⟨c1,zgp,hph⟩:=HPH.out _ _ _ _ _ hm
                       clear hm hsm hsz
                       by_cases hin:i=n
                       ·as_aux_lemma=>
                         subst hin
                         clear hph c1 zgp
                         go_upto_region 54 with fail
                         clear k1 k2 k3 k4 z1 z2 z3 z4 z5
                         obtain⟨wt,hwt⟩:∃wo:World,wo=wr:=⟨_,rfl⟩
                         subst hwt
                         go_loopw [29] (fun v wq=>∃r:Nat,r≤12∧v= .int .i64 (r:Int)∧Below wt.heap.size wt wq) (fun v _=>12-(intOf v).toNat)
                         case atStart=>exact⟨0,by omega,rfl,Below.refl _ _⟩
                         case round=>
                          as_aux_lemma=>
                           obtain⟨r,hr,rfl,hb⟩:=hrel
                           have HBT:=Lib.hid hb
                           have HMR:=Lib.hid (HMI.out.keeps hb)
                           obtain⟨k1,k2,k3,k4,z1,z2,z3,z4,z5⟩:=KP.out _ _ _ _ _ HMR.out
                           clear hb
                           by_cases hr12:r=12
                           ·as_aux_lemma=>
                             subst hr12
                             clear k1 k2 k3 k4 z1 z2 z3 z4 z5
                             go_wp2_with fail
                             go_meet
                             exact⟨by rw[HWX2.out.1,HWX2.out.2];exact HMR.out,fun k hk=>(by
                              have h1:=HFA.out.l1
                              have h2:=HFA.out.l2
                              have h3:=HFA.out.l3
                              have h4:=HB.out.size
                              have h5:=HSZ.out
                              have h6:=HGFN.out.2.2
                              have h7:=block_lt HM.out.box
                              exact(HBT.out.block k (by omega)).trans ((HSM.out k (by omega) (by omega)).trans (HB.out.block k (by omega)))),by
                              have h4:=HB.out.size
                              have h5:=HSZ.out
                              have h6:=HBT.out.size
                              omega⟩
                           ·as_aux_lemma=>
                             have hr1:r<12:=by omega
                             have hr2:(r:Int)<12:=by omega
                             have hr0:(0:Int)≤r:=by omega
                             have hzb:=HSBW.out _ _ _ _ _ HMR.out
                             have ci:=hzb.innCell HBX.out.finP.inn HVP.out (i:=j) (r:=r) (by rw[HBX.out.b.len];exact HJB.out) hr1
                             have zgp:=(hzb.rlt .parts (g:=gp) (by rw[HVP.out];rfl)).2
                             rw[show j*15+(3+r)=j*15+3+r by omega] at ci
                             have hin:=FolW.inn HBX.out HFW.out hr1
                             obtain⟨v,hv⟩:∃z,(s.part j).inn.getD r 0=z:=⟨_,rfl⟩
                             rw[hv] at ci hin
                             clear hr hr12 hzb hv
                             rcases hin with hneg|⟨u,hu,hu2,hu3,hu4⟩
                             ·have e1:decide (v≥0)=false:=by rw[decide_eq_false_iff_not];omega
                              have e2:decide (0≤v)=false:=e1
                              clear hneg
                              go_upto_region 57 with fail
                              go_quiet (fail)
                              go_wp2_with fail
                              go_roundw
                              case rel=>exact⟨r+1,by omega,by go_num,below_drewN HBT.out _⟩
                              case measure=>simp[intOf];omega
                             ·subst hu
                              have hu2v:=hu2
                              rw[HVL.out] at hu2
                              have e1:decide ((u:Int)≥0)=true:=by rw[decide_eq_true_eq];omega
                              have e2:decide ((0:Int)≤u)=true:=e1
                              have u1:(u:Int)<vl:=by omega
                              have u0:(0:Int)≤u:=by omega
                              have hwl:=HFW.out.el
                              have hwl2:=HFW.out.dl
                              rw[HWX2.out.1] at hwl hu4
                              rw[HWX2.out.2] at hwl2 hu3
                              have cm:=HMR.out.made.cell (i:=u) (by rw[hwl2];exact hu2v)
                              have ce:=HMR.out.env.getC (i:=u) (by rw[hwl];exact hu2v)
                              rw[hu3] at cm
                              rw[hu4] at ce
                              have zm:=block_lt HMR.out.made
                              have ze:=block_lt HMR.out.env
                              have c2:=(HMR.out.cell 2).trans HC2F.out
                              have zgfo:=HGFN.out.2.2
                              have zgft:gf<wt.heap.size:=by have h4:=HB.out.size;have h5:=HSZ.out;omega
                              have hbg:wr.heap[gf]? =wo.heap[gf]? :=(HBT.out.block gf zgft).trans ((HSM.out gf HGFN.out.1 HGFN.out.2.1).trans (HB.out.block gf zgfo))
                              have cr:=(World.cell?_of_block hbg).trans (HREG.out r hr1)
                              have zgf:gf<wr.heap.size:=Nat.lt_of_lt_of_le zgft HBT.out.size
                              obtain⟨rv,hrv⟩:∃z,f.regs.getD r 0=z:=⟨_,rfl⟩
                              rw[hrv] at ce cr
                              clear hwl hwl2 hu3 hu4 hbg hrv zgft zgfo hu2v
                              go_upto_region 57 with fail
                              go_quiet (fail)
                              go_wp2_with fail
                              go_roundw
                              case rel=>exact⟨r+1,by omega,by go_num,below_drewN HBT.out _⟩
                              case measure=>simp[intOf];omega
                       ·as_aux_lemma=>
                         have hi1:i<n:=by omega
                         have hi2:(i:Int)<n:=by omega
                         have hi0:(0:Int)≤i:=by omega
                         obtain⟨gh,gqq,cqq,v,rfl,zgh,cv,hv1,hv2,-,-,-⟩:=hph i hi1
                         obtain⟨gq,rfl,zgq,gqo,cev⟩:=HCA.out i hi1
                         obtain⟨ev,hev⟩:∃z,x.E.getD ((s.phi j i).args.getD kk 0).toNat 0=z:=⟨_,rfl⟩
                         rw[hev] at cev
                         have v1:(v:Int)<vl:=by omega
                         have v0:(0:Int)≤v:=by omega
                         have HPE:Hid (phE s j kk x.E (i+1)=(phE s j kk x.E i).set v ev∧phD s j x.D (i+1)=(phD s j x.D i).set v true):=Lib.hid (by
                          refine⟨?_,?_⟩
                          ·show(phE s j kk x.E i).set (s.phi j i).id.toNat (x.E.getD ((s.phi j i).args.getD kk 0).toNat 0)=_
                           rw[hv1,Int.toNat_natCast,hev]
                          ·show(phD s j x.D i).set (s.phi j i).id.toNat true=_
                           rw[hv1,Int.toNat_natCast])
                         have HNE:Hid (L5≠ge∧gp≠ge∧gh≠ge∧gq≠ge∧gq≠gm):=Lib.hid (by
                          have h1:=HGPE.out
                          have h2:=HHG.out gh rfl
                          have h3:=HFA.out.l3
                          have h4:=HFA.out.l4
                          have h5:=HM.out.size
                          omega)
                         have cev2:wr.cell? ⟨gq,i,none⟩=some (.int .i64 ev):=(World.cell?_of_block (HSM.out gq HNE.out.2.2.2.1 HNE.out.2.2.2.2)).trans cev
                         have zgq2:gq<wr.heap.size:=by rw[HSZ.out];exact zgq
                         have HGH:=Lib.hid (And.intro zgp zgh)
                         have HCN:=Lib.hid (fun(b i:Nat) (h:b≠ge)=>(World.cell?_of_block (show(wr.setCell ⟨ge,v,none⟩ (.int .i64 ev)).drew.heap[b]? =wr.heap[b]? from heap_ne wr h v _):(wr.setCell ⟨ge,v,none⟩ (.int .i64 ev)).drew.cell? ⟨b,i,none⟩=wr.cell? ⟨b,i,none⟩))
                         have KCS:=Lib.hid (And.intro ((HCN.out _ 2 HNE.out.1).trans k4) (And.intro ((HCN.out _ (j*15+1) HNE.out.2.1).trans c1) (And.intro ((HCN.out _ (i*3+1) HNE.out.2.2.1).trans cv) ((HCN.out _ i HNE.out.2.2.2.1).trans cev2))))
                         have KC:=Lib.hid (And.intro k4 (And.intro c1 (And.intro cv cev2)))
                         have fe:=frozen_block HMI.out.env v
                         have ce:=HMI.out.env.getC (i:=v) (by rw[phE_len];have h:=HELX.out;rw[HVL.out] at h;rw[h];exact hv2)
                         have ze:=block_lt HMI.out.env
                         have HV2:=Lib.hid hv2
                         clear hph hv1 hev cev k1 k2 k3 hi hin
                         go_upto_region 51 with fail
                         clear k4 c1 cv cev2
                         refine wp_region_held_drew (S:=fun w' =>w'.cell? ⟨L5,2,none⟩=some (.slice (some ⟨gp,0,none⟩) H cp)∧w'.cell? ⟨gp,j*15+1,none⟩=some (.slice (some ⟨gh,0,none⟩) nf ch)∧w'.cell? ⟨gh,i*3+1,none⟩=some (.int .i64 (v:Int))∧w'.cell? ⟨gq,i,none⟩=some (.int .i64 ev)) (by kernel_rfl) KC.out (fun hHeld=> ?_)
                         refine wpAnyH_take (i:=0) (v:= .slice (some ⟨ge,0,none⟩) vl vl) rfl (by kernel_rfl) (by kernel_rfl) (by kernel_rfl) (fun _ _ _ h=>h) (Or.inl ⟨by rfl,?_⟩) hHeld ?_
                         ·intro w hSw
                          simp only[qg]
                          go_simp
                         simp only[Act.put,qs]
                         refine wpAnyH_take (i:=1) (v:= .pointer (some ⟨L5,2,none⟩)) rfl (by kernel_rfl) (by kernel_rfl) (by kernel_rfl) (fun _ _ _ h=>h) (Or.inl ⟨by rfl,?_⟩) hHeld ?_
                         ·intro w hSw
                          simp only[qg]
                          go_simp
                         simp only[Act.put,qs]
                         refine wpAnyH_take (i:=2) (v:= .slice (some ⟨gp,0,none⟩) H cp) rfl (by kernel_rfl) (by kernel_rfl) (by kernel_rfl) (fun _ _ _ h=>h) (Or.inl ⟨by rfl,?_⟩) hHeld ?_
                         ·intro w hSw
                          obtain⟨p0,p1,p2,p3⟩:=hSw
                          simp only[qg]
                          go_simp
                         simp only[Act.put,qs]
                         refine wpAnyH_take (i:=3) (v:= .int .i64 (j:Int)) rfl (by kernel_rfl) (by kernel_rfl) (by kernel_rfl) (fun _ _ _ h=>h) (Or.inl ⟨by rfl,?_⟩) hHeld ?_
                         ·intro w hSw
                          simp only[qg]
                          go_simp
                         simp only[Act.put,qs]
                         refine wpAnyH_take (i:=4) (v:= .pointer (some ⟨gp,j*15,none⟩)) rfl (by kernel_rfl) (by kernel_rfl) (by kernel_rfl) (fun _ _ _ h=>h) (Or.inl ⟨by rfl,?_⟩) hHeld ?_
                         ·intro w hSw
                          simp only[qg]
                          go_simp
                         simp only[Act.put,qs]
                         refine wpAnyH_take (i:=5) (v:= .pointer (some ⟨gp,j*15+1,none⟩)) rfl (by kernel_rfl) (by kernel_rfl) (by kernel_rfl) (fun _ _ _ h=>h) (Or.inl ⟨by rfl,?_⟩) hHeld ?_
                         ·intro w hSw
                          simp only[qg]
                          go_simp
                         simp only[Act.put,qs]
                         refine wpAnyH_take (i:=6) (v:= .slice (some ⟨gh,0,none⟩) nf ch) rfl (by kernel_rfl) (by kernel_rfl) (by kernel_rfl) (fun _ _ _ h=>h) (Or.inl ⟨by rfl,?_⟩) hHeld ?_
                         ·intro w hSw
                          obtain⟨p0,p1,p2,p3⟩:=hSw
                          simp only[qg]
                          go_simp
                         simp only[Act.put,qs]
                         refine wpAnyH_take (i:=7) (v:= .int .i64 (i:Int)) rfl (by kernel_rfl) (by kernel_rfl) (by kernel_rfl) (fun _ _ _ h=>h) (Or.inl ⟨by rfl,?_⟩) hHeld ?_
                         ·intro w hSw
                          simp only[qg]
                          go_simp
                         simp only[Act.put,qs]
                         refine wpAnyH_take (i:=8) (v:= .pointer (some ⟨gh,i*3,none⟩)) rfl (by kernel_rfl) (by kernel_rfl) (by kernel_rfl) (fun _ _ _ h=>h) (Or.inl ⟨by rfl,?_⟩) hHeld ?_
                         ·intro w hSw
                          simp only[qg]
                          go_simp
                         simp only[Act.put,qs]
                         refine wpAnyH_take (i:=9) (v:= .pointer (some ⟨gh,i*3+1,none⟩)) rfl (by kernel_rfl) (by kernel_rfl) (by kernel_rfl) (fun _ _ _ h=>h) (Or.inl ⟨by rfl,?_⟩) hHeld ?_
                         ·intro w hSw
                          simp only[qg]
                          go_simp
                         simp only[Act.put,qs]
                         refine wpAnyH_take (i:=10) (v:= .int .i64 (v:Int)) rfl (by kernel_rfl) (by kernel_rfl) (by kernel_rfl) (fun _ _ _ h=>h) (Or.inl ⟨by rfl,?_⟩) hHeld ?_
                         ·intro w hSw
                          obtain⟨p0,p1,p2,p3⟩:=hSw
                          simp only[qg]
                          go_simp
                         simp only[Act.put,qs]
                         refine wpAnyH_take (i:=11) (v:= .slice (some ⟨gq,0,none⟩) nf cq) rfl (by kernel_rfl) (by kernel_rfl) (by kernel_rfl) (fun _ _ _ h=>h) (Or.inl ⟨by rfl,?_⟩) hHeld ?_
                         ·intro w hSw
                          simp only[qg]
                          go_simp
                         simp only[Act.put,qs]
                         refine wpAnyH_take (i:=12) (v:= .int .i64 (i:Int)) rfl (by kernel_rfl) (by kernel_rfl) (by kernel_rfl) (fun _ _ _ h=>h) (Or.inl ⟨by rfl,?_⟩) hHeld ?_
                         ·intro w hSw
                          simp only[qg]
                          go_simp
                         simp only[Act.put,qs]
                         refine wpAnyH_take (i:=13) (v:= .pointer (some ⟨gq,i,none⟩)) rfl (by kernel_rfl) (by kernel_rfl) (by kernel_rfl) (fun _ _ _ h=>h) (Or.inl ⟨by rfl,?_⟩) hHeld ?_
                         ·intro w hSw
                          simp only[qg]
                          go_simp
                         simp only[Act.put,qs]
                         refine wpAnyH_take (i:=14) (v:= .int .i64 ev) rfl (by kernel_rfl) (by kernel_rfl) (by kernel_rfl) (fun _ _ _ h=>h) (Or.inl ⟨by rfl,?_⟩) hHeld ?_
                         ·intro w hSw
                          obtain⟨p0,p1,p2,p3⟩:=hSw
                          simp only[qg]
                          go_simp
                         simp only[Act.put,qs]
                         refine wpAnyH_take (i:=15) (v:= .pointer (some ⟨ge,v,none⟩)) rfl (by kernel_rfl) (by kernel_rfl) (by kernel_rfl) (fun _ _ _ h=>h) (Or.inl ⟨by rfl,?_⟩) hHeld ?_
                         ·intro w hSw
                          simp only[qg]
                          go_simp
                         simp only[Act.put,qs]
                         refine wpAnyH_ready (rs:=[16]) (by kernel_rfl) (by simp) ?_
                         refine AllReadyH.cons rfl (fun K hK=> ?_) AllReadyH.nil
                         simp only[qg]
                         go_simp
                         refine hK.out _ _ KCS.out (fun hHeld=> ?_)
                         clear hK K
                         clear hHeld
                         refine wpAnyH_done (by kernel_rfl) ?_ _
                         clear hHeld
                         obtain⟨wE,hwE⟩:∃W,(wr.setCell ⟨ge,v,none⟩ (.int .i64 ev)).drew=W:=⟨_,rfl⟩
                         have HME:Hid (FoM w0 w1 w8 wE bS ge gm C x.st ((phE s j kk x.E i).set v ev) (phD s j x.D i)):=Lib.hid (by rw[←hwE];exact(HMI.out.setE HFA.out v ev).keeps (Below.refl _ _).drew)
                         have HSE:Hid ((∀k,k≠ge→wE.heap[k]? =wr.heap[k]?)∧wE.heap.size=wr.heap.size):=Lib.hid (by rw[←hwE];exact⟨fun k hk=>heap_ne wr hk v _,by show(wr.setCell _ _).heap.size=_;simp⟩)
                         rw[hwE]
                         clear hwE fe ce ze z1 z2 z3 z4 z5 zgp zgh zgq2
                         obtain⟨k1,k2,k3,k4,z1,z2,z3,z4,z5⟩:=KP.out _ _ _ _ _ HME.out
                         obtain⟨c1,zgp,hph⟩:=HPH.out _ _ _ _ _ HME.out
                         obtain⟨gh',-,-,v',egh,zgh,cv,hv1',-⟩:=hph i hi1
                         obtain rfl:gh=gh' :=by simpa using egh
                         have cv2:wE.cell? ⟨gh,i*3+1,none⟩=some (.int .i64 (v:Int)):=(World.cell?_of_block (HSE.out.1 gh HNE.out.2.2.1)).trans KC.out.2.2.1
                         have fm:=frozen_block HME.out.made v
                         have cm:=HME.out.made.cell (i:=v) (by rw[phD_len];have h:=HDLX.out;rw[HVL.out] at h;rw[h];exact HV2.out)
                         have zm:=block_lt HME.out.made
                         clear k1 k2 k3 hph cv egh hv1'
                         go_wp2_with fail
                         go_roundw
                         case rel=>exact⟨i+1,by omega,by go_num,by rw[HPE.out.1,HPE.out.2];exact HME.out.setD HFA.out v true,fun k h1 h2=>(heap_ne wE h2 v _).trans ((HSE.out.1 k h1).trans (HSM.out k h1 h2)),by simp only[World.size_setCell];rw[HSE.out.2,HSZ.out]⟩
                         case measure=>simp[intOf];omega
                    ·have hk1:k<np:=by omega
                     have hk2:(k:Int)<np:=by omega
                     have hk0:(0:Int)≤k:=by omega
                     obtain⟨z,hz,hze⟩:=HAT.out k hk1
                     obtain⟨gx,rfl,zgx,cz⟩:=p3 k z hz
                     clear p3 hz
                     by_cases hkk:k=kk
                     ·subst hkk
                      have hzf:=hze.2 rfl
                      subst hzf
                      have hn' :n=0:=by rw[hn,if_neg (by omega)]
                      subst hn'
                      clear hze hn hk hkn
                      go_upto_region 43 with fail
                      clear p1 zgb cz zgx k1 k2 k3 k4 z1 z2 z3 z4 z5
                      obtain⟨wk,hwk⟩:∃wo:World,wo=wr:=⟨_,rfl⟩
                      subst hwk
                      go_loopw [25,27] (fun v25 v27 wq=>∃(m:Nat) (Aq:Option Addr) (cq:Nat),m≤nf∧v27= .int .i64 (m:Int)∧v25= .slice Aq m cq∧wq.ownsRow wo.heap.size 3 1 (.slice Aq m cq) m (intsV (cameL s j k x.E m))∧Below wo.heap.size wo wq) (fun _ v _=>nf-(intOf v).toNat)
                      case atStart=>exact⟨0,Aq,cq,by omega,rfl,rfl,HOW.out,HB.out⟩
                      case round=>
                       as_aux_lemma=>
                        clear HOW HB HMK
                        obtain⟨m,Aq,cq,hm,rfl,rfl,hown,hb⟩:=hrel
                        have HOW:=Lib.hid hown
                        have HB:=Lib.hid hb
                        have HMK:=Lib.hid (HM.out.keeps hb)
                        obtain⟨k1,k2,k3,k4,z1,z2,z3,z4,z5⟩:=KP.out _ _ _ _ _ HMK.out
                        obtain⟨c1,zgp,hph⟩:=HPH.out _ _ _ _ _ HMK.out
                        have hws:=hb.size
                        clear hown hb
                        by_cases hmn:m=nf
                        ·as_aux_lemma=>
                          subst hmn
                          clear hph
                          go_wp2_with fail
                          go_roundw
                          case rel=>exact⟨k+1,m,Aq,cq,by omega,by rw[if_pos (by omega)],by go_num,rfl,HOW.out,HB.out⟩
                          case measure=>simp[intOf];omega
                        ·as_aux_lemma=>
                          have hm1:m<nf:=by omega
                          have hm2:(m:Int)<nf:=by omega
                          have hm0:(0:Int)≤m:=by omega
                          obtain⟨gh,gq,cqq,v,rfl,zgh,-,-,-,e2,zgq,hu⟩:=hph m hm1
                          obtain⟨u,hu1,hu2,cu⟩:=hu k hk1
                          have u1:(u:Int)<vl:=by omega
                          have u0:(0:Int)≤u:=by omega
                          have ce:=HMK.out.env.getC (i:=u) (by have h:=HELX.out;rw[HVL.out] at h;rw[h];exact hu2)
                          obtain⟨ev,hev⟩:∃z,x.E.getD u 0=z:=⟨_,rfl⟩
                          rw[hev] at ce
                          have HEV:Hid (intsV (cameL s j k x.E (m+1))=intsV (cameL s j k x.E m)++[.int .i64 ev]):=Lib.hid (by
                           rw[cameL_succ,hu1,Int.toNat_natCast,hev];simp[intsV])
                          obtain⟨i0,hI0,hz0,hz1,hz2⟩:=info_parts infoInt
                          clear hph hu hu1 hev hm hmn
                          go_wp2_with (first|(at_builtin;go_must (refine wpList_append_lies _ rfl _ _ 24 rfl wo.heap.size 3 i0 _ 1 8 Tryd.underlying24 hI0 hz0 hz1 hz2 rfl (by decide) (.slice Aq m cq) m (intsV (cameL s j k x.E m)) rfl (own_below HOW.out ((Below.refl _ _).alloc (Nat.le_refl _) _)) ⟨wr.heap.size,0,none⟩ 1 1 [.int .i64 ev] rfl rfl (cell_one_new _ _ _) (by simp[Value.oneCell']) (by omega) (by unfold maxLen;omega) (by omega) (by simp;omega) _ rfl ?_);intro g9 cap9 w9 hown9 hg9 hat9 _;have HOW9:=Lib.hid hown9;have HB9:=Lib.hid ((HB.out.alloc HB.out.size (.cells #[.int .i64 ev] 3)).grown hg9 (by simp;omega) (fun k hk=>(World.ownsRow.lt HOW.out k hk).1));clear hown9 hg9 hat9))
                          go_roundw
                          case rel=>exact⟨m+1,_,_,by omega,by go_num,rfl,by rw[HEV.out];exact HOW9.out,HB9.out⟩
                          case measure=>simp[intOf];omega
                     ·have hzf:z≠x.fr:=fun e=>hkk (hze.1 e)
                      have e1:(z==x.fr)=false:=beq_eq_false_iff_ne.2 hzf
                      have e2:decide (z=x.fr)=false:=decide_eq_false hzf
                      have hn2:n=(if kk<k+1 then nf else 0):=by
                       rw[hn]
                       by_cases e:kk<k
                       ·rw[if_pos e,if_pos (by omega)]
                       ·rw[if_neg e,if_neg (by omega)]
                      clear hze hn hkk hzf hkn hk
                      go_wp2_with fail
                      go_roundw
                      case rel=>exact⟨k+1,n,Aq,cq,by omega,hn2,by go_num,rfl,HOW.out,HB.out⟩
                      case measure=>simp[intOf];omega
                ·have e1:((q:Int)==(fj:Int))=false:=beq_eq_false_iff_ne.2 (by omega)
                 have e2:decide ((q:Int)=fj)=false:=by rw[decide_eq_false_iff_not];omega
                 have e3:decide (q=fj)=false:=by rw[decide_eq_false_iff_not];omega
                 have HE:=Lib.hid (HWE.out.2 hqf)
                 clear hqf
                 go_wp2_with fail
                 go_meet
                 exact⟨by rw[HE.out.1,HE.out.2];exact HM.out,fun _ _=>rfl,Nat.le_refl _⟩
              case rest=>
               as_aux_lemma=>
                obtain⟨hmc,hsc,hzc⟩:=hcut
                have HMC:=Lib.hid hmc
                have HSC:=Lib.hid hsc
                have HZC:=Lib.hid hzc
                clear hmc hsc hzc y0 k1 k2 k3 k4 z1 z2 z3 z4 z5 zgb c2
                have HWC:=Lib.hid (HWT.out _ _ _ _ _ _ _ wc x f j t C ge gm HBX.out HFX.out HFW.out HIS.out HST.out HMC.out.base (HWI.out _ _ _ HSC.out HWX.out) HMC.out.env HMC.out.made HMC.out.st.cells (by have h1:=HFA.out.l1;have h2:=HFA.out.l2;omega) (by have h1:=HFA.out.l1;have h2:=HFA.out.l2;have h3:=HFA.out.l3;omega))
                rw[HVL.out] at HWC
                have k5:=block_lt HMC.out.box
                go_upto_region 62 with(first|(refine wpList_load_mid (by rfl) 36 _ (by rfl) bS 0 (by rfl) C _ (range_block HMC.out.box) Tryd.underlying36 (by rfl) HJC.out ?_)|(go_at_call 9;go_must (refine HWC.out.mono ?_;rintro e wd ⟨rfl,hfw,hwb⟩;have HMD:=Lib.hid (HMC.out.watch HFA.out hfw);have HWB2:=Lib.hid hwb;clear hfw hwb k5)))
                have HSBD:=Lib.hid (HSBW.out _ _ _ _ _ HMD.out)
                have HBLD:=Lib.hid (HBLW.out _ _ _ _ _ HMD.out)
                have hjb:j<bs.length:=by rw[HBS.out];exact HJH.out
                have k4:=(KP.out _ _ _ _ _ HMD.out).2.2.2.1
                have cpi:=(HSBD.out.partCell HBX.out.finP.inn HVP.out (i:=j) (by rw[HBX.out.b.len];exact hjb)).2
                obtain⟨Ai,ci,hvi,-,hAi⟩:=HSBD.out.rowV (.ins j) (n:=(s.part j).ins.length) rfl
                obtain⟨gi,hAg,-,zgi⟩:=hAi (Nat.lt_of_le_of_lt (Nat.zero_le _) HTI.out)
                rw[hAg] at hvi
                rw[hvi] at cpi
                obtain⟨q0,q1,q2,q3,q4,q5⟩:=HSBD.out.insCell hvi HTI.out
                have y0:=(HY0.out _ HBLD.out).1
                rw[HFJ.out] at y0
                have huse:=FolW.use HBX.out HFW.out
                have hiid:=HBX.out.insid hjb HTI.out
                obtain⟨xx,hxx⟩:∃z,s.insA j t=z:=⟨_,rfl⟩
                have HXX:=Lib.hid hxx
                rw[hxx] at q0 q1 q2 q3 q4 q5 huse hiid
                obtain⟨jo,jd,ja,jb,jm,jp⟩:=xx
                simp only at q0 q1 q2 q3 q4 q5 huse hiid
                have HUSE:=Lib.hid huse
                have HIID:=Lib.hid hiid
                obtain⟨nI,hnI⟩:∃n,(s.part j).ins.length=n:=⟨_,rfl⟩
                have hti:=HTI.out
                rw[hnI] at cpi hti
                have t1:(t:Int)<nI:=by omega
                have t2:(0:Int)≤t:=by omega
                have hsub:(q:Int)-(fj:Int)=(t:Int):=by have h1:=HQ.out;have h2:=HFJ.out;omega
                have hq40:q<40:=by
                 have h1:=HLH.out.2
                 have h2:=(toF_spec HRT.out HFM.out HFA2.out).2.1
                 have h3:=HFO.out.c2
                 omega
                have hwt:IntKind.i64.wrap (t:Int)=t:=by rw[IntKind.wrap_i64]<;>omega
                have hq1:(fj:Int)≤q:=by omega
                have hq2:(q:Int)<40:=by omega
                have hf2:(fj:Int)<40:=by omega
                have zgp:=(HSBD.out.rlt .parts (g:=gp) (by rw[HVP.out];rfl)).2
                have zgb:=block_lt HBLD.out.blk
                have z2:=(KP.out _ _ _ _ _ HMD.out).2.2.2.2.2.1
                have KL:=Lib.hid (fun(W:World) (hb:Below wd.heap.size wd W)=>(⟨(hb.cell (p:=⟨L5,2,none⟩) z2).trans k4,(hb.cell (p:=⟨gp,_,none⟩) zgp).trans cpi,(hb.cell (p:=⟨gb,_,none⟩) zgb).trans y0,fun u v hv=>by
                 have hu:u<6:=by have h:=(gI.1 hv).1;simpa using h
                 refine(hb.cell (p:=⟨gi,_,none⟩) zgi).trans ?_
                 rcases(by omega:u=0∨u=1∨u=2∨u=3∨u=4∨u=5) with rfl|rfl|rfl|rfl|rfl|rfl
                 ·exact q0.trans hv
                 ·exact q1.trans hv
                 ·exact q2.trans hv
                 ·exact q3.trans hv
                 ·exact q4.trans hv
                 ·exact q5.trans hv⟩:(fun w' :World=>w'.cell? ⟨L5,2,none⟩=some (.slice (some ⟨gp,0,none⟩) H cp)∧w'.cell? ⟨gp,j*15+2,none⟩=some (.slice (some ⟨gi,0,none⟩) nI ci)∧w'.cell? ⟨gb,j*4,none⟩=some (.int .i64 (fj:Int))∧w'.rangeAt gi (t*6) [.int .i64 jo, .int .i64 jd, .int .i64 ja, .int .i64 jb, .int .i64 jm, .int .i64 jp]) W))
                have HI6:Hid ((Tryd.prog.info? 77).map (·.size)=some (List.length (α:=Value) [.int .i64 jo, .int .i64 jd, .int .i64 ja, .int .i64 jb, .int .i64 jm, .int .i64 jp])):=Lib.hid (info_ins6)
                clear hxx huse hiid hnI hti hAg hvi hAi q0 q1 q2 q3 q4 q5 y0 cpi k4
                refine wp_region_held_drew (S:=fun w' =>w'.cell? ⟨L5,2,none⟩=some (.slice (some ⟨gp,0,none⟩) H cp)∧w'.cell? ⟨gp,j*15+2,none⟩=some (.slice (some ⟨gi,0,none⟩) nI ci)∧w'.cell? ⟨gb,j*4,none⟩=some (.int .i64 (fj:Int))∧w'.rangeAt gi (t*6) [.int .i64 jo, .int .i64 jd, .int .i64 ja, .int .i64 jb, .int .i64 jm, .int .i64 jp]) (by kernel_rfl) (KL.out _ (Below.refl _ _).drew) (fun hHeld=> ?_)
                refine wpAnyH_take (i:=0) (v:= .pointer (some ⟨L5,2,none⟩)) rfl (by kernel_rfl) (by kernel_rfl) (by kernel_rfl) (fun _ _ _ h=>h) (Or.inl ⟨by rfl,?_⟩) hHeld ?_
                ·intro w hSw
                 simp only[qg]
                 go_simp
                simp only[Act.put,qs]
                refine wpAnyH_take (i:=1) (v:= .slice (some ⟨gp,0,none⟩) H cp) rfl (by kernel_rfl) (by kernel_rfl) (by kernel_rfl) (fun _ _ _ h=>h) (Or.inl ⟨by rfl,?_⟩) hHeld ?_
                ·intro w hSw
                 obtain⟨p0,p1,p2,p3⟩:=hSw
                 simp only[qg]
                 go_simp
                simp only[Act.put,qs]
                refine wpAnyH_take (i:=2) (v:= .int .i64 (j:Int)) rfl (by kernel_rfl) (by kernel_rfl) (by kernel_rfl) (fun _ _ _ h=>h) (Or.inl ⟨by rfl,?_⟩) hHeld ?_
                ·intro w hSw
                 simp only[qg]
                 go_simp
                simp only[Act.put,qs]
                refine wpAnyH_take (i:=3) (v:= .pointer (some ⟨gp,j*15,none⟩)) rfl (by kernel_rfl) (by kernel_rfl) (by kernel_rfl) (fun _ _ _ h=>h) (Or.inl ⟨by rfl,?_⟩) hHeld ?_
                ·intro w hSw
                 simp only[qg]
                 go_simp
                simp only[Act.put,qs]
                refine wpAnyH_take (i:=4) (v:= .pointer (some ⟨gp,j*15+2,none⟩)) rfl (by kernel_rfl) (by kernel_rfl) (by kernel_rfl) (fun _ _ _ h=>h) (Or.inl ⟨by rfl,?_⟩) hHeld ?_
                ·intro w hSw
                 simp only[qg]
                 go_simp
                simp only[Act.put,qs]
                refine wpAnyH_take (i:=5) (v:= .slice (some ⟨gi,0,none⟩) nI ci) rfl (by kernel_rfl) (by kernel_rfl) (by kernel_rfl) (fun _ _ _ h=>h) (Or.inl ⟨by rfl,?_⟩) hHeld ?_
                ·intro w hSw
                 obtain⟨p0,p1,p2,p3⟩:=hSw
                 simp only[qg]
                 go_simp
                simp only[Act.put,qs]
                refine wpAnyH_take (i:=6) (v:= .int .i64 (q:Int)) rfl (by kernel_rfl) (by kernel_rfl) (by kernel_rfl) (fun _ _ _ h=>h) (Or.inl ⟨by rfl,?_⟩) hHeld ?_
                ·intro w hSw
                 simp only[qg]
                 go_simp
                simp only[Act.put,qs]
                refine wpAnyH_take (i:=7) (v:= .slice (some ⟨gb,0,none⟩) H H) rfl (by kernel_rfl) (by kernel_rfl) (by kernel_rfl) (fun _ _ _ h=>h) (Or.inl ⟨by rfl,?_⟩) hHeld ?_
                ·intro w hSw
                 simp only[qg]
                 go_simp
                simp only[Act.put,qs]
                refine wpAnyH_take (i:=8) (v:= .int .i64 (j:Int)) rfl (by kernel_rfl) (by kernel_rfl) (by kernel_rfl) (fun _ _ _ h=>h) (Or.inl ⟨by rfl,?_⟩) hHeld ?_
                ·intro w hSw
                 simp only[qg]
                 go_simp
                simp only[Act.put,qs]
                refine wpAnyH_take (i:=9) (v:= .pointer (some ⟨gb,j*4,none⟩)) rfl (by kernel_rfl) (by kernel_rfl) (by kernel_rfl) (fun _ _ _ h=>h) (Or.inl ⟨by rfl,?_⟩) hHeld ?_
                ·intro w hSw
                 simp only[qg]
                 go_simp
                simp only[Act.put,qs]
                refine wpAnyH_take (i:=10) (v:= .pointer (some ⟨gb,j*4,none⟩)) rfl (by kernel_rfl) (by kernel_rfl) (by kernel_rfl) (fun _ _ _ h=>h) (Or.inl ⟨by rfl,?_⟩) hHeld ?_
                ·intro w hSw
                 simp only[qg]
                 go_simp
                simp only[Act.put,qs]
                refine wpAnyH_take (i:=11) (v:= .int .i64 (fj:Int)) rfl (by kernel_rfl) (by kernel_rfl) (by kernel_rfl) (fun _ _ _ h=>h) (Or.inl ⟨by rfl,?_⟩) hHeld ?_
                ·intro w hSw
                 obtain⟨p0,p1,p2,p3⟩:=hSw
                 simp only[qg]
                 go_simp
                simp only[Act.put,qs]
                refine wpAnyH_take (i:=12) (v:= .int .i64 (t:Int)) rfl (by kernel_rfl) (by kernel_rfl) (by kernel_rfl) (fun _ _ _ h=>h) (Or.inl ⟨by rfl,?_⟩) hHeld ?_
                ·intro w hSw
                 simp only[qg]
                 go_simp
                simp only[Act.put,qs]
                refine wpAnyH_take (i:=13) (v:= .pointer (some ⟨gi,t*6,none⟩)) rfl (by kernel_rfl) (by kernel_rfl) (by kernel_rfl) (fun _ _ _ h=>h) (Or.inl ⟨by rfl,?_⟩) hHeld ?_
                ·intro w hSw
                 simp only[qg]
                 go_simp
                simp only[Act.put,qs]
                refine' wpAnyH_take (i:=14) rfl (by kernel_rfl) (by kernel_rfl) (by kernel_rfl) (fun _ _ _ h=>h) (yieldsIf_load_mid (by rfl) 77 _ rfl gi (t*6) rfl [.int .i64 jo, .int .i64 jd, .int .i64 ja, .int .i64 jb, .int .i64 jm, .int .i64 jp] _ (fun w hSw=>hSw.2.2.2) Tryd.underlying77 (by rfl) HI6.out) hHeld ?_
                simp only[Act.put,qs]
                refine wpAnyH_ready (rs:=[15]) (by kernel_rfl) (by simp) ?_
                refine AllReadyH.cons rfl (fun K hK=> ?_) AllReadyH.nil
                simp only[qg]
                go_simp
                refine hK.out _ _ (KL.out _ ((Below.refl wd.heap.size wd).drew.alloc (Nat.le_refl _) _)) (fun hHeld=> ?_)
                clear hK K
                refine wpAnyH_ready (rs:=[16]) (by kernel_rfl) (by simp) ?_
                refine AllReadyH.cons rfl (fun K hK=> ?_) AllReadyH.nil
                simp only[qg]
                go_simp
                refine hK.out _ _ (KL.out _ ((Below.refl wd.heap.size wd).alloc (Nat.le_refl _) _).drew) (fun hHeld=> ?_)
                clear hK K
                clear hHeld
                refine wpAnyH_done (by kernel_rfl) ?_ _
                clear hHeld KL zgp zgb z2 zgi
                obtain⟨wi,hwi⟩:∃W,(wd.alloc (.cells #[.int .i64 jo, .int .i64 jd, .int .i64 ja, .int .i64 jb, .int .i64 jm, .int .i64 jp] 77)).drew=W:=⟨_,rfl⟩
                have HBI:Hid (Below wd.heap.size wd wi):=Lib.hid (hwi▸((Below.refl _ _).alloc (Nat.le_refl _) _).drew)
                obtain⟨bI,hbI⟩:∃n,wd.heap.size=n:=⟨_,rfl⟩
                have HXI:Hid (wi.heap[bI]? =some (.cells #[.int .i64 jo, .int .i64 jd, .int .i64 ja, .int .i64 jb, .int .i64 jm, .int .i64 jp] 77 (0,0))):=Lib.hid (hwi▸hbI▸heap_alloc_new _ _)
                rw[hwi,hbI]
                have HBIE:=Lib.hid hbI
                clear hwi hbI
                have HMI:=Lib.hid (HMD.out.keeps HBI.out)
                have k1:=(KP.out _ _ _ _ _ HMI.out).1
                have z1:=(KP.out _ _ _ _ _ HMI.out).2.2.2.2.1
                rw[HA1.out] at k1
                have hbw:=HMI.out.base
                obtain⟨hc1,hc2,hc3,hc4⟩:=HCOD.out
                have hql:q<F.code.length:=by
                 have h1:=HLH.out.2
                 have h2:=(toF_spec HRT.out HFM.out HFA2.out).2.1
                 omega
                have hxq:F.code[q]? =some (insAt F q):=by unfold insAt;rw[gD,gE hql];rfl
                have hio:=HFO.out.ins _ (gM hxq)
                obtain⟨x0,x1,x2,x3,x4⟩:=hc4 q _ hxq
                have hd1:=hio.dst1
                have hd2:=hio.dst2
                have hr2:=HFO.out.r2
                obtain⟨iq,hiq⟩:∃z,insAt F q=z:=⟨_,rfl⟩
                have HIQ:=Lib.hid hiq
                rw[hiq] at x0 x1 x2 x3 x4 hd1 hd2
                obtain⟨xo,xd,xa,xb,xm⟩:=iq
                simp only at x0 x1 x2 x3 x4 hd1 hd2
                obtain⟨d,hdd⟩:∃n:Nat,xd=n:=⟨xd.toNat,by omega⟩
                subst hdd
                have HD12:Hid (d<12):=Lib.hid (by omega)
                replace x0:=(hbw.cell (p:=⟨gc,_,none⟩) hc3).trans x0
                replace x1:=(hbw.cell (p:=⟨gc,_,none⟩) hc3).trans x1
                replace x2:=(hbw.cell (p:=⟨gc,_,none⟩) hc3).trans x2
                replace x3:=(hbw.cell (p:=⟨gc,_,none⟩) hc3).trans x3
                replace x4:=(hbw.cell (p:=⟨gc,_,none⟩) hc3).trans x4
                have ca:=(hbw.cell (p:=⟨ga,2,none⟩) hc1).trans hc2
                have zga:=Nat.lt_of_lt_of_le hc1 hbw.size
                have zgc:=Nat.lt_of_lt_of_le hc3 hbw.size
                obtain⟨NC,hNC⟩:∃n,F.code.length=n:=⟨_,rfl⟩
                rw[hNC] at ca hql
                have hp0:0<p.length:=(gI.1 HF0.out).1
                have hp1:(0:Int)<p.length:=by omega
                have hq3:(q:Int)<NC:=by omega
                have hq0:(0:Int)≤q:=by omega
                clear hbw hc1 hc2 hc3 hc4 hxq hio hiq hd1 hd2 hr2
                go_upto_region 64 with fail
                clear x0 x1 x2 x3 x4 ca zga zgc hp0 hp1 hq3 k1 z1
                obtain⟨wf,hwf⟩:∃W,wi.alloc (.cells #[.int .i64 xo, .int .i64 (d:Int), .int .i64 xa, .int .i64 xb, .int .i64 xm] 58)=W:=⟨_,rfl⟩
                have HBF:Hid (Below wi.heap.size wi wf):=Lib.hid (hwf▸(Below.refl _ _).alloc (Nat.le_refl _) _)
                obtain⟨bC,hbC⟩:∃n,wi.heap.size=n:=⟨_,rfl⟩
                have HXC:Hid (wf.heap[bC]? =some (.cells #[.int .i64 xo, .int .i64 (d:Int), .int .i64 xa, .int .i64 xb, .int .i64 xm] 58 (0,0))):=Lib.hid (hwf▸hbC▸heap_alloc_new _ _)
                have HXI2:Hid (wf.heap[bI]? =some (.cells #[.int .i64 jo, .int .i64 jd, .int .i64 ja, .int .i64 jb, .int .i64 jm, .int .i64 jp] 77 (0,0))):=Lib.hid ((HBF.out.block _ (block_lt HXI.out)).trans HXI.out)
                have HBCE:=Lib.hid hbC
                rw[hwf,hbC]
                clear hwf hbC
                have HMF:=Lib.hid (HMI.out.keeps HBF.out)
                go_cut [31,32,414] (fun v31 v32 v414 wx=>v31= .pointer (some ⟨bI,0,none⟩)∧v32= .pointer (some ⟨bC,0,none⟩)∧v414= .bool false∧Below wf.heap.size wf wx)
                case first=>
                 as_aux_lemma=>
                  obtain⟨FA,fcp,EA,ea,AA,aa,hci⟩:=HMF.out.st.cells.cin HIS.out.mem (fun f hf=>(HIS.out.fr f hf).regs)
                  have hc2:=hci.c2
                  rw[HC2F.out,HNF.out] at hc2
                  simp only[Option.some.injEq,Value.slice.injEq] at hc2
                  obtain⟨gf',hgf,hgl,hgc⟩:=hci.fr (by rw[HNF.out];exact Nat.zero_lt_one)
                  have egf:gf=gf' :=by rw[hgf] at hc2;simpa using hc2.1
                  subst egf
                  have hrl:=(HIS.out.fr f (by rw[HFW.out.fr];simp)).regs
                  have cr:=fun(r:Nat) (hr:r<12)=>(by
                   have h1:=hgc 0 f (2+r) (by rw[HFW.out.fr];rfl) (by omega)
                   rw[show 0*14+(2+r)=2+r by omega,fr_reg f (by rw[hrl];exact hr)] at h1
                   exact h1:wf.cell? ⟨gf,2+r,none⟩=some (.int .i64 (f.regs.getD r 0)))
                  have c2:=(HMF.out.cell 2).trans HC2F.out
                  have zS:=block_lt HMF.out.box
                  have a2:wf.cell? ⟨bI,2,none⟩=some (.int .i64 ja):=cell_block HXI2.out 2
                  have a3:wf.cell? ⟨bI,3,none⟩=some (.int .i64 jb):=cell_block HXI2.out 3
                  have a4:wf.cell? ⟨bC,2,none⟩=some (.int .i64 xa):=cell_block HXC.out 2
                  have a5:wf.cell? ⟨bC,3,none⟩=some (.int .i64 xb):=cell_block HXC.out 3
                  have zI:=block_lt HXI2.out
                  have zC:=block_lt HXC.out
                  have zE:=block_lt HMF.out.env
                  have zM:=block_lt HMF.out.made
                  obtain⟨hua,hub⟩:=HUSE.out
                  have hdq:hdA F j+t=q:=HQ.out
                  rw[hdq,HIQ.out] at hua hub
                  simp only at hua hub
                  have HA:Hid ((decide (ja≥0)=false∧decide (0≤ja)=false)∨∃v r:Nat,ja=v∧xa=r∧r<12∧v<vl∧wf.cell? ⟨gm,v,none⟩=some (.bool true)∧∃rv,wf.cell? ⟨ge,v,none⟩=some (.int .i64 rv)∧wf.cell? ⟨gf,2+r,none⟩=some (.int .i64 rv)):=Lib.hid (by
                   rcases hua with h|⟨v,r,h1,h2,h3,h4,h5,h6⟩
                   ·exact .inl ⟨by rw[decide_eq_false_iff_not];omega,by rw[decide_eq_false_iff_not];omega⟩
                   ·refine .inr ⟨v,r,h1,h2,h3,by rw[←HVL.out];exact h4,?_,f.regs.getD r 0,?_,cr r h3⟩
                    ·rw[HMF.out.made.cell (i:=v) (by rw[HFW.out.dl];exact h4),h5]
                    ·rw[HMF.out.env.getC (i:=v) (by rw[HFW.out.el];exact h4),h6])
                  have HB:Hid ((decide (jb≥0)=false∧decide (0≤jb)=false)∨∃v r:Nat,jb=v∧xb=r∧r<12∧v<vl∧wf.cell? ⟨gm,v,none⟩=some (.bool true)∧∃rv,wf.cell? ⟨ge,v,none⟩=some (.int .i64 rv)∧wf.cell? ⟨gf,2+r,none⟩=some (.int .i64 rv)):=Lib.hid (by
                   rcases hub with h|⟨v,r,h1,h2,h3,h4,h5,h6⟩
                   ·exact .inl ⟨by rw[decide_eq_false_iff_not];omega,by rw[decide_eq_false_iff_not];omega⟩
                   ·refine .inr ⟨v,r,h1,h2,h3,by rw[←HVL.out];exact h4,?_,f.regs.getD r 0,?_,cr r h3⟩
                    ·rw[HMF.out.made.cell (i:=v) (by rw[HFW.out.dl];exact h4),h5]
                    ·rw[HMF.out.env.getC (i:=v) (by rw[HFW.out.el];exact h4),h6])
                  have HBW:=Lib.hid (Below.refl wf.heap.size wf)
                  clear hua hub cr hgc hci hgf hc2 hrl hdq
                  obtain⟨wk,hwk⟩:∃wo:World,wo=wf:=⟨_,rfl⟩
                  rcases HA.out with⟨u1,u2⟩|⟨va,ra,rfl,rfl,ra1,va1,m1,rv,e1,r1⟩
                  ·clear HA
                   rcases HB.out with⟨w1',w2'⟩|⟨vb,rb,rfl,rfl,rb1,vb1,m2,rv2,e2,r2⟩
                   ·clear HB
                    as_aux_lemma=>
                     go_quiet (fail)
                     go_wp2_with fail
                     go_meet
                     exact⟨rfl,rfl,rfl,below_drewN HBW.out _⟩
                   ·have b1:decide ((vb:Int)≥0)=true:=by rw[decide_eq_true_eq];omega
                    have b2:decide ((0:Int)≤vb)=true:=b1
                    have b3:(vb:Int)<vl:=by omega
                    have b4:(0:Int)≤vb:=by omega
                    have b5:(rb:Int)<12:=by omega
                    have b6:(0:Int)≤rb:=by omega
                    clear HB
                    as_aux_lemma=>
                     go_quiet (fail)
                     go_wp2_with fail
                     go_meet
                     exact⟨rfl,rfl,rfl,below_drewN HBW.out _⟩
                  ·have s1:decide ((va:Int)≥0)=true:=by rw[decide_eq_true_eq];omega
                   have s2:decide ((0:Int)≤va)=true:=s1
                   have s3:(va:Int)<vl:=by omega
                   have s4:(0:Int)≤va:=by omega
                   have s5:(ra:Int)<12:=by omega
                   have s6:(0:Int)≤ra:=by omega
                   clear HA
                   rcases HB.out with⟨w1',w2'⟩|⟨vb,rb,rfl,rfl,rb1,vb1,m2,rv2,e2,r2⟩
                   ·clear HB
                    as_aux_lemma=>
                     go_quiet (fail)
                     go_wp2_with fail
                     go_meet
                     exact⟨rfl,rfl,rfl,below_drewN HBW.out _⟩
                   ·have b1:decide ((vb:Int)≥0)=true:=by rw[decide_eq_true_eq];omega
                    have b2:decide ((0:Int)≤vb)=true:=b1
                    have b3:(vb:Int)<vl:=by omega
                    have b4:(0:Int)≤vb:=by omega
                    have b5:(rb:Int)<12:=by omega
                    have b6:(0:Int)≤rb:=by omega
                    clear HB
                    as_aux_lemma=>
                     go_quiet (fail)
                     go_wp2_with fail
                     go_meet
                     exact⟨rfl,rfl,rfl,below_drewN HBW.out _⟩
                case rest=>
                 as_aux_lemma=>
                  obtain⟨rfl,rfl,rfl,hbg⟩:=hcut
                  obtain⟨wg,hwg⟩:∃wo:World,wo=wc:=⟨_,rfl⟩
                  subst hwg
                  have HMG:=Lib.hid (HMF.out.keeps hbg)
                  have HXG:Hid (wg.heap[bI]? =some (.cells #[.int .i64 jo, .int .i64 jd, .int .i64 ja, .int .i64 jb, .int .i64 jm, .int .i64 jp] 77 (0,0))∧wg.heap[bC]? =some (.cells #[.int .i64 xo, .int .i64 (d:Int), .int .i64 xa, .int .i64 xb, .int .i64 xm] 58 (0,0))):=Lib.hid ⟨(hbg.block _ (block_lt HXI2.out)).trans HXI2.out,(hbg.block _ (block_lt HXC.out)).trans HXC.out⟩
                  have HSG:Hid (∀k,k<w1.heap.size→wg.heap[k]? =wd.heap[k]?):=Lib.hid (fun k hk=>by
                   have h1:=block_lt HMD.out.box
                   have h2:=HFA.out.l1
                   have h3:=HBI.out.size
                   have h4:=HBF.out.size
                   exact(hbg.block k (by omega)).trans ((HBF.out.block k (by omega)).trans (HBI.out.block k (by omega))))
                  have HBIG:Hid (gm<bI∧gm<bC):=Lib.hid (by
                   have h1:=block_lt HMD.out.made
                   have h2:=HBIE.out
                   have h3:=HBI.out.size
                   have h4:=HBCE.out
                   omega)
                  have HZG:=Lib.hid (show ge<wg.heap.size∧gm<wg.heap.size from⟨block_lt HMG.out.env,block_lt HMG.out.made⟩)
                  have k1:=(KP.out _ _ _ _ _ HMG.out).1
                  have z1:=(KP.out _ _ _ _ _ HMG.out).2.2.2.2.1
                  have zS:=block_lt HMG.out.box
                  have hzst:=zero_st
                  clear hbg
                  go_upto_region 67 with(first|(refine wpList_load_mid (by rfl) 36 _ (by rfl) bS 0 (by rfl) C _ (range_block HMG.out.box) Tryd.underlying36 (by rfl) HJC.out ?_)|(go_at_call 23;go_must (refine(HNS.out _ HMG.out.base HMG.out.st.cells).mono ?_;rintro e w9 ⟨⟨C2,rfl,hC2⟩,hb9⟩;have HC2:=Lib.hid hC2;have HL2:=Lib.hid (hC2.len HI2.out.mem);have HJ2:=Lib.hid (info_st HL2.out);have HB9:=Lib.hid hb9;clear hC2 hb9 k1 z1 zS))|(refine wpList_store_mid (by rfl) 36 _ _ (by rfl) w9.heap.size 0 C2.toArray (by rfl) (by rfl) (there_new w9 zeroV _ (by simp[HL2.out,zeroV_length])) (by simpa using HJ2.out) HC2.out.one ?_;obtain⟨wA,hwA⟩:∃W,(w9.alloc (.cells zeroV.toArray 36)).setCells w9.heap.size 0 C2.toArray.toList=W:=⟨_,rfl⟩;have HXN:Hid (wA.heap[w9.heap.size]? =some (.cells C2.toArray 36 (0,0))):=Lib.hid (hwA▸block_full (heap_alloc_new w9 _) C2 (by simp[HL2.out,zeroV_length]));have HBA:Hid (Below w9.heap.size w9 wA):=Lib.hid (hwA▸below_setCells (Nat.le_refl _) _ _ _ ((Below.refl _ _).alloc (Nat.le_refl _) _));rw[hwA];clear hwA))
                  clear hzst
                  obtain⟨bN,hbN⟩:∃n,w9.heap.size=n:=⟨_,rfl⟩
                  have HSA:Hid (StA C2 wA wg.heap.size ge gm y):=Lib.hid ((StA.new HC2.out HZG.out.1 HZG.out.2).same HBA.out.size (fun k _ hk _ _=>HBA.out.block k hk))
                  have HB:Hid (Below wg.heap.size wg wA):=Lib.hid (HB9.out.trans (HBA.out.mono HB9.out.size))
                  have HNB:Hid (wg.heap.size≤bN):=Lib.hid (by rw[←hbN];exact HB9.out.size)
                  rw[hbN] at HXN⊢
                  have HMA:=Lib.hid (HMG.out.keeps HB.out)
                  obtain⟨FA2,fcap2,EA2,ea2,AA2,aa2,hci2⟩:=HSA.out.cells.cin HI2.out.mem (fun f hf=>(HI2.out.fr f hf).regs)
                  have d2:=(cell_block HXN.out 2).trans (List.getElem?_toArray.trans hci2.c2)
                  have HFR2:=Lib.hid hci2.fr
                  have zN:=block_lt HXN.out
                  obtain⟨k1,k2,k3,k4,z1,z2,z3,z4,z5⟩:=KP.out _ _ _ _ _ HMA.out
                  obtain⟨ny,hny⟩:∃n,y.frames.length=n:=⟨_,rfl⟩
                  have HNY:=Lib.hid hny
                  rw[hny] at d2
                  have HBSZ:Hid (bS<wg.heap.size):=Lib.hid (block_lt HMG.out.box)
                  have hdy:=HI2.out.deep
                  rw[hny] at hdy
                  have hci2_c0:=hci2.c0
                  clear hbN hci2 hny
                  have d0:=(cell_block HXN.out 0).trans (List.getElem?_toArray.trans hci2_c0)
                  have HBNE:Hid (gm<bN):=Lib.hid (by have h1:=HNB.out;have h2:=HZG.out.2;omega)
                  have x0:wA.cell? ⟨bI,1,none⟩=some (.int .i64 jd):=(HB.out.cell (p:=⟨bI,1,none⟩) (block_lt HXG.out.1)).trans (cell_block HXG.out.1 1)
                  have zI:=Nat.lt_of_lt_of_le (block_lt HXG.out.1) HB.out.size
                  have HFN:Hid (folNext p F bs s x=if 0≤jd∧y.status=0∧ny=1 then(⟨y,(j:Int),(watE F bs s x).set jd.toNat ((y.frames.headD noFr).regs.getD d 0),(watD F s x).set jd.toNat true⟩:FoS) else⟨y,(j:Int),watE F bs s x,watD F s x⟩):=Lib.hid (by
                   have h1:idA s F j q=jd:=by
                    unfold idA
                    have e:q-hdA F j=t:=by have:=HQ.out;omega
                    rw[e,HXX.out]
                   unfold folNext made1
                   rw[if_pos HNF.out,HXF.out.1,HXF.out.2,HY.out,HNY.out,h1,HIQ.out]
                   simp only[Int.toNat_natCast])
                  have HNXW:=Lib.hid (fun(h:y.status=0)=>(by
                   have:=FolW.next HBX.out HF0.out HFW.out HIS.out HST.out (by rw[HY.out];exact h)
                   rw[HVL.out] at this
                   exact this:FolI F O bs s vl (folNext p F bs s x)))
                  have HWN:Hid (WI wd (folNext p F bs s x)):=Lib.hid (HSTH.out _ _ _ _ _ _ _ _ _ _ _ _ HBX.out HFX.out HFW.out HIS.out HST.out HNF.out HWB2.out)
                  have HSGA:Hid (∀k,k<w1.heap.size→wA.heap[k]? =wd.heap[k]?):=Lib.hid (fun k hk=>by
                   have h1:=block_lt HMG.out.box
                   have h2:=HFA.out.l1
                   exact(HB.out.block k (by omega)).trans (HSG.out k hk))
                  obtain⟨ys,hys⟩:∃z,y.status=z:=⟨_,rfl⟩
                  rw[hys] at d0 HFN
                  have HYS:=Lib.hid hys
                  clear hys k1 k2 k3 k4 z1 z2
                  by_cases hA:0≤jd∧ys=0∧ny=1
                  ·as_aux_lemma=>
                    obtain⟨hA1,hA2,hA3⟩:=hA
                    subst hA2 hA3
                    obtain⟨v,hv,hv2⟩:=HIID.out hA1
                    rw[HVL.out] at hv2
                    subst hv
                    obtain⟨f1,hf1⟩:∃f1,y.frames=[f1]:=List.length_eq_one_iff.1 HNY.out
                    have hr1:=(HI2.out.fr f1 (by rw[hf1];simp)).regs
                    obtain⟨g1,hg1,hg1l,hg1c⟩:=HFR2.out (by rw[HNY.out];exact Nat.zero_lt_one)
                    subst hg1
                    obtain⟨yv,hyv⟩:∃z,f1.regs.getD d 0=z:=⟨_,rfl⟩
                    have cg1:wA.cell? ⟨g1,2+d,none⟩=some (.int .i64 yv):=by
                     have h1:=hg1c 0 f1 (2+d) (by rw[hf1];rfl) (by have:=HD12.out;omega)
                     rw[show 0*14+(2+d)=2+d by omega,fr_reg f1 (by rw[hr1];exact HD12.out)] at h1
                     rw[←hyv];exact h1
                    have HXV:Hid (folNext p F bs s x=⟨y,(j:Int),(watE F bs s x).set v yv,(watD F s x).set v true⟩):=Lib.hid (by
                     rw[HFN.out,if_pos ⟨hA1,rfl,rfl⟩,hf1,Int.toNat_natCast]
                     show(⟨y,(j:Int),(watE F bs s x).set v (f1.regs.getD d 0),_⟩:FoS)=_
                     rw[hyv])
                    have HNE:Hid (bI≠ge∧bN≠ge∧bC≠ge∧g1≠ge∧g1≠gm):=Lib.hid (by
                     have h1:=HFA.out.l3
                     have h2:=HBIG.out
                     have h3:=HBNE.out
                     refine⟨by omega,by omega,by omega,?_⟩
                     obtain⟨FS,ES,AS,e,hr,ha⟩:=HSA.out
                     have hF2:C2[2]? =some (.slice (some ⟨g1,0,none⟩) 1 fcap2):=((cell_block HXN.out 2).trans List.getElem?_toArray).symm.trans d2
                     have hFS:FS= .slice (some ⟨g1,0,none⟩) 1 fcap2:=by rw[e] at hF2;simpa [stCells] using hF2
                     exact(ha g1 (.inl (by rw[hFS];rfl))).2.2)
                    have HCN:=Lib.hid (fun(b i:Nat) (h:b≠ge)=>(World.cell?_of_block (show(wA.setCell ⟨ge,v,none⟩ (.int .i64 yv)).drew.heap[b]? =wA.heap[b]? from heap_ne wA h v _):(wA.setCell ⟨ge,v,none⟩ (.int .i64 yv)).drew.cell? ⟨b,i,none⟩=wA.cell? ⟨b,i,none⟩))
                    have xC:wA.cell? ⟨bC,1,none⟩=some (.int .i64 (d:Int)):=(HB.out.cell (p:=⟨bC,1,none⟩) (block_lt HXG.out.2)).trans (cell_block HXG.out.2 1)
                    have zC:=Nat.lt_of_lt_of_le (block_lt HXG.out.2) HB.out.size
                    have KC:=Lib.hid (And.intro x0 (And.intro d2 (And.intro xC cg1)))
                    have KCS:=Lib.hid (And.intro ((HCN.out _ 1 HNE.out.1).trans x0) (And.intro ((HCN.out _ 2 HNE.out.2.1).trans d2) (And.intro ((HCN.out _ 1 HNE.out.2.2.1).trans xC) ((HCN.out _ (2+d) HNE.out.2.2.2.1).trans cg1))))
                    have b1:decide ((v:Int)≥0)=true:=by rw[decide_eq_true_eq];omega
                    have b2:decide ((0:Int)≤v)=true:=b1
                    have b3:(v:Int)<vl:=by omega
                    have b4:(0:Int)≤v:=by omega
                    have b5:(d:Int)<12:=by have:=HD12.out;omega
                    have b6:(0:Int)≤d:=by omega
                    have fe:=frozen_block HMA.out.env v
                    have ce:=HMA.out.env.getC (i:=v) (by rw[HFW.out.el,HVL.out];exact hv2)
                    have ze:=block_lt HMA.out.env
                    clear hf1 hr1 hg1l hg1c hyv hA1
                    go_upto_region 70 with fail
                    clear x0 d0 d2 xC cg1
                    refine wp_region_held_drew (S:=fun w' =>w'.cell? ⟨bI,1,none⟩=some (.int .i64 (v:Int))∧w'.cell? ⟨bN,2,none⟩=some (.slice (some ⟨g1,0,none⟩) 1 fcap2)∧w'.cell? ⟨bC,1,none⟩=some (.int .i64 (d:Int))∧w'.cell? ⟨g1,2+d,none⟩=some (.int .i64 yv)) (by kernel_rfl) KC.out (fun hHeld=> ?_)
                    refine wpAnyH_take (i:=0) (v:= .slice (some ⟨ge,0,none⟩) vl vl) rfl (by kernel_rfl) (by kernel_rfl) (by kernel_rfl) (fun _ _ _ h=>h) (Or.inl ⟨by rfl,?_⟩) hHeld ?_
                    ·intro w hSw
                     simp only[qg]
                     go_simp
                    simp only[Act.put,qs]
                    refine wpAnyH_take (i:=1) (v:= .pointer (some ⟨bI,1,none⟩)) rfl (by kernel_rfl) (by kernel_rfl) (by kernel_rfl) (fun _ _ _ h=>h) (Or.inl ⟨by rfl,?_⟩) hHeld ?_
                    ·intro w hSw
                     simp only[qg]
                     go_simp
                    simp only[Act.put,qs]
                    refine wpAnyH_take (i:=2) (v:= .int .i64 (v:Int)) rfl (by kernel_rfl) (by kernel_rfl) (by kernel_rfl) (fun _ _ _ h=>h) (Or.inl ⟨by rfl,?_⟩) hHeld ?_
                    ·intro w hSw
                     obtain⟨p0,p1,p2,p3⟩:=hSw
                     simp only[qg]
                     go_simp
                    simp only[Act.put,qs]
                    refine wpAnyH_take (i:=3) (v:= .pointer (some ⟨bN,2,none⟩)) rfl (by kernel_rfl) (by kernel_rfl) (by kernel_rfl) (fun _ _ _ h=>h) (Or.inl ⟨by rfl,?_⟩) hHeld ?_
                    ·intro w hSw
                     simp only[qg]
                     go_simp
                    simp only[Act.put,qs]
                    refine wpAnyH_take (i:=4) (v:= .slice (some ⟨g1,0,none⟩) 1 fcap2) rfl (by kernel_rfl) (by kernel_rfl) (by kernel_rfl) (fun _ _ _ h=>h) (Or.inl ⟨by rfl,?_⟩) hHeld ?_
                    ·intro w hSw
                     obtain⟨p0,p1,p2,p3⟩:=hSw
                     simp only[qg]
                     go_simp
                    simp only[Act.put,qs]
                    refine wpAnyH_take (i:=5) (v:= .pointer (some ⟨bC,1,none⟩)) rfl (by kernel_rfl) (by kernel_rfl) (by kernel_rfl) (fun _ _ _ h=>h) (Or.inl ⟨by rfl,?_⟩) hHeld ?_
                    ·intro w hSw
                     simp only[qg]
                     go_simp
                    simp only[Act.put,qs]
                    refine wpAnyH_take (i:=6) (v:= .int .i64 (d:Int)) rfl (by kernel_rfl) (by kernel_rfl) (by kernel_rfl) (fun _ _ _ h=>h) (Or.inl ⟨by rfl,?_⟩) hHeld ?_
                    ·intro w hSw
                     obtain⟨p0,p1,p2,p3⟩:=hSw
                     simp only[qg]
                     go_simp
                    simp only[Act.put,qs]
                    refine wpAnyH_take (i:=7) (v:= .pointer (some ⟨g1,0,none⟩)) rfl (by kernel_rfl) (by kernel_rfl) (by kernel_rfl) (fun _ _ _ h=>h) (Or.inl ⟨by rfl,?_⟩) hHeld ?_
                    ·intro w hSw
                     simp only[qg]
                     go_simp
                    simp only[Act.put,qs]
                    refine wpAnyH_take (i:=8) (v:= .pointer (some ⟨g1,2,none⟩)) rfl (by kernel_rfl) (by kernel_rfl) (by kernel_rfl) (fun _ _ _ h=>h) (Or.inl ⟨by rfl,?_⟩) hHeld ?_
                    ·intro w hSw
                     simp only[qg]
                     go_simp
                    simp only[Act.put,qs]
                    refine wpAnyH_take (i:=9) (v:= .pointer (some ⟨g1,2+d,none⟩)) rfl (by kernel_rfl) (by kernel_rfl) (by kernel_rfl) (fun _ _ _ h=>h) (Or.inl ⟨by rfl,?_⟩) hHeld ?_
                    ·intro w hSw
                     simp only[qg]
                     go_simp
                    simp only[Act.put,qs]
                    refine wpAnyH_take (i:=10) (v:= .int .i64 yv) rfl (by kernel_rfl) (by kernel_rfl) (by kernel_rfl) (fun _ _ _ h=>h) (Or.inl ⟨by rfl,?_⟩) hHeld ?_
                    ·intro w hSw
                     obtain⟨p0,p1,p2,p3⟩:=hSw
                     simp only[qg]
                     go_simp
                    simp only[Act.put,qs]
                    refine wpAnyH_take (i:=11) (v:= .pointer (some ⟨ge,v,none⟩)) rfl (by kernel_rfl) (by kernel_rfl) (by kernel_rfl) (fun _ _ _ h=>h) (Or.inl ⟨by rfl,?_⟩) hHeld ?_
                    ·intro w hSw
                     simp only[qg]
                     go_simp
                    simp only[Act.put,qs]
                    refine wpAnyH_ready (rs:=[12]) (by kernel_rfl) (by simp) ?_
                    refine AllReadyH.cons rfl (fun K hK=> ?_) AllReadyH.nil
                    simp only[qg]
                    go_simp
                    refine hK.out _ _ KCS.out (fun hHeld=> ?_)
                    clear hK K
                    clear hHeld
                    refine wpAnyH_done (by kernel_rfl) ?_ _
                    clear hHeld ce fe ze
                    obtain⟨wE,hwE⟩:∃W,(wA.setCell ⟨ge,v,none⟩ (.int .i64 yv)).drew=W:=⟨_,rfl⟩
                    have HME:Hid (FoM w0 w1 w8 wE bS ge gm C x.st ((watE F bs s x).set v yv) (watD F s x)):=Lib.hid (by rw[←hwE];exact(HMA.out.setE HFA.out v yv).keeps (Below.refl _ _).drew)
                    have HXE1:Hid (wE.heap[bN]? =some (.cells C2.toArray 36 (0,0))):=Lib.hid (by rw[←hwE];exact(heap_ne wA HNE.out.2.1 v _).trans HXN.out)
                    have HSE:Hid (StA C2 wE wg.heap.size ge gm y):=Lib.hid (by rw[←hwE];exact(HSA.out.setE v _).same (Nat.le_refl _) (fun _ _ _ _ _=>rfl))
                    have HWE2:Hid (∀k,k<w1.heap.size→wE.heap[k]? =wd.heap[k]?):=Lib.hid (fun k hk=>by
                     have h1:=HFA.out.l1
                     have h2:=HFA.out.l2
                     rw[←hwE]
                     exact(heap_ne wA (by omega) v _).trans (HSGA.out k hk))
                    have x0:wE.cell? ⟨bI,1,none⟩=some (.int .i64 (v:Int)):=by rw[←hwE];exact KCS.out.1
                    have zI2:bI<wE.heap.size:=by rw[←hwE];show bI<(wA.setCell _ _).heap.size;simpa using zI
                    rw[hwE]
                    clear hwE zI zC
                    have fm:=frozen_block HME.out.made v
                    have cm:=HME.out.made.cell (i:=v) (by rw[HFW.out.dl,HVL.out];exact hv2)
                    have zm:=block_lt HME.out.made
                    go_upto_region 72 with fail
                    obtain⟨wF,hwF⟩:∃W,wE.setCell ⟨gm,v,none⟩ (.bool true)=W:=⟨_,rfl⟩
                    have HMB:Hid (FoM w0 w1 w8 wF bS ge gm C x.st ((watE F bs s x).set v yv) ((watD F s x).set v true)):=Lib.hid (by rw[←hwF];exact HME.out.setD HFA.out v true)
                    have HXN2:Hid (wF.heap[bN]? =some (.cells C2.toArray 36 (0,0))):=Lib.hid (by rw[←hwF];exact(heap_ne wE (by have:=HBNE.out;omega) v _).trans HXE1.out)
                    have HSB2:Hid (StA C2 wF wg.heap.size ge gm y):=Lib.hid (by rw[←hwF];exact HSE.out.setD v _)
                    have HSW:Hid (∀k,k<w1.heap.size→wF.heap[k]? =wd.heap[k]?):=Lib.hid (fun k hk=>by
                     have h1:=HFA.out.l1
                     have h2:=HFA.out.l2
                     have h3:=HFA.out.l3
                     rw[←hwF]
                     exact(heap_ne wE (by omega) v _).trans (HWE2.out k hk))
                    rw[hwF]
                    clear hwF fm cm zm x0 zI2 z3 z4 z5
                    have z3:=block_lt HMB.out.box
                    have zN2:=block_lt HXN2.out
                    go_wp2_with (first|(refine wpList_load_mid (by rfl) 36 _ (by rfl) bN 0 (by rfl) C2 _ (range_block HXN2.out) Tryd.underlying36 (by rfl) HJ2.out ?_)|(refine wpList_store_mid (by rfl) 36 _ _ (by rfl) bS 0 C2.toArray (by rfl) (by rfl) (there_block HMB.out.box (by simp[HL2.out,HCL.out])) (by simpa using HJ2.out) HC2.out.one ?_;have HMN:=Lib.hid (HMB.out.put HFA.out HBSZ.out HSB2.out (HCL.out.trans HL2.out.symm));obtain⟨wZ,hwZ⟩:∃W,wF.setCells bS 0 C2.toArray.toList=W:=⟨_,rfl⟩;rw[hwZ];have HMZ:Hid (FoM w0 w1 w8 wZ bS ge gm C2 y ((watE F bs s x).set v yv) ((watD F s x).set v true)):=Lib.hid (by rw[←hwZ];exact HMN.out);have HSZ:Hid (∀k,k<w1.heap.size→wZ.heap[k]? =wd.heap[k]?):=Lib.hid (fun k hk=>by rw[←hwZ];have h1:=HFA.out.l1;rw[heaps_ne (by omega)];exact HSW.out k hk);clear hwZ))
                    go_roundw
                    case rel=>exact⟨i+1,⟨y,(j:Int),(watE F bs s x).set v yv,(watD F s x).set v true⟩,C2,by omega,by go_num,rfl,HMZ.out,HI2.out,HWI.out _ _ _ HSZ.out (HXV.out▸HWN.out),fun h=>HXV.out▸HNXW.out h⟩
                    case measure=>simp[intOf];omega
                  ·have HXE:Hid (folNext p F bs s x=⟨y,(j:Int),watE F bs s x,watD F s x⟩):=Lib.hid (by rw[HFN.out,if_neg hA])
                   have HXN2:=HXN
                   have HMB:=HMA
                   have HSB2:=HSA
                   have HSW:=HSGA
                   have hB:(decide (jd≥0)=false)∨(decide (jd≥0)=true∧ys≠0)∨(decide (jd≥0)=true∧ys=0∧ny≠1):=by
                    by_cases e:0≤jd
                    ·have e1:decide (jd≥0)=true:=by rw[decide_eq_true_eq];omega
                     by_cases e2:ys=0
                     ·exact .inr (.inr ⟨e1,e2,fun e3=>hA ⟨e,e2,e3⟩⟩)
                     ·exact .inr (.inl ⟨e1,e2⟩)
                    ·exact .inl (by rw[decide_eq_false_iff_not];omega)
                   clear hA
                   rcases hB with e1|⟨e1,e3⟩|⟨e1,e3,e4⟩
                   ·have e2:decide (0≤jd)=false:=e1
                    as_aux_lemma=>
                     go_wp2_with (first|(refine wpList_load_mid (by rfl) 36 _ (by rfl) bN 0 (by rfl) C2 _ (range_block HXN2.out) Tryd.underlying36 (by rfl) HJ2.out ?_)|(refine wpList_store_mid (by rfl) 36 _ _ (by rfl) bS 0 C2.toArray (by rfl) (by rfl) (there_block HMB.out.box (by simp[HL2.out,HCL.out])) (by simpa using HJ2.out) HC2.out.one ?_;have HMN:=Lib.hid (HMB.out.put HFA.out HBSZ.out HSB2.out (HCL.out.trans HL2.out.symm));obtain⟨wZ,hwZ⟩:∃W,wA.setCells bS 0 C2.toArray.toList=W:=⟨_,rfl⟩;rw[hwZ];have HMZ:Hid (FoM w0 w1 w8 wZ bS ge gm C2 y (watE F bs s x) (watD F s x)):=Lib.hid (by rw[←hwZ];exact HMN.out);have HSZ:Hid (∀k,k<w1.heap.size→wZ.heap[k]? =wd.heap[k]?):=Lib.hid (fun k hk=>by rw[←hwZ];have h1:=HFA.out.l1;rw[heaps_ne (by omega)];exact HSW.out k hk);clear hwZ))
                     go_roundw
                     case rel=>exact⟨i+1,⟨y,(j:Int),watE F bs s x,watD F s x⟩,C2,by omega,by go_num,rfl,HMZ.out,HI2.out,HWI.out _ _ _ HSZ.out (HXE.out▸HWN.out),fun h=>HXE.out▸HNXW.out h⟩
                     case measure=>simp[intOf];omega
                   ·have e2:decide (0≤jd)=true:=e1
                    have e5:decide (ys=0)=false:=decide_eq_false e3
                    have e6:(ys==0)=false:=beq_eq_false_iff_ne.2 e3
                    clear e3
                    as_aux_lemma=>
                     go_wp2_with (first|(refine wpList_load_mid (by rfl) 36 _ (by rfl) bN 0 (by rfl) C2 _ (range_block HXN2.out) Tryd.underlying36 (by rfl) HJ2.out ?_)|(refine wpList_store_mid (by rfl) 36 _ _ (by rfl) bS 0 C2.toArray (by rfl) (by rfl) (there_block HMB.out.box (by simp[HL2.out,HCL.out])) (by simpa using HJ2.out) HC2.out.one ?_;have HMN:=Lib.hid (HMB.out.put HFA.out HBSZ.out HSB2.out (HCL.out.trans HL2.out.symm));obtain⟨wZ,hwZ⟩:∃W,wA.setCells bS 0 C2.toArray.toList=W:=⟨_,rfl⟩;rw[hwZ];have HMZ:Hid (FoM w0 w1 w8 wZ bS ge gm C2 y (watE F bs s x) (watD F s x)):=Lib.hid (by rw[←hwZ];exact HMN.out);have HSZ:Hid (∀k,k<w1.heap.size→wZ.heap[k]? =wd.heap[k]?):=Lib.hid (fun k hk=>by rw[←hwZ];have h1:=HFA.out.l1;rw[heaps_ne (by omega)];exact HSW.out k hk);clear hwZ))
                     go_roundw
                     case rel=>exact⟨i+1,⟨y,(j:Int),watE F bs s x,watD F s x⟩,C2,by omega,by go_num,rfl,HMZ.out,HI2.out,HWI.out _ _ _ HSZ.out (HXE.out▸HWN.out),fun h=>HXE.out▸HNXW.out h⟩
                     case measure=>simp[intOf];omega
                   ·have e2:decide (0≤jd)=true:=e1
                    subst e3
                    have q1:decide ((ny:Int)=1)=false:=by rw[decide_eq_false_iff_not];omega
                    have q2:decide (ny=1)=false:=decide_eq_false e4
                    have q3:((ny:Int)==1)=false:=beq_eq_false_iff_ne.2 (by omega)
                    clear e4
                    as_aux_lemma=>
                     go_wp2_with (first|(refine wpList_load_mid (by rfl) 36 _ (by rfl) bN 0 (by rfl) C2 _ (range_block HXN2.out) Tryd.underlying36 (by rfl) HJ2.out ?_)|(refine wpList_store_mid (by rfl) 36 _ _ (by rfl) bS 0 C2.toArray (by rfl) (by rfl) (there_block HMB.out.box (by simp[HL2.out,HCL.out])) (by simpa using HJ2.out) HC2.out.one ?_;have HMN:=Lib.hid (HMB.out.put HFA.out HBSZ.out HSB2.out (HCL.out.trans HL2.out.symm));obtain⟨wZ,hwZ⟩:∃W,wA.setCells bS 0 C2.toArray.toList=W:=⟨_,rfl⟩;rw[hwZ];have HMZ:Hid (FoM w0 w1 w8 wZ bS ge gm C2 y (watE F bs s x) (watD F s x)):=Lib.hid (by rw[←hwZ];exact HMN.out);have HSZ:Hid (∀k,k<w1.heap.size→wZ.heap[k]? =wd.heap[k]?):=Lib.hid (fun k hk=>by rw[←hwZ];have h1:=HFA.out.l1;rw[heaps_ne (by omega)];exact HSW.out k hk);clear hwZ))
                     go_roundw
                     case rel=>exact⟨i+1,⟨y,(j:Int),watE F bs s x,watD F s x⟩,C2,by omega,by go_num,rfl,HMZ.out,HI2.out,HWI.out _ _ _ HSZ.out (HXE.out▸HWN.out),fun h=>HXE.out▸HNXW.out h⟩
                     case measure=>simp[intOf];omega
            ·have b1:(k:Int)<H:=by omega
             have b2:(0:Int)≤k:=by omega
             have bH:k<H:=by omega
             obtain⟨r,hr⟩:∃r,bs2[k]? =some r:=⟨_,gE (by rw[HOK.out.len,HH.out];exact bH)⟩
             obtain⟨hfr,hto,-⟩:=HOK.out.at_ k r hr
             have y0:wr.cell? ⟨gb,k*4,none⟩=some (.int .i64 (hdA F k:Int)):=((HBLW.out _ _ _ _ _ HM.out).cell hr (j:=0) (by omega)).trans (show some (Value.int .i64 r.fr)=_ by rw[hfr])
             have y1:wr.cell? ⟨gb,k*4+1,none⟩=some (.int .i64 (toF F (hdA F k):Int)):=((HBLW.out _ _ _ _ _ HM.out).cell hr (j:=1) (by omega)).trans (show some (Value.int .i64 r.to)=_ by rw[hto])
             by_cases hbj:k=j
             ·subst hbj
              have d1:decide ((hdA F k:Int)≤q)=true:=by rw[decide_eq_true_eq];have:=HLH.out.1;omega
              have d2:decide ((q:Int)<(toF F (hdA F k):Int))=true:=by rw[decide_eq_true_eq];have:=HLH.out.2;omega
              have d3:decide (hdA F k≤q)=true:=by rw[decide_eq_true_eq];exact HLH.out.1
              have d4:decide (q<toF F (hdA F k))=true:=by rw[decide_eq_true_eq];exact HLH.out.2
              rw[if_neg (by omega)]
              have HRL:=Lib.hid (show(if k<k+1 then(k:Int) else -1)=k from if_pos (by omega))
              obtain⟨T,hT⟩:∃z,toF F (hdA F k)=z:=⟨_,rfl⟩
              obtain⟨fb,hfb⟩:∃z,hdA F k=z:=⟨_,rfl⟩
              rw[hT] at y1 d2 d4
              rw[hfb] at y0 d1 d3
              clear hr hfr hto hT hfb hbH
              go_wp2_with fail
              go_roundw
              case rel=>exact⟨k+1,by omega,by go_num,by rw[HRL.out],trivial⟩
              case measure=>simp[intOf];omega
             ·have hout:decide ((hdA F k:Int)≤q)=false∨(decide ((hdA F k:Int)≤q)=true∧decide ((q:Int)<(toF F (hdA F k):Int))=false):=by
               by_cases e:hdA F k≤q
               ·by_cases e2:q<toF F (hdA F k)
                ·exact absurd (HUN.out k bH e e2) hbj
                ·exact .inr ⟨by rw[decide_eq_true_eq];omega,by rw[decide_eq_false_iff_not];omega⟩
               ·exact .inl (by rw[decide_eq_false_iff_not];omega)
              have HRL:=Lib.hid (show(if j<k+1 then(j:Int) else -1)=(if j<k then(j:Int) else -1) by
               by_cases e:j<k
               ·rw[if_pos e,if_pos (by omega)]
               ·rw[if_neg e,if_neg (by omega)])
              obtain⟨z,hz'⟩:∃z,(if j<k then(j:Int) else -1)=z:=⟨_,rfl⟩
              rw[hz'] at HRL⊢
              obtain⟨T,hT⟩:∃z,toF F (hdA F k)=z:=⟨_,rfl⟩
              obtain⟨fb,hfb⟩:∃z,hdA F k=z:=⟨_,rfl⟩
              rw[hT,hfb] at hout
              rw[hT] at y1
              rw[hfb] at y0
              clear hr hfr hto hT hfb hbH hbj hz'
              rcases hout with d1|⟨d1,d2⟩
              ·have d3:decide (fb≤q)=false:=by rw[decide_eq_false_iff_not] at d1⊢;omega
               go_wp2_with fail
               go_roundw
               case rel=>exact⟨k+1,by omega,by go_num,by rw[HRL.out],trivial⟩
               case measure=>simp[intOf];omega
              ·have d3:decide (fb≤q)=true:=by rw[decide_eq_true_eq] at d1⊢;omega
               have d4:decide (q<T)=false:=by rw[decide_eq_false_iff_not] at d2⊢;omega
               go_wp2_with fail
               go_roundw
               case rel=>exact⟨k+1,by omega,by go_num,by rw[HRL.out],trivial⟩
               case measure=>simp[intOf];omega
        ·as_aux_lemma=>
          obtain⟨f,rest,j,t,hfs,hfr,hj,hfn,hpc,ht,⟨v,hv,hvl⟩,hnx⟩:=hfx.deep HBX.out HF0.out (by rw[hnf];exact hn1) HIS.out HST.out
          have HFX:=Lib.hid hfx
          have HFS:=Lib.hid hfs
          have HPC:=Lib.hid hpc
          have HV:=Lib.hid hv
          have HJB:=Lib.hid hj
          have HTI:=Lib.hid ht
          rw[hy] at hnx
          rw[HVL.out] at hnx hvl
          have HNXT:=Lib.hid hnx
          have n1:(1:Int)<nf:=by have h:x.st.frames.length=rest.length+1:=by rw[hfs];rfl
                                 omega
          obtain⟨gf,hgf,hgl,hgc⟩:=HFRM.out (by rw[hnf];omega)
          subst hgf
          have HGF:=Lib.hid (show wr.cell? ⟨gf,1,none⟩=some (.int .i64 ((hdA F j+t:Nat):Int)) from by
           have:=hgc 0 f 1 (by rw[hfs];rfl) (by omega)
           rw[←hpc];exact this)
          have HGFL:=Lib.hid hgl
          rw[hfr]
          have HZG:=Lib.hid (And.intro z4 z5)
          have HN1:=Lib.hid hn1
          have HFRJ:=Lib.hid hfr
          have HC2F:=Lib.hid (show C[2]? =some (.slice (some ⟨gf,0,none⟩) nf fcap) from(HM.out.cell 2).symm.trans c2)
          clear hfx hfs hpc hv hj ht hnx hgl hgc hnf hn1 hy his hfn hfr
          have hzst:=zero_st
          go_upto_region 19 with(first|(refine wpList_load_mid (by rfl) 36 _ (by rfl) bS 0 (by rfl) C _ (range_block HM.out.box) Tryd.underlying36 (by rfl) HJC.out ?_)|(go_at_call 23;go_must (refine(HNS.out _ HM.out.base HM.out.st.cells).mono ?_;rintro e w9 ⟨⟨C2,rfl,hC2⟩,hb9⟩;have HC2:=Lib.hid hC2;have HL2:=Lib.hid (hC2.len HI2.out.mem);have HJ2:=Lib.hid (info_st HL2.out);have HB9:=Lib.hid hb9;clear hC2 hb9 k1 k2 k3 k4 z1 z2 z3 z4 z5))|(refine wpList_store_mid (by rfl) 36 _ _ (by rfl) w9.heap.size 0 C2.toArray (by rfl) (by rfl) (there_new w9 zeroV _ (by simp[HL2.out,zeroV_length])) (by simpa using HJ2.out) HC2.out.one ?_;obtain⟨wA,hwA⟩:∃W,(w9.alloc (.cells zeroV.toArray 36)).setCells w9.heap.size 0 C2.toArray.toList=W:=⟨_,rfl⟩;have HXN:Hid (wA.heap[w9.heap.size]? =some (.cells C2.toArray 36 (0,0))):=Lib.hid (hwA▸block_full (heap_alloc_new w9 _) C2 (by simp[HL2.out,zeroV_length]));have HBA:Hid (Below w9.heap.size w9 wA):=Lib.hid (hwA▸below_setCells (Nat.le_refl _) _ _ _ ((Below.refl _ _).alloc (Nat.le_refl _) _));rw[hwA];clear hwA))
          as_aux_lemma=>
           clear hzst
           obtain⟨bN,hbN⟩:∃n,w9.heap.size=n:=⟨_,rfl⟩
           have HSA:Hid (StA C2 wA wr.heap.size ge gm y):=Lib.hid ((StA.new HC2.out HZG.out.1 HZG.out.2).same HBA.out.size (fun k _ hk _ _=>HBA.out.block k hk))
           have HB:Hid (Below wr.heap.size wr wA):=Lib.hid (HB9.out.trans (HBA.out.mono HB9.out.size))
           have HNB:Hid (wr.heap.size≤bN):=Lib.hid (by rw[←hbN];exact HB9.out.size)
           rw[hbN] at HXN⊢
           have HMA:=Lib.hid (HM.out.keeps HB.out)
           obtain⟨FA2,fcap2,EA2,ea2,AA2,aa2,hci2⟩:=HSA.out.cells.cin HI2.out.mem (fun f hf=>(HI2.out.fr f hf).regs)
           have d2:=(cell_block HXN.out 2).trans (List.getElem?_toArray.trans hci2.c2)
           have HFR2:=Lib.hid hci2.fr
           have zN:=block_lt HXN.out
           obtain⟨k1,k2,k3,k4,z1,z2,z3,z4,z5⟩:=KP.out _ _ _ _ _ HMA.out
           obtain⟨ny,hny⟩:∃n,y.frames.length=n:=⟨_,rfl⟩
           have HNY:=Lib.hid hny
           rw[hny] at d2
           have HBSZ:Hid (bS<wr.heap.size):=Lib.hid (block_lt HM.out.box)
           have hdy:=HI2.out.deep
           rw[hny] at hdy
           clear hbN hci2 hny
           by_cases hy1:ny=1
           ·as_aux_lemma=>
             subst hy1
             obtain⟨f1,hf1⟩:∃f1,y.frames=[f1]:=List.length_eq_one_iff.1 HNY.out
             have hr1:=(HI2.out.fr f1 (by rw[hf1];simp)).regs
             obtain⟨g1,hg1,hg1l,hg1c⟩:=HFR2.out (by rw[HNY.out];exact Nat.zero_lt_one)
             subst hg1
             have HG1:=Lib.hid (fun(r:Nat) (hr:r<12)=>(by
              have h1:=hg1c 0 f1 (2+r) (by rw[hf1];rfl) (by omega)
              rw[show 0*14+(2+r)=2+r by omega,fr_reg f1 (by rw[hr1];exact hr)] at h1
              exact h1:wA.cell? ⟨g1,2+r,none⟩=some (.int .i64 (f1.regs.getD r 0))))
             have HG1L:=Lib.hid hg1l
             have HF1:=Lib.hid hf1
             clear hf1 hr1 hg1l hg1c
             obtain⟨fj,hfj⟩:∃z,hdA F j=z:=⟨_,rfl⟩
             have HFJ:=Lib.hid hfj
             have HXE:Hid (folNext p F bs s x=⟨y,(j:Int),x.E.set v (f1.regs.getD (insAt F (fj+t)).dst.toNat 0),x.D.set v true⟩):=Lib.hid (by
              have h1:x.f=f:=by unfold FoS.f;rw[HFS.out];rfl
              unfold folNext made1
              rw[if_neg (by rw[HNF.out];exact HN1.out),HY.out,if_pos HNY.out,h1,HFRJ.out,HPC.out,HF1.out]
              simp only[Int.toNat_natCast]
              unfold idA
              rw[Nat.add_sub_cancel_left,HV.out,hfj];rfl)
             have HINS:Hid (∃ins:Ins,F.code[fj+t]? =some ins∧insAt F (fj+t)=ins∧∃d:Nat,ins.dst=d∧d<12):=Lib.hid (by
              have hl:hdA F j+t<F.code.length:=by
               have h1:=HBX.out.finP.il j HJB.out
               have h2:=HTI.out
               have hjH:j<(hdL F).length:=by rw[←HBX.out.b.bok.len];exact HJB.out
               have h3:=(toF_spec HRT.out HFM.out (hdA_mem2 hjH).1).2.1
               omega
              rw[hfj] at hl
              have hx:F.code[fj+t]? =some (insAt F (fj+t)):=by unfold insAt;rw[gD,gE hl];rfl
              have hio:=HFO.out.ins _ (gM hx)
              have hr2:=HFO.out.r2
              have d1:=hio.dst1
              have d2:=hio.dst2
              exact⟨_,hx,rfl,(insAt F (fj+t)).dst.toNat,by omega,by omega⟩)
             obtain⟨q,hq⟩:∃q,fj+t=q:=⟨_,rfl⟩
             rw[hq] at HINS HXE
             have hfl:q<40:=by
              obtain⟨z,h1,-⟩:=HINS.out
              have h2:=(gI.1 h1).1
              have h3:=HFO.out.c2
              omega
             have HQ:=Lib.hid hq
             have c2A:=(HMA.out.cell 2).trans HC2F.out
             have cgf:wA.cell? ⟨gf,1,none⟩=some (.int .i64 (q:Int)):=by rw[←hq,←hfj];exact(HB.out.cell (p:=⟨gf,1,none⟩) HGFL.out).trans HGF.out
             have zgf:gf<wA.heap.size:=Nat.lt_of_lt_of_le HGFL.out HB.out.size
             have n0:(0:Int)<nf:=by omega
             have n00:0<nf:=by omega
             have hjH:j<H:=by have:=HJB.out;rw[HBX.out.b.bok.len,HH.out] at this;exact this
             have jH:(j:Int)<H:=by omega
             have j0:(0:Int)≤j:=by omega
             have HSBA:=Lib.hid (HSBW.out _ _ _ _ _ HMA.out)
             have HBLA:=Lib.hid (HBLW.out _ _ _ _ _ HMA.out)
             have cpi:=(HSBA.out.partCell HBX.out.finP.inn HVP.out (i:=j) (by rw[HBX.out.b.len];exact HJB.out)).2
             obtain⟨Ai,ci,hvi,-,hAi⟩:=HSBA.out.rowV (.ins j) (n:=(s.part j).ins.length) rfl
             obtain⟨gi,hAg,-,zgi⟩:=hAi (Nat.lt_of_le_of_lt (Nat.zero_le _) HTI.out)
             rw[hAg] at hvi
             have cid:=(HSBA.out.insCell hvi HTI.out).2.1
             rw[HV.out] at cid
             rw[hvi] at cpi
             obtain⟨nI,hnI⟩:∃n,(s.part j).ins.length=n:=⟨_,rfl⟩
             have hti:=HTI.out
             rw[hnI] at cpi hti
             have t1:(t:Int)<nI:=by omega
             have t2:(0:Int)≤t:=by omega
             obtain⟨r,hr⟩:∃r,bs2[j]? =some r:=⟨_,gE (by rw[HOK.out.len,HH.out];exact hjH)⟩
             have y0:wA.cell? ⟨gb,j*4,none⟩=some (.int .i64 (fj:Int)):=(HBLA.out.cell hr (j:=0) (by omega)).trans (show some (Value.int .i64 r.fr)=_ by rw[(HOK.out.at_ j r hr).1,hfj])
             have zgb:=block_lt HBLA.out.blk
             have zgp:=(HSBA.out.rlt .parts (g:=gp) (by rw[HVP.out];rfl)).2
             have hsub:(q:Int)-(fj:Int)=(t:Int):=by omega
             have hq1:(fj:Int)≤q:=by omega
             have hq2:(q:Int)<40:=by omega
             have hf2:(fj:Int)<40:=by omega
             clear hq hfj hr hnI hAg hvi hAi c2
             have HD2:=Lib.hid d2
             go_wp2_with fail
             go_quiet (fail)
             have HBD:Hid (Below wA.heap.size wA (wA.drewN nq)):=Lib.hid (below_drewN (Below.refl _ _) nq)
             obtain⟨wD,hwD⟩:∃W,wA.drewN nq=W:=⟨_,rfl⟩
             rw[hwD] at HBD⊢
             clear hwD
             have HMD:=Lib.hid (HMA.out.keeps HBD.out)
             have HXN1:Hid (wD.heap[bN]? =some (.cells C2.toArray 36 (0,0))):=Lib.hid ((HBD.out.block _ (block_lt HXN.out)).trans HXN.out)
             have HSD:Hid (StA C2 wD wr.heap.size ge gm y):=Lib.hid (HSA.out.same HBD.out.size (fun k _ hk _ _=>HBD.out.block k hk))
             obtain⟨ins,hins,hiA,d,hdd,hd12⟩:=HINS.out
             obtain⟨yv,hyv⟩:∃z,f1.regs.getD d 0=z:=⟨_,rfl⟩
             obtain⟨NC,hNC⟩:∃n,F.code.length=n:=⟨_,rfl⟩
             have HXV:Hid (folNext p F bs s x=⟨y,(j:Int),x.E.set v yv,x.D.set v true⟩):=Lib.hid (by rw[HXE.out,hiA,hdd,Int.toNat_natCast,hyv])
             have KC:Hid (wD.cell? ⟨bN,2,none⟩=some (.slice (some ⟨g1,0,none⟩) 1 fcap2)∧wD.cell? ⟨L1,0,none⟩=some (.slice (some ⟨ga,0,none⟩) p.length cap1)∧wD.cell? ⟨ga,2,none⟩=some (.slice (some ⟨gc,0,none⟩) NC cc)∧wD.cell? ⟨gc,q*5+1,none⟩=some (.int .i64 (d:Int))∧wD.cell? ⟨g1,2+d,none⟩=some (.int .i64 yv)):=Lib.hid (by
              have hb:=HMD.out.base
              refine⟨(HBD.out.cell (p:=⟨bN,2,none⟩) (block_lt HXN.out)).trans HD2.out,?_,?_,?_,?_⟩
              ·rw[←HA1.out];exact(KP.out _ _ _ _ _ HMD.out).1
              ·rw[←hNC];exact(hb.cell (p:=⟨ga,2,none⟩) HCOD.out.1).trans HCOD.out.2.1
              ·rw[←hdd];exact(hb.cell (p:=⟨gc,q*5+1,none⟩) HCOD.out.2.2.1).trans (HCOD.out.2.2.2 q ins hins).2.1
              ·rw[←hyv];exact(HBD.out.cell (p:=⟨g1,2+d,none⟩) HG1L.out).trans (HG1.out d hd12))
             have HNG:Hid (bN≠ge∧L1≠ge∧ga≠ge∧gc≠ge∧g1≠ge):=Lib.hid (by
              have h1:=HFA.out.l0
              have h2:=HFA.out.l1
              have h3:=HFA.out.l2
              have h4:=HNB.out
              have h5:=HZG.out.1
              have h6:=HCOD.out.1
              have h7:=HCOD.out.2.2.1
              obtain⟨-,-,-,h8,-⟩:=HG5.out
              refine⟨by omega,by omega,by omega,by omega,?_⟩
              obtain⟨FS,ES,AS,e,hr,ha⟩:=HSA.out
              have hF2:C2[2]? =some (.slice (some ⟨g1,0,none⟩) 1 fcap2):=((cell_block HXN.out 2).trans List.getElem?_toArray).symm.trans HD2.out
              have hFS:FS= .slice (some ⟨g1,0,none⟩) 1 fcap2:=by rw[e] at hF2;simpa [stCells] using hF2
              exact(ha g1 (.inl (by rw[hFS];rfl))).2.2.1)
             have HCN:=Lib.hid (fun(b i:Nat) (h:b≠ge)=>(World.cell?_of_block (show(wD.setCell ⟨ge,v,none⟩ (.int .i64 yv)).drew.heap[b]? =wD.heap[b]? from heap_ne wD h v _):(wD.setCell ⟨ge,v,none⟩ (.int .i64 yv)).drew.cell? ⟨b,i,none⟩=wD.cell? ⟨b,i,none⟩))
             have KCS:=Lib.hid (And.intro ((HCN.out _ 2 HNG.out.1).trans KC.out.1) (And.intro ((HCN.out _ 0 HNG.out.2.1).trans KC.out.2.1) (And.intro ((HCN.out _ 2 HNG.out.2.2.1).trans KC.out.2.2.1) (And.intro ((HCN.out _ (q*5+1) HNG.out.2.2.2.1).trans KC.out.2.2.2.1) ((HCN.out _ (2+d) HNG.out.2.2.2.2).trans KC.out.2.2.2.2)))))
             have zz:=Lib.hid (KP.out _ _ _ _ _ HMD.out).2.2.2.2
             have hp0:0<p.length:=(gI.1 HF0.out).1
             have hp1:(0:Int)<p.length:=by omega
             have hqn:q<NC:=by rw[←hNC];exact(gI.1 hins).1
             have hqi:(q:Int)<NC:=by omega
             have hq0:(0:Int)≤q:=by omega
             have hd0:(0:Int)≤d:=by omega
             have hdi:(d:Int)<12:=by omega
             have hv0:(0:Int)≤v:=by omega
             have hvi2:(v:Int)<vl:=by omega
             have fe:=frozen_block HMD.out.env v
             have ce:=HMD.out.env.getC (i:=v) (by
              have hE:=(HFX.out).el
              rw[HVL.out] at hE
              rw[hE];exact hvl)
             have ze:=block_lt HMD.out.env
             clear hins hiA hdd hyv hNC c2A cgf zgf cpi cid y0 zgb zgp zgi zN k1 k2 k3 k4 z1 z2 z3 z4 z5 d2 hsub
             go_upto_region 24 with fail
             refine wp_region_held_drew (S:=fun w' =>w'.cell? ⟨bN,2,none⟩=some (.slice (some ⟨g1,0,none⟩) 1 fcap2)∧w'.cell? ⟨L1,0,none⟩=some (.slice (some ⟨ga,0,none⟩) p.length cap1)∧w'.cell? ⟨ga,2,none⟩=some (.slice (some ⟨gc,0,none⟩) NC cc)∧w'.cell? ⟨gc,q*5+1,none⟩=some (.int .i64 (d:Int))∧w'.cell? ⟨g1,2+d,none⟩=some (.int .i64 yv)) (by kernel_rfl) KC.out (fun hHeld=> ?_)
             refine wpAnyH_take (i:=0) (v:= .slice (some ⟨ge,0,none⟩) vl vl) rfl (by kernel_rfl) (by kernel_rfl) (by kernel_rfl) (fun _ _ _ h=>h) (Or.inl ⟨by rfl,?_⟩) hHeld ?_
             ·intro w hSw
              simp only[qg]
              go_simp
             simp only[Act.put,qs]
             refine wpAnyH_take (i:=1) (v:= .int .i64 (v:Int)) rfl (by kernel_rfl) (by kernel_rfl) (by kernel_rfl) (fun _ _ _ h=>h) (Or.inl ⟨by rfl,?_⟩) hHeld ?_
             ·intro w hSw
              simp only[qg]
              go_simp
             simp only[Act.put,qs]
             refine wpAnyH_take (i:=2) (v:= .pointer (some ⟨bN,2,none⟩)) rfl (by kernel_rfl) (by kernel_rfl) (by kernel_rfl) (fun _ _ _ h=>h) (Or.inl ⟨by rfl,?_⟩) hHeld ?_
             ·intro w hSw
              simp only[qg]
              go_simp
             simp only[Act.put,qs]
             refine wpAnyH_take (i:=3) (v:= .slice (some ⟨g1,0,none⟩) 1 fcap2) rfl (by kernel_rfl) (by kernel_rfl) (by kernel_rfl) (fun _ _ _ h=>h) (Or.inl ⟨by rfl,?_⟩) hHeld ?_
             ·intro w hSw
              obtain⟨p0,p1,p2,p3,p4⟩:=hSw
              simp only[qg]
              go_simp
             simp only[Act.put,qs]
             refine wpAnyH_take (i:=4) (v:= .pointer (some ⟨L1,0,none⟩)) rfl (by kernel_rfl) (by kernel_rfl) (by kernel_rfl) (fun _ _ _ h=>h) (Or.inl ⟨by rfl,?_⟩) hHeld ?_
             ·intro w hSw
              simp only[qg]
              go_simp
             simp only[Act.put,qs]
             refine wpAnyH_take (i:=5) (v:= .slice (some ⟨ga,0,none⟩) p.length cap1) rfl (by kernel_rfl) (by kernel_rfl) (by kernel_rfl) (fun _ _ _ h=>h) (Or.inl ⟨by rfl,?_⟩) hHeld ?_
             ·intro w hSw
              obtain⟨p0,p1,p2,p3,p4⟩:=hSw
              simp only[qg]
              go_simp
             simp only[Act.put,qs]
             refine wpAnyH_take (i:=6) (v:= .pointer (some ⟨ga,0,none⟩)) rfl (by kernel_rfl) (by kernel_rfl) (by kernel_rfl) (fun _ _ _ h=>h) (Or.inl ⟨by rfl,?_⟩) hHeld ?_
             ·intro w hSw
              simp only[qg]
              go_simp
             simp only[Act.put,qs]
             refine wpAnyH_take (i:=7) (v:= .pointer (some ⟨ga,2,none⟩)) rfl (by kernel_rfl) (by kernel_rfl) (by kernel_rfl) (fun _ _ _ h=>h) (Or.inl ⟨by rfl,?_⟩) hHeld ?_
             ·intro w hSw
              simp only[qg]
              go_simp
             simp only[Act.put,qs]
             refine wpAnyH_take (i:=8) (v:= .slice (some ⟨gc,0,none⟩) NC cc) rfl (by kernel_rfl) (by kernel_rfl) (by kernel_rfl) (fun _ _ _ h=>h) (Or.inl ⟨by rfl,?_⟩) hHeld ?_
             ·intro w hSw
              obtain⟨p0,p1,p2,p3,p4⟩:=hSw
              simp only[qg]
              go_simp
             simp only[Act.put,qs]
             refine wpAnyH_take (i:=9) (v:= .int .i64 (q:Int)) rfl (by kernel_rfl) (by kernel_rfl) (by kernel_rfl) (fun _ _ _ h=>h) (Or.inl ⟨by rfl,?_⟩) hHeld ?_
             ·intro w hSw
              simp only[qg]
              go_simp
             simp only[Act.put,qs]
             refine wpAnyH_take (i:=10) (v:= .pointer (some ⟨gc,q*5,none⟩)) rfl (by kernel_rfl) (by kernel_rfl) (by kernel_rfl) (fun _ _ _ h=>h) (Or.inl ⟨by rfl,?_⟩) hHeld ?_
             ·intro w hSw
              simp only[qg]
              go_simp
             simp only[Act.put,qs]
             refine wpAnyH_take (i:=11) (v:= .pointer (some ⟨gc,q*5+1,none⟩)) rfl (by kernel_rfl) (by kernel_rfl) (by kernel_rfl) (fun _ _ _ h=>h) (Or.inl ⟨by rfl,?_⟩) hHeld ?_
             ·intro w hSw
              simp only[qg]
              go_simp
             simp only[Act.put,qs]
             refine wpAnyH_take (i:=12) (v:= .int .i64 (d:Int)) rfl (by kernel_rfl) (by kernel_rfl) (by kernel_rfl) (fun _ _ _ h=>h) (Or.inl ⟨by rfl,?_⟩) hHeld ?_
             ·intro w hSw
              obtain⟨p0,p1,p2,p3,p4⟩:=hSw
              simp only[qg]
              go_simp
             simp only[Act.put,qs]
             refine wpAnyH_take (i:=13) (v:= .pointer (some ⟨g1,0,none⟩)) rfl (by kernel_rfl) (by kernel_rfl) (by kernel_rfl) (fun _ _ _ h=>h) (Or.inl ⟨by rfl,?_⟩) hHeld ?_
             ·intro w hSw
              simp only[qg]
              go_simp
             simp only[Act.put,qs]
             refine wpAnyH_take (i:=14) (v:= .pointer (some ⟨g1,2,none⟩)) rfl (by kernel_rfl) (by kernel_rfl) (by kernel_rfl) (fun _ _ _ h=>h) (Or.inl ⟨by rfl,?_⟩) hHeld ?_
             ·intro w hSw
              simp only[qg]
              go_simp
             simp only[Act.put,qs]
             refine wpAnyH_take (i:=15) (v:= .pointer (some ⟨g1,2+d,none⟩)) rfl (by kernel_rfl) (by kernel_rfl) (by kernel_rfl) (fun _ _ _ h=>h) (Or.inl ⟨by rfl,?_⟩) hHeld ?_
             ·intro w hSw
              simp only[qg]
              go_simp
             simp only[Act.put,qs]
             refine wpAnyH_take (i:=16) (v:= .int .i64 yv) rfl (by kernel_rfl) (by kernel_rfl) (by kernel_rfl) (fun _ _ _ h=>h) (Or.inl ⟨by rfl,?_⟩) hHeld ?_
             ·intro w hSw
              obtain⟨p0,p1,p2,p3,p4⟩:=hSw
              simp only[qg]
              go_simp
             simp only[Act.put,qs]
             refine wpAnyH_take (i:=17) (v:= .pointer (some ⟨ge,v,none⟩)) rfl (by kernel_rfl) (by kernel_rfl) (by kernel_rfl) (fun _ _ _ h=>h) (Or.inl ⟨by rfl,?_⟩) hHeld ?_
             ·intro w hSw
              simp only[qg]
              go_simp
             simp only[Act.put,qs]
             refine wpAnyH_ready (rs:=[18]) (by kernel_rfl) (by simp) ?_
             refine AllReadyH.cons rfl (fun K hK=> ?_) AllReadyH.nil
             simp only[qg]
             go_simp
             refine hK.out _ _ KCS.out (fun hHeld=> ?_)
             clear hK K
             clear hHeld
             refine wpAnyH_done (by kernel_rfl) ?_ _
             clear hHeld zz hp0 hp1 hqn hqi hq0 hd0 hdi fe ce ze
             obtain⟨wE,hwE⟩:∃W,(wD.setCell ⟨ge,v,none⟩ (.int .i64 yv)).drew=W:=⟨_,rfl⟩
             have HME:Hid (FoM w0 w1 w8 wE bS ge gm C x.st (x.E.set v yv) x.D):=Lib.hid (by rw[←hwE];exact(HMD.out.setE HFA.out v yv).keeps (Below.refl _ _).drew)
             have HXE1:Hid (wE.heap[bN]? =some (.cells C2.toArray 36 (0,0))):=Lib.hid (by rw[←hwE];exact(heap_ne wD HNG.out.1 v _).trans HXN1.out)
             have HSE:Hid (StA C2 wE wr.heap.size ge gm y):=Lib.hid (by rw[←hwE];exact(HSD.out.setE v _).same (Nat.le_refl _) (fun _ _ _ _ _=>rfl))
             have HWE2:Hid (∀k,k<w1.heap.size→wE.heap[k]? =wr.heap[k]?):=Lib.hid (fun k hk=>by
              have h1:=HFA.out.l1
              have h2:=HFA.out.l2
              have h3:=HBSZ.out
              rw[←hwE]
              refine(heap_ne wD (by omega) v _).trans ((HBD.out.block k ?_).trans (HB.out.block k (by omega)))
              have:=HB.out.size
              omega)
             rw[hwE]
             clear hwE
             have fm:=frozen_block HME.out.made v
             have cm:=HME.out.made.cell (i:=v) (by
              have hD:=(HFX.out).dl
              rw[HVL.out] at hD
              rw[hD];exact hvl)
             have zm:=block_lt HME.out.made
             go_upto_region 26 with fail
             obtain⟨wF,hwF⟩:∃W,wE.setCell ⟨gm,v,none⟩ (.bool true)=W:=⟨_,rfl⟩
             have HMB:Hid (FoM w0 w1 w8 wF bS ge gm C x.st (x.E.set v yv) (x.D.set v true)):=Lib.hid (by rw[←hwF];exact HME.out.setD HFA.out v true)
             have HNM:Hid (bN≠gm):=Lib.hid (by have h1:=HZG.out.2;have h2:=HNB.out;omega)
             have HXN2:Hid (wF.heap[bN]? =some (.cells C2.toArray 36 (0,0))):=Lib.hid (by rw[←hwF];exact(heap_ne wE HNM.out v _).trans HXE1.out)
             have HSB2:Hid (StA C2 wF wr.heap.size ge gm y):=Lib.hid (by rw[←hwF];exact HSE.out.setD v _)
             have HSW:Hid (∀k,k<w1.heap.size→wF.heap[k]? =wr.heap[k]?):=Lib.hid (fun k hk=>by
              have h1:=HFA.out.l1
              have h2:=HFA.out.l2
              have h3:=HFA.out.l3
              rw[←hwF]
              exact(heap_ne wE (by omega) v _).trans (HWE2.out k hk))
             rw[hwF]
             clear hwF fm cm zm
             obtain⟨-,-,-,-,z1,z2,z3,z4,z5⟩:=KP.out _ _ _ _ _ HMB.out
             have zN2:=block_lt HXN2.out
             go_wp2_with (first|(refine wpList_load_mid (by rfl) 36 _ (by rfl) bN 0 (by rfl) C2 _ (range_block HXN2.out) Tryd.underlying36 (by rfl) HJ2.out ?_)|(refine wpList_store_mid (by rfl) 36 _ _ (by rfl) bS 0 C2.toArray (by rfl) (by rfl) (there_block HMB.out.box (by simp[HL2.out,HCL.out])) (by simpa using HJ2.out) HC2.out.one ?_;have HMN:=Lib.hid (HMB.out.put HFA.out HBSZ.out HSB2.out (HCL.out.trans HL2.out.symm));obtain⟨wZ,hwZ⟩:∃W,wF.setCells bS 0 C2.toArray.toList=W:=⟨_,rfl⟩;rw[hwZ];have HMZ:Hid (FoM w0 w1 w8 wZ bS ge gm C2 y (x.E.set v yv) (x.D.set v true)):=Lib.hid (by rw[←hwZ];exact HMN.out);have HSZ:Hid (∀k,k<w1.heap.size→wZ.heap[k]? =wr.heap[k]?):=Lib.hid (fun k hk=>by rw[←hwZ];have h1:=HFA.out.l1;rw[heaps_ne (by omega)];exact HSW.out k hk);clear hwZ))
             go_roundw
             case rel=>exact⟨i+1,⟨y,(j:Int),x.E.set v yv,x.D.set v true⟩,C2,by omega,by go_num,rfl,HMZ.out,HI2.out,HWI.out _ _ _ HSZ.out (HXV.out▸HDP.out _ _ _ _ _ _ _ _ _ HBX.out HFX.out HIS.out HST.out (by rw[HNF.out];exact HN1.out) HWX.out),fun h=>HXV.out▸HNXT.out h⟩
             case measure=>simp[intOf];omega
           ·have HXE:Hid (folNext p F bs s x=⟨y,(j:Int),x.E,x.D⟩):=Lib.hid (by
             unfold folNext
             rw[if_neg (by rw[HNF.out];exact HN1.out),HY.out,if_neg (by rw[HNY.out];exact hy1),HFRJ.out])
            have q1:decide ((ny:Int)=1)=false:=by rw[decide_eq_false_iff_not];omega
            have q2:decide (ny=1)=false:=by rw[decide_eq_false_iff_not];omega
            have q3:((ny:Int)==1)=false:=beq_eq_false_iff_ne.2 (by omega)
            have HXN2:=HXN
            have HMB:=HMA
            have HSB2:=HSA
            have HSW:Hid (∀k,k<w1.heap.size→wA.heap[k]? =wr.heap[k]?):=Lib.hid (fun k hk=>HB.out.block k (by have h1:=HFA.out.l1;have h2:=HBSZ.out;omega))
            clear hy1
            go_wp2_with (first|(refine wpList_load_mid (by rfl) 36 _ (by rfl) bN 0 (by rfl) C2 _ (range_block HXN2.out) Tryd.underlying36 (by rfl) HJ2.out ?_)|(refine wpList_store_mid (by rfl) 36 _ _ (by rfl) bS 0 C2.toArray (by rfl) (by rfl) (there_block HMB.out.box (by simp[HL2.out,HCL.out])) (by simpa using HJ2.out) HC2.out.one ?_;have HMN:=Lib.hid (HMB.out.put HFA.out HBSZ.out HSB2.out (HCL.out.trans HL2.out.symm));obtain⟨wZ,hwZ⟩:∃W,wA.setCells bS 0 C2.toArray.toList=W:=⟨_,rfl⟩;rw[hwZ];have HMZ:Hid (FoM w0 w1 w8 wZ bS ge gm C2 y x.E x.D):=Lib.hid (by rw[←hwZ];exact HMN.out);have HSZ:Hid (∀k,k<w1.heap.size→wZ.heap[k]? =wr.heap[k]?):=Lib.hid (fun k hk=>by rw[←hwZ];have h1:=HFA.out.l1;rw[heaps_ne (by omega)];exact HSW.out k hk);clear hwZ))
            go_roundw
            case rel=>exact⟨i+1,⟨y,(j:Int),x.E,x.D⟩,C2,by omega,by go_num,rfl,HMZ.out,HI2.out,HWI.out _ _ _ HSZ.out (HXE.out▸HDP.out _ _ _ _ _ _ _ _ _ HBX.out HFX.out HIS.out HST.out (by rw[HNF.out];exact HN1.out) HWX.out),fun h=>HXE.out▸HNXT.out h⟩
            case measure=>simp[intOf];omega
       ·obtain⟨st,hst'⟩:∃z,x.st.status=z:=⟨_,rfl⟩
        rw[hst'] at hst c0
        have hq:decide (st=0)=false:=by simpa using hst
        have hq2:(st==0)=false:=by simpa using hst
        clear hst' hst his hi300
        go_wp2_with fail
        go_ret
        exact⟨rfl,HM.out.base⟩
  ·have hi1:(i:Int)<P:=by omega
   have hi2:(0:Int)≤i:=by omega
   have hi3:(i:Int)<vl:=by omega
   have hi4:(i:Int)<12:=by have:=HPV.out.2;omega
   obtain⟨FA,fcap,EA,ea,AA,aa,hci⟩:=hm.st.cells.cin HI0.out.mem (fun f hf=>(HI0.out.fr f hf).regs)
   have hfl:s0.frames.length=1:=by rw[HF00.out.1];rfl
   have hc2:=hci.c2
   rw[hfl] at hc2
   have c2:=(hm.cell 2).trans hc2
   obtain⟨gf,hgf,hgl,hgc⟩:=hci.fr (by rw[hfl];omega)
   subst hgf
   have hrl:=(HI0.out.fr f0 (by rw[HF00.out.1];simp)).regs
   have cr:wr.cell? ⟨gf,2+i,none⟩=some (.int .i64 (f0.regs.getD i 0)):=by
    have h1:=hgc 0 f0 (2+i) (by rw[HF00.out.1];rfl) (by omega)
    rw[show 0*14+(2+i)=2+i by omega,fr_reg f0 (by rw[hrl];omega)] at h1
    exact h1
   obtain⟨rv,hrv⟩:∃z,f0.regs.getD i 0=z:=⟨_,rfl⟩
   rw[hrv] at cr
   have HRV:=Lib.hid hrv
   have ce:=hm.env.getC (i:=i) (by rw[hE];omega)
   have fe:=frozen_block hm.env i
   have HM1:=Lib.hid ((hm.setE HFA.out i rv).setD HFA.out i true)
   have cm:=(hm.setE HFA.out i rv).made.cell (i:=i) (by rw[hD];omega)
   have fm:=frozen_block (hm.setE HFA.out i rv).made i
   have zm:=block_lt (hm.setE HFA.out i rv).made
   clear hm hE hD hpar hci hc2 hfl hgc hrv hrl hsm hdm
   go_wp2_with fail
   go_roundw
   case rel=>exact⟨i+1,E.set i rv,D.set i true,by omega,by go_num,HM1.out,by simp[HEL.out],by simp[HDL.out],fun k hk=>by have h1:=HFA.out.l1;have h2:=HFA.out.l2;have h3:=HFA.out.l3;rw[heap_ne _ (by omega),heap_ne _ (by omega)];exact HSM.out k hk,fun v hv=>(by
    rw[getD_setg] at hv
    by_cases e:v=i∧i<D.length
    ·omega
    ·rw[if_neg e] at hv;have:=HDM.out v hv;omega),fun r hr=>(by
    rw[getD_setg,getD_setg,HEL.out,HDL.out]
    by_cases e:r=i
    ·rw[if_pos ⟨e,by omega⟩,if_pos ⟨e,by omega⟩,e,HRV.out];exact⟨rfl,rfl⟩
    ·rw[if_neg (fun h=>e h.1),if_neg (fun h=>e h.1)];exact HPAR.out r (by omega))⟩
   case measure=>simp[intOf];omega
end Go.Proofs.YtedcjapmmnbamaaDoor
