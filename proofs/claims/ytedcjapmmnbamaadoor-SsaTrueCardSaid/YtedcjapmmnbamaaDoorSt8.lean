/-
  The contract of step.Check: a state that a right program can come to is let through.
-/
import Derived.Test.YtedcjapmmnbamaaDoorSt4
import Derived.Test.YtedcjapmmnbamaaDoorSu3
import Derived.Test.YtedcjapmmnbamaaDoorFnS
namespace Go.Proofs.YtedcjapmmnbamaaDoor
open Go.RowKit Tier
theorem regs_12{l:List Int}(h:l.length=12):∃r0 r1 r2 r3 r4 r5 r6 r7 r8 r9 r10 r11:Int,l=[r0,r1,r2,r3,r4,r5,r6,r7,r8,r9,r10,r11]:=by
 match l,h with
 |[r0,r1,r2,r3,r4,r5,r6,r7,r8,r9,r10,r11],_=>exact⟨r0,r1,r2,r3,r4,r5,r6,r7,r8,r9,r10,r11,rfl⟩
theorem fr_rows{w:World}{B:Nat}{s:St}{FS ES AS:Value}(h:StRows w B s FS ES AS)(hr:∀f∈s.frames,f.regs.length=12):
 ∃FA cap,FS= .slice FA s.frames.length cap∧(0<s.frames.length→∃g,FA=some ⟨g,0,none⟩∧g<w.heap.size∧∀i f j,s.frames[i]? =some f→j<14→w.cell? ⟨g,i*14+j,none⟩=(frCell f)[j]?):=by
 obtain⟨FA,cap,hv,hA⟩:=own_slice h.fr
 refine⟨FA,cap,hv,fun hl=> ?_⟩
 obtain⟨g,h1,h2,h3⟩:=hA hl
 refine⟨g,h1,h2,fun i f j hi hj=> ?_⟩
 have hil:i<s.frames.length:=(gI.1 hi).1
 rw[h3 _ (by omega),frCells_get hr hi hj]
set_option maxRecDepth 100000 in
set_option maxHeartbeats 8000000 in
theorem scheck_any{p:List Fnc}(hc:checkP p=0){B:Nat}(s:St)(FS ES AS:Value)(A:Option Addr)(cap:Nat)(w:World)(ht:Tab w)(hP:ProgAt w (.slice A p.length cap) p)(hi:StInv p s)(hr:StRows w B s FS ES AS):
 Calls Tryd.prog 46 #[.agg #[.slice A p.length cap], .agg (stCells s FS ES AS).toArray] w fun e w' =>e= .returned (.int .i64 0)∧Below w.heap.size w w' :=by
 have hp:=right_of hc
 have hregs:∀f∈s.frames,f.regs.length=12:=fun f hf=>(hi.fr f hf).regs
 obtain⟨FA,fcap,rfl,hFA⟩:=fr_rows hr hregs
 obtain⟨AA,acap,rfl,-,-⟩:=hr.an
 have hl1:=hp.ok.l1
 have hl2:=hp.ok.l2
 have HCK:=Lib.hid (fun(W:World) (h1:Tab W) (h2:ProgAt W (.slice A p.length cap) p)=>pcheck_any p A cap W h1 h2 (by omega) (fun f hf=>by have:=(hp.ok.fn f hf).c2;omega))
 rw[hc] at HCK
 have HT:=Lib.hid ht
 have HP:=Lib.hid hP
 have HI:=Lib.hid hi
 have HFA:=Lib.hid hFA
 have HL:=Lib.hid (stCells_length hi.mem (.slice FA s.frames.length fcap) ES (.slice AA s.answers.length acap))
 have H0:=Lib.hid (stC_0 s (.slice FA s.frames.length fcap) ES (.slice AA s.answers.length acap))
 have H1:=Lib.hid (stC_1 s (.slice FA s.frames.length fcap) ES (.slice AA s.answers.length acap))
 have H2:=Lib.hid (stC_2 s (.slice FA s.frames.length fcap) ES (.slice AA s.answers.length acap))
 have H19:=Lib.hid (stC_19 (.slice FA s.frames.length fcap) ES (.slice AA s.answers.length acap) hi.mem)
 have H21:=Lib.hid (stC_21 (.slice FA s.frames.length fcap) ES (.slice AA s.answers.length acap) hi.mem)
 have HSI:=Lib.hid (info_st (stCells_length hi.mem (.slice FA s.frames.length fcap) ES (.slice AA s.answers.length acap)))
 have t0:=hi.stat0
 have t1:=hi.stat1
 have t2:=hi.fuel0
 have t3:=hi.fuel1
 have t4:=hi.deep
 have t5:=hi.ans
 have t6:=hi.val
 have t7:=hi.done
 obtain⟨n,hn⟩:∃n,s.frames.length=n:=⟨_,rfl⟩
 obtain⟨na,hna⟩:∃n,s.answers.length=n:=⟨_,rfl⟩
 have HN:=Lib.hid hn
 rw[hn] at t4 H0 H1 H2 H19 H21 HFA HL HSI
 rw[hna] at t5 H0 H1 H2 H19 H21 HL HSI
 rw[hn,hna]
 have t7' :n=0↔s.status=1:=by rw[←hn,←t7];exact List.length_eq_zero_iff
 generalize stCells s (.slice FA n fcap) ES (.slice AA na acap)=C at *
 obtain⟨st,hst⟩:∃x,s.status=x:=⟨_,rfl⟩
 obtain⟨vl,hvl⟩:∃x,s.value=x:=⟨_,rfl⟩
 obtain⟨fu,hfu⟩:∃x,s.fuel=x:=⟨_,rfl⟩
 rw[hst] at t0 t1 t6 t7' H0
 rw[hvl] at t6 H1
 rw[hfu] at t2 t3 H19
 have HBB:=Lib.hid (fun(w1:World) (hb:Below (w.heap.size+2) ((w.alloc (.cells #[.slice A p.length cap] 29)).alloc (.cells C.toArray 36)) w1)=>(⟨(hb.block w.heap.size (by omega)).trans (block_alloc (heap_alloc_new w _) _),(hb.block (w.heap.size+1) (by omega)).trans (heap_alloc_new1 w _ _),(((Below.refl w.heap.size w).alloc (Nat.le_refl _) _).alloc (by simp) _).trans (hb.mono (by omega)),hb.size⟩:
  w1.heap[w.heap.size]? =some (.cells #[.slice A p.length cap] 29 (0,0))∧w1.heap[w.heap.size+1]? =some (.cells C.toArray 36 (0,0))∧Below w.heap.size w w1∧_))
 clear ht hP hi hr hFA t7 hn hna hst hvl hfu hregs
 by_cases hs1:st=1
 ·have hn0:n=0:=t7'.2 hs1
  subst hs1 hn0
  go_enter Tryd.func46,Tryd.ntmps46
  go_wp2_with (go_at_call 21;go_must (refine(HCK.out _ (HT.out.keeps (((Below.refl w.heap.size w).alloc (Nat.le_refl _) _).alloc (by simp) _)) (HP.out.keeps (((Below.refl w.heap.size w).alloc (Nat.le_refl _) _).alloc (by simp) _))).mono ?_;rintro e w1 ⟨rfl,hb⟩;have hbb:=HBB.out w1 (hb.mono (by simp));have HB:=Lib.hid hbb;have c0:=cell_block HB.out.1 0;have s0:=(cell_block HB.out.2.1 0).trans (List.getElem?_toArray.trans H0.out);have s1:=(cell_block HB.out.2.1 1).trans (List.getElem?_toArray.trans H1.out);have s2:=(cell_block HB.out.2.1 2).trans (List.getElem?_toArray.trans H2.out);have s19:=(cell_block HB.out.2.1 19).trans (List.getElem?_toArray.trans H19.out);have s21:=(cell_block HB.out.2.1 21).trans (List.getElem?_toArray.trans H21.out);clear hb hbb))
  go_loopw [65] (fun v wr=>v= .int .i64 0∧Below w1.heap.size w1 wr) (fun _ _=>0)
  case atStart=>exact⟨rfl,Below.refl _ _⟩
  case round=>
   obtain⟨rfl,hbr⟩:=hrel
   go_wp2_with fail
   go_ret
   exact⟨rfl,HB.out.2.2.1.trans (hbr.mono HB.out.2.2.1.size)⟩
 ·have hv0:=t6 hs1
  have hn1:n≠0:=fun e=>hs1 (t7'.1 e)
  subst hv0
  have hne1:(st==1)=false:=by simpa using hs1
  have hne2:((n:Int)==0)=false:=by simpa using hn1
  go_enter Tryd.func46,Tryd.ntmps46
  go_wp2_with (go_at_call 21;go_must (refine(HCK.out _ (HT.out.keeps (((Below.refl w.heap.size w).alloc (Nat.le_refl _) _).alloc (by simp) _)) (HP.out.keeps (((Below.refl w.heap.size w).alloc (Nat.le_refl _) _).alloc (by simp) _))).mono ?_;rintro e w1 ⟨rfl,hb⟩;have hbb:=HBB.out w1 (hb.mono (by simp));have HB:=Lib.hid hbb;have c0:=cell_block HB.out.1 0;have s0:=(cell_block HB.out.2.1 0).trans (List.getElem?_toArray.trans H0.out);have s1:=(cell_block HB.out.2.1 1).trans (List.getElem?_toArray.trans H1.out);have s2:=(cell_block HB.out.2.1 2).trans (List.getElem?_toArray.trans H2.out);have s19:=(cell_block HB.out.2.1 19).trans (List.getElem?_toArray.trans H19.out);have s21:=(cell_block HB.out.2.1 21).trans (List.getElem?_toArray.trans H21.out);clear hb hbb))
  go_loopw [65] (fun v wr=>∃k:Nat,k≤n∧v= .int .i64 (k:Int)∧Below w1.heap.size w1 wr) (fun v _=>n-(intOf v).toNat)
  case atStart=>exact⟨0,by omega,rfl,Below.refl _ _⟩
  case round=>
   obtain⟨k,hk,rfl,hbr⟩:=hrel
   have HBR:=Lib.hid hbr
   by_cases hkn:k=n
   ·subst hkn
    go_wp2_with fail
    go_ret
    exact⟨rfl,HB.out.2.2.1.trans (hbr.mono HB.out.2.2.1.size)⟩
   ·have hkn' :k<n:=by omega
    have hk1:(k:Int)<n:=by omega
    have hk2:(0:Int)≤k:=by omega
    have hkw:IntKind.i64.wrap ((k:Int)+1)=k+1:=by rw[IntKind.wrap_i64];omega
    obtain⟨f,hf⟩:∃f,s.frames[k]? =some f:=⟨s.frames[k]'(by rw[HN.out];exact hkn'),gE _⟩
    have hfo:=HI.out.fr f (gM hf)
    obtain⟨g,hg,hgz,hcell⟩:=HFA.out (by omega)
    subst hg
    obtain⟨pg,PC,CA,ccap,cg,M,hpv,hpg,hfn1,-,d2,rfl,hcg,-,hpc1,d40,-,-,-,d44⟩:=ins_at HP.out hfo
    simp only[Value.slice.injEq,true_and] at hpv
    obtain⟨rfl,rfl⟩:=hpv
    have hbw:=HB.out.2.2.1.trans (hbr.mono HB.out.2.2.1.size)
    have z1:=HB.out.2.2.2
    have z2:=hbr.size
    simp at z1
    obtain⟨r0,r1,r2,r3,r4,r5,r6,r7,r8,r9,r10,r11,hreg⟩:=regs_12 hfo.regs
    have g0:=(hcell k f 0 hf (by omega)).trans (show _=some (Value.int .i64 f.fn) from rfl)
    have g1:=(hcell k f 1 hf (by omega)).trans (show _=some (Value.int .i64 f.pc) from rfl)
    rw[Nat.add_zero] at g0
    have g2:=(hcell k f 2 hf (by omega)).trans (show _=some (Value.int .i64 r0) by unfold frCell;rw[hreg];rfl)
    have g3:=(hcell k f 3 hf (by omega)).trans (show _=some (Value.int .i64 r1) by unfold frCell;rw[hreg];rfl)
    have g4:=(hcell k f 4 hf (by omega)).trans (show _=some (Value.int .i64 r2) by unfold frCell;rw[hreg];rfl)
    have g5:=(hcell k f 5 hf (by omega)).trans (show _=some (Value.int .i64 r3) by unfold frCell;rw[hreg];rfl)
    have g6:=(hcell k f 6 hf (by omega)).trans (show _=some (Value.int .i64 r4) by unfold frCell;rw[hreg];rfl)
    have g7:=(hcell k f 7 hf (by omega)).trans (show _=some (Value.int .i64 r5) by unfold frCell;rw[hreg];rfl)
    have g8:=(hcell k f 8 hf (by omega)).trans (show _=some (Value.int .i64 r6) by unfold frCell;rw[hreg];rfl)
    have g9:=(hcell k f 9 hf (by omega)).trans (show _=some (Value.int .i64 r7) by unfold frCell;rw[hreg];rfl)
    have g10:=(hcell k f 10 hf (by omega)).trans (show _=some (Value.int .i64 r8) by unfold frCell;rw[hreg];rfl)
    have g11:=(hcell k f 11 hf (by omega)).trans (show _=some (Value.int .i64 r9) by unfold frCell;rw[hreg];rfl)
    have g12:=(hcell k f 12 hf (by omega)).trans (show _=some (Value.int .i64 r10) by unfold frCell;rw[hreg];rfl)
    have g13:=(hcell k f 13 hf (by omega)).trans (show _=some (Value.int .i64 r11) by unfold frCell;rw[hreg];rfl)
    have hunext:∀u,s.frames[k+1]? =some u→w.cell? ⟨g,(k+1)*14,none⟩=some (.int .i64 u.fn)∧(insOf p f).op=17∧(insOf p f).imm=u.fn:=fun u hu=>by
     refine⟨hcell (k+1) u 0 hu (by omega),?_⟩
     have hl:k+1<s.frames.length:=(gI.1 hu).1
     have e:s.frames=s.frames.take k++f::u::s.frames.drop (k+2):=by
      have e1:f::u::s.frames.drop (k+2)=s.frames.drop k:=by
       rw[List.drop_eq_getElem_cons (i:=k) (by omega),List.drop_eq_getElem_cons hl]
       rw[gE (by omega)] at hf
       rw[gE hl] at hu
       rw[Option.some.inj hf,Option.some.inj hu]
      rw[e1,List.take_append_drop]
     exact HI.out.calls _ _ f u e
    have HUN:=Lib.hid hunext
    rw[←hbw.cell (p:=⟨g,_,none⟩) hgz] at g0 g1 g2 g3 g4 g5 g6 g7 g8 g9 g10 g11 g12 g13
    rw[←hbw.cell (p:=⟨pg,_,none⟩) hpg] at d2
    rw[←hbw.cell (p:=⟨cg,_,none⟩) hcg] at d40 d44
    have b0:wr.cell? ⟨w.heap.size,0,none⟩=some (.slice (some ⟨pg,0,none⟩) p.length cap):=(hbr.cell (p:=⟨w.heap.size,0,none⟩) (by show w.heap.size<w1.heap.size;omega)).trans c0
    have b2:=(hbr.cell (p:=⟨w.heap.size+1,2,none⟩) (by show w.heap.size+1<w1.heap.size;omega)).trans s2
    have zg:g<wr.heap.size:=by omega
    have zp:pg<wr.heap.size:=by omega
    have zc:cg<wr.heap.size:=by omega
    have z3:w.heap.size+1<wr.heap.size:=by omega
    have z4:w.heap.size<wr.heap.size:=by omega
    have fn0:=hfo.fn0
    have pc0:=hfo.pc0
    have fnb:decide (f.fn<0)=false:=by simpa using fn0
    have pcb:decide (f.pc<0)=false:=by simpa using pc0
    have pcc:decide ((M:Int)≤f.pc)=false:=by simpa using hpc1
    clear hcell hunext hf hreg
    by_cases hk3:k+1<n
    ·have hk4:(k:Int)+1<n:=by omega
     have hk5:(0:Int)≤(k:Int)+1:=by omega
     obtain⟨u,hu⟩:∃u,s.frames[k+1]? =some u:=⟨s.frames[k+1]'(by rw[HN.out];exact hk3),gE _⟩
     obtain⟨gu,ho,him⟩:=HUN.out u hu
     rw[←hbw.cell (p:=⟨g,_,none⟩) hgz] at gu
     rw[ho] at d40
     rw[him] at d44
     clear ho him hu
     go_wp2_with fail
     go_quiet (fail)
     go_wp2_with fail
     go_roundw
     case rel=>exact⟨k+1,by omega,by go_num,HBR.out.trans (by have hb:=Below.refl wr.heap.size wr;exact(Below.mono (by exact Bq) (HBR.out.size)))⟩
     case measure=>simp[intOf];omega
    ·have hk4:decide ((k:Int)+1<n)=false:=by simp;omega
     go_wp2_with fail
     go_quiet (fail)
     go_wp2_with fail
     go_roundw
     case rel=>exact⟨k+1,by omega,by go_num,HBR.out.trans (by have hb:=Below.refl wr.heap.size wr;exact(Below.mono (by exact Bq) (HBR.out.size)))⟩
     case measure=>simp[intOf];omega
theorem st_22{l:List Value}(h:l.length=22):∃d0 d1 d2 d3 d4 d5 d6 d7 d8 d9 d10 d11 d12 d13 d14 d15 d16 d17 d18 d19 d20 d21:Value,l=[d0,d1,d2,d3,d4,d5,d6,d7,d8,d9,d10,d11,d12,d13,d14,d15,d16,d17,d18,d19,d20,d21]:=by
 match l,h with
 |[d0,d1,d2,d3,d4,d5,d6,d7,d8,d9,d10,d11,d12,d13,d14,d15,d16,d17,d18,d19,d20,d21],_=>exact⟨d0,d1,d2,d3,d4,d5,d6,d7,d8,d9,d10,d11,d12,d13,d14,d15,d16,d17,d18,d19,d20,d21,rfl⟩
theorem range_pre{W:World}{b:Nat}{cs:List Value}{v:Value}{t:TypeId}{fr:Nat×Nat}(h:W.heap[b]? =some (.cells (cs++[v]).toArray t fr)):W.rangeAt b 0 cs:=fun j u hu=>by
 rw[Nat.zero_add,cell_block h,List.getElem?_toArray,List.getElem?_append_left (gI.1 hu).1];exact hu
theorem strows_setCells{B b:Nat}{s:St}{FS ES AS:Value}{t:TypeId}(h1:42≠t)(h2:3≠t):∀(vs:List Value) (o:Nat) {w:World} {c:Array Value},StRows w B s FS ES AS→w.heap[b]? =some (.cells c t (0,0))→StRows (w.setCells b o vs) B s FS ES AS
 |[],_,_,_,h,_=>h
 |v::vs,o,_,_,h,hb=>strows_setCells h1 h2 vs (o+1) (h.set hb h1 h2 o v) (block_set hb o v)
theorem stinv_small{p:List Fnc}{s:St}(h:StInv p s):s.events.length≤1000000∧s.answers.length≤1000000:=by
 have:=h.ev;have:=h.fuel0;have:=h.ans
 omega
set_option maxRecDepth 100000 in
set_option maxHeartbeats 8000000 in
theorem snext_any{p:List Fnc}(hc:checkP p=0){B:Nat}(s:St)(FS ES AS:Value)(A:Option Addr)(cap:Nat)(w:World)(ht:Tab w)(hP:ProgAt w (.slice A p.length cap) p)(hi:StInv p s)(hr:StRows w B s FS ES AS):
 Calls Tryd.prog 23 #[.agg #[.slice A p.length cap], .agg (stCells s FS ES AS).toArray] w fun e w' =>(∃v,e= .returned (.tuple #[v, .int .i64 0])∧StVal w' w.heap.size v (nextSt p s))∧Below w.heap.size w w' :=by
 have hp:=right_of hc
 have HCK:=Lib.hid (fun(W:World) (h1:Tab W) (h2:ProgAt W (.slice A p.length cap) p) (h3:StRows W B s FS ES AS)=>scheck_any hc s FS ES AS A cap W h1 h2 hi h3)
 have HOWN:=Lib.hid (fun(W:World) (h3:StRows W B s FS ES AS)=>own_any s FS ES AS W h3 hi.mem hi.deep (stinv_small hi).1 (stinv_small hi).2)
 have HSI:=Lib.hid (info_st (stCells_length hi.mem FS ES AS))
 have HT:=Lib.hid ht
 have HP:=Lib.hid hP
 have HR:=Lib.hid hr
 have HI:=Lib.hid hi
 clear ht hP hr hi
 generalize stCells s FS ES AS=C at *
 have hz:=zero_st
 obtain⟨s4,hs4⟩:∃s4,nextSt p s=s4:=⟨_,rfl⟩
 rw[hs4]
 have HI4:Hid (StInv p s4):=Lib.hid (by rw[←hs4];exact HI.out.next hp)
 have HS4:=Lib.hid hs4
 clear hs4
 have hb0:=Lib.hid ((((Below.refl w.heap.size w).alloc (Nat.le_refl _) (.cells #[.slice A p.length cap] 29)).alloc (by simp) (.cells C.toArray 36)).alloc (by simp;omega) (.cells zeroV.toArray 36))
 have HBB:=Lib.hid (fun(w1:World) (hb:Below (w.heap.size+3) (((w.alloc (.cells #[.slice A p.length cap] 29)).alloc (.cells C.toArray 36)).alloc (.cells zeroV.toArray 36)) w1)=>(⟨(hb.block w.heap.size (by omega)).trans (block_alloc (block_alloc (heap_alloc_new w _) _) _),(hb.block (w.heap.size+1) (by omega)).trans (block_alloc (heap_alloc_new1 w _ _) _),(hb.block (w.heap.size+2) (by omega)).trans (by have:=heap_alloc_new ((w.alloc (.cells #[.slice A p.length cap] 29)).alloc (.cells C.toArray 36)) (.cells zeroV.toArray 36);simpa using this),hb0.out.trans (hb.mono (by omega)),by have:=hb.size;simp at this;omega⟩:
  w1.heap[w.heap.size]? =some (.cells #[.slice A p.length cap] 29 (0,0))∧w1.heap[w.heap.size+1]? =some (.cells C.toArray 36 (0,0))∧w1.heap[w.heap.size+2]? =some (.cells zeroV.toArray 36 (0,0))∧Below w.heap.size w w1∧w.heap.size+3≤w1.heap.size))
 have HR0:=Lib.hid (range_block (block_alloc (heap_alloc_new1 w (.cells #[.slice A p.length cap] 29) (.cells C.toArray 36)) (.cells zeroV.toArray 36)))
 go_enter Tryd.func23,Tryd.ntmps23
 go_wp2_with (first|(refine wpList_load_mid (by rfl) 36 _ (by rfl) (w.heap.size+1) 0 (by rfl) C _ HR0.out Tryd.underlying36 (by rfl) HSI.out ?_)|(go_at_call 46;go_must (refine(HCK.out _ (HT.out.keeps hb0.out) (HP.out.keeps hb0.out) (HR.out.below hb0.out)).mono ?_;rintro e w1 ⟨rfl,hb⟩;have hbb:=HBB.out w1 (hb.mono (by simp));have HB:=Lib.hid hbb;have hz1:=hbb.2.2.2.2;clear hb hbb)))
 have c0p:w1.cell? ⟨w.heap.size,0,none⟩=some (.slice A p.length cap):=(cell_block HB.out.1 0).trans rfl
 have r1:w1.rangeAt (w.heap.size+1) 0 C:=range_block HB.out.2.1
 refine wp_region_held_drew (S:=fun w' =>w'.cell? ⟨w.heap.size,0,none⟩=some (.slice A p.length cap)∧w'.rangeAt (w.heap.size+1) 0 C) (by kernel_rfl) ⟨c0p,(World.rangeAt_drew _ _ _ _).2 r1⟩ (fun hHeld=> ?_)
 refine' wpAnyH_take (i:=0) rfl (by kernel_rfl) (by kernel_rfl) (by kernel_rfl) (fun _ _ _ h=>h) (yieldsIf_load_mid (by rfl) 36 _ rfl (w.heap.size+1) 0 rfl C _ (fun w hSw=>hSw.2) Tryd.underlying36 (by rfl) HSI.out) hHeld ?_
 simp only[Act.put,qs]
 refine wpAnyH_take (i:=2) (v:= .agg #[.slice A p.length cap]) rfl (by kernel_rfl) (by kernel_rfl) (by kernel_rfl) (fun _ _ _ h=>h) (Or.inl ⟨by rfl,?_⟩) hHeld ?_
 ·intro w hSw
  have hq:=hSw.1
  simp only[qg]
  go_simp
 simp only[Act.put,qs]
 refine wpAnyH_ready (rs:=[1]) (by kernel_rfl) (by simp) ?_
 refine AllReadyH.cons rfl (fun K hK=> ?_) AllReadyH.nil
 simp only[qg]
 go_simp
 refine(HOWN.out _ (HR.out.below (HB.out.2.2.2.1.drew))).mono ?_
 rintro e w2 ⟨⟨v2,rfl,hv2⟩,hb2'⟩
 have hb2:Below w1.heap.size w1 w2:=(Below.refl w1.heap.size w1).drew.trans hb2'
 obtain⟨FS2,ES2,AS2,rfl,hr2'⟩:=hv2
 have HR2:Hid (StRows w2 w1.heap.size s FS2 ES2 AS2):=Lib.hid hr2'
 obtain⟨d0,d1,d2,d3,d4,d5,d6,d7,d8,d9,d10,d11,d12,d13,d14,d15,d16,d17,d18,d19,d20,d21,hD⟩:=st_22 (stCells_length HI.out.mem FS2 ES2 AS2)
 rw[hD]
 have HD:=Lib.hid hD
 have HB2:=Lib.hid hb2
 have hz2:=hb2.size
 have KS:=Lib.hid (fun(w' :World) (hb:Below w1.heap.size w1 w')=>(⟨(hb.cell (p:=⟨w.heap.size,0,none⟩) (by show w.heap.size<_;omega)).trans c0p,range_block ((hb.block (w.heap.size+1) (by omega)).trans HB.out.2.1)⟩:w'.cell? ⟨w.heap.size,0,none⟩=some (.slice A p.length cap)∧w'.rangeAt (w.heap.size+1) 0 C))
 clear hb2' hr2' hD hHeld hb2
 refine hK.out _ _ (KS.out _ HB2.out) (fun hHeld=> ?_)
 clear hK K
 refine wpAnyH_ready (rs:=[3]) (by kernel_rfl) (by simp) ?_
 refine AllReadyH.cons rfl (fun K hK=> ?_) AllReadyH.nil
 simp only[qg]
 go_simp
 refine hK.out _ _ (KS.out _ HB2.out) (fun hHeld=> ?_)
 clear hK K
 refine wpAnyH_ready (rs:=[4]) (by kernel_rfl) (by simp) ?_
 refine AllReadyH.cons rfl (fun K hK=> ?_) AllReadyH.nil
 simp only[qg]
 go_simp
 refine hK.out _ _ (KS.out _ (HB2.out.alloc HB2.out.size _)) (fun hHeld=> ?_)
 clear hK K
 refine wpAnyH_ready (rs:=[5]) (by kernel_rfl) (by simp) ?_
 refine AllReadyH.cons rfl (fun K hK=> ?_) AllReadyH.nil
 simp only[qg]
 go_simp
 refine hK.out _ _ (KS.out _ (HB2.out.alloc HB2.out.size _)) (fun hHeld=> ?_)
 clear hK K hHeld KS
 refine wpAnyH_done (by kernel_rfl) ?_ _
 obtain⟨w3,hw3⟩:∃w3,w2.alloc (.cells #[d0,d1,d2,d3,d4,d5,d6,d7,d8,d9,d10,d11,d12,d13,d14,d15,d16,d17,d18,d19,d20,d21, .slice A p.length cap] 124)=w3:=⟨_,rfl⟩
 rw[hw3]
 have HE3:Hid (EngAt w1 w3 w2.heap.size (.slice A p.length cap) s FS2 ES2 AS2):=Lib.hid (by
  rw[←hw3]
  refine⟨by rw[HD.out];exact heap_alloc_new w2 _,?_,HB2.out.size,HB2.out.alloc HB2.out.size _⟩
  exact HR2.out.below ((Below.refl _ _).alloc (Nat.le_refl _) _))
 have HP1:=Lib.hid (HP.out.keeps HB.out.2.2.2.1)
 obtain⟨E,hE⟩:∃E,w2.heap.size=E:=⟨_,rfl⟩
 rw[hE] at HE3⊢
 clear hw3 hE HR2 HD HB2 hz2 c0p r1 HOWN HCK HBB hb0 HT HR0 HSI
 by_cases hs:s.status=0
 ·have q0:=(HE3.out.cellC HI.out.mem (i:=0) (by omega)).trans (stC_0 _ _ _ _)
  rw[hs] at q0
  have HNX:=Lib.hid (enext_any hp HE3.out HP1.out HI.out hs)
  have hst:stepSt p s=s4:=by rw[←HS4.out];unfold nextSt;rw[if_pos hs]
  rw[hst] at HNX
  clear hst hs
  go_wp2_with (first
  |(go_at_call 48;go_must (refine HNX.out.mono ?_;rintro e w4 ⟨rfl,FS4,ES4,AS4,h4⟩;have H4:=Lib.hid h4;clear h4;have HR4:=Lib.hid (range_pre H4.out.blk);have HSI4:=Lib.hid (info_st (stCells_length HI4.out.mem FS4 ES4 AS4));have HOWN:=Lib.hid (own_any s4 FS4 ES4 AS4 w4 H4.out.rows HI4.out.mem HI4.out.deep (stinv_small HI4.out).1 (stinv_small HI4.out).2);generalize stCells s4 FS4 ES4 AS4=C4 at *))
  |(refine wpList_load_mid (by rfl) 36 _ (by rfl) E 0 (by rfl) C4 _ HR4.out Tryd.underlying36 (by rfl) HSI4.out ?_)
  |(go_at_call 47;go_must (refine HOWN.out.mono ?_;rintro e w5 ⟨⟨v5,rfl,FS5,ES5,AS5,rfl,hr5⟩,hb5⟩;have HB5:Hid (Below w1.heap.size w1 w5):=Lib.hid (H4.out.below.trans (hb5.mono H4.out.below.size));have HR5:Hid (StRows w5 w.heap.size s4 FS5 ES5 AS5):=Lib.hid (hr5.base (by have:=H4.out.below.size;have:=HB.out.2.2.2.2;omega));have HL5:Hid ((stCells s4 FS5 ES5 AS5).length=22):=Lib.hid (stCells_length HI4.out.mem FS5 ES5 AS5);have HSI5:=Lib.hid (info_st HL5.out);have HO5:=Lib.hid (stC_one HR5.out);have HTH:=Lib.hid (there_block (n:=(stCells s4 FS5 ES5 AS5).length) ((HB5.out.block (w.heap.size+2) (by omega)).trans HB.out.2.2.1) (by rw[HL5.out];exact Nat.le_refl _));clear hr5 hb5))
  |(refine wpList_store_mid (by rfl) 36 _ _ (by rfl) (w.heap.size+2) 0 (stCells s4 FS5 ES5 AS5).toArray (by rfl) (by rfl) HTH.out (by simpa using HSI5.out) HO5.out ?_))
  have hrd:=run_loadVar_mid (P:=Tryd.prog) _ _ _ 36 (stCells s4 FS5 ES5 AS5) _ (World.rangeAt_setCells_same w5 (w.heap.size+2) 0 (stCells s4 FS5 ES5 AS5) HTH.out) Tryd.underlying36 (by rfl) HSI5.out
  refine bodyPost_ret (v:= .tuple #[.agg (stCells s4 FS5 ES5 AS5).toArray, .int .i64 0]) (results_cell2 Tryd.results23 _ _ _ _ _ ?_ hrd) rfl ⟨⟨_,rfl,FS5,ES5,AS5,rfl,?_⟩,?_⟩
  ·rfl
  ·exact strows_setCells (by decide) (by decide) _ _ HR5.out ((HB5.out.block (w.heap.size+2) (by omega)).trans HB.out.2.2.1)
  ·exact below_setCells (by simp) _ _ _ (HB.out.2.2.2.1.trans (HB5.out.mono HB.out.2.2.2.1.size))
 ·have q0:=(HE3.out.cellC HI.out.mem (i:=0) (by omega)).trans (stC_0 _ _ _ _)
  have hq:(s.status==0)=false:=by simpa using hs
  have hst:s=s4:=by rw[←HS4.out];unfold nextSt;rw[if_neg hs]
  obtain⟨st,hst'⟩:∃x,s.status=x:=⟨_,rfl⟩
  rw[hst'] at q0 hq
  have H4:Hid (EngAt w1 w3 E (.slice A p.length cap) s4 FS2 ES2 AS2):=Lib.hid (hst▸HE3.out)
  clear hst hst' hs
  have HR4:=Lib.hid (range_pre H4.out.blk)
  have HSI4:=Lib.hid (info_st (stCells_length HI4.out.mem FS2 ES2 AS2))
  have HOWN:=Lib.hid (own_any s4 FS2 ES2 AS2 w3 H4.out.rows HI4.out.mem HI4.out.deep (stinv_small HI4.out).1 (stinv_small HI4.out).2)
  generalize stCells s4 FS2 ES2 AS2=C4 at *
  go_wp2_with (first
  |(refine wpList_load_mid (by rfl) 36 _ (by rfl) E 0 (by rfl) C4 _ HR4.out Tryd.underlying36 (by rfl) HSI4.out ?_)
  |(go_at_call 47;go_must (refine HOWN.out.mono ?_;rintro e w5 ⟨⟨v5,rfl,FS5,ES5,AS5,rfl,hr5⟩,hb5⟩;have HB5:Hid (Below w1.heap.size w1 w5):=Lib.hid (H4.out.below.trans (hb5.mono H4.out.below.size));have HR5:Hid (StRows w5 w.heap.size s4 FS5 ES5 AS5):=Lib.hid (hr5.base (by have:=H4.out.below.size;have:=HB.out.2.2.2.2;omega));have HL5:Hid ((stCells s4 FS5 ES5 AS5).length=22):=Lib.hid (stCells_length HI4.out.mem FS5 ES5 AS5);have HSI5:=Lib.hid (info_st HL5.out);have HO5:=Lib.hid (stC_one HR5.out);have HTH:=Lib.hid (there_block (n:=(stCells s4 FS5 ES5 AS5).length) ((HB5.out.block (w.heap.size+2) (by omega)).trans HB.out.2.2.1) (by rw[HL5.out];exact Nat.le_refl _));clear hr5 hb5))
  |(refine wpList_store_mid (by rfl) 36 _ _ (by rfl) (w.heap.size+2) 0 (stCells s4 FS5 ES5 AS5).toArray (by rfl) (by rfl) HTH.out (by simpa using HSI5.out) HO5.out ?_))
  have hrd:=run_loadVar_mid (P:=Tryd.prog) _ _ _ 36 (stCells s4 FS5 ES5 AS5) _ (World.rangeAt_setCells_same w5 (w.heap.size+2) 0 (stCells s4 FS5 ES5 AS5) HTH.out) Tryd.underlying36 (by rfl) HSI5.out
  refine bodyPost_ret (v:= .tuple #[.agg (stCells s4 FS5 ES5 AS5).toArray, .int .i64 0]) (results_cell2 Tryd.results23 _ _ _ _ _ ?_ hrd) rfl ⟨⟨_,rfl,FS5,ES5,AS5,rfl,?_⟩,?_⟩
  ·rfl
  ·exact strows_setCells (by decide) (by decide) _ _ HR5.out ((HB5.out.block (w.heap.size+2) (by omega)).trans HB.out.2.2.1)
  ·exact below_setCells (by simp) _ _ _ (HB.out.2.2.2.1.trans (HB5.out.mono HB.out.2.2.2.1.size))
end Go.Proofs.YtedcjapmmnbamaaDoor
