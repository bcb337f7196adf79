/-
  Plain law: an order of blocks in which each stands behind some block that leads to it. No program is in sight.
-/
import Derived.Test.YtedcjapmmnbamaaDoorLib
import Derived.Test.YtedcjapmmnbamaaDoorSsM
import Derived.Test.YtedcjapmmnbamaaDoorSu1
import Derived.Deep.CutBlock
import Derived.Deep.CutRange
import Derived.Deep.DeepCutAuto
namespace Tier
structure OS where
 seen:List Bool
 l:List Nat
def ordIn(x:OS)(n:Nat):OS:=if x.seen.getD n false=true then x else⟨x.seen.set n true,x.l++[n]⟩
def ordStep(nx:Nat→List Nat)(x:OS)(i:Nat):OS:=(nx (x.l.getD i 0)).foldl ordIn x
def ordTo(nx:Nat→List Nat)(N k:Nat):OS:=(List.range k).foldl (ordStep nx) ⟨(List.replicate N false).set 0 true,[0]⟩
theorem ordTo_succ(nx:Nat→List Nat)(N k:Nat):ordTo nx N (k+1)=ordStep nx (ordTo nx N k) k:=by
 unfold ordTo
 rw[List.range_succ,List.foldl_append];rfl
structure OInv(N:Nat)(x:OS):Prop where
 len:x.seen.length=N
 mem:∀n,n∈x.l↔n<N∧x.seen.getD n false=true
 nodup:x.l.Nodup
 fst:∃t,x.l=0::t
theorem getD_set_b(l:List Bool){i:Nat}(hi:i<l.length)(j:Nat):(l.set i true).getD j false=if j=i then true else l.getD j false:=by
 rw[gD,List.getElem?_set,gD]
 by_cases e:i=j
 ·subst e;rw[if_pos rfl,if_pos hi,if_pos rfl];rfl
 ·rw[if_neg e,if_neg (fun h=>e h.symm)]
theorem OInv.start{N:Nat}(h:0<N):OInv N ⟨(List.replicate N false).set 0 true,[0]⟩:=by
 refine⟨by simp,fun n=> ?_,by simp,⟨[],rfl⟩⟩
 rw[getD_set_b _ (by simpa using h)]
 constructor
 ·intro hn
  have e:n=0:=by simpa using hn
  subst e
  exact⟨h,by rw[if_pos rfl]⟩
 ·rintro⟨h1,h2⟩
  by_cases e:n=0
  ·subst e;simp
  ·rw[if_neg e,gD,List.getElem?_replicate,if_pos h1] at h2
   cases h2
theorem OInv.put{N:Nat}{x:OS}(h:OInv N x){n:Nat}(hn:n<N):OInv N (ordIn x n):=by
 unfold ordIn
 by_cases e:x.seen.getD n false=true
 ·rw[if_pos e];exact h
 ·rw[if_neg e]
  refine⟨by simpa using h.len,fun m=> ?_,?_,?_⟩
  ·show m∈x.l++[n]↔_
   rw[List.mem_append,h.mem,getD_set_b _ (by rw[h.len];exact hn)]
   by_cases em:m=n
   ·subst em
    simp[hn]
   ·simp[em]
  ·show(x.l++[n]).Nodup
   rw[List.nodup_append]
   refine⟨h.nodup,by simp,fun a ha c hc=> ?_⟩
   have ec:c=n:=by simpa using hc
   subst ec
   rintro rfl
   exact e ((h.mem a).1 ha).2
  ·obtain⟨t,ht⟩:=h.fst
   exact⟨t++[n],by show x.l++[n]=_;rw[ht];rfl⟩
theorem OInv.fold{N:Nat}:∀(l:List Nat) {x:OS},OInv N x→(∀n∈l,n<N)→OInv N (l.foldl ordIn x)
 |[],_,h,_=>h
 |n::l,_,h,hl=>OInv.fold l (h.put (hl n (.head _))) (fun m hm=>hl m (.tail _ hm))
theorem OInv.le{N:Nat}{x:OS}(h:OInv N x):x.l.length≤N:=by
 have h1:x.l ⊆ List.range N:=fun n hn=>List.mem_range.2 ((h.mem n).1 hn).1
 have:=(List.nodup_iff_count.1 h.nodup)
 have h2:=h.nodup.length_le_of_subset h1
 simpa using h2
theorem ordIn_pre(x:OS)(n:Nat):∃t,(ordIn x n).l=x.l++t:=by
 unfold ordIn
 split
 ·exact⟨[],by simp⟩
 ·exact⟨[n],rfl⟩
theorem fold_pre:∀(l:List Nat) (x:OS),∃t,(l.foldl ordIn x).l=x.l++t
 |[],x=>⟨[],by simp⟩
 |n::l,x=>by
  obtain⟨t,ht⟩:=ordIn_pre x n
  obtain⟨u,hu⟩:=fold_pre l (ordIn x n)
  exact⟨t++u,by rw[List.foldl_cons,hu,ht,List.append_assoc]⟩
theorem fold_seen{N:Nat}:∀(l:List Nat) {x:OS},OInv N x→(∀n∈l,n<N)→∀n∈l,n∈(l.foldl ordIn x).l
 |[],_,_,_,n,hn=>by cases hn
 |m::l,x,h,hl,n,hn=>by
  have hm:=hl m (.head _)
  have hp:=h.put hm
  rcases List.mem_cons.1 hn with rfl|hn
  ·obtain⟨t,ht⟩:=fold_pre l (ordIn x n)
   rw[List.foldl_cons,ht,List.mem_append]
   left
   unfold ordIn
   split
   ·next e=>exact(h.mem n).2 ⟨hm,e⟩
   ·simp
  ·exact fold_seen l hp (fun k hk=>hl k (.tail _ hk)) n hn
theorem fold_done{N:Nat}:∀(l:List Nat) {x:OS},OInv N x→(∀n∈l,n∈x.l)→l.foldl ordIn x=x
 |[],_,_,_=>rfl
 |n::l,x,h,hl=>by
  have e:ordIn x n=x:=by
   unfold ordIn
   rw[if_pos ((h.mem n).1 (hl n (.head _))).2]
  rw[List.foldl_cons,e]
  exact fold_done l h (fun k hk=>hl k (.tail _ hk))
end Tier
namespace Go.Proofs.YtedcjapmmnbamaaDoor
open Go.RowKit Tier
def BoolR(w:World)(b:Nat)(l:List Bool):Prop:=w.heap[b]? =some (.cells (l.map Value.bool).toArray 4 (0,0))
theorem BoolR.lt{w:World}{b:Nat}{l:List Bool}(h:BoolR w b l):b<w.heap.size:=(Array.getElem?_eq_some_iff.1 h).1
theorem BoolR.cell{w:World}{b:Nat}{l:List Bool}(h:BoolR w b l){i:Nat}(hi:i<l.length):w.cell? ⟨b,i,none⟩=some (.bool (l.getD i false)):=by
 rw[cell_block h,List.getElem?_toArray,List.getElem?_map,gE hi,gD,gE hi];rfl
theorem BoolR.set{w:World}{b:Nat}{l:List Bool}(h:BoolR w b l)(i:Nat)(x:Bool):BoolR (w.setCell ⟨b,i,none⟩ (.bool x)) b (l.set i x):=by
 unfold BoolR at *
 simp only[World.setCell,Array.getElem?_modify,if_true,h,Option.map_some]
 simp[List.map_set]
theorem infoB:(Tryd.prog.info? 4).map (fun i=>(i.zero,i.size,i.bytes))=some (some (.bool false),1,1):=by kernel_rfl
theorem make_boolR(N:Nat)(hN:N≤40)(w:World):(Instr.makeSlice 32 (.int .i64 (N:Int)) (.int .i64 (N:Int))).run Tryd.prog w= .ok (.slice (some ⟨w.heap.size,0,none⟩) N N) (w.alloc (.cells (madeCells #[.bool false] N) 4)):=by
 have:=run_make_row' (P:=Tryd.prog) 32 4 (.bool false) 1 Tryd.underlying32 infoB rfl .i64 .i64 N (by omega) (by omega) w
 exact this
theorem made_bR(n:Nat):madeCells #[Value.bool false] n=((List.replicate n false).map Value.bool).toArray:=by
 apply Array.ext_getElem?
 intro i
 simp only[madeCells,List.map_replicate]
 by_cases h:i<n
 ·simp[h,Nat.mod_one]
 ·simp[h]
structure OW(w wr:World)(A:Option Addr)(cap:Nat)(x:OS):Prop where
 seen:BoolR wr w.heap.size x.seen
 row:wr.ownsRow (w.heap.size+1) 3 1 (.slice A x.l.length cap) x.l.length ((natI x.l).map (Value.int .i64))
 below:Below w.heap.size w wr
section
variable {w wr w' :World}{A:Option Addr}{cap:Nat}{x:OS}
theorem OW.keeps(h:OW w wr A cap x)(hb:Below wr.heap.size wr w'):OW w w' A cap x:=⟨(hb.block _ h.seen.lt).trans h.seen,own_below h.row hb,h.below.trans (hb.mono h.below.size)⟩
theorem OW.push(h:OW w wr A cap x)(n:Nat){w1:World}{g cap' :Nat}
 (hg:((wr.setCell ⟨w.heap.size,n,none⟩ (.bool true)).alloc (.cells #[.int .i64 (n:Int)] 3)).grownBy w1 (Value.slice A x.l.length cap).ownBlock)
 (ho:w1.ownsRow (w.heap.size+1) 3 1 (.slice (some ⟨g,0,none⟩) (x.l.length+1) cap') (x.l.length+1) ((natI x.l).map (Value.int .i64)++[.int .i64 (n:Int)])):
 OW w w1 (some ⟨g,0,none⟩) cap' ⟨x.seen.set n true,x.l++[n]⟩:=by
 have hs:=h.seen.lt
 have hrow:∀k,(Value.slice A x.l.length cap).ownBlock=some k→w.heap.size+1≤k:=fun k hk=>(World.ownsRow.lt h.row k hk).1
 have hlen:(x.l++[n]).length=x.l.length+1:=by simp
 refine⟨?_,?_,?_⟩
 ·have h1:=h.seen.set n true
  unfold BoolR at *
  rw[hg.block _ (by simp;omega) (fun e=>by have:=hrow _ e.symm;omega),Below.heap_alloc _ _ _ (by simpa using hs)]
  exact h1
 ·show w1.ownsRow _ _ _ (.slice _ (x.l++[n]).length _) (x.l++[n]).length _
  rw[hlen];simpa [natI] using ho
 ·have hb1:Below w.heap.size w (wr.setCell ⟨w.heap.size,n,none⟩ (.bool true)):=h.below.setCell (by simp) _
  exact(hb1.alloc (by simp;omega) _).grown hg (by simp;omega) (fun k hk=>by have:=hrow k hk;omega)
end
theorem OW.start(w:World)(N:Nat):OW w ((w.alloc (.cells ((madeCells #[Value.bool false] N).setIfInBounds 0 (.bool true)) 4)).alloc (.cells #[.int .i64 0] 3)) (some ⟨w.heap.size+1,0,none⟩) 1 ⟨(List.replicate N false).set 0 true,[0]⟩:=by
 refine⟨?_,?_,?_⟩
 ·unfold BoolR
  rw[Below.heap_alloc _ _ _ (by simp),heap_alloc_new,made_bR]
  simp[List.map_set]
  rw[←List.toArray_replicate,List.setIfInBounds_toArray]
 ·refine⟨by simp[natI], .inr ⟨w.heap.size+1,1,#[.int .i64 0],rfl,by omega,?_,by simp,by unfold maxLen;omega,by simp,by simp[natI]⟩⟩
  have:=heap_alloc_new (w.alloc (.cells ((madeCells #[Value.bool false] N).setIfInBounds 0 (.bool true)) 4)) (.cells #[.int .i64 0] 3)
  simpa using this
 ·exact((Below.refl w.heap.size w).alloc (Nat.le_refl _) _).alloc (by simp) _
set_option maxRecDepth 100000 in
set_option maxHeartbeats 8000000 in
theorem order_any(w0:World)(p:List Fnc)(k:Nat)(F:Fnc)(bs:List BR)(O:List Nat)(b:Nat)(c:SC)(s:SB)(V:SK→Value)(w:World)(ro:SRo w0 c p k F bs O)(_h0:w0.heap.size≤b)(hw:Below w0.heap.size w0 w)(h:SbAt w b c s V)
 (hnx:∀i,i<bs.length→∀n∈nxI F (hdA F i),n<bs.length) (hn40:∀i,i<bs.length→(nxI F (hdA F i)).length≤40) (hN0:0<bs.length) (hN40:bs.length≤40):
 Calls Tryd.prog 28 #[.pointer (some ⟨b,0,none⟩)] w fun e w' =>(∃(K:Nat) (A:Option Addr) (cap:Nat),e= .returned (.slice A K cap)∧(ordTo (fun i=>nxI F (hdA F i)) bs.length K).l.length=K∧
  w'.ownsRow (w.heap.size+1) 3 1 (.slice A K cap) K ((natI (ordTo (fun i=>nxI F (hdA F i)) bs.length K).l).map (Value.int .i64)))∧Below w.heap.size w w' :=by
 obtain⟨gb,Bb,hbv,hblk⟩:=ro.blk
 have zgb:=block_lt hblk.blk
 have HBLK:=Lib.hid hblk
 have HBOK:=Lib.hid ro.bok
 have HNX:=Lib.hid hnx
 have HN40:=Lib.hid hn40
 obtain⟨N,hN⟩:∃n,bs.length=n:=⟨_,rfl⟩
 have HN:=Lib.hid hN
 rw[hN] at hbv hN0 hN40 HNX⊢
 obtain⟨i0,hi,hz0,hz1,hz2⟩:=info_parts infoI
 have hmk:=make_boolR N hN40
 have hmz:(madeCells #[Value.bool false] N)[0]? =some (.bool false):=by
  rw[made_bR,List.getElem?_toArray,List.getElem?_map,List.getElem?_replicate,if_pos hN0];rfl
 have k5:w.cell? ⟨b,5,none⟩=some (.slice (some ⟨gb,0,none⟩) N N):=(h.cell 5).trans (by show some c.bv=_;rw[hbv])
 have HK5:=Lib.hid k5
 have zb:=h.lt
 have hNi:(0:Int)<N:=by omega
 have HB0:=Lib.hid hw
 have HX0:=Lib.hid (OInv.start hN0)
 obtain⟨nx,hnxd⟩:∃f,(fun i=>nxI F (hdA F i))=f:=⟨_,rfl⟩
 have HNXD:=Lib.hid hnxd
 rw[hnxd]
 clear ro hw h hnx hn40 hN hnxd hblk
 go_enter Tryd.func28,Tryd.ntmps28
 go_wp2_with fail
 have HW0:=Lib.hid (OW.start w N)
 clear hmk hmz
 go_loopw [4,5] (fun v4 v5 wr=>∃(i:Nat) (A:Option Addr) (cap:Nat) (x:OS),v4= .slice A x.l.length cap∧v5= .int .i64 (i:Int)∧x=ordTo nx N i∧i≤x.l.length∧OInv N x∧OW w wr A cap x) (fun _ v5 _=>N-(intOf v5).toNat)
 case atStart=>exact⟨0,_,1,_,rfl,rfl,rfl,by simp,HX0.out,HW0.out⟩
 case round=>
  obtain⟨i,A,cap,x,rfl,rfl,hx,hix,hinv,hW⟩:=hrel
  clear HW0 HX0
  obtain⟨wo,hwo⟩:∃wo:World,wo=wr:=⟨_,rfl⟩
  subst hwo
  have HX:=Lib.hid hx
  have HINV:=Lib.hid hinv
  have HW:=Lib.hid hW
  have hle:=hinv.le
  obtain⟨L,hL⟩:∃n,x.l.length=n:=⟨_,rfl⟩
  have HL:=Lib.hid hL
  rw[hL] at hix hle⊢
  by_cases hiL:i=L
  ·obtain rfl:L=i:=hiL.symm
   clear hx hinv hW
   go_wp2_with fail
   go_ret
   refine⟨⟨L,A,cap,rfl,by rw[←HX.out,HL.out],?_⟩,HW.out.below⟩
   have h:=HW.out.row
   rw[HL.out] at h
   rw[←HX.out];exact h
  ·have i1:i<L:=by omega
   have i2:(i:Int)<L:=by omega
   have i3:(0:Int)≤i:=by omega
   obtain⟨ga,hga,zga,hcell⟩:∃ga,A=some ⟨ga,0,none⟩∧ga<wo.heap.size∧∀j,j<L→wo.cell? ⟨ga,j,none⟩=some (.int .i64 ((x.l.getD j 0:Nat):Int)):=by
    obtain⟨A0,cap0,hA0,hA⟩:=own_slice hW.row
    simp only[Value.slice.injEq,true_and] at hA0
    obtain⟨ga,h1,h2,h3⟩:=hA (by omega)
    refine⟨ga,by rw[hA0.1,h1],h2,fun j hj=> ?_⟩
    rw[h3 j (by omega)]
    unfold natI
    rw[List.getElem?_map,List.getElem?_map,gD,gE (by omega)];rfl
   subst hga
   have ca:=hcell i i1
   obtain⟨q,hq⟩:∃q,x.l.getD i 0=q:=⟨_,rfl⟩
   rw[hq] at ca
   have hqN:q<N:=by
    have hm:q∈x.l:=by rw[←hq,gD,gE (by omega)];exact List.getElem_mem _
    exact((hinv.mem q).1 hm).1
   have hqN1:(q:Int)<N:=by omega
   have hq0:(0:Int)≤q:=by omega
   obtain⟨r,hr⟩:∃r,bs[q]? =some r:=⟨_,gE (by rw[HN.out];exact hqN)⟩
   have hbw:Below w0.heap.size w0 wo:=HB0.out.trans (hW.below.mono HB0.out.size)
   obtain⟨NA,ncap,hnv,hnA⟩:=own_slice (HBLK.out.rows.own q r false hr)
   have hnv' :r.nv= .slice NA r.nl.length ncap:=hnv
   obtain⟨-,-,e3,-⟩:=HBOK.out.at_ q r hr
   have hnl:r.nl=natI (nx q):=by rw[e3,←HNXD.out]
   obtain⟨nn,hnn⟩:∃n,r.nl.length=n:=⟨_,rfl⟩
   rw[hnn] at hnv'
   have d2:wo.cell? ⟨gb,q*4+2,none⟩=some (.slice NA nn ncap):=(hbw.cell (p:=⟨gb,_,none⟩) zgb).trans ((HBLK.out.cell hr (j:=2) (by omega)).trans (by rw[←hnv'];rfl))
   have zgbo:=Nat.lt_of_lt_of_le zgb hbw.size
   have k5o:=(hW.below.cell (p:=⟨b,_,none⟩) zb).trans HK5.out
   have zbo:=Nat.lt_of_lt_of_le zb hW.below.size
   have hnn' :(nx q).length=nn:=by rw[←hnn,hnl];simp[natI]
   have HNN:=Lib.hid hnn'
   have hnn40:nn≤40:=by have h:=HN40.out q (by rw[HN.out];exact hqN);rw[←hnn',←HNXD.out];exact h
   have HNA:Hid (∀(t n:Nat),(nx q)[t]? =some n→∃gn,NA=some ⟨gn,0,none⟩∧gn<w0.heap.size∧w0.cell? ⟨gn,t,none⟩=some (.int .i64 (n:Int))):=Lib.hid (fun t n ht=>by
    have hlt:=(gI.1 ht).1
    obtain⟨gn,h1,h2,h3⟩:=hnA (by show 0<r.nl.length;rw[hnn];omega)
    refine⟨gn,h1,h2,(h3 t (by show t<r.nl.length*1;rw[hnn];omega)).trans ?_⟩
    show(r.nl.map _)[t]? =_
    rw[hnl]
    unfold natI
    rw[List.getElem?_map,List.getElem?_map,ht];rfl)
   have HNQ:=Lib.hid (show∀n∈nx q,n<N from fun n hn=>HNX.out q hqN n (by rw[←HNXD.out] at hn;exact hn))
   have HSTEP:=Lib.hid (show ordTo nx N (i+1)=(nx q).foldl ordIn x by rw[ordTo_succ,←HX.out];unfold ordStep;rw[hq])
   clear hx hinv hW hcell hq hr hbw hnv hnv' hnA e3 hnl hnn hnn'
   go_wp2_with fail
   go_quiet (fail)
   obtain⟨w4,hw4⟩:∃W,wo.drewN nq=W:=⟨_,rfl⟩
   have HW4:Hid (OW w w4 (some ⟨ga,0,none⟩) cap x):=Lib.hid (hw4▸HW.out.keeps (below_drewN (Below.refl _ _) _))
   rw[hw4]
   clear hw4 nq ca d2 zgbo k5o zbo zga
   go_wp2_with fail
   rw[←HL.out]
   clear hL
   go_loopw [4,35] (fun v4 v35 wr=>∃(t:Nat) (A2:Option Addr) (cap2:Nat) (y:OS),t≤nn∧v35= .int .i64 (t:Int)∧v4= .slice A2 y.l.length cap2∧y=((nx q).take t).foldl ordIn x∧OInv N y∧OW w wr A2 cap2 y) (fun _ v35 _=>nn-(intOf v35).toNat)
   case atStart=>exact⟨0,_,cap,x,by omega,rfl,rfl,rfl,HINV.out,HW4.out⟩
   case round=>
    obtain⟨t,A2,cap2,y,ht,rfl,rfl,hy,hyi,hyW⟩:=hrel
    clear HW4
    have HY:=Lib.hid hy
    have HYI:=Lib.hid hyi
    have HYW:=Lib.hid hyW
    have hyl:=hyi.le
    by_cases htn:t=nn
    ·obtain rfl:nn=t:=htn.symm
     clear hy hyi hyW
     have HFIN:=Lib.hid (show y=ordTo nx N (i+1) by rw[HSTEP.out,HY.out,←HNN.out,List.take_length])
     have HLEN:=Lib.hid (show i+1≤y.l.length by
      obtain⟨u,hu⟩:=fold_pre ((nx q).take nn) x
      rw[HY.out,hu,List.length_append,HL.out];omega)
     go_wp2_with fail
     go_roundw
     case rel=>exact⟨i+1,A2,cap2,y,rfl,by go_num,HFIN.out,HLEN.out,HYI.out,HYW.out⟩
     case measure=>simp[intOf];omega
    ·have t1:(t:Int)<nn:=by omega
     have t2:(0:Int)≤t:=by omega
     obtain⟨n,hn⟩:∃n,(nx q)[t]? =some n:=⟨_,gE (by rw[HNN.out];omega)⟩
     have hnN:=HNQ.out n (gM hn)
     have hnN1:(n:Int)<N:=by omega
     have hn0:(0:Int)≤n:=by omega
     obtain⟨gn,hNA,zgn,cn⟩:=HNA.out t n hn
     subst hNA
     have hbw:Below w0.heap.size w0 wr:=HB0.out.trans (hyW.below.mono HB0.out.size)
     rw[←hbw.cell (p:=⟨gn,_,none⟩) zgn] at cn
     have zgnr:=Nat.lt_of_lt_of_le zgn hbw.size
     have cs:=hyW.seen.cell (i:=n) (by rw[hyi.len];exact hnN)
     have fs:=frozen_block hyW.seen n
     have zs:=hyW.seen.lt
     have HTK:=Lib.hid (show((nx q).take (t+1)).foldl ordIn x=ordIn y n by rw[List.take_add_one,hn,HY.out];simp)
     have HYI2:=Lib.hid (hyi.put hnN)
     have HROW:=Lib.hid hyW.row
     have zr:=hyW.below.size
     cases hs:y.seen.getD n false with
     |true=>
      rw[hs] at cs
      have HST:=Lib.hid (show ordIn y n=y by unfold ordIn;rw[if_pos hs])
      clear hy hyi hyW hn hbw hs
      go_wp2_with fail
      go_roundw
      case rel=>exact⟨t+1,A2,cap2,y,by omega,by go_num,rfl,by rw[HTK.out,HST.out],HYI.out,HYW.out⟩
      case measure=>simp[intOf];omega
     |false=>
      rw[hs] at cs
      have HST:=Lib.hid (show ordIn y n=⟨y.seen.set n true,y.l++[n]⟩ by unfold ordIn;rw[if_neg (by rw[hs];decide)])
      have HLY:Hid (y.l.length+1≤N):=Lib.hid (by have h:=HYI2.out.le;rw[HST.out] at h;simpa using h)
      have hyl2:=HLY.out
      clear hy hyi hyW hn hbw hs
      go_wp2_with (first|(at_builtin;go_must (refine wpList_append_lies _ rfl _ _ 24 rfl (w.heap.size+1) 3 i0 _ 1 8 Tryd.underlying24 hi hz0 hz1 hz2 rfl (by decide) (.slice A2 y.l.length cap2) y.l.length ((natI y.l).map (Value.int .i64)) rfl (own_below (own_setCell HROW.out (by simp) _) ((Below.refl _ _).alloc (Nat.le_refl _) _)) ⟨wr.heap.size,0,none⟩ 1 1 [.int .i64 (n:Int)] rfl rfl (by simpa using cell_one_new (wr.setCell ⟨w.heap.size,n,none⟩ (.bool true)) (.int .i64 (n:Int)) 3) (by simp[Value.oneCell']) (by omega) (by unfold maxLen;omega) (by omega) (by simp;omega) _ rfl ?_);intro g9 cap9 w9 hown9 hg9 _ _;have HW9:=Lib.hid (HYW.out.push n hg9 hown9);clear hown9 hg9))
      go_roundw
      case rel=>exact⟨t+1,some ⟨g9,0,none⟩,cap9,⟨y.seen.set n true,y.l++[n]⟩,by omega,by go_num,by simp,by rw[HTK.out,HST.out],by rw[←HST.out];exact HYI2.out,HW9.out⟩
      case measure=>simp[intOf];omega
structure BSt where
 R:List Int
 I:List InsS
 S:List Int
def useA(p:List Fnc)(x:Ins):Bool:=takesA x.op&&(x.op !=17||decide (0<parOf p x))
def useB(p:List Fnc)(x:Ins):Bool:=takesB x.op&&(x.op !=17||decide (1<parOf p x))
def insV(p:List Fnc)(x:Ins)(R:List Int)(pc:Nat)(id:Int):InsS:=⟨x.op,id,if useA p x=true then R.getD x.a.toNat 0 else -1,if useB p x=true then R.getD x.b.toNat 0 else -1,x.imm,(pc:Int)⟩
def bodStep(p:List Fnc)(F:Fnc)(y:BSt)(pc:Nat):BSt:=
 if setsB (insAt F pc)=true then⟨y.R.set (insAt F pc).dst.toNat (y.S.length:Int),y.I++[insV p (insAt F pc) y.R pc (y.S.length:Int)],y.S++[(y.S.length:Int)]⟩
 else⟨y.R,y.I++[insV p (insAt F pc) y.R pc (-1)],y.S⟩
def bodTo(p:List Fnc)(F:Fnc)(a:Nat)(R S:List Int)(n:Nat):BSt:=(List.range n).foldl (fun y t=>bodStep p F y (a+t)) ⟨R,[],S⟩
theorem bodTo_succ(p:List Fnc)(F:Fnc)(a:Nat)(R S:List Int)(n:Nat):bodTo p F a R S (n+1)=bodStep p F (bodTo p F a R S n) (a+n):=by
 unfold bodTo
 rw[List.range_succ,List.foldl_append];rfl
theorem bodTo_len(p:List Fnc)(F:Fnc)(a:Nat){R:List Int}(hR:R.length=12)(S:List Int):∀n,(bodTo p F a R S n).R.length=12∧(bodTo p F a R S n).S.length≤S.length+n∧(bodTo p F a R S n).I.length=n
 |0=>⟨hR,by simp[bodTo],rfl⟩
 |n+1=>by
  obtain⟨h1,h2,h3⟩:=bodTo_len p F a hR S n
  rw[bodTo_succ]
  unfold bodStep
  split
  ·exact⟨by simpa using h1,by simp;omega,by simp[h3]⟩
  ·exact⟨h1,by simp;omega,by simp[h3]⟩
def SB.bod(s:SB)(i:Nat)(y:BSt):SB:={s with same:=y.S,parts:=s.parts.set i {s.part i with ins:=(s.part i).ins++y.I}}
theorem part_nil(s:SB){i:Nat}(hi:i<s.parts.length):s.parts.set i (s.part i)=s.parts:=by
 apply List.ext_getElem?
 intro j
 rw[List.getElem?_set]
 by_cases e:i=j
 ·subst e
  rw[if_pos rfl,if_pos hi]
  unfold SB.part
  rw[gD,gE hi];rfl
 ·rw[if_neg e]
theorem bod_start(s:SB){i:Nat}(hi:i<s.parts.length)(p:List Fnc)(F:Fnc)(a:Nat)(R:List Int):s.bod i (bodTo p F a R s.same 0)=s:=by
 show SB.mk s.same s.ends s.began (s.parts.set i {s.part i with ins:=(s.part i).ins++[]})=s
 rw[List.append_nil]
 show SB.mk s.same s.ends s.began (s.parts.set i (s.part i))=s
 rw[part_nil s hi]
theorem bod_part(s:SB){i:Nat}(hi:i<s.parts.length)(y:BSt):(s.bod i y).part i={s.part i with ins:=(s.part i).ins++y.I}:=by
 have:=part_set s hi {s.part i with ins:=(s.part i).ins++y.I} i
 rw[if_pos rfl] at this
 exact this
theorem bod_ins(s:SB){i:Nat}(hi:i<s.parts.length)(y:BSt)(x:InsS)(S R:List Int):({s.bod i y with same:=S}:SB).addIns i x=s.bod i ⟨R,y.I++[x],S⟩:=by
 unfold SB.addIns
 show SB.mk S s.ends s.began ((s.parts.set i _).set i {(s.bod i y).part i with ins:=((s.bod i y).part i).ins++[_]})=_
 rw[bod_part s hi y,List.set_set]
 unfold SB.bod
 rw[List.append_assoc]
theorem reads_a{x:Ins}{n:Int}(h1:x.op≠1)(h2:x.op≠15)(h3:x.op=17→n≠0):(readsM x n).testBit x.a.toNat=true:=by
 have hb:(2^x.a.toNat).testBit x.a.toNat=true:=by rw[pow_bit];simp
 unfold readsM
 rw[if_neg (by omega)]
 split
 ·exact hb
 ·split
  ·next h=>rw[if_neg (h3 h)];split
           ·exact hb
           ·rw[Nat.testBit_or,hb];rfl
  ·rw[Nat.testBit_or,hb];rfl
theorem reads_b{x:Ins}{n:Int}(h1:¬(x.op=1∨x.op=15))(h2:¬(x.op=13∨x.op=16∨x.op=18∨x.op=19))(h3:x.op=17→n≠0∧n≠1):(readsM x n).testBit x.b.toNat=true:=by
 have hb:(2^x.b.toNat).testBit x.b.toNat=true:=by rw[pow_bit];simp
 unfold readsM
 rw[if_neg h1,if_neg h2]
 split
 ·next h=>rw[if_neg (h3 h).1,if_neg (h3 h).2,Nat.testBit_or,hb];simp
 ·rw[Nat.testBit_or,hb];simp
theorem reads_none{x:Ins}(h:x.op=17):readsM x 0=0:=by unfold readsM;rw[if_neg (by omega),if_neg (by omega),if_pos h,if_pos rfl]
section
variable {w wr:World}{b:Nat}{c:SC}{s:SB}{V0 V:SK→Value}{k:Nat}{cs:Array Value}{t:TypeId}{x1 x2 x3:Nat×Obj}
theorem SbX.up1(h:SbX w V0 b c wr s V [(k, .cells cs t (0,0)),x2,x3])(h1:x2.1≠k)(h3:x3.1≠k)(i:Nat)(v:Value):SbX w V0 b c (wr.setCell ⟨k,i,none⟩ v) s V [(k, .cells (cs.toList.set i v).toArray t (0,0)),x2,x3]:=
 h.set (.head _) i v (fun x hx=>by
  simp only[List.mem_cons,List.not_mem_nil,or_false] at hx
  rcases hx with rfl|rfl|rfl
  ·exact .inl rfl
  ·exact .inr ⟨.tail _ (.head _),h1⟩
  ·exact .inr ⟨.tail _ (.tail _ (.head _)),h3⟩)
theorem SbX.up3{R:List Int}(h:SbX w V0 b c wr s V [x1,x2,(k,boxI R)])(h1:x1.1≠k)(h2:x2.1≠k)(i:Nat)(v:Int):SbX w V0 b c (wr.setCell ⟨k,i,none⟩ (.int .i64 v)) s V [x1,x2,(k,boxI (R.set i v))]:=
 h.set (cs:=(intsV R).toArray) (t:=40) (.tail _ (.tail _ (.head _))) i (.int .i64 v) (fun x hx=>by
  simp only[List.mem_cons,List.not_mem_nil,or_false] at hx
  rcases hx with rfl|rfl|rfl
  ·exact .inr ⟨.head _,h1⟩
  ·exact .inr ⟨.tail _ (.head _),h2⟩
  ·left
   unfold boxI intsV
   rw[List.map_set])
end
theorem own_there{w:World}{B:Nat}{κ:Type}{ρ:κ→RowC}(h:OwnK w B ρ)(k:κ){g n cap:Nat}(hv:(ρ k).v= .slice (some ⟨g,0,none⟩) n cap){o m:Nat}(hm:o+m≤(ρ k).xs.length):w.there g o m:=fun j hj=>
 ⟨by rw[h.cell k hv (gE (by omega))];rfl,(h.free k hv _).1⟩
theorem infoInsV:(Tryd.prog.info? 77).map (fun i=>(i.zero,i.size,i.bytes))=some (some (.agg #[.int .i64 0, .int .i64 0, .int .i64 0, .int .i64 0, .int .i64 0, .int .i64 0]),6,48):=by kernel_rfl
set_option maxRecDepth 100000 in
set_option maxHeartbeats 8000000 in
theorem body_any(w0:World)(p:List Fnc)(k:Nat)(F:Fnc)(bs:List BR)(O:List Nat)(b:Nat)(c:SC)(s:SB)(V:SK→Value)(w:World)(ro:SRo w0 c p k F bs O)(h0:w0.heap.size≤b)(hw:Below w0.heap.size w0 w)(h:SbAt w b c s V)
 (hn:s.same.length≤90000) (hin:∀x∈s.parts,x.inn.length=12) (hen:∀x∈s.ends,x.length=12) {i:Nat} {r:BR} (hr:bs[i]? =some r) (hi:i<s.parts.length) (hie:i<s.ends.length) (hil0:(s.part i).ins.length≤100)
 (R:List Int) (hR:R.length=12):
 Calls Tryd.prog 30 #[.pointer (some ⟨b,0,none⟩), .int .i64 (i:Int), .agg (intsV R).toArray] w fun e w' =>∃V',e= .returned (.tuple #[])∧
  SbAt w' b c {s.bod i (bodTo p F (hdA F i) R s.same (toF F (hdA F i)-hdA F i)) with ends:=s.ends.set i (bodTo p F (hdA F i) R s.same (toF F (hdA F i)-hdA F i)).R} V' ∧FrS w b V w' V' ∧V' .parts=V .parts∧V' .ends=V .ends∧V' .began=V .began:=by
 have hR' :=right_of ro.right
 have hFm:=gM ro.hF
 have hfo:=hR'.ok.fn F hFm
 obtain⟨gb,Bb,hbv,hblk⟩:=ro.blk
 obtain⟨PA,pcap,hpv,hprog⟩:=ro.prog
 obtain⟨e1,e2,-,-⟩:=ro.bok.at_ i r hr
 have hil:i<(hdL F).length:=by rw[←ro.bok.len];exact(gI.1 hr).1
 have ham:=gM (show(hdL F)[i]? =some (hdA F i) by unfold hdA;rw[gD,gE hil];rfl)
 obtain⟨ha1,ha2⟩:=head_rch hR' hFm ham
 obtain⟨ht1,ht2,-,-,-⟩:=toF_spec hR' hFm ham
 have hcov:=fun pc=>cov_rch hR' hFm ham (pc:=pc)
 obtain⟨CA,ccap,hcv,hcA⟩:=ro.code.slice
 obtain⟨gc,rfl,zgc,hins⟩:=hcA (by omega)
 obtain⟨a,ha⟩:∃a,hdA F i=a:=⟨_,rfl⟩
 obtain⟨z,hz⟩:∃z,toF F (hdA F i)=z:=⟨_,rfl⟩
 rw[hz] at e2 ht1 ht2 hcov⊢
 rw[ha] at e1 ha1 ht1 hcov⊢
 have zgb:=block_lt hblk.blk
 have hc0:w0.cell? ⟨gb,i*4,none⟩=some (.int .i64 (a:Int)):=(hblk.cell hr (j:=0) (by omega)).trans (by rw[←e1];rfl)
 have hc1:w0.cell? ⟨gb,i*4+1,none⟩=some (.int .i64 (z:Int)):=(hblk.cell hr (j:=1) (by omega)).trans (by rw[←e2];rfl)
 obtain⟨A0,cap0,hA0,hpA⟩:=hprog.slice
 simp only[Value.slice.injEq,true_and] at hA0
 obtain⟨gf,hAg,zgf,hfn⟩:=hpA (by have:=hR'.ok.l1;omega)
 obtain⟨rfl,rfl⟩:=hA0
 subst hAg
 have HFN:=Lib.hid hfn
 have HINS:=Lib.hid hins
 have HCOV:=Lib.hid hcov
 have HPAR:=Lib.hid (fun(f:Fnc) (hf:f∈p)=>(hR'.ok.fn f hf).p1)
 have HIO:=Lib.hid (fun(x:Ins) (hx:x∈F.code)=>hfo.ins x hx)
 have hr12:=hfo.r2
 have hbsl:=(gI.1 hr).1
 have hcl:=hfo.c2
 obtain⟨N,hN⟩:∃n,bs.length=n:=⟨_,rfl⟩
 obtain⟨K,hK⟩:∃n,F.code.length=n:=⟨_,rfl⟩
 obtain⟨NF,hNF⟩:∃n,p.length=n:=⟨_,rfl⟩
 have HNF:=Lib.hid hNF
 have HKK:=Lib.hid hK
 have hfnc:=ro.fn
 rw[hN] at hbv hbsl
 rw[hK] at hcv ha1 ht2 hcl
 rw[hNF] at hpv
 have KRO:=Lib.hid (fun(W:World) (hb:Below w0.heap.size w0 W)=>(⟨(hb.cell (p:=⟨gb,_,none⟩) zgb).trans hc0,(hb.cell (p:=⟨gb,_,none⟩) zgb).trans hc1,Nat.lt_of_lt_of_le zgb hb.size⟩:
  W.cell? ⟨gb,i*4,none⟩=some (.int .i64 (a:Int))∧W.cell? ⟨gb,i*4+1,none⟩=some (.int .i64 (z:Int))∧gb<W.heap.size))
 have KBX:=Lib.hid (fun(W:World) (s' :SB) (V' :SK→Value) (h:SbAt W b c s' V')=>(⟨(h.cell 0).trans (by show some c.pv=_;rw[hpv]),(h.cell 3).trans (by show some c.cv=_;rw[hcv]),(h.cell 4).trans (by show some (Value.int .i64 c.fn)=_;rw[hfnc]),(h.cell 5).trans (by show some c.bv=_;rw[hbv]),h.cell 9,h.cell 10,h.lt⟩:
  W.cell? ⟨b,0,none⟩=some (.slice (some ⟨gf,0,none⟩) NF pcap)∧W.cell? ⟨b,3,none⟩=some (.slice (some ⟨gc,0,none⟩) K ccap)∧W.cell? ⟨b,4,none⟩=some (.int .i64 (k:Int))∧W.cell? ⟨b,5,none⟩=some (.slice (some ⟨gb,0,none⟩) N N)∧W.cell? ⟨b,9,none⟩=some (V' .parts)∧W.cell? ⟨b,10,none⟩=some (V' .ends)∧b<W.heap.size))
 have HRD:=Lib.hid (fun(W:World) (hb:Below w0.heap.size w0 W) (pc:Nat) (x:Ins) (hx:F.code[pc]? =some x)=>preadsx_any p (some ⟨gf,0,none⟩) pcap k pc F x W (ro.tab.keeps hb) (hprog.keeps hb) (progE_ck ro.right) ro.hF hx)
 rw[hNF] at HRD
 clear hbv hblk hpv hprog e1 e2 hil ham ha2 hcov hcv hcA ha hz hc0 hc1 hpA hfn hins hN hK hNF hfnc hFm hfo hR'
 have HRO:=Lib.hid ro
 have HW:=Lib.hid hw
 have H:=Lib.hid h
 have HIN:=Lib.hid hin
 have HEN:=Lib.hid hen
 have HH0:=Lib.hid h0
 have HHI:=Lib.hid hi
 have HHE:=Lib.hid hie
 have HIL:=Lib.hid hil0
 have HRL:=Lib.hid hR
 have zb:=h.lt
 obtain⟨A9,cp,hvp,-,hpA⟩:=h.own.slice .parts
 rw[rowsOf_v] at hvp
 obtain⟨gp,rfl⟩:=hpA (by show 0<s.parts.length;omega)
 obtain⟨NP,hNP⟩:∃n,s.parts.length=n:=⟨_,rfl⟩
 have hvp' :V .parts= .slice (some ⟨gp,0,none⟩) NP cp:=by rw[hvp];show Value.slice _ s.parts.length cp=_;rw[hNP]
 obtain⟨A8,ce,hve,-,heA⟩:=h.own.slice .ends
 rw[rowsOf_v] at hve
 obtain⟨ge,rfl⟩:=heA (by show 0<s.ends.length;omega)
 obtain⟨NE,hNE⟩:∃n,s.ends.length=n:=⟨_,rfl⟩
 have hve' :V .ends= .slice (some ⟨ge,0,none⟩) NE ce:=by rw[hve];show Value.slice _ s.ends.length ce=_;rw[hNE]
 have HVP:=Lib.hid hvp'
 have HVE:=Lib.hid hve'
 have HNP:=Lib.hid hNP
 have HNE:=Lib.hid hNE
 have hi1:i<NP:=by rw[←hNP];exact hi
 have hi2:(i:Int)<NP:=by omega
 have hi3:(0:Int)≤i:=by omega
 have hi4:i<NE:=by rw[←hNE];exact hie
 have hi5:(i:Int)<NE:=by omega
 have hi6:(i:Int)<N:=by omega
 obtain⟨k0,k3,k4,k5,k9,k10,-⟩:=KBX.out _ _ _ h
 rw[hvp'] at k9
 obtain⟨d0,d1,zgb'⟩:=KRO.out _ hw
 have HX0:Hid (SbX w V b c (w.alloc (boxI R)) (s.bod i (bodTo p F a R s.same 0)) V [(w.heap.size,boxI (bodTo p F a R s.same 0).R)]):=Lib.hid (by rw[bod_start s hi];exact(SbX.start h).push (boxI R))
 have zgp:=(h.rlt .parts (g:=gp) (by rw[hvp'];rfl)).2
 clear ro hw h hin hen hr hi hie hil0 hR h0 hvp hvp' hve hve' hNP hNE hpA heA
 go_enter Tryd.func30,Tryd.ntmps30
 go_wp2_with fail
 clear k0 k3 k4 k5 k9 k10 d0 d1 zgb' zgp zb
 go_loopw [7] (fun v7 wr=>∃(q:Nat) (V' :SK→Value),q≤z-a∧v7= .int .i64 ((a+q:Nat):Int)∧SbX w V b c wr (s.bod i (bodTo p F a R s.same q)) V' [(w.heap.size,boxI (bodTo p F a R s.same q).R)]∧V' .parts=V .parts∧V' .ends=V .ends∧V' .began=V .began) (fun v7 _=>z-(intOf v7).toNat)
 case atStart=>exact⟨0,V,by omega,rfl,HX0.out,rfl,rfl,rfl⟩
 case round=>
  obtain⟨q,V',hq,rfl,hX,hv1,hv2,hv3⟩:=hrel
  clear HX0
  have HV:=Lib.hid (show V' .parts=V .parts∧V' .ends=V .ends∧V' .began=V .began from⟨hv1,hv2,hv3⟩)
  obtain⟨hl1,hl2,hl3⟩:=bodTo_len p F a HRL.out s.same q
  have HLE:=Lib.hid (bodTo_succ p F a R s.same q)
  have hbw:Below w0.heap.size w0 wr:=HW.out.trans (hX.fr.below.mono HH0.out)
  obtain⟨X,hXe⟩:∃X,bodTo p F a R s.same q=X:=⟨_,rfl⟩
  have HXE:=Lib.hid hXe
  rw[hXe] at hX hl1 hl2 hl3 HLE
  have HX:=Lib.hid hX
  have HL1:=Lib.hid hl1
  have HBW:=Lib.hid hbw
  obtain⟨k0,k3,k4,k5,k9,k10,zb⟩:=KBX.out _ _ _ hX.sb
  obtain⟨d0,d1,zgb'⟩:=KRO.out _ hbw
  rw[hv2,HVE.out] at k10
  obtain⟨pc,hpc⟩:∃n,a+q=n:=⟨_,rfl⟩
  rw[hpc] at HLE⊢
  by_cases hqr:q=z-a
  ·have hpz:pc=z:=by omega
   subst hpz
   have hve:V' .ends= .slice (some ⟨ge,0,none⟩) NE ce:=by rw[hv2,HVE.out]
   have HBL:=Lib.hid (hX.box (.head _))
   have rL:wr.rangeAt w.heap.size 0 (intsV X.R):=boxI_range HBL.out
   have HSE:=Lib.hid (fun(W:World) (h:SbX w V b c W (s.bod i X) V' [(w.heap.size,boxI X.R)])=>h.sb.setEnds (i:=i) (R:=X.R) HEN.out (by show i<s.ends.length;rw[HNE.out];exact hi4) HL1.out hve)
   have HTH:=Lib.hid (own_there (hX.sb.own.drew) .ends (by rw[rowsOf_v];exact hve) (o:=i*12) (m:=(intsV X.R).toArray.size) (by
    show _≤(regCells s.ends).length
    rw[regs_len HEN.out,HNE.out]
    have h1:(i+1)*12≤NE*12:=Nat.mul_le_mul_right 12 (by omega)
    have h2:(intsV X.R).toArray.size=12:=by simp[intsV,HL1.out]
    omega))
   have HNL:Hid (w.heap.size≠ge∧ge≠b):=Lib.hid ⟨fun e=>(hX.loc _ (.head _)).2.2.2 .ends (by rw[hve,←e];rfl),by have:=(hX.sb.rlt .ends (g:=ge) (by rw[hve];rfl)).1;omega⟩
   have zge:=(hX.sb.rlt .ends (g:=ge) (by rw[hve];rfl)).2
   clear hX hv1 hv2 hv3 hbw k9 hve
   go_wp2_with fail
   refine wp_region_held_drew (S:=fun w' =>w'.cell? ⟨b,10,none⟩=some (.slice (some ⟨ge,0,none⟩) NE ce)∧w'.rangeAt w.heap.size 0 (intsV X.R)) (by kernel_rfl) ⟨k10,(World.rangeAt_drew _ _ _ _).2 rL⟩ (fun hHeld=> ?_)
   refine wpAnyH_take (i:=0) (v:= .pointer (some ⟨b,0,none⟩)) rfl (by kernel_rfl) (by kernel_rfl) (by kernel_rfl) (fun _ _ _ h=>h) (Or.inl ⟨by rfl,?_⟩) hHeld ?_
   ·intro w hSw
    have p0:=hSw.1
    simp only[qg]
    go_simp
   simp only[Act.put,qs]
   refine wpAnyH_take (i:=1) (v:= .pointer (some ⟨b,0,none⟩)) rfl (by kernel_rfl) (by kernel_rfl) (by kernel_rfl) (fun _ _ _ h=>h) (Or.inl ⟨by rfl,?_⟩) hHeld ?_
   ·intro w hSw
    have p0:=hSw.1
    simp only[qg]
    go_simp
   simp only[Act.put,qs]
   refine wpAnyH_take (i:=2) (v:= .pointer (some ⟨b,10,none⟩)) rfl (by kernel_rfl) (by kernel_rfl) (by kernel_rfl) (fun _ _ _ h=>h) (Or.inl ⟨by rfl,?_⟩) hHeld ?_
   ·intro w hSw
    have p0:=hSw.1
    simp only[qg]
    go_simp
   simp only[Act.put,qs]
   refine wpAnyH_take (i:=3) (v:= .slice (some ⟨ge,0,none⟩) NE ce) rfl (by kernel_rfl) (by kernel_rfl) (by kernel_rfl) (fun _ _ _ h=>h) (Or.inl ⟨by rfl,?_⟩) hHeld ?_
   ·intro w hSw
    have p0:=hSw.1
    simp only[qg]
    go_simp
   simp only[Act.put,qs]
   refine wpAnyH_take (i:=4) (v:= .int .i64 (i:Int)) rfl (by kernel_rfl) (by kernel_rfl) (by kernel_rfl) (fun _ _ _ h=>h) (Or.inl ⟨by rfl,?_⟩) hHeld ?_
   ·intro w hSw
    have p0:=hSw.1
    simp only[qg]
    go_simp
   simp only[Act.put,qs]
   refine' wpAnyH_take (i:=5) rfl (by kernel_rfl) (by kernel_rfl) (by kernel_rfl) (fun _ _ _ h=>h) (yieldsIf_load_mid (by rfl) 40 _ rfl w.heap.size 0 rfl (intsV X.R) _ (fun w hSw=>hSw.2) Tryd.underlying40 (by rfl) (boxI_info HL1.out)) hHeld ?_
   simp only[Act.put,qs]
   refine wpAnyH_take (i:=6) (v:= .pointer (some ⟨ge,i*12,none⟩)) rfl (by kernel_rfl) (by kernel_rfl) (by kernel_rfl) (fun _ _ _ h=>h) (Or.inl ⟨by rfl,?_⟩) hHeld ?_
   ·intro w hSw
    have p0:=hSw.1
    simp only[qg]
    go_simp
   simp only[Act.put,qs]
   refine wpAnyH_ready (rs:=[7]) (by kernel_rfl) (by simp) ?_
   refine AllReadyH.cons rfl (fun K hK=> ?_) AllReadyH.nil
   simp only[qg]
   rw[if_pos (by rfl)]
   refine wp_store_mid 40 _ _ (by rfl) ge (i*12) (intsV X.R).toArray (by rfl) (by rfl) HTH.out (by simpa using boxI_info HL1.out) (boxI_one X.R) ?_
   refine hK.out _ _ ⟨(World.cell?_setCells_out _ _ _ _ _ (fun e _=>absurd e HNL.out.2.symm)).trans hHeld.1,World.rangeAt_setCells_apart hHeld.2 _ _ _ (.inl HNL.out.1)⟩ (fun hHeld=> ?_)
   clear hK K
   clear hHeld
   refine wpAnyH_done (by kernel_rfl) ?_ _
   go_wp2_with fail
   have hXd:=HX.out.keeps (Below.refl wr.heap.size wr).drew
   obtain⟨f1,f2⟩:=HSE.out _ hXd
   refine bodyPost_end (v:= .tuple #[]) (by simp[results,Tryd.results30,go_sem]) rfl ⟨rfl,V',by rw[←hqr,HXE.out];exact f1,hXd.fr.trans f2,HV.out.1,HV.out.2.1,HV.out.2.2⟩
  ·have hpz:pc<z:=by omega
   have p1:(pc:Int)<z:=by omega
   have p2:(0:Int)≤pc:=by omega
   have p3:(pc:Int)<K:=by omega
   obtain⟨x,hx⟩:∃x,F.code[pc]? =some x:=⟨_,gE (by rw[HKK.out];omega)⟩
   have hia:insAt F pc=x:=insAt_eq hx
   have hio:=HIO.out x (gM hx)
   obtain⟨e0,e1,e2,e3,e4⟩:=HINS.out pc x hx
   rw[←hbw.cell (p:=⟨gc,_,none⟩) zgc] at e0 e1 e2 e3 e4
   have zgcr:gc<wr.heap.size:=Nat.lt_of_lt_of_le zgc hbw.size
   have hrd:=fun W hb=>HRD.out W hb pc x hx
   obtain⟨pn,hpn⟩:∃n,parOf p x=n:=⟨_,rfl⟩
   rw[hpn] at hrd
   obtain⟨op,dd,aa,bb,mm⟩:=x
   obtain⟨rd,rfl⟩:∃n:Nat,dd=n:=⟨dd.toNat,by have:=hio.dst1;dsimp only at this;omega⟩
   obtain⟨ra,rfl⟩:∃n:Nat,aa=n:=⟨aa.toNat,by have:=hio.a1;dsimp only at this;omega⟩
   obtain⟨rb,rfl⟩:∃n:Nat,bb=n:=⟨bb.toNat,by have:=hio.b1;dsimp only at this;omega⟩
   have rd12:rd<12:=by have:=hio.dst2;dsimp only at this;omega
   have ra12:ra<12:=by have:=hio.a2;dsimp only at this;omega
   have rb12:rb<12:=by have:=hio.b2;dsimp only at this;omega
   have o1:=hio.op1
   have o2:=hio.op2
   have hcall:=hio.call
   dsimp only at e0 e1 e2 e3 e4 o1 o2 hcall
   obtain⟨m,hm⟩:∃m,readsM ⟨op,(rd:Int),(ra:Int),(rb:Int),mm⟩ pn=m:=⟨_,rfl⟩
   obtain⟨ms,hms⟩:∃m,setM ⟨op,(rd:Int),(ra:Int),(rb:Int),mm⟩=m:=⟨_,rfl⟩
   rw[hm,hms] at hrd
   have HRDX:=Lib.hid hrd
   have HTK:=Lib.hid (fun(W:World)=>takes_any op W o1 o2)
   obtain⟨tA,htA⟩:∃t,takesA op=t:=⟨_,rfl⟩
   obtain⟨tB,htB⟩:∃t,takesB op=t:=⟨_,rfl⟩
   rw[htA,htB] at HTK
   have HIA:=Lib.hid hia
   have HM:=Lib.hid hm
   have HMS:=Lib.hid hms
   have HPN:=Lib.hid hpn
   have HTA:=Lib.hid htA
   have HTB:=Lib.hid htB
   have HCALL:=Lib.hid hcall
   have HX1:Hid (SbX w V b c (wr.alloc (.cells #[.int .i64 op, .int .i64 (rd:Int), .int .i64 (ra:Int), .int .i64 (rb:Int), .int .i64 mm] 58)) (s.bod i X) V' [(wr.heap.size, .cells #[.int .i64 op, .int .i64 (rd:Int), .int .i64 (ra:Int), .int .i64 (rb:Int), .int .i64 mm] 58 (0,0)),(w.heap.size,boxI X.R)]):=Lib.hid (hX.push _)
   have hLx:=block_lt (hX.box (.head _))
   have hsl:X.S.length≤91000:=by omega
   have hsi:(s.part i).ins.length+X.I.length≤200:=by have:=HIL.out;omega
   clear hx hia hio hrd hm hms hpn htA htB hcall hX hv1 hv2 hv3 hbw k10 hq
   go_wp2_with fail
   clear e0 e1 e2 e3 e4 zgcr k0 k3 k4 k5 k9 zb d0 d1 zgb'
   obtain⟨w1,hw1⟩:∃W,wr.alloc (.cells #[.int .i64 op, .int .i64 (rd:Int), .int .i64 (ra:Int), .int .i64 (rb:Int), .int .i64 mm] 58)=W:=⟨_,rfl⟩
   obtain⟨bx,hbx⟩:∃n,wr.heap.size=n:=⟨_,rfl⟩
   rw[hw1,hbx] at HX1
   rw[hbx] at hLx
   rw[hw1,hbx]
   have HBW1:Hid (Below w0.heap.size w0 w1):=Lib.hid (HW.out.trans (HX1.out.fr.below.mono HH0.out))
   clear hw1 hbx HX
   obtain⟨k0,k3,k4,k5,k9,k10,zb⟩:=KBX.out _ _ _ HX1.out.sb
   clear k3 k5 k9 k10
   have HS1:=Lib.hid (fun(W:World) (hb:Below w1.heap.size w1 W)=>(⟨(hb.cell (p:=⟨b,_,none⟩) zb).trans k0,(hb.cell (p:=⟨b,_,none⟩) zb).trans k4⟩:W.cell? ⟨b,0,none⟩=some (.slice (some ⟨gf,0,none⟩) NF pcap)∧W.cell? ⟨b,4,none⟩=some (.int .i64 (k:Int))))
   refine wp_region_held_drew (S:=fun w' =>w'.cell? ⟨b,0,none⟩=some (.slice (some ⟨gf,0,none⟩) NF pcap)∧w'.cell? ⟨b,4,none⟩=some (.int .i64 (k:Int))) (by kernel_rfl) (HS1.out _ (Below.refl _ _).drew) (fun hHeld=> ?_)
   clear k0 k4 zb
   refine wpAnyH_take (i:=0) (v:= .pointer (some ⟨b,0,none⟩)) rfl (by kernel_rfl) (by kernel_rfl) (by kernel_rfl) (fun _ _ _ h=>h) (Or.inl ⟨by rfl,?_⟩) hHeld ?_
   ·intro w hSw
    obtain⟨p0,p4⟩:=hSw
    simp only[qg]
    go_simp
   simp only[Act.put,qs]
   refine wpAnyH_take (i:=1) (v:= .pointer (some ⟨b,0,none⟩)) rfl (by kernel_rfl) (by kernel_rfl) (by kernel_rfl) (fun _ _ _ h=>h) (Or.inl ⟨by rfl,?_⟩) hHeld ?_
   ·intro w hSw
    obtain⟨p0,p4⟩:=hSw
    simp only[qg]
    go_simp
   simp only[Act.put,qs]
   refine wpAnyH_take (i:=2) (v:= .pointer (some ⟨b,0,none⟩)) rfl (by kernel_rfl) (by kernel_rfl) (by kernel_rfl) (fun _ _ _ h=>h) (Or.inl ⟨by rfl,?_⟩) hHeld ?_
   ·intro w hSw
    obtain⟨p0,p4⟩:=hSw
    simp only[qg]
    go_simp
   simp only[Act.put,qs]
   refine wpAnyH_take (i:=3) (v:= .agg #[.slice (some ⟨gf,0,none⟩) NF pcap]) rfl (by kernel_rfl) (by kernel_rfl) (by kernel_rfl) (fun _ _ _ h=>h) (Or.inl ⟨by rfl,?_⟩) hHeld ?_
   ·intro w hSw
    obtain⟨p0,p4⟩:=hSw
    simp only[qg]
    go_simp
   simp only[Act.put,qs]
   refine wpAnyH_take (i:=4) (v:= .pointer (some ⟨b,0,none⟩)) rfl (by kernel_rfl) (by kernel_rfl) (by kernel_rfl) (fun _ _ _ h=>h) (Or.inl ⟨by rfl,?_⟩) hHeld ?_
   ·intro w hSw
    obtain⟨p0,p4⟩:=hSw
    simp only[qg]
    go_simp
   simp only[Act.put,qs]
   refine wpAnyH_take (i:=5) (v:= .pointer (some ⟨b,0,none⟩)) rfl (by kernel_rfl) (by kernel_rfl) (by kernel_rfl) (fun _ _ _ h=>h) (Or.inl ⟨by rfl,?_⟩) hHeld ?_
   ·intro w hSw
    obtain⟨p0,p4⟩:=hSw
    simp only[qg]
    go_simp
   simp only[Act.put,qs]
   refine wpAnyH_take (i:=6) (v:= .pointer (some ⟨b,4,none⟩)) rfl (by kernel_rfl) (by kernel_rfl) (by kernel_rfl) (fun _ _ _ h=>h) (Or.inl ⟨by rfl,?_⟩) hHeld ?_
   ·intro w hSw
    obtain⟨p0,p4⟩:=hSw
    simp only[qg]
    go_simp
   simp only[Act.put,qs]
   refine wpAnyH_take (i:=7) (v:= .int .i64 (k:Int)) rfl (by kernel_rfl) (by kernel_rfl) (by kernel_rfl) (fun _ _ _ h=>h) (Or.inl ⟨by rfl,?_⟩) hHeld ?_
   ·intro w hSw
    obtain⟨p0,p4⟩:=hSw
    simp only[qg]
    go_simp
   simp only[Act.put,qs]
   refine wpAnyH_take (i:=8) (v:= .int .i64 (pc:Int)) rfl (by kernel_rfl) (by kernel_rfl) (by kernel_rfl) (fun _ _ _ h=>h) (Or.inl ⟨by rfl,?_⟩) hHeld ?_
   ·intro w hSw
    obtain⟨p0,p4⟩:=hSw
    simp only[qg]
    go_simp
   simp only[Act.put,qs]
   refine wpAnyH_ready (rs:=[9]) (by kernel_rfl) (by simp) ?_
   refine AllReadyH.cons rfl (fun K hK=> ?_) AllReadyH.nil
   simp only[qg]
   go_simp
   refine(HRDX.out _ HBW1.out.drew).mono ?_
   rintro e w2 ⟨rfl,hb2⟩
   have HB12:=Lib.hid (show Below w1.heap.size w1 w2 from(Below.refl w1.heap.size w1).drew.trans (hb2.mono (Nat.le_refl _)))
   refine hK.out _ _ (HS1.out _ HB12.out) (fun hHeld=> ?_)
   clear hK K hb2
   refine wpAnyH_take (i:=10) (v:= .tuple #[.int .i64 (m:Int), .int .i64 (ms:Int), .int .i64 0]) rfl (by kernel_rfl) (by kernel_rfl) (by kernel_rfl) (fun _ _ _ h=>h) (Or.inl ⟨by rfl,?_⟩) hHeld ?_
   ·intro w hSw
    obtain⟨p0,p4⟩:=hSw
    simp only[qg]
    go_simp
   simp only[Act.put,qs]
   refine wpAnyH_take (i:=11) (v:= .int .i64 (m:Int)) rfl (by kernel_rfl) (by kernel_rfl) (by kernel_rfl) (fun _ _ _ h=>h) (Or.inl ⟨by rfl,?_⟩) hHeld ?_
   ·intro w hSw
    obtain⟨p0,p4⟩:=hSw
    simp only[qg]
    go_simp
   simp only[Act.put,qs]
   refine wpAnyH_take (i:=12) (v:= .int .i64 (ms:Int)) rfl (by kernel_rfl) (by kernel_rfl) (by kernel_rfl) (fun _ _ _ h=>h) (Or.inl ⟨by rfl,?_⟩) hHeld ?_
   ·intro w hSw
    obtain⟨p0,p4⟩:=hSw
    simp only[qg]
    go_simp
   simp only[Act.put,qs]
   refine wpAnyH_take (i:=13) (v:= .int .i64 0) rfl (by kernel_rfl) (by kernel_rfl) (by kernel_rfl) (fun _ _ _ h=>h) (Or.inl ⟨by rfl,?_⟩) hHeld ?_
   ·intro w hSw
    obtain⟨p0,p4⟩:=hSw
    simp only[qg]
    go_simp
   simp only[Act.put,qs]
   refine wpAnyH_ready (rs:=[14]) (by kernel_rfl) (by simp) ?_
   refine AllReadyH.cons rfl (fun K hK=> ?_) AllReadyH.nil
   simp only[qg]
   go_simp
   refine hK.out _ _ hHeld (fun hHeld=> ?_)
   clear hK K
   refine wpAnyH_ready (rs:=[15]) (by kernel_rfl) (by simp) ?_
   refine AllReadyH.cons rfl (fun K hK=> ?_) AllReadyH.nil
   simp only[qg]
   go_simp
   refine hK.out _ _ hHeld (fun hHeld=> ?_)
   clear hK K
   refine wpAnyH_ready (rs:=[16]) (by kernel_rfl) (by simp) ?_
   refine AllReadyH.cons rfl (fun K hK=> ?_) AllReadyH.nil
   simp only[qg]
   go_simp
   refine hK.out _ _ hHeld (fun hHeld=> ?_)
   clear hK K
   clear hHeld
   refine wpAnyH_done (by kernel_rfl) ?_ _
   have HX2:=Lib.hid (HX1.out.keeps HB12.out)
   have HX3p:=Lib.hid (HX2.out.push (.cells #[.int .i64 op, .int .i64 (-1), .int .i64 (-1), .int .i64 (-1), .int .i64 mm, .int .i64 (pc:Int)] 77))
   have zbx2:=block_lt (HX2.out.box (.head _))
   have cx2:=cell_block (HX2.out.box (.head _))
   go_wp2_with (first|(go_at_call 56;go_must (refine(HTK.out _).mono ?_;rintro e w' ⟨rfl,rfl⟩)))
   obtain⟨w3,hw3⟩:∃W,w2.alloc (.cells #[.int .i64 op, .int .i64 (-1), .int .i64 (-1), .int .i64 (-1), .int .i64 mm, .int .i64 (pc:Int)] 77)=W:=⟨_,rfl⟩
   obtain⟨bi,hbi⟩:∃n,w2.heap.size=n:=⟨_,rfl⟩
   rw[hw3,hbi] at HX3p
   rw[hbi] at zbx2
   rw[hw3,hbi]
   clear hw3 hbi cx2
   have HX3:=HX3p
   have hne1:bx≠bi:=by omega
   have hne2:bi≠bx:=by omega
   have hne3:w.heap.size≠bi:=by omega
   have hne4:bi≠w.heap.size:=by omega
   have hne5:w.heap.size≠bx:=by omega
   have hne6:bx≠w.heap.size:=by omega
   obtain⟨n,hn'⟩:∃n,X.S.length=n:=⟨_,rfl⟩
   have HN:=Lib.hid hn'
   rw[hn'] at hsl
   have HVAL:Hid (∀W,SbAt W b c (s.bod i X) V' →Calls Tryd.prog 27 #[.pointer (some ⟨b,0,none⟩)] W fun e w' =>e= .returned (.int .i64 (n:Int))∧∃v,SbAt w' b c {s.bod i X with same:=X.S++[(n:Int)]} (putV V' .same v)∧FrS W b V' w' (putV V' .same v)):=Lib.hid (fun W h=>by rw[←hn'];exact value_any b c (s.bod i X) V' W h (by show X.S.length≤100000;omega))
   have hdvA:(m:Int) / 2^ra=((m / 2^ra:Nat):Int):=by push_cast;rfl
   have hdvB:(m:Int) / 2^rb=((m / 2^rb:Nat):Int):=by push_cast;rfl
   have hbaA:=live_nat3 m ra
   have hbaB:=live_nat3 m rb
   have htbA:m.testBit ra=decide (m / 2^ra % 2=1):=Nat.testBit_eq_decide_div_mod_eq
   have htbB:m.testBit rb=decide (m / 2^rb % 2=1):=Nat.testBit_eq_decide_div_mod_eq
   obtain⟨dA,hdA⟩:∃d,m / 2^ra=d:=⟨_,rfl⟩
   obtain⟨dB,hdB⟩:∃d,m / 2^rb=d:=⟨_,rfl⟩
   rw[hdA] at hdvA hbaA htbA
   rw[hdB] at hdvB hbaB htbB
   obtain⟨va,hva⟩:∃v,X.R.getD ra 0=v:=⟨_,rfl⟩
   obtain⟨vb,hvb⟩:∃v,X.R.getD rb 0=v:=⟨_,rfl⟩
   have HVA:=Lib.hid hva
   have HVB:=Lib.hid hvb
   have HTBA:=Lib.hid htbA
   have HTBB:=Lib.hid htbB
   have HBAA:=Lib.hid hbaA
   have HBAB:=Lib.hid hbaB
   clear hn' hdA hdB hva hvb htbA htbB hbaA hbaB
   obtain⟨uA,huA⟩:∃t,useA p ⟨op,(rd:Int),(ra:Int),(rb:Int),mm⟩=t:=⟨_,rfl⟩
   obtain⟨uB,huB⟩:∃t,useB p ⟨op,(rd:Int),(ra:Int),(rb:Int),mm⟩=t:=⟨_,rfl⟩
   have HUAV:=Lib.hid huA
   have HUBV:=Lib.hid huB
   clear huA huB HX3p
   go_cut [102] from 30 to 159 (fun v102 wx=>v102= .bool uA∧SbX w V b c wx (s.bod i X) V' [(bi, .cells #[.int .i64 op, .int .i64 (-1), .int .i64 (-1), .int .i64 (-1), .int .i64 mm, .int .i64 (pc:Int)] 77 (0,0)),(bx, .cells #[.int .i64 op, .int .i64 (rd:Int), .int .i64 (ra:Int), .int .i64 (rb:Int), .int .i64 mm] 58 (0,0)),(w.heap.size,boxI X.R)])
   case first=>
    as_aux_lemma=>
     by_cases h17:op=17
     ·skip
      have hs17:(op !=17)=false:=by simpa using h17
      obtain⟨c0,c1⟩:=HCALL.out h17
      obtain⟨fj,hfi⟩:∃f:Nat,mm=f:=⟨mm.toNat,by omega⟩
      subst hfi
      have f1:fj<NF:=by have:=HNF.out;omega
      have f2:(fj:Int)<NF:=by omega
      have f3:(0:Int)≤fj:=by omega
      obtain⟨G,hG⟩:∃G,p[fj]? =some G:=⟨_,gE (by rw[HNF.out];exact f1)⟩
      have hpg:pn=G.params:=by
       rw[←HPN.out]
       show((p[(fj:Int).toNat]?).map Fnc.params).getD 0=_
       rw[Int.toNat_natCast,hG];rfl
      have hpn0:0≤pn:=by rw[hpg];exact HPAR.out G (gM hG)
      obtain⟨-,-,cp0,-,-⟩:=HFN.out fj G hG
      rw[←hpg] at cp0
      have HCPF:=Lib.hid cp0
      clear c0 c1 hG hpg cp0
      obtain rfl:tA=true:=by rw[←HTA.out,h17];rfl
      by_cases q0:pn=0
      ·skip
       have hbitA:m.testBit ra=false:=by rw[←HM.out,q0,reads_none h17];exact Nat.zero_testBit _
       have hbA:dA % 2=0:=by
        have h:=HTBA.out
        rw[hbitA] at h
        have h1:¬(dA % 2=1):=by simpa using h.symm
        omega
       have hb1A:bits .and .i64 (dA:Int) 1=0:=by rw[HBAA.out,hbA];rfl
       clear hbA hbitA
       have HUA:=Lib.hid (show useA p ⟨op,(rd:Int),(ra:Int),(rb:Int),(fj:Int)⟩=false by
        show(takesA op&&(op !=17||decide (0<parOf p ⟨op,(rd:Int),(ra:Int),(rb:Int),(fj:Int)⟩)))=false
        rw[HTA.out,hs17,HPN.out]
        rw[q0];rfl)
       obtain rfl:uA=false:=by rw[←HUAV.out];exact HUA.out
       clear h17 q0
       have cx:=cell_block (HX3.out.box (.tail _ (.head _)))
       have ci:=cell_block (HX3.out.box (.head _))
       have fi:=frozen_block (HX3.out.box (.head _))
       have zx:=block_lt (HX3.out.box (.tail _ (.head _)))
       have zi:=block_lt (HX3.out.box (.head _))
       have zl:=block_lt (HX3.out.box (.tail _ (.tail _ (.head _))))
       have HBq:=HW.out.trans (HX3.out.fr.below.mono HH0.out)
       obtain⟨k0,k3,k4,k5,k9,k10,zb⟩:=KBX.out _ _ _ HX3.out.sb
       clear k3 k4 k5 k9 k10
       have cpf:=(HBq.cell (p:=⟨gf,_,none⟩) zgf).trans HCPF.out
       have zgfr:=Nat.lt_of_lt_of_le zgf HBq.size
       clear HBq
       go_quiet (fail)
       go_wp2_with fail
       go_meet
       exact⟨rfl,HX3.out.keeps (below_drewN (Below.refl _ _) _)⟩
      ·skip
       have hp0:0<pn:=by omega
       have hbitA:m.testBit ra=true:=by rw[←HM.out];exact reads_a (x:=⟨op,(rd:Int),(ra:Int),(rb:Int),(fj:Int)⟩) (by dsimp only;omega) (by dsimp only;omega) (fun _=>q0)
       have hbA:dA % 2=1:=by have h:=HTBA.out;rw[hbitA] at h;simpa using h.symm
       have hb1A:bits .and .i64 (dA:Int) 1=1:=by rw[HBAA.out,hbA];rfl
       clear hbA hbitA
       have HUA:=Lib.hid (show useA p ⟨op,(rd:Int),(ra:Int),(rb:Int),(fj:Int)⟩=true by
        show(takesA op&&(op !=17||decide (0<parOf p ⟨op,(rd:Int),(ra:Int),(rb:Int),(fj:Int)⟩)))=true
        rw[HTA.out,hs17,HPN.out]
        simpa using hp0)
       obtain rfl:uA=true:=by rw[←HUAV.out];exact HUA.out
       clear h17
       have cx:=cell_block (HX3.out.box (.tail _ (.head _)))
       have ci:=cell_block (HX3.out.box (.head _))
       have fi:=frozen_block (HX3.out.box (.head _))
       have zx:=block_lt (HX3.out.box (.tail _ (.head _)))
       have zi:=block_lt (HX3.out.box (.head _))
       have zl:=block_lt (HX3.out.box (.tail _ (.tail _ (.head _))))
       have HBq:=HW.out.trans (HX3.out.fr.below.mono HH0.out)
       obtain⟨k0,k3,k4,k5,k9,k10,zb⟩:=KBX.out _ _ _ HX3.out.sb
       clear k3 k4 k5 k9 k10
       have cpf:=(HBq.cell (p:=⟨gf,_,none⟩) zgf).trans HCPF.out
       have zgfr:=Nat.lt_of_lt_of_le zgf HBq.size
       clear HBq
       go_quiet (fail)
       go_wp2_with fail
       go_meet
       exact⟨rfl,HX3.out.keeps (below_drewN (Below.refl _ _) _)⟩
     ·skip
      have hs17:(op !=17)=true:=by simpa using h17
      by_cases c1:op=1∨op=15
      ·skip
       obtain rfl:tA=false:=by rw[←HTA.out];rcases c1 with h|h<;>rw[h]<;>rfl
       have HUA:=Lib.hid (show useA p ⟨op,(rd:Int),(ra:Int),(rb:Int),mm⟩=false by
        show(takesA op&&(op !=17||decide (0<parOf p ⟨op,(rd:Int),(ra:Int),(rb:Int),mm⟩)))=false
        rw[HTA.out,hs17]
        rfl)
       obtain rfl:uA=false:=by rw[←HUAV.out];exact HUA.out
       have cx:=cell_block (HX3.out.box (.tail _ (.head _)))
       have ci:=cell_block (HX3.out.box (.head _))
       have fi:=frozen_block (HX3.out.box (.head _))
       have zx:=block_lt (HX3.out.box (.tail _ (.head _)))
       have zi:=block_lt (HX3.out.box (.head _))
       have zl:=block_lt (HX3.out.box (.tail _ (.tail _ (.head _))))
       go_quiet (fail)
       go_wp2_with fail
       go_meet
       exact⟨rfl,HX3.out.keeps (below_drewN (Below.refl _ _) _)⟩
      ·skip
       obtain rfl:tA=true:=by rw[←HTA.out];unfold takesA;simp;omega
       have hbitA:m.testBit ra=true:=by rw[←HM.out];exact reads_a (x:=⟨op,(rd:Int),(ra:Int),(rb:Int),mm⟩) (by dsimp only;omega) (by dsimp only;omega) (fun h=>absurd h h17)
       have hbA:dA % 2=1:=by have h:=HTBA.out;rw[hbitA] at h;simpa using h.symm
       have hb1A:bits .and .i64 (dA:Int) 1=1:=by rw[HBAA.out,hbA];rfl
       clear hbA hbitA
       have HUA:=Lib.hid (show useA p ⟨op,(rd:Int),(ra:Int),(rb:Int),mm⟩=true by
        show(takesA op&&(op !=17||decide (0<parOf p ⟨op,(rd:Int),(ra:Int),(rb:Int),mm⟩)))=true
        rw[HTA.out,hs17]
        rfl)
       obtain rfl:uA=true:=by rw[←HUAV.out];exact HUA.out
       have cx:=cell_block (HX3.out.box (.tail _ (.head _)))
       have ci:=cell_block (HX3.out.box (.head _))
       have fi:=frozen_block (HX3.out.box (.head _))
       have zx:=block_lt (HX3.out.box (.tail _ (.head _)))
       have zi:=block_lt (HX3.out.box (.head _))
       have zl:=block_lt (HX3.out.box (.tail _ (.tail _ (.head _))))
       go_quiet (fail)
       go_wp2_with fail
       go_meet
       exact⟨rfl,HX3.out.keeps (below_drewN (Below.refl _ _) _)⟩
   case rest=>
    obtain⟨rfl,hx4⟩:=hcut
    rename World=>w4
    have HX4:=Lib.hid hx4
    clear hx4 HX3
    obtain⟨av,hav⟩:∃v:Int,(if uA=true then va else -1)=v:=⟨_,rfl⟩
    have HAV:=Lib.hid hav
    clear hav
    go_upto_if 102 with fail
    go_cut [12] from 30 to 159 (fun v12 wx=>v12= .pointer (some ⟨bi,0,none⟩)∧SbX w V b c wx (s.bod i X) V' [(bi, .cells #[.int .i64 op, .int .i64 (-1), .int .i64 av, .int .i64 (-1), .int .i64 mm, .int .i64 (pc:Int)] 77 (0,0)),(bx, .cells #[.int .i64 op, .int .i64 (rd:Int), .int .i64 (ra:Int), .int .i64 (rb:Int), .int .i64 mm] 58 (0,0)),(w.heap.size,boxI X.R)])
    case first=>
     as_aux_lemma=>
      cases uA with
      |true=>
       have e:va=av:=HAV.out
       subst e
       have cx:=cell_block (HX4.out.box (.tail _ (.head _)))
       have ci:=cell_block (HX4.out.box (.head _))
       have fi:=frozen_block (HX4.out.box (.head _))
       have zx:=block_lt (HX4.out.box (.tail _ (.head _)))
       have zi:=block_lt (HX4.out.box (.head _))
       have zl:=block_lt (HX4.out.box (.tail _ (.tail _ (.head _))))
       have cla:=boxI_cell (HX4.out.box (.tail _ (.tail _ (.head _)))) (j:=ra) (by rw[HL1.out];exact ra12)
       rw[HVA.out] at cla
       go_wp2_with fail
       go_meet
       exact⟨rfl,HX4.out.up1 hne1 hne3 2 (.int .i64 va)⟩
      |false=>
       have e: -1=av:=HAV.out
       subst e
       go_wp2_with fail
       go_meet
       exact⟨rfl,HX4.out⟩
    case rest=>
     obtain⟨rfl,hx5⟩:=hcut
     rename World=>w5
     have HX5:=Lib.hid hx5
     clear hx5 HX4
     go_upto_region 11 with fail
     go_cut [134] from 30 to 159 (fun v134 wx=>v134= .bool uB∧SbX w V b c wx (s.bod i X) V' [(bi, .cells #[.int .i64 op, .int .i64 (-1), .int .i64 av, .int .i64 (-1), .int .i64 mm, .int .i64 (pc:Int)] 77 (0,0)),(bx, .cells #[.int .i64 op, .int .i64 (rd:Int), .int .i64 (ra:Int), .int .i64 (rb:Int), .int .i64 mm] 58 (0,0)),(w.heap.size,boxI X.R)])
     case first=>
      as_aux_lemma=>
       by_cases h17:op=17
       ·skip
        have hs17:(op !=17)=false:=by simpa using h17
        obtain⟨c0,c1⟩:=HCALL.out h17
        obtain⟨fj,hfi⟩:∃f:Nat,mm=f:=⟨mm.toNat,by omega⟩
        subst hfi
        have f1:fj<NF:=by have:=HNF.out;omega
        have f2:(fj:Int)<NF:=by omega
        have f3:(0:Int)≤fj:=by omega
        obtain⟨G,hG⟩:∃G,p[fj]? =some G:=⟨_,gE (by rw[HNF.out];exact f1)⟩
        have hpg:pn=G.params:=by
         rw[←HPN.out]
         show((p[(fj:Int).toNat]?).map Fnc.params).getD 0=_
         rw[Int.toNat_natCast,hG];rfl
        have hpn0:0≤pn:=by rw[hpg];exact HPAR.out G (gM hG)
        obtain⟨-,-,cp0,-,-⟩:=HFN.out fj G hG
        rw[←hpg] at cp0
        have HCPF:=Lib.hid cp0
        clear c0 c1 hG hpg cp0
        obtain rfl:tB=true:=by rw[←HTB.out,h17];rfl
        by_cases q0:pn=0
        ·skip
         have hbitB:m.testBit rb=false:=by rw[←HM.out,q0,reads_none h17];exact Nat.zero_testBit _
         have hbB:dB % 2=0:=by
          have h:=HTBB.out
          rw[hbitB] at h
          have h1:¬(dB % 2=1):=by simpa using h.symm
          omega
         have hb1B:bits .and .i64 (dB:Int) 1=0:=by rw[HBAB.out,hbB];rfl
         clear hbB hbitB
         have HUB:=Lib.hid (show useB p ⟨op,(rd:Int),(ra:Int),(rb:Int),(fj:Int)⟩=false by
          show(takesB op&&(op !=17||decide (1<parOf p ⟨op,(rd:Int),(ra:Int),(rb:Int),(fj:Int)⟩)))=false
          rw[HTB.out,hs17,HPN.out]
          rw[q0];rfl)
         obtain rfl:uB=false:=by rw[←HUBV.out];exact HUB.out
         clear h17 q0
         have cx:=cell_block (HX5.out.box (.tail _ (.head _)))
         have ci:=cell_block (HX5.out.box (.head _))
         have fi:=frozen_block (HX5.out.box (.head _))
         have zx:=block_lt (HX5.out.box (.tail _ (.head _)))
         have zi:=block_lt (HX5.out.box (.head _))
         have zl:=block_lt (HX5.out.box (.tail _ (.tail _ (.head _))))
         have HBq:=HW.out.trans (HX5.out.fr.below.mono HH0.out)
         obtain⟨k0,k3,k4,k5,k9,k10,zb⟩:=KBX.out _ _ _ HX5.out.sb
         clear k3 k4 k5 k9 k10
         have cpf:=(HBq.cell (p:=⟨gf,_,none⟩) zgf).trans HCPF.out
         have zgfr:=Nat.lt_of_lt_of_le zgf HBq.size
         clear HBq
         go_quiet (fail)
         go_wp2_with fail
         go_meet
         exact⟨rfl,HX5.out.keeps (below_drewN (Below.refl _ _) _)⟩
        ·skip
         by_cases q1:pn=1
         ·skip
          subst q1
          by_cases hbitB:m.testBit rb=true
          ·skip
           have hbB:dB % 2=1:=by have h:=HTBB.out;rw[hbitB] at h;simpa using h.symm
           have hb1B:bits .and .i64 (dB:Int) 1=1:=by rw[HBAB.out,hbB];rfl
           clear hbB hbitB
           have HUB:=Lib.hid (show useB p ⟨op,(rd:Int),(ra:Int),(rb:Int),(fj:Int)⟩=false by
            show(takesB op&&(op !=17||decide (1<parOf p ⟨op,(rd:Int),(ra:Int),(rb:Int),(fj:Int)⟩)))=false
            rw[HTB.out,hs17,HPN.out]
            rfl)
           obtain rfl:uB=false:=by rw[←HUBV.out];exact HUB.out
           clear h17
           have cx:=cell_block (HX5.out.box (.tail _ (.head _)))
           have ci:=cell_block (HX5.out.box (.head _))
           have fi:=frozen_block (HX5.out.box (.head _))
           have zx:=block_lt (HX5.out.box (.tail _ (.head _)))
           have zi:=block_lt (HX5.out.box (.head _))
           have zl:=block_lt (HX5.out.box (.tail _ (.tail _ (.head _))))
           have HBq:=HW.out.trans (HX5.out.fr.below.mono HH0.out)
           obtain⟨k0,k3,k4,k5,k9,k10,zb⟩:=KBX.out _ _ _ HX5.out.sb
           clear k3 k4 k5 k9 k10
           have cpf:=(HBq.cell (p:=⟨gf,_,none⟩) zgf).trans HCPF.out
           have zgfr:=Nat.lt_of_lt_of_le zgf HBq.size
           clear HBq
           go_quiet (fail)
           go_wp2_with fail
           go_meet
           exact⟨rfl,HX5.out.keeps (below_drewN (Below.refl _ _) _)⟩
          ·skip
           have hbitB:m.testBit rb=false:=by simpa using hbitB
           have hbB:dB % 2=0:=by
            have h:=HTBB.out
            rw[hbitB] at h
            have h1:¬(dB % 2=1):=by simpa using h.symm
            omega
           have hb1B:bits .and .i64 (dB:Int) 1=0:=by rw[HBAB.out,hbB];rfl
           clear hbB hbitB
           have HUB:=Lib.hid (show useB p ⟨op,(rd:Int),(ra:Int),(rb:Int),(fj:Int)⟩=false by
            show(takesB op&&(op !=17||decide (1<parOf p ⟨op,(rd:Int),(ra:Int),(rb:Int),(fj:Int)⟩)))=false
            rw[HTB.out,hs17,HPN.out]
            rfl)
           obtain rfl:uB=false:=by rw[←HUBV.out];exact HUB.out
           clear h17
           have cx:=cell_block (HX5.out.box (.tail _ (.head _)))
           have ci:=cell_block (HX5.out.box (.head _))
           have fi:=frozen_block (HX5.out.box (.head _))
           have zx:=block_lt (HX5.out.box (.tail _ (.head _)))
           have zi:=block_lt (HX5.out.box (.head _))
           have zl:=block_lt (HX5.out.box (.tail _ (.tail _ (.head _))))
           have HBq:=HW.out.trans (HX5.out.fr.below.mono HH0.out)
           obtain⟨k0,k3,k4,k5,k9,k10,zb⟩:=KBX.out _ _ _ HX5.out.sb
           clear k3 k4 k5 k9 k10
           have cpf:=(HBq.cell (p:=⟨gf,_,none⟩) zgf).trans HCPF.out
           have zgfr:=Nat.lt_of_lt_of_le zgf HBq.size
           clear HBq
           go_quiet (fail)
           go_wp2_with fail
           go_meet
           exact⟨rfl,HX5.out.keeps (below_drewN (Below.refl _ _) _)⟩
         ·skip
          have hp0:0<pn:=by omega
          have hp1:1<pn:=by omega
          have hbitB:m.testBit rb=true:=by rw[←HM.out];exact reads_b (x:=⟨op,(rd:Int),(ra:Int),(rb:Int),(fj:Int)⟩) (by dsimp only;omega) (by dsimp only;omega) (fun _=>⟨q0,q1⟩)
          have hbB:dB % 2=1:=by have h:=HTBB.out;rw[hbitB] at h;simpa using h.symm
          have hb1B:bits .and .i64 (dB:Int) 1=1:=by rw[HBAB.out,hbB];rfl
          clear hbB hbitB
          have HUB:=Lib.hid (show useB p ⟨op,(rd:Int),(ra:Int),(rb:Int),(fj:Int)⟩=true by
           show(takesB op&&(op !=17||decide (1<parOf p ⟨op,(rd:Int),(ra:Int),(rb:Int),(fj:Int)⟩)))=true
           rw[HTB.out,hs17,HPN.out]
           simpa using hp1)
          obtain rfl:uB=true:=by rw[←HUBV.out];exact HUB.out
          clear h17
          have cx:=cell_block (HX5.out.box (.tail _ (.head _)))
          have ci:=cell_block (HX5.out.box (.head _))
          have fi:=frozen_block (HX5.out.box (.head _))
          have zx:=block_lt (HX5.out.box (.tail _ (.head _)))
          have zi:=block_lt (HX5.out.box (.head _))
          have zl:=block_lt (HX5.out.box (.tail _ (.tail _ (.head _))))
          have HBq:=HW.out.trans (HX5.out.fr.below.mono HH0.out)
          obtain⟨k0,k3,k4,k5,k9,k10,zb⟩:=KBX.out _ _ _ HX5.out.sb
          clear k3 k4 k5 k9 k10
          have cpf:=(HBq.cell (p:=⟨gf,_,none⟩) zgf).trans HCPF.out
          have zgfr:=Nat.lt_of_lt_of_le zgf HBq.size
          clear HBq
          go_quiet (fail)
          go_wp2_with fail
          go_meet
          exact⟨rfl,HX5.out.keeps (below_drewN (Below.refl _ _) _)⟩
       ·skip
        have hs17:(op !=17)=true:=by simpa using h17
        by_cases c1:(op=1∨op=15)∨(op=13∨op=16∨op=18∨op=19)
        ·skip
         obtain rfl:tB=false:=by rw[←HTB.out];rcases c1 with(h|h)|(h|h|h|h)<;>rw[h]<;>rfl
         have HUB:=Lib.hid (show useB p ⟨op,(rd:Int),(ra:Int),(rb:Int),mm⟩=false by
          show(takesB op&&(op !=17||decide (1<parOf p ⟨op,(rd:Int),(ra:Int),(rb:Int),mm⟩)))=false
          rw[HTB.out,hs17]
          rfl)
         obtain rfl:uB=false:=by rw[←HUBV.out];exact HUB.out
         have cx:=cell_block (HX5.out.box (.tail _ (.head _)))
         have ci:=cell_block (HX5.out.box (.head _))
         have fi:=frozen_block (HX5.out.box (.head _))
         have zx:=block_lt (HX5.out.box (.tail _ (.head _)))
         have zi:=block_lt (HX5.out.box (.head _))
         have zl:=block_lt (HX5.out.box (.tail _ (.tail _ (.head _))))
         go_quiet (fail)
         go_wp2_with fail
         go_meet
         exact⟨rfl,HX5.out.keeps (below_drewN (Below.refl _ _) _)⟩
        ·skip
         obtain rfl:tB=true:=by rw[←HTB.out];unfold takesB;simp;omega
         have hbitB:m.testBit rb=true:=by rw[←HM.out];exact reads_b (x:=⟨op,(rd:Int),(ra:Int),(rb:Int),mm⟩) (by dsimp only;omega) (by dsimp only;omega) (fun h=>absurd h h17)
         have hbB:dB % 2=1:=by have h:=HTBB.out;rw[hbitB] at h;simpa using h.symm
         have hb1B:bits .and .i64 (dB:Int) 1=1:=by rw[HBAB.out,hbB];rfl
         clear hbB hbitB
         have HUB:=Lib.hid (show useB p ⟨op,(rd:Int),(ra:Int),(rb:Int),mm⟩=true by
          show(takesB op&&(op !=17||decide (1<parOf p ⟨op,(rd:Int),(ra:Int),(rb:Int),mm⟩)))=true
          rw[HTB.out,hs17]
          rfl)
         obtain rfl:uB=true:=by rw[←HUBV.out];exact HUB.out
         have cx:=cell_block (HX5.out.box (.tail _ (.head _)))
         have ci:=cell_block (HX5.out.box (.head _))
         have fi:=frozen_block (HX5.out.box (.head _))
         have zx:=block_lt (HX5.out.box (.tail _ (.head _)))
         have zi:=block_lt (HX5.out.box (.head _))
         have zl:=block_lt (HX5.out.box (.tail _ (.tail _ (.head _))))
         go_quiet (fail)
         go_wp2_with fail
         go_meet
         exact⟨rfl,HX5.out.keeps (below_drewN (Below.refl _ _) _)⟩
     case rest=>
      obtain⟨rfl,hx6⟩:=hcut
      rename World=>w6
      have HX6:=Lib.hid hx6
      clear hx6 HX5
      obtain⟨bv,hbv⟩:∃v:Int,(if uB=true then vb else -1)=v:=⟨_,rfl⟩
      have HBV:=Lib.hid hbv
      clear hbv
      go_upto_if 134 with fail
      go_cut [12] from 30 to 159 (fun v12 wx=>v12= .pointer (some ⟨bi,0,none⟩)∧SbX w V b c wx (s.bod i X) V' [(bi, .cells #[.int .i64 op, .int .i64 (-1), .int .i64 av, .int .i64 bv, .int .i64 mm, .int .i64 (pc:Int)] 77 (0,0)),(bx, .cells #[.int .i64 op, .int .i64 (rd:Int), .int .i64 (ra:Int), .int .i64 (rb:Int), .int .i64 mm] 58 (0,0)),(w.heap.size,boxI X.R)])
      case first=>
       as_aux_lemma=>
        cases uB with
        |true=>
         have e:vb=bv:=HBV.out
         subst e
         have cx:=cell_block (HX6.out.box (.tail _ (.head _)))
         have ci:=cell_block (HX6.out.box (.head _))
         have fi:=frozen_block (HX6.out.box (.head _))
         have zx:=block_lt (HX6.out.box (.tail _ (.head _)))
         have zi:=block_lt (HX6.out.box (.head _))
         have zl:=block_lt (HX6.out.box (.tail _ (.tail _ (.head _))))
         have clb:=boxI_cell (HX6.out.box (.tail _ (.tail _ (.head _)))) (j:=rb) (by rw[HL1.out];exact rb12)
         rw[HVB.out] at clb
         go_wp2_with fail
         go_meet
         exact⟨rfl,HX6.out.up1 hne1 hne3 3 (.int .i64 vb)⟩
        |false=>
         have e: -1=bv:=HBV.out
         subst e
         go_wp2_with fail
         go_meet
         exact⟨rfl,HX6.out⟩
      case rest=>
       obtain⟨rfl,hx7⟩:=hcut
       rename World=>w7
       have HX7:=Lib.hid hx7
       clear hx7 HX6
       go_upto_if 141 with fail
       go_cut [12] from 30 to 159 (fun v12 wx=>v12= .pointer (some ⟨bi,0,none⟩)∧∃(V9:SK→Value) (x9:InsS) (S9 R9:List Int),bodTo p F a R s.same (q+1)=⟨R9,X.I++[x9],S9⟩∧SbX w V b c wx {s.bod i X with same:=S9} V9 [(bi, .cells x9.cells.toArray 77 (0,0)),(bx, .cells #[.int .i64 op, .int .i64 (rd:Int), .int .i64 (ra:Int), .int .i64 (rb:Int), .int .i64 mm] 58 (0,0)),(w.heap.size,boxI R9)]∧V9 .parts=V' .parts∧V9 .ends=V' .ends∧V9 .began=V' .began)
       case first=>
        as_aux_lemma=>
         cases hset:setsB (⟨op,(rd:Int),(ra:Int),(rb:Int),mm⟩:Ins) with
         |true=>
          have HSB:=Lib.hid hset
          have hmsb:((ms:Int) !=0)=true:=by
           have h:=HMS.out
           unfold setM at h
           rw[HSB.out,if_pos rfl] at h
           have h2:0<2^rd:=Nat.pos_of_ne_zero (by simp)
           have h3:ms=2^rd:=h.symm
           simp;omega
          have HNX:Hid (bodTo p F a R s.same (q+1)=⟨(X.R.set rd (n:Int)),X.I++[(⟨op,(n:Int),av,bv,mm,(pc:Int)⟩:InsS)],(X.S++[(n:Int)])⟩):=Lib.hid (by
           rw[HLE.out];unfold bodStep
           rw[HIA.out,if_pos HSB.out]
           unfold insV
           rw[HUAV.out,HUBV.out,←HAV.out,←HBV.out,←HVA.out,←HVB.out]
           rw[←HN.out]
           all_goals rfl)
          clear hset
          go_wp2_with (first|(go_at_call 27;go_must (refine(HVAL.out _ HX7.out.sb).mono ?_;rintro e w8 ⟨rfl,v8,hs8,hf8⟩;have HX8:=Lib.hid (HX7.out.call hs8 hf8);have cx:=cell_block (HX8.out.box (.tail _ (.head _)));have ci:=cell_block (HX8.out.box (.head _));have fi:=frozen_block (HX8.out.box (.head _));have zx:=block_lt (HX8.out.box (.tail _ (.head _)));have zi:=block_lt (HX8.out.box (.head _));have zl:=block_lt (HX8.out.box (.tail _ (.tail _ (.head _))));have cld:=boxI_cell (HX8.out.box (.tail _ (.tail _ (.head _)))) (j:=rd) (by rw[HL1.out];exact rd12);have fl:=frozen_block (HX8.out.box (.tail _ (.tail _ (.head _))));clear hs8 hf8)))
          go_meet
          exact⟨rfl,putV V' .same v8,(⟨op,(n:Int),av,bv,mm,(pc:Int)⟩:InsS),(X.S++[(n:Int)]),(X.R.set rd (n:Int)),HNX.out,(HX8.out.up1 hne1 hne3 1 (.int .i64 (n:Int))).up3 hne4 hne6 rd (n:Int),by rw[putV_ne _ (by simp)],by rw[putV_ne _ (by simp)],by rw[putV_ne _ (by simp)]⟩
         |false=>
          have HSB:=Lib.hid hset
          have hmsb:((ms:Int) !=0)=false:=by
           have h:=HMS.out
           unfold setM at h
           rw[HSB.out,if_neg (by decide)] at h
           have h3:ms=0:=h.symm
           simp;omega
          have HNX:Hid (bodTo p F a R s.same (q+1)=⟨X.R,X.I++[(⟨op,(-1),av,bv,mm,(pc:Int)⟩:InsS)],X.S⟩):=Lib.hid (by
           rw[HLE.out];unfold bodStep
           rw[HIA.out,if_neg (by rw[HSB.out];decide)]
           unfold insV
           rw[HUAV.out,HUBV.out,←HAV.out,←HBV.out,←HVA.out,←HVB.out]
           skip
           all_goals rfl)
          clear hset
          go_wp2_with fail
          go_meet
          exact⟨rfl,V',(⟨op,(-1),av,bv,mm,(pc:Int)⟩:InsS),X.S,X.R,HNX.out,HX7.out,rfl,rfl,rfl⟩
       case rest=>
        obtain⟨rfl,V9,x9,S9,R9,hnx9,hx9,hp9,he9,hb9⟩:=hcut
        rename World=>w9
        have HNX:=Lib.hid hnx9
        have HX9:=Lib.hid hx9
        have HV9:=Lib.hid (show V9 .parts=V' .parts∧V9 .ends=V' .ends∧V9 .began=V' .began from⟨hp9,he9,hb9⟩)
        clear hnx9 hx9 hp9 he9 hb9
        have r9:w9.rangeAt bi 0 [.int .i64 x9.op, .int .i64 x9.id, .int .i64 x9.a, .int .i64 x9.b, .int .i64 x9.imm, .int .i64 x9.pc]:=range_block (HX9.out.box (.head _))
        have hvp9:V9 .parts= .slice (some ⟨gp,0,none⟩) NP cp:=by rw[HV9.out.1,HV.out.1,HVP.out]
        have HVP9:=Lib.hid hvp9
        have hin9:∀x∈({s.bod i X with same:=S9}:SB).parts,x.inn.length=12:=fun x hx=>by
         rcases List.mem_or_eq_of_mem_set hx with h|h
         ·exact HIN.out x h
         ·rw[h]
          show(s.part i).inn.length=12
          unfold SB.part
          rw[gD,gE HHI.out]
          exact HIN.out _ (List.getElem_mem HHI.out)
        have hpl9:({s.bod i X with same:=S9}:SB).parts.length=NP:=by show(s.parts.set i _).length=NP;rw[List.length_set,HNP.out]
        have HIN9:=Lib.hid hin9
        have HPL9:=Lib.hid hpl9
        obtain⟨PH,cph,hvh,-,-⟩:=HX9.out.sb.own.slice (.ins i)
        rw[rowsOf_v] at hvh
        obtain⟨np,hnp⟩:∃m,(({s.bod i X with same:=S9}:SB).part i).ins.length=m:=⟨_,rfl⟩
        have hvh' :V9 (.ins i)= .slice PH np cph:=by rw[hvh];show Value.slice PH (({s.bod i X with same:=S9}:SB).part i).ins.length cph=_;rw[hnp]
        have HVH:=Lib.hid hvh'
        have HNPH:=Lib.hid hnp
        have hnp2:np≤200:=by
         have h1:(({s.bod i X with same:=S9}:SB).part i).ins.length=(s.part i).ins.length+X.I.length:=by
          have:=bod_part s HHI.out X
          show((s.bod i X).part i).ins.length=_
          rw[this];simp
         omega
        have c15:w9.cell? ⟨gp,i*15+2,none⟩=some (.slice PH np cph):=by
         have h:=HX9.out.sb.own.cell .parts (by rw[rowsOf_v];exact hvp9) (i:=i*15+2) (u:=V9 (.ins i)) (by
          show(partsCells ({s.bod i X with same:=S9}:SB).parts _ _)[i*15+2]? =_
          unfold partsCells
          rw[flat_at (fun k hk=>part_len hin9 hk _ _) (by rw[hpl9];exact hi1) (by omega)]
          rfl)
         rw[h,hvh']
        have zgp9:=(HX9.out.sb.rlt .parts (g:=gp) (by rw[hvp9];rfl)).2
        have HOW:Hid (w9.ownsRow (b+1) 77 6 (.slice PH np cph) np (insCells (({s.bod i X with same:=S9}:SB).part i).ins)):=Lib.hid (by
         have h:=HX9.out.sb.own.own (.ins i)
         rw[←hvh',←hnp]
         exact h)
        have zb9:=HX9.out.sb.lt
        have zi9:=block_lt (HX9.out.box (.head _))
        obtain⟨i0,hi,hz0,hz1,hz2⟩:=info_parts infoInsV
        have HI6:Hid ((Tryd.prog.info? 77).map (·.size)=some (List.length (α:=Value) [.int .i64 x9.op, .int .i64 x9.id, .int .i64 x9.a, .int .i64 x9.b, .int .i64 x9.imm, .int .i64 x9.pc])):=Lib.hid (by rw[hi];show some i0.size=some 6;rw[hz1])
        have HKL:=Lib.hid (fun(W:World) (hb:Below w9.heap.size w9 W)=>(fun j v hv=>(hb.cell (p:=⟨bi,_,none⟩) zi9).trans (r9 j v hv):W.rangeAt bi 0 [.int .i64 x9.op, .int .i64 x9.id, .int .i64 x9.a, .int .i64 x9.b, .int .i64 x9.imm, .int .i64 x9.pc]))
        clear hvp9 hin9 hpl9 hvh hvh' hnp
        go_wp2_with fail
        refine wp_region_held_drew (S:=fun w' =>w'.rangeAt bi 0 [.int .i64 x9.op, .int .i64 x9.id, .int .i64 x9.a, .int .i64 x9.b, .int .i64 x9.imm, .int .i64 x9.pc]) (by kernel_rfl) (HKL.out _ (Below.refl _ _).drew) (fun hHeld=> ?_)
        clear r9
        refine wpAnyH_take (i:=0) (v:= .pointer (some ⟨gp,i*15,none⟩)) rfl (by kernel_rfl) (by kernel_rfl) (by kernel_rfl) (fun _ _ _ h=>h) (Or.inl ⟨by rfl,?_⟩) hHeld ?_
        ·intro w hSw
         simp only[qg]
         go_simp
        simp only[Act.put,qs]
        refine wpAnyH_take (i:=1) (v:= .pointer (some ⟨gp,i*15,none⟩)) rfl (by kernel_rfl) (by kernel_rfl) (by kernel_rfl) (fun _ _ _ h=>h) (Or.inl ⟨by rfl,?_⟩) hHeld ?_
        ·intro w hSw
         simp only[qg]
         go_simp
        simp only[Act.put,qs]
        refine wpAnyH_take (i:=2) (v:= .pointer (some ⟨gp,i*15,none⟩)) rfl (by kernel_rfl) (by kernel_rfl) (by kernel_rfl) (fun _ _ _ h=>h) (Or.inl ⟨by rfl,?_⟩) hHeld ?_
        ·intro w hSw
         simp only[qg]
         go_simp
        simp only[Act.put,qs]
        refine wpAnyH_take (i:=3) (v:= .pointer (some ⟨gp,i*15+2,none⟩)) rfl (by kernel_rfl) (by kernel_rfl) (by kernel_rfl) (fun _ _ _ h=>h) (Or.inl ⟨by rfl,?_⟩) hHeld ?_
        ·intro w hSw
         simp only[qg]
         go_simp
        simp only[Act.put,qs]
        refine' wpAnyH_take (i:=5) rfl (by kernel_rfl) (by kernel_rfl) (by kernel_rfl) (fun _ _ _ h=>h) (yieldsIf_load_mid (by rfl) 77 _ rfl bi 0 rfl [.int .i64 x9.op, .int .i64 x9.id, .int .i64 x9.a, .int .i64 x9.b, .int .i64 x9.imm, .int .i64 x9.pc] _ (fun w hSw=>hSw) Tryd.underlying77 (by rfl) HI6.out) hHeld ?_
        simp only[Act.put,qs]
        refine wpAnyH_ready (rs:=[4,6]) (by kernel_rfl) (by simp) ?_
        refine AllReadyH.cons rfl (fun K hK=> ?_) (AllReadyH.cons rfl (fun K hK=> ?_) (AllReadyH.nil))
        ·simp only[qg]
         go_simp
         refine hK.out _ _ hHeld (fun hHeld=> ?_)
         clear hK K
         refine wpAnyH_ready (rs:=[6]) (by kernel_rfl) (by simp) ?_
         refine AllReadyH.cons rfl (fun K hK=> ?_) AllReadyH.nil
         simp only[qg]
         go_simp
         refine hK.out _ _ (HKL.out _ ((Below.refl w9.heap.size w9).drew.alloc (Nat.le_refl _) _)) (fun hHeld=> ?_)
         clear hK K
         refine wpAnyH_ready (rs:=[7]) (by kernel_rfl) (by simp) ?_
         refine AllReadyH.cons rfl (fun K hK=> ?_) AllReadyH.nil
         simp only[qg]
         rw[if_pos (by rfl)]
         refine wp_append_lies (w9.drew.alloc (.cells [.int .i64 x9.op, .int .i64 x9.id, .int .i64 x9.a, .int .i64 x9.b, .int .i64 x9.imm, .int .i64 x9.pc].toArray 77)) _ _ 73 (by rfl) (b+1) 77 i0 _ 6 48 Tryd.underlying73 hi hz0 hz1 hz2 rfl (by decide) (.slice PH np cph) np (insCells (({s.bod i X with same:=S9}:SB).part i).ins) (by rfl) (own_below HOW.out ((Below.refl _ _).drew.alloc (Nat.le_refl _) _)) ⟨w9.heap.size,0,none⟩ 1 1 [.int .i64 x9.op, .int .i64 x9.id, .int .i64 x9.a, .int .i64 x9.b, .int .i64 x9.imm, .int .i64 x9.pc] (by rfl) rfl (World.news_of_block (heap_alloc_new w9.drew _)) (by simp[Value.oneCell']) (by decide) (by unfold maxLen;omega) (by omega) (by show b+1≤(w9.drew.alloc _).heap.size;simp;omega) _ rfl ?_
         intro gg cc wa hown hgr hgg hgl
         have HP9:=Lib.hid ((HX9.out.sb.keeps (Below.refl _ _).drew).pushIns HIN9.out (by rw[HPL9.out];exact hi1) _ x9 HVP9.out (by rw[HVH.out];exact hgr) (by rw[HNPH.out]) hown (by rw[HVH.out];exact hgg) (by simp))
         have hne:=HX9.out.sb.own.ap .parts (.ins i) (by simp) gp (by rw[rowsOf_v,HVP9.out];rfl)
         rw[rowsOf_v] at hne
         have hblk:=hgr.block gp (by simp;omega) (fun e=>hne (by rw[HVH.out];exact e.symm))
         have cga:wa.cell? ⟨gp,i*15+2,none⟩=some (.slice PH np cph):=(World.cell?_of_block hblk).trans ((((Below.refl w9.heap.size w9).drew.alloc (Nat.le_refl _) _).cell (p:=⟨gp,_,none⟩) zgp9).trans c15)
         have fga:wa.frozen? ⟨gp,i*15+2,none⟩=false:=(World.frozen?_of_block hblk).trans ((((Below.refl w9.heap.size w9).drew.alloc (Nat.le_refl _) _).frozen (p:=⟨gp,_,none⟩) zgp9).trans (HX9.out.sb.own.free .parts (by rw[rowsOf_v];exact HVP9.out) _).1)
         have zga:gp<wa.heap.size:=by have:=hgr.size;simp at this;omega
         have hla:wa.rangeAt bi 0 [.int .i64 x9.op, .int .i64 x9.id, .int .i64 x9.a, .int .i64 x9.b, .int .i64 x9.imm, .int .i64 x9.pc]:=fun j v hv=>(World.cell?_of_block (hgr.block bi (by simp;omega) (fun e=>(HX9.out.loc _ (.head _)).2.2.2 (.ins i) (by rw[HVH.out];exact e.symm)))).trans (HKL.out _ ((Below.refl w9.heap.size w9).drew.alloc (Nat.le_refl _) _) j v hv)
         have HLA:=Lib.hid hla
         have HNG:Hid (gp≠bi):=Lib.hid (fun e=>(HX9.out.loc _ (.head _)).2.2.2 .parts (by rw[HVP9.out];exact congrArg some e))
         refine hK.out _ _ hla (fun hHeld=> ?_)
         clear hK K hown hgr hgg hgl hne hblk hla
         refine wpAnyH_take (i:=8) (v:= .pointer (some ⟨gp,i*15,none⟩)) rfl (by kernel_rfl) (by kernel_rfl) (by kernel_rfl) (fun _ _ _ h=>h) (Or.inl ⟨by rfl,?_⟩) hHeld ?_
         ·intro w hSw
          simp only[qg]
          go_simp
         simp only[Act.put,qs]
         refine wpAnyH_take (i:=9) (v:= .pointer (some ⟨gp,i*15+2,none⟩)) rfl (by kernel_rfl) (by kernel_rfl) (by kernel_rfl) (fun _ _ _ h=>h) (Or.inl ⟨by rfl,?_⟩) hHeld ?_
         ·intro w hSw
          simp only[qg]
          go_simp
         simp only[Act.put,qs]
         refine wpAnyH_ready (rs:=[10]) (by kernel_rfl) (by simp) ?_
         refine AllReadyH.cons rfl (fun K hK=> ?_) AllReadyH.nil
         simp only[qg]
         go_simp
         refine hK.out _ _ (fun j v hv=>(World.cell?_setCell_far _ _ _ _ HNG.out).trans (HLA.out j v hv)) (fun hHeld=> ?_)
         clear hK K cga fga
         clear hHeld
         refine wpAnyH_done (by kernel_rfl) ?_ _
         go_wp2_with fail
         go_roundw
         case rel=>exact⟨q+1,_,by omega,by rw[show a+(q+1)=pc+1 by omega];go_num,by rw[HNX.out,←bod_ins s HHI.out X x9 S9 R9];exact((HX9.out.keeps (Below.refl _ _).drew).call HP9.out.1 HP9.out.2).sub (fun x hx=> .tail _ (.tail _ hx)),by rw[putV_ne _ (by simp),HV9.out.1];exact HV.out.1,by rw[putV_ne _ (by simp),HV9.out.2.1];exact HV.out.2.1,by rw[putV_ne _ (by simp),HV9.out.2.2];exact HV.out.2.2⟩
         case measure=>simp[intOf];omega
        ·simp only[qg]
         go_simp
         refine hK.out _ _ (HKL.out _ ((Below.refl w9.heap.size w9).drew.alloc (Nat.le_refl _) _)) (fun hHeld=> ?_)
         clear hK K
         refine wpAnyH_ready (rs:=[4]) (by kernel_rfl) (by simp) ?_
         refine AllReadyH.cons rfl (fun K hK=> ?_) AllReadyH.nil
         simp only[qg]
         go_simp
         refine hK.out _ _ hHeld (fun hHeld=> ?_)
         clear hK K
         refine wpAnyH_ready (rs:=[7]) (by kernel_rfl) (by simp) ?_
         refine AllReadyH.cons rfl (fun K hK=> ?_) AllReadyH.nil
         simp only[qg]
         rw[if_pos (by rfl)]
         refine wp_append_lies (w9.drew.alloc (.cells [.int .i64 x9.op, .int .i64 x9.id, .int .i64 x9.a, .int .i64 x9.b, .int .i64 x9.imm, .int .i64 x9.pc].toArray 77)) _ _ 73 (by rfl) (b+1) 77 i0 _ 6 48 Tryd.underlying73 hi hz0 hz1 hz2 rfl (by decide) (.slice PH np cph) np (insCells (({s.bod i X with same:=S9}:SB).part i).ins) (by rfl) (own_below HOW.out ((Below.refl _ _).drew.alloc (Nat.le_refl _) _)) ⟨w9.heap.size,0,none⟩ 1 1 [.int .i64 x9.op, .int .i64 x9.id, .int .i64 x9.a, .int .i64 x9.b, .int .i64 x9.imm, .int .i64 x9.pc] (by rfl) rfl (World.news_of_block (heap_alloc_new w9.drew _)) (by simp[Value.oneCell']) (by decide) (by unfold maxLen;omega) (by omega) (by show b+1≤(w9.drew.alloc _).heap.size;simp;omega) _ rfl ?_
         intro gg cc wa hown hgr hgg hgl
         have HP9:=Lib.hid ((HX9.out.sb.keeps (Below.refl _ _).drew).pushIns HIN9.out (by rw[HPL9.out];exact hi1) _ x9 HVP9.out (by rw[HVH.out];exact hgr) (by rw[HNPH.out]) hown (by rw[HVH.out];exact hgg) (by simp))
         have hne:=HX9.out.sb.own.ap .parts (.ins i) (by simp) gp (by rw[rowsOf_v,HVP9.out];rfl)
         rw[rowsOf_v] at hne
         have hblk:=hgr.block gp (by simp;omega) (fun e=>hne (by rw[HVH.out];exact e.symm))
         have cga:wa.cell? ⟨gp,i*15+2,none⟩=some (.slice PH np cph):=(World.cell?_of_block hblk).trans ((((Below.refl w9.heap.size w9).drew.alloc (Nat.le_refl _) _).cell (p:=⟨gp,_,none⟩) zgp9).trans c15)
         have fga:wa.frozen? ⟨gp,i*15+2,none⟩=false:=(World.frozen?_of_block hblk).trans ((((Below.refl w9.heap.size w9).drew.alloc (Nat.le_refl _) _).frozen (p:=⟨gp,_,none⟩) zgp9).trans (HX9.out.sb.own.free .parts (by rw[rowsOf_v];exact HVP9.out) _).1)
         have zga:gp<wa.heap.size:=by have:=hgr.size;simp at this;omega
         have hla:wa.rangeAt bi 0 [.int .i64 x9.op, .int .i64 x9.id, .int .i64 x9.a, .int .i64 x9.b, .int .i64 x9.imm, .int .i64 x9.pc]:=fun j v hv=>(World.cell?_of_block (hgr.block bi (by simp;omega) (fun e=>(HX9.out.loc _ (.head _)).2.2.2 (.ins i) (by rw[HVH.out];exact e.symm)))).trans (HKL.out _ ((Below.refl w9.heap.size w9).drew.alloc (Nat.le_refl _) _) j v hv)
         have HLA:=Lib.hid hla
         have HNG:Hid (gp≠bi):=Lib.hid (fun e=>(HX9.out.loc _ (.head _)).2.2.2 .parts (by rw[HVP9.out];exact congrArg some e))
         refine hK.out _ _ hla (fun hHeld=> ?_)
         clear hK K hown hgr hgg hgl hne hblk hla
         refine wpAnyH_take (i:=8) (v:= .pointer (some ⟨gp,i*15,none⟩)) rfl (by kernel_rfl) (by kernel_rfl) (by kernel_rfl) (fun _ _ _ h=>h) (Or.inl ⟨by rfl,?_⟩) hHeld ?_
         ·intro w hSw
          simp only[qg]
          go_simp
         simp only[Act.put,qs]
         refine wpAnyH_take (i:=9) (v:= .pointer (some ⟨gp,i*15+2,none⟩)) rfl (by kernel_rfl) (by kernel_rfl) (by kernel_rfl) (fun _ _ _ h=>h) (Or.inl ⟨by rfl,?_⟩) hHeld ?_
         ·intro w hSw
          simp only[qg]
          go_simp
         simp only[Act.put,qs]
         refine wpAnyH_ready (rs:=[10]) (by kernel_rfl) (by simp) ?_
         refine AllReadyH.cons rfl (fun K hK=> ?_) AllReadyH.nil
         simp only[qg]
         go_simp
         refine hK.out _ _ (fun j v hv=>(World.cell?_setCell_far _ _ _ _ HNG.out).trans (HLA.out j v hv)) (fun hHeld=> ?_)
         clear hK K cga fga
         clear hHeld
         refine wpAnyH_done (by kernel_rfl) ?_ _
         go_wp2_with fail
         go_roundw
         case rel=>exact⟨q+1,_,by omega,by rw[show a+(q+1)=pc+1 by omega];go_num,by rw[HNX.out,←bod_ins s HHI.out X x9 S9 R9];exact((HX9.out.keeps (Below.refl _ _).drew).call HP9.out.1 HP9.out.2).sub (fun x hx=> .tail _ (.tail _ hx)),by rw[putV_ne _ (by simp),HV9.out.1];exact HV.out.1,by rw[putV_ne _ (by simp),HV9.out.2.1];exact HV.out.2.1,by rw[putV_ne _ (by simp),HV9.out.2.2];exact HV.out.2.2⟩
         case measure=>simp[intOf];omega
end Go.Proofs.YtedcjapmmnbamaaDoor
