import Derived.Test.YtedcjapmmnbamaaDoorFl1
import Derived.Test.YtedcjapmmnbamaaDoorFnS
import Derived.Test.YtedcjapmmnbamaaDoorSu3
import Derived.Maps.OwnSet
namespace Tier
open Go Go.RowKit
def hdOf(F:Fnc)(q n:Nat):Bool:=rchB F q&&match F.code[q]? with
 |some x=>decide (15≤x.op)&&(nextS x q).contains n
 |none=>false
def hdB(F:Fnc)(j n:Nat):Bool:=n==0||(List.range j).any fun q=>hdOf F q n
theorem hdB_succ(F:Fnc)(j n:Nat):hdB F (j+1) n=(hdB F j n||hdOf F j n):=by
 unfold hdB;rw[List.range_succ,List.any_append];simp[Bool.or_assoc]
def hdL(F:Fnc):List Nat:=(List.range F.code.length).filter (hdB F F.code.length)
def hdTo(F:Fnc)(j:Nat):List Nat:=(List.range j).filter (hdB F F.code.length)
theorem hdTo_succ(F:Fnc)(j:Nat):hdTo F (j+1)=hdTo F j++if hdB F F.code.length j=true then[j] else[]:=by
 unfold hdTo
 rw[List.range_succ,List.filter_append]
 congr 1
 by_cases h:hdB F F.code.length j=true<;>simp[h]
theorem hdTo_len(F:Fnc)(j:Nat):(hdTo F j).length≤j:=by
 unfold hdTo;exact Nat.le_trans (List.length_filter_le _ _) (by simp)
end Tier
namespace Go.Proofs.YtedcjapmmnbamaaDoor
open Go.RowKit Tier
theorem ends_any(op:Int)(w:World):Calls Tryd.prog 38 #[.int .i64 op] w fun e w' =>e= .returned (.bool (decide (15≤op)))∧w=w' :=by
 go_enter Tryd.func38,Tryd.ntmps38
 go_wp2
 go_ret
 exact⟨rfl,rfl⟩
abbrev mapT:TypeId:=104
theorem lawInt:Maps.Keyed Tryd.prog 3:=Maps.int_keyed Tryd.underlying3
theorem zeroUnit(w:World):(zeroValue 105).run Tryd.prog w= .ok (.agg #[]) w:=by kernel_rfl
def keyN(n:Nat):Lit:= .int .i64 (n:Int)
theorem keyN_wf{n:Nat}(h:n≤1000):(Lit.int .i64 (n:Int)).wf=true:=by
 have h1:IntKind.i64.min= -9223372036854775808:=rfl
 have h2:IntKind.i64.max=9223372036854775807:=rfl
 simp[Lit.wf,h1,h2];omega
theorem keyN_of{n:Nat}(h:n≤1000):keyOf Tryd.prog 3 (.int .i64 (n:Int))=some (keyN n):=Maps.keyOf_int_mk Tryd.underlying3 (keyN_wf h)
def SetAt(w:World)(b n:Nat)(S:Nat→Bool):Prop:=
 ∃D:DataW Unit,w.ownsMap Tryd.prog 3 unitElem b n D∧Maps.IsMap D∧∀m:Nat,m≤1000→Maps.has D (keyN m)=S m
theorem SetAt.keeps{w w' :World}{b n:Nat}{S:Nat→Bool}(h:SetAt w b n S)(hb:Below w.heap.size w w'):SetAt w' b n S:=by
 obtain⟨D,⟨es,clock,h1,r⟩,h2,h3⟩:=h
 exact⟨D,⟨es,clock,(hb.block _ (block_lt h1)).trans h1,r⟩,h2,h3⟩
theorem SetAt.lt{w:World}{b n:Nat}{S:Nat→Bool}(h:SetAt w b n S):b<w.heap.size:=by
 obtain⟨D,⟨es,clock,h1,r⟩,-,-⟩:=h
 exact block_lt h1
theorem SetAt.made(w:World):SetAt (w.alloc (.map #[] 0)) w.heap.size 0 (fun _=>false):=
 ⟨_,World.ownsMap_made _ _ _ _,Maps.isMap_empty,fun _ _=>rfl⟩
theorem SetAt.put{w' :World}{b n k:Nat}{S:Nat→Bool}{D:DataW Unit}(hI:Maps.IsMap D)(hS:∀m:Nat,m≤1000→Maps.has D (keyN m)=S m)(h:w'.ownsMap Tryd.prog 3 unitElem b n (D.put (keyN k) (.agg []))):SetAt w' b n (fun m=>S m||m==k):=by
 refine⟨_,h,hI.put _ _,fun m hm=> ?_⟩
 by_cases he:m=k
 ·subst he
  rw[Maps.has_put_same hI (by unfold keyN;trivial)];simp
 ·rw[Maps.has_put_other (fun e=>he (by unfold keyN at e;injection e with _ e2;omega)),hS m hm]
  simp[he]
theorem SetAt.ext{w:World}{b n n' :Nat}{S S' :Nat→Bool}(h:SetAt w b n S)(hn:n≤n')(he:∀m,S m=S' m):SetAt w b n' S' :=by
 obtain⟨D,h1,h2,h3⟩:=h
 exact⟨D,h1.mono hn,h2,fun m hm=>(h3 m hm).trans (he m)⟩
structure HW(w wr:World)(fp fr:Int)(fv:Value)(n:Nat)(S:Nat→Bool):Prop where
 box:wr.heap[w.heap.size]? =some (.cells #[.int .i64 fp, .int .i64 fr,fv] 60 (0,0))
 map:SetAt wr (w.heap.size+1) n S
 below:Below w.heap.size w wr
section
variable {w wr w' :World}{fp fr:Int}{fv:Value}{n:Nat}{S:Nat→Bool}
theorem HW.keeps(h:HW w wr fp fr fv n S)(hb:Below wr.heap.size wr w'):HW w w' fp fr fv n S:=
 ⟨(hb.block _ (block_lt h.box)).trans h.box,h.map.keeps hb,h.below.trans (hb.mono h.below.size)⟩
theorem HW.ext{n' :Nat}{S' :Nat→Bool}(h:HW w wr fp fr fv n S)(hn:n≤n')(he:∀m,S m=S' m):HW w wr fp fr fv n' S' :=⟨h.box,h.map.ext hn he,h.below⟩
theorem HW.put{k:Nat}{D:DataW Unit}(h:HW w wr fp fr fv n S)(hI:Maps.IsMap D)(hS:∀m:Nat,m≤1000→Maps.has D (keyN m)=S m)(hm:w'.ownsMap Tryd.prog 3 unitElem (w.heap.size+1) (n+1) (D.put (keyN k) (.agg [])))(hg:wr.grownBy w' (some (w.heap.size+1))):HW w w' fp fr fv (n+1) (fun m=>S m||m==k):=by
 refine⟨?_,SetAt.put hI hS hm,h.below.grown hg h.below.size (fun k hk=>by simp at hk;omega)⟩
 rw[hg.block _ (block_lt h.box) (by simp)];exact h.box
end
theorem HW.grown{w wr w' :World}{fp fr:Int}{fv:Value}{n:Nat}{S:Nat→Bool}{row:Option Nat}(h:HW w wr fp fr fv n S)(hg:wr.grownBy w' row)(hr:∀k,row=some k→w.heap.size+2≤k):HW w w' fp fr fv n S:=by
 refine⟨?_,?_,h.below.grown hg h.below.size (fun k hk=>by have:=hr k hk;omega)⟩
 ·rw[hg.block _ (block_lt h.box) (fun e=>by have:=hr _ e.symm;omega)];exact h.box
 ·obtain⟨D,⟨es,clock,h1,r⟩,h2,h3⟩:=h.map
  exact⟨D,⟨es,clock,(hg.block _ (block_lt h1) (fun e=>by have:=hr _ e.symm;omega)).trans h1,r⟩,h2,h3⟩
theorem cell_eqH{W W2:World}{b:Nat}(h:W.heap[b]? =W2.heap[b]?){o:Nat}:W.cell? ⟨b,o,none⟩=W2.cell? ⟨b,o,none⟩:=by simp only[World.cell?,h]
theorem heads_start(w:World)(fp fr:Int)(fv:Value):HW w ((w.alloc (.cells #[.int .i64 fp, .int .i64 fr,fv] 60)).alloc (.map #[] 0)) fp fr fv 0 (fun _=>false):=by
 refine⟨?_,?_,?_⟩
 ·rw[Below.heap_alloc _ _ _ (by simp)];exact heap_alloc_new _ _
 ·have:=SetAt.made (w.alloc (.cells #[.int .i64 fp, .int .i64 fr,fv] 60))
  simpa using this
 ·exact Bq
set_option maxRecDepth 100000 in
set_option maxHeartbeats 8000000 in
theorem heads_any(p:List Fnc)(F:Fnc)(FA:Option Addr)(fcap b:Nat)(w:World)(hp:Right p)(hF:F∈p)(hc:CodeAt w (.slice FA F.code.length fcap) F.code)(hs:IntsB w b (outL (sureF F))):
 Calls Tryd.prog 37 #[.agg #[.int .i64 F.params, .int .i64 F.regs, .slice FA F.code.length fcap], .slice (some ⟨b,0,none⟩) F.code.length F.code.length] w fun e w' =>
  (∃v,e= .returned v∧OwnI w' w.heap.size v (natI (hdL F)))∧Below w.heap.size w w' :=by
 have hfo:=hp.ok.fn F hF
 have n1:=hfo.c1
 have n2:=hfo.c2
 obtain⟨A0,cap0,hA0,hA⟩:=hc.slice
 simp only[Value.slice.injEq,true_and] at hA0
 obtain⟨gc,hgc,hgl,hins⟩:=hA (by omega)
 obtain⟨rfl,rfl⟩:=hA0
 subst hgc
 have HC:=Lib.hid hc
 have HS:=Lib.hid hs
 have HP:=Lib.hid hp
 have HF:=Lib.hid hF
 have HFO:=Lib.hid hfo
 have HINS:=Lib.hid hins
 have HSL:=Lib.hid (sureF_length hfo.cok hfo.p2)
 have HNX:=Lib.hid (fun(W:World) (pc:Nat) (x:Ins) (hx:F.code[pc]? =some x) (hc:CodeAt W (.slice (some ⟨gc,0,none⟩) F.code.length fcap) F.code)=>fnext_any F (some ⟨gc,0,none⟩) fcap pc x W hx hc hfo.c2 (fun h=>by have h1:=(hfo.ins x (gM hx)).jump h;have h2:=hfo.c2;omega))
 obtain⟨M,hM⟩:∃M,F.code.length=M:=⟨_,rfl⟩
 have HM:=Lib.hid hM
 rw[hM] at n1 n2 HC HNX HSL⊢
 clear hA hins hc hs hp hF hfo hM
 have hmm:= @run_makeMap Tryd.prog
 obtain⟨i0,hi,hz0,hz1,hz2⟩:=info_parts infoInt
 have hk0:=keyN_of (n:=0) (by omega)
 go_enter Tryd.func37,Tryd.ntmps37
 go_wp2_with (at_mapUpdate;go_must (refine wpList_mapUpdate_own _ rfl _ _ _ mapT rfl 3 105 lawInt Tryd.underlying104 unitElem (w.heap.size+1) 0 _ rfl (by have:=World.ownsMap_made (H:=Unit) (w.alloc (.cells #[.int .i64 F.params, .int .i64 F.regs, .slice (some ⟨gc,0,none⟩) M fcap] 60)) Tryd.prog 3 unitElem;simpa using this) (by unfold maxLen;omega) _ _ _ rfl rfl hk0 _ [] unitElem_mk ?_;intro w1 hown1 hg1;have HH:=Lib.hid ((heads_start w F.params F.regs (.slice (some ⟨gc,0,none⟩) M fcap)).put (k:=0) Maps.isMap_empty (fun _ _=>rfl) hown1 hg1);have q1:=cell_block HH.out.box;have z1:=block_lt HH.out.box;clear hown1 hg1))
 clear q1 z1 hmm hk0
 have HH0:=Lib.hid (HH.out.ext (n' :=1) (S' :=hdB F 0) (Nat.le_refl _) (fun m=>by simp[hdB]))
 clear HH
 have HBL:=Lib.hid HS.out.lt
 go_loopw [20] (fun v wr=>∃j:Nat,j≤M∧v= .int .i64 (j:Int)∧HW w wr F.params F.regs (.slice (some ⟨gc,0,none⟩) M fcap) (1+3*j) (hdB F j)) (fun v _=>M-(intOf v).toNat)
 case atStart=>exact⟨0,by omega,rfl,HH0.out⟩
 case round=>
  obtain⟨j,hj,rfl,hH⟩:=hrel
  obtain⟨wo,hwo⟩:∃wo:World,wo=wr:=⟨_,rfl⟩
  subst hwo
  clear HH0
  have HH:=Lib.hid hH
  have q1:=cell_block hH.box
  have z1:=block_lt hH.box
  by_cases hjM:j=M
  ·obtain rfl:M=j:=hjM.symm
   obtain⟨N0,hN0⟩:∃n,n=M:=⟨_,rfl⟩
   subst hN0
   clear hH
   go_wp2_with fail
   clear q1 z1
   have hhd:∀n,hdB F N0 n=hdB F F.code.length n:=fun n=>by rw[HM.out]
   have HHD:=Lib.hid hhd
   clear hhd
   have HL0:=Lib.hid (OwnI.nil wo (w.heap.size+2))
   go_loopw [10,52] (fun vl v wr=>∃(j:Nat) (A1:Option Addr) (cap1:Nat),j≤N0∧v= .int .i64 (j:Int)∧vl= .slice A1 (hdTo F j).length cap1∧OwnI wr (w.heap.size+2) (.slice A1 (hdTo F j).length cap1) (natI (hdTo F j))∧HW w wr F.params F.regs (.slice (some ⟨gc,0,none⟩) N0 fcap) (1+3*N0) (hdB F N0)) (fun _ v _=>N0-(intOf v).toNat)
   case atStart=>exact⟨0,none,0,by omega,rfl,rfl,HL0.out,HH.out⟩
   case round=>
    obtain⟨j,A1,cap1,hjj,rfl,rfl,hO,hH⟩:=hrel
    have HO:=Lib.hid hO
    have HH3:=Lib.hid hH
    clear hO hH
    by_cases hjN:j=N0
    ·obtain rfl:N0=j:=hjN.symm
     go_wp2_with fail
     go_ret
     exact⟨⟨_,rfl,by have h:=own_base (B' :=w.heap.size) HO.out (by omega);rw[show hdL F=hdTo F N0 by unfold hdL hdTo;rw[HM.out]];exact h⟩,HH3.out.below⟩
    ·have hj1:(j:Int)<N0:=by omega
     have hj2:(0:Int)≤j:=by omega
     obtain⟨D,hD1,hD2,hD3⟩:=HH3.out.map
     have HD1:=Lib.hid hD1
     have hhas:=hD3 j (by omega)
     have hkey:=keyN_of (n:=j) (by omega)
     have hts:=hdTo_succ F j
     rw[←HHD.out j] at hts
     have hlen:=hdTo_len F j
     have zm:=HH3.out.map.lt
     have zu:=fun W=>zeroUnit W
     have HZU:=Lib.hid zu
     clear hD1 hD2 hD3 zu
     cases hc:hdB F N0 j with
     |false=>
      rw[hc] at hhas hts
      have HTS:=Lib.hid (show hdTo F (j+1)=hdTo F j by rw[hts];simp)
      have HAS:=Lib.hid hhas
      clear hc hts hhas
      go_wp2_with (at_lookup;go_must (refine wpList_lookup_own_unit _ rfl _ _ mapT rfl 3 105 lawInt Tryd.underlying104 (HZU.out _) (w.heap.size+1) (1+3*N0) D rfl HD1.out _ _ rfl hkey ?_;rw[HAS.out]))
      go_roundw
      case rel=>exact⟨j+1,A1,cap1,by omega,by go_num,by rw[HTS.out],by rw[HTS.out];exact HO.out.keeps ((Below.refl _ _).alloc (Nat.le_refl _) _),HH3.out.keeps ((Below.refl _ _).alloc (Nat.le_refl _) _)⟩
      case measure=>simp[intOf];omega
     |true=>
      rw[hc] at hhas hts
      have HTS:=Lib.hid (show hdTo F (j+1)=hdTo F j++[j] by rw[hts];rfl)
      have HAS:=Lib.hid hhas
      clear hc hts hhas
      have HO2:=Lib.hid (HO.out.keeps ((Below.refl _ _).alloc (Nat.le_refl _) (.cells #[] 105)))
      go_wp2_with (first|(at_lookup;go_must (refine wpList_lookup_own_unit _ rfl _ _ mapT rfl 3 105 lawInt Tryd.underlying104 (HZU.out _) (w.heap.size+1) (1+3*N0) D rfl HD1.out _ _ rfl hkey ?_;rw[HAS.out]))|(at_builtin;go_must (refine wpList_append_own _ rfl _ _ 24 rfl (w.heap.size+2) 3 i0 _ 1 8 Tryd.underlying24 hi hz0 hz1 hz2 rfl (by decide) (.slice A1 (hdTo F j).length cap1) (hdTo F j).length ((natI (hdTo F j)).map (Value.int .i64)) rfl (by have h:=HO2.out;unfold OwnI at h;rw[natI_length] at h;exact own_below h ((Below.refl _ _).alloc (Nat.le_refl _) _)) ⟨wr.heap.size+1,0,none⟩ 1 1 [.int .i64 (j:Int)] rfl rfl (World.news_of_block (cs:= #[.int .i64 (j:Int)]) (t:=3) (fr:=(0,0)) (by simpa using heap_alloc_new (wr.alloc (.cells #[] 105)) (.cells #[.int .i64 (j:Int)] 3))) (by simp[Value.oneCell']) (by unfold maxLen;omega) (by omega) (by simp;omega) ?_);intro v9 w9 hown9 hg9 _;obtain⟨A9,cap9,hv9,-⟩:=own_slice hown9;rw[hv9] at hown9;rw[hv9];have HH9:=Lib.hid (((HH3.out.keeps ((Below.refl _ _).alloc (Nat.le_refl _) _)).keeps ((Below.refl _ _).alloc (Nat.le_refl _) _)).grown hg9 (fun k hk=>(World.ownsRow.lt HO.out k hk).1));have HO9:=Lib.hid hown9;clear hown9 hg9))
      go_roundw
      case rel=>exact⟨j+1,A9,cap9,by omega,by go_num,by rw[HTS.out];simp,by rw[HTS.out];unfold OwnI;simp only[natI_length,List.length_append,List.length_cons,List.length_nil];have h:=HO9.out;simpa [natI] using h,HH9.out⟩
      case measure=>simp[intOf];omega
  ·have hj1:(j:Int)<M:=by omega
   have hj2:(0:Int)≤j:=by omega
   obtain⟨x,hx⟩:∃x,F.code[j]? =some x:=⟨_,gE (by rw[HM.out];omega)⟩
   obtain⟨e0,e1,e2,e3,e4⟩:=HINS.out j x hx
   rw[←hH.below.cell (p:=⟨gc,_,none⟩) hgl] at e0 e1 e2 e3 e4
   have zgc:gc<wo.heap.size:=Nat.lt_of_lt_of_le hgl hH.below.size
   obtain⟨o,ho⟩:∃o,(sureF F)[j]? =some o:=⟨_,gE (by rw[HSL.out];omega)⟩
   have cb:=(hH.below.cell (p:=⟨b,j,none⟩) HBL.out).trans (HS.out.cell (outL_get ho))
   have zb:b<wo.heap.size:=Nat.lt_of_lt_of_le HBL.out hH.below.size
   have HSUC:=Lib.hid (fun m=>hdB_succ F j m)
   have HXX:=Lib.hid hx
   clear hH
   cases ho2:o with
   |none=>
    have hr:rchB F j=false:=by unfold rchB;rw[ho,ho2];rfl
    rw[ho2] at cb
    have hoi:oI none= -1:=rfl
    rw[hoi] at cb
    have HNO:=Lib.hid (fun m=>show hdOf F j m=false by unfold hdOf;rw[hr];rfl)
    clear hr ho ho2 hoi hx
    go_wp2_with fail
    go_roundw
    case rel=>exact⟨j+1,by omega,by go_num,(HH.out.ext (by omega) (fun m=>by rw[HSUC.out,HNO.out];simp)).keeps ((Below.refl _ _).alloc (Nat.le_refl _) _)⟩
    case measure=>simp[intOf];omega
   |some m=>
    have hr:rchB F j=true:=by unfold rchB;rw[ho,ho2];rfl
    rw[ho2] at cb
    have hoi:oI (some m)=(m:Int):=rfl
    rw[hoi] at cb
    have hm0:¬((m:Int)<0):=by omega
    have HEN:=Lib.hid (fun(W:World)=>ends_any x.op W)
    by_cases he:15≤x.op
    ·have HOF:=Lib.hid (fun m=>show hdOf F j m=(nextS x j).contains m by unfold hdOf;rw[hr,hx];simp[he])
     have HNL:=Lib.hid (fun(n:Nat) (hn:n∈nextS x j)=>(HP.out.nextR HF.out hr hx ((nextS_mem x j n).1 hn)).1)
     have HN1:=Lib.hid (fun W hc=>HNX.out W j x hx hc)
     have hln2:=nextS_length x j
     obtain⟨L,hL⟩:∃L,nextS x j=L:=⟨_,rfl⟩
     rw[hL] at HOF HNL HN1 hln2
     have hed:decide (15≤x.op)=true:=by simpa using he
     rw[hed] at HEN
     have HHA:=Lib.hid (HH.out.keeps ((Below.refl _ _).alloc (Nat.le_refl _) (.cells #[.int .i64 x.op, .int .i64 x.dst, .int .i64 x.a, .int .i64 x.b, .int .i64 x.imm] 58)))
     clear hr ho ho2 hoi hx he hed hL
     go_wp2_with (first|(go_at_call 38;go_must (refine(HEN.out _).mono ?_;rintro e w' ⟨rfl,rfl⟩))|(go_at_call 40;go_must (refine(HN1.out _ (HC.out.keeps HHA.out.below)).mono ?_;rintro e w7 ⟨⟨vv,rfl,hov⟩,hb7⟩;obtain⟨Av,capv,hvv,hcv⟩:=own_slice hov;rw[natI_length] at hvv hcv;subst hvv;have HH7:=Lib.hid (HHA.out.keeps hb7);have HCV:=Lib.hid hcv;have HVB:=Lib.hid (fun k hk=>(World.ownsRow.lt hov k hk).1);clear hov hb7 hcv)))
     obtain⟨ln,hln⟩:∃n,L.length=n:=⟨_,rfl⟩
     have HLN:=Lib.hid hln
     rw[hln] at HCV hln2⊢
     clear hln q1 z1 e0 e1 e2 e3 e4 zgc zb cb
     go_loopw [40] (fun v wr=>∃i:Nat,i≤ln∧v= .int .i64 (i:Int)∧HW w wr F.params F.regs (.slice (some ⟨gc,0,none⟩) M fcap) (1+3*j+i) (fun m=>hdB F j m||(L.take i).contains m)∧(∀gv:Nat,Av=some ⟨gv,0,none⟩→w.heap.size+1<gv→gv<w7.heap.size→wr.heap[gv]? =w7.heap[gv]?)) (fun v _=>ln-(intOf v).toNat)
     case atStart=>exact⟨0,by omega,rfl,HH7.out.ext (by omega) (fun m=>by simp),fun _ _ _ _=>rfl⟩
     case round=>
      obtain⟨i,hi,rfl,hHi,hrow⟩:=hrel
      have HHI:=Lib.hid hHi
      have HROW:=Lib.hid hrow
      clear hHi hrow
      by_cases hil:i=ln
      ·obtain rfl:ln=i:=hil.symm
       go_wp2_with fail
       go_roundw
       case rel=>exact⟨j+1,by omega,by go_num,HHI.out.ext (by omega) (fun m=>by rw[HSUC.out,HOF.out,List.take_of_length_le (by rw[HLN.out];exact Nat.le_refl _)])⟩
       case measure=>simp[intOf];omega
      ·have hi1:(i:Int)<ln:=by omega
       have hi2:(0:Int)≤i:=by omega
       obtain⟨n,hn⟩:∃n,L[i]? =some n:=⟨L[i]'(by rw[HLN.out];omega),gE _⟩
       obtain⟨gv,hgv,hgl2,hcc⟩:=HCV.out (by omega)
       have hgv1:w.heap.size+1<gv:=by
        have h1:=HVB.out gv (by rw[hgv];rfl)
        have h2:=HHA.out.map.lt
        omega
       have hrg:=HROW.out gv hgv hgv1 hgl2
       have cn:=hcc i (by omega)|>.trans (show _=some (Value.int .i64 (n:Int)) by simp[natI,hn])
       rw[←cell_eqH hrg] at cn
       have zgv:gv<wr.heap.size:=World.block_lt_of_cell? _ _ cn
       have hnM:=HNL.out n (gM hn)
       rw[HM.out] at hnM
       have hkey:=keyN_of (n:=n) (by omega)
       obtain⟨D,hD1,hD2,hD3⟩:=HHI.out.map
       have HD2:=Lib.hid hD2
       have HD3:=Lib.hid hD3
       have HD1:=Lib.hid hD1
       have HLT:=Lib.hid (show(L.take (i+1))=L.take i++[n] by rw[List.take_add_one,hn];rfl)
       have HROW2:=Lib.hid (fun(W:World) (hg:wr.grownBy W (some (w.heap.size+1)))=>fun(g' :Nat) (h1:Av=some ⟨g',0,none⟩) (h2:w.heap.size+1<g') (h3:g' <w7.heap.size)=>(hg.block g' (by rw[hgv] at h1;simp at h1;omega) (by simp;omega)).trans (HROW.out g' h1 h2 h3))
       subst hgv
       clear hcc hn hil hD2 hD3 hD1 hrg
       go_wp2_with (at_mapUpdate;go_must (refine wpList_mapUpdate_own _ rfl _ _ _ mapT rfl 3 105 lawInt Tryd.underlying104 unitElem (w.heap.size+1) (1+3*j+i) D rfl HD1.out (by unfold maxLen;omega) _ _ _ rfl rfl hkey _ [] unitElem_mk ?_;intro w9 hown9 hg9;have HH9:=Lib.hid (HHI.out.put HD2.out HD3.out hown9 hg9);have HR9:=Lib.hid (HROW2.out _ hg9);clear hown9 hg9))
       go_roundw
       case rel=>exact⟨i+1,by omega,by go_num,HH9.out.ext (by omega) (fun m=>by rw[HLT.out,Bool.or_assoc];congr 1;rw[Bool.eq_iff_iff];simp),HR9.out⟩
       case measure=>simp[intOf];omega
    ·have HNO:=Lib.hid (fun m=>show hdOf F j m=false by unfold hdOf;rw[hr,hx];simp[he])
     have hed:decide (15≤x.op)=false:=by simpa using he
     rw[hed] at HEN
     clear hr ho ho2 hoi hx he hed
     go_wp2_with (first|(go_at_call 38;go_must (refine(HEN.out _).mono ?_;rintro e w' ⟨rfl,rfl⟩)))
     go_roundw
     case rel=>exact⟨j+1,by omega,by go_num,(HH.out.ext (by omega) (fun m=>by rw[HSUC.out,HNO.out];simp)).keeps ((Below.refl _ _).alloc (Nat.le_refl _) _)⟩
     case measure=>simp[intOf];omega
end Go.Proofs.YtedcjapmmnbamaaDoor
namespace Tier
open Go Go.RowKit Go.Proofs.YtedcjapmmnbamaaDoor
theorem hdL_sorted(F:Fnc):(hdL F).Pairwise (· < ·):=List.Pairwise.filter _ List.pairwise_lt_range
theorem hdL_mem{F:Fnc}{n:Nat}:n∈hdL F↔n<F.code.length∧hdB F F.code.length n=true:=by unfold hdL;simp
def posH(F:Fnc)(n:Nat):Nat:=(List.range n).countP (hdB F F.code.length)
theorem posH_get{F:Fnc}{n:Nat}(h:n∈hdL F):(hdL F)[posH F n]? =some n:=by
 obtain⟨h1,h2⟩:=hdL_mem.1 h
 exact filt_get _ _ _ h1 h2
theorem posH_of{F:Fnc}{k n:Nat}(h:(hdL F)[k]? =some n):k=posH F n:=(filt_inv _ _ _ _ h).2.2
def stopB(F:Fnc)(b:Nat):Bool:=decide (15≤(insAt F (b-1)).op)||(hdL F).contains b
def toG(F:Fnc):Nat→Nat→Nat
 |0,b=>b
 |k+1,b=>if stopB F b=true then b else toG F k (b+1)
def toF(F:Fnc)(a:Nat):Nat:=toG F F.code.length (a+1)
def nxN(F:Fnc)(a:Nat):List Nat:=nextS (insAt F (toF F a-1)) (toF F a-1)
def nxI(F:Fnc)(a:Nat):List Nat:=(nxN F a).map (posH F)
def hdA(F:Fnc)(i:Nat):Nat:=(hdL F).getD i 0
theorem hdA_eq{F:Fnc}{i a:Nat}(h:(hdL F)[i]? =some a):hdA F i=a:=by unfold hdA;rw[gD,h];rfl
def pickP(_F:Fnc)(l:List Nat)(q k:Nat):List Int:=(l.filter (· ==k)).map fun _=>(q:Int)
def prevTo(F:Fnc)(i t k:Nat):List Int:=(if k=0 then[-1] else[])++((List.range i).flatMap fun q=>pickP F (nxI F (hdA F q)) q k)++pickP F ((nxI F (hdA F i)).take t) i k
def prevF(F:Fnc)(k:Nat):List Int:=(if k=0 then[-1] else[])++((List.range (hdL F).length).flatMap fun q=>pickP F (nxI F (hdA F q)) q k)
theorem prevTo_zero(F:Fnc)(i k:Nat):prevTo F i 0 k=(if k=0 then[-1] else[])++((List.range i).flatMap fun q=>pickP F (nxI F (hdA F q)) q k):=by unfold prevTo pickP;simp
theorem prevTo_next(F:Fnc)(i k:Nat):prevTo F i (nxI F (hdA F i)).length k=prevTo F (i+1) 0 k:=by
 rw[prevTo_zero]
 unfold prevTo
 rw[List.take_length,List.range_succ,List.flatMap_append]
 simp[List.append_assoc]
theorem prevTo_succ(F:Fnc)(i t k n:Nat)(h:(nxI F (hdA F i))[t]? =some n):prevTo F i (t+1) k=prevTo F i t k++if n=k then[(i:Int)] else[]:=by
 unfold prevTo pickP
 rw[List.take_add_one,h]
 rw[List.append_assoc,List.append_assoc,List.append_assoc]
 congr 2
 rw[List.filter_append,List.map_append]
 congr 1
 by_cases hn:n=k
 ·simp[hn]
 ·simp[hn]
structure BkS(F:Fnc)(i t:Nat)(bs:List BR):Prop where
 len:bs.length=(hdL F).length
 done:∀(q:Nat) (r:BR),bs[q]? =some r→q<i→r.fr=(hdA F q:Int)∧r.to=(toF F (hdA F q):Int)
 nl:∀(q:Nat) (r:BR),bs[q]? =some r→r.nl=natI (if q<i then nxI F (hdA F q) else if q=i then(nxI F (hdA F i)).take t else[])
 pl:∀(q:Nat) (r:BR),bs[q]? =some r→r.pl=prevTo F i t q
structure BlkOk(F:Fnc)(bs:List BR):Prop where
 len:bs.length=(hdL F).length
 at_:∀(q:Nat) (r:BR),bs[q]? =some r→r.fr=(hdA F q:Int)∧r.to=(toF F (hdA F q):Int)∧r.nl=natI (nxI F (hdA F q))∧r.pl=prevF F q
theorem set_get{bs:List BR}{q:Nat}{r r' :BR}(hq:bs[q]? =some r)(i:Nat):(bs.set q r')[i]? =if i=q then some r' else bs[i]? :=by
 rw[List.getElem?_set]
 by_cases e:q=i
 ·subst e;rw[if_pos rfl,if_pos (gI.1 hq).1,if_pos rfl]
 ·rw[if_neg e,if_neg (fun e' =>e e'.symm)]
theorem BkS.bounds{F:Fnc}{i t:Nat}{bs:List BR}(h:BkS F i t bs){r:BR}(hq:bs[i]? =some r)(x y:Int):BkS F i t (bs.set i {r with fr:=x,to:=y}):=by
 have hg:=set_get (r' :={r with fr:=x,to:=y}) hq
 refine⟨by simp[h.len],fun q s hs hlt=> ?_,fun q s hs=> ?_,fun q s hs=> ?_⟩
 ·rw[hg,if_neg (by omega)] at hs;exact h.done q s hs hlt
 ·rw[hg] at hs
  split at hs
  ·next e=>obtain rfl:=Option.some.inj hs;rw[e];exact h.nl i r hq
  ·exact h.nl q s hs
 ·rw[hg] at hs
  split at hs
  ·next e=>obtain rfl:=Option.some.inj hs;rw[e];exact h.pl i r hq
  ·exact h.pl q s hs
theorem BkS.step{F:Fnc}{i t n:Nat}{bs:List BR}(h:BkS F i t bs){r:BR}(hq:bs[i]? =some r)(hn:(nxI F (hdA F i))[t]? =some n){v v' :Value}{r' :BR}(hq' :(bs.set i (r.upd false v (r.lst false++[(n:Int)])))[n]? =some r'):
 BkS F i (t+1) ((bs.set i (r.upd false v (r.lst false++[(n:Int)]))).set n (r'.upd true v' (r'.lst true++[(i:Int)])))∧∃s,((bs.set i (r.upd false v (r.lst false++[(n:Int)]))).set n (r'.upd true v' (r'.lst true++[(i:Int)])))[i]? =some s∧s.fr=r.fr∧s.to=r.to:=by
 have g1:=set_get (r' :=r.upd false v (r.lst false++[(n:Int)])) hq
 have g2:=set_get (r' :=r'.upd true v' (r'.lst true++[(i:Int)])) hq'
 have key:∀(q:Nat) (s:BR),((bs.set i (r.upd false v (r.lst false++[(n:Int)]))).set n (r'.upd true v' (r'.lst true++[(i:Int)])))[q]? =some s→∃s0,bs[q]? =some s0∧s.fr=s0.fr∧s.to=s0.to∧s.nl=s0.nl++(if q=i then[(n:Int)] else[])∧s.pl=s0.pl++(if n=q then[(i:Int)] else[]):=fun q s hs=>by
  rw[g2] at hs
  by_cases e:q=n
  ·rw[if_pos e] at hs
   obtain rfl:=Option.some.inj hs
   rw[g1] at hq'
   by_cases e2:n=i
   ·rw[if_pos e2] at hq'
    obtain rfl:=Option.some.inj hq'
    exact⟨r,by rw[e,e2];exact hq,rfl,rfl,by rw[if_pos (by omega)];rfl,by rw[if_pos (by omega)];rfl⟩
   ·rw[if_neg e2] at hq'
    exact⟨r',by rw[e];exact hq',rfl,rfl,by rw[if_neg (by omega),List.append_nil];rfl,by rw[if_pos (by omega)];rfl⟩
  ·rw[if_neg e,g1] at hs
   by_cases e2:q=i
   ·rw[if_pos e2] at hs
    obtain rfl:=Option.some.inj hs
    exact⟨r,by rw[e2];exact hq,rfl,rfl,by rw[if_pos e2];rfl,by rw[if_neg (by omega),List.append_nil];rfl⟩
   ·rw[if_neg e2] at hs
    exact⟨s,hs,rfl,rfl,by rw[if_neg e2,List.append_nil],by rw[if_neg (by omega),List.append_nil]⟩
 refine⟨⟨by simp[h.len],fun q s hs hlt=> ?_,fun q s hs=> ?_,fun q s hs=> ?_⟩,?_⟩
 ·obtain⟨s0,h0,h1,h2,-,-⟩:=key q s hs
  rw[h1,h2];exact h.done q s0 h0 hlt
 ·obtain⟨s0,h0,-,-,h3,-⟩:=key q s hs
  rw[h3,h.nl q s0 h0]
  by_cases e:q=i
  ·subst e
   rw[if_pos rfl,if_neg (by omega),if_pos rfl,if_neg (by omega),if_pos rfl,List.take_add_one,hn]
   simp[natI]
  ·simp only[if_neg e,List.append_nil]
 ·obtain⟨s0,h0,-,-,-,h4⟩:=key q s hs
  rw[h4,h.pl q s0 h0,prevTo_succ F i t q n hn]
 ·have hil:i<bs.length:=(gI.1 hq).1
  obtain⟨s,hs⟩:∃s,((bs.set i (r.upd false v (r.lst false++[(n:Int)]))).set n (r'.upd true v' (r'.lst true++[(i:Int)])))[i]? =some s:=⟨_,gE (by simp;exact hil)⟩
  obtain⟨s0,h0,h1,h2,-,-⟩:=key i s hs
  rw[hq] at h0
  obtain rfl:=Option.some.inj h0
  exact⟨s,hs,h1,h2⟩
theorem BkS.next{F:Fnc}{i:Nat}{bs:List BR}(h:BkS F i (nxI F (hdA F i)).length bs)(hb:∀r,bs[i]? =some r→r.fr=(hdA F i:Int)∧r.to=(toF F (hdA F i):Int)):BkS F (i+1) 0 bs:=by
 refine⟨h.len,fun q r hq hlt=> ?_,fun q r hq=> ?_,fun q r hq=> ?_⟩
 ·by_cases e:q=i
  ·subst e;exact hb r hq
  ·exact h.done q r hq (by omega)
 ·rw[h.nl q r hq,List.take_length]
  by_cases e:q=i
  ·subst e;rw[if_neg (by omega),if_pos rfl,if_pos (by omega)]
  ·by_cases e2:q<i
   ·rw[if_pos e2,if_pos (by omega)]
   ·rw[if_neg e2,if_neg e,if_neg (by omega)];split<;>simp
 ·rw[h.pl q r hq,prevTo_next]
theorem BkS.fin{F:Fnc}{bs:List BR}(h:BkS F (hdL F).length 0 bs):BlkOk F bs:=by
 refine⟨h.len,fun q r hq=> ?_⟩
 have hl:q<(hdL F).length:=by rw[←h.len];exact(gI.1 hq).1
 obtain⟨h1,h2⟩:=h.done q r hq hl
 refine⟨h1,h2,?_,?_⟩
 ·rw[h.nl q r hq,if_pos hl]
 ·rw[h.pl q r hq,prevTo_zero];rfl
section
variable {p:List Fnc}{F:Fnc}
theorem head_rch(hp:Right p)(hF:F∈p){n:Nat}(h:n∈hdL F):n<F.code.length∧rchB F n=true:=by
 obtain⟨h1,h2⟩:=hdL_mem.1 h
 refine⟨h1,?_⟩
 unfold hdB at h2
 rw[Bool.or_eq_true] at h2
 rcases h2 with h2|h2
 ·have:n=0:=by simpa using h2
  subst this
  exact rch_zero (hp.ok.fn F hF)
 ·rw[List.any_eq_true] at h2
  obtain⟨q,hq,h3⟩:=h2
  unfold hdOf at h3
  rw[Bool.and_eq_true] at h3
  obtain⟨h4,h5⟩:=h3
  have hql:=List.mem_range.1 hq
  rw[gE hql] at h5
  simp only[Bool.and_eq_true,List.contains_iff_mem] at h5
  exact(hp.nextR hF h4 (gE hql) ((nextS_mem _ _ _).1 h5.2)).2
theorem zero_head(hp:Right p)(hF:F∈p):(hdL F)[0]? =some 0:=by
 have h0:0∈hdL F:=hdL_mem.2 ⟨by have:=(hp.ok.fn F hF).c1;omega,by simp[hdB]⟩
 have:=posH_get h0
 exact this
theorem goes_on(hp:Right p)(hF:F∈p){q:Nat}(hr:rchB F q=true)(hq:q<F.code.length)(ho:¬15≤(insAt F q).op):q+1<F.code.length∧rchB F (q+1)=true:=by
 have hx:F.code[q]? =some F.code[q]:=gE hq
 rw[insAt_eq hx] at ho
 exact hp.nextR hF hr hx (by unfold nextL;rw[if_neg (by omega),if_neg (by omega),if_neg (by omega)];simp)
theorem toG_spec(hp:Right p)(hF:F∈p):∀(k b:Nat),0<b→b≤F.code.length→rchB F (b-1)=true→F.code.length≤k+b→b≤toG F k b∧toG F k b≤F.code.length∧rchB F (toG F k b-1)=true∧stopB F (toG F k b)=true∧∀q,b≤q→q<toG F k b→stopB F q=false∧rchB F q=true
 |0,b,h0,h1,h2,h3=>by
  have hb:b=F.code.length:=by omega
  refine⟨Nat.le_refl _,h1,h2,?_,fun q h4 h5=>by unfold toG at h5;omega⟩
  unfold toG stopB
  by_cases ho:15≤(insAt F (b-1)).op
  ·simp[ho]
  ·have:=(goes_on hp hF h2 (by omega) ho).1;omega
 |k+1,b,h0,h1,h2,h3=>by
  by_cases hs:stopB F b=true
  ·have e:toG F (k+1) b=b:=by unfold toG;rw[if_pos hs]
   rw[e]
   exact⟨Nat.le_refl _,h1,h2,hs,fun q h4 h5=>by omega⟩
  ·have e:toG F (k+1) b=toG F k (b+1):=by conv=>lhs;unfold toG;rw[if_neg hs]
   have hs' :stopB F b=false:=by simpa using hs
   have ho:¬15≤(insAt F (b-1)).op:=by intro h;unfold stopB at hs';simp[h] at hs'
   obtain⟨h4,h5⟩:=goes_on hp hF h2 (by omega) ho
   rw[show b-1+1=b by omega] at h4 h5
   obtain⟨i1,i2,i3,i4,i5⟩:=toG_spec hp hF k (b+1) (by omega) (by omega) (by simpa using h5) (by omega)
   rw[e]
   refine⟨by omega,i2,i3,i4,fun q h6 h7=> ?_⟩
   by_cases hq:q=b
   ·subst hq;exact⟨hs',h5⟩
   ·exact i5 q (by omega) h7
theorem toF_spec(hp:Right p)(hF:F∈p){a:Nat}(ha:a∈hdL F):a<toF F a∧toF F a≤F.code.length∧rchB F (toF F a-1)=true∧stopB F (toF F a)=true∧∀q,a<q→q<toF F a→stopB F q=false∧rchB F q=true:=by
 obtain⟨h1,h2⟩:=head_rch hp hF ha
 obtain⟨i1,i2,i3,i4,i5⟩:=toG_spec hp hF F.code.length (a+1) (by omega) h1 (by simpa using h2) (by omega)
 exact⟨i1,i2,i3,i4,fun q h3 h4=>i5 q (by omega) h4⟩
theorem nxN_head(hp:Right p)(hF:F∈p){a n:Nat}(ha:a∈hdL F)(hn:n∈nxN F a):n∈hdL F:=by
 obtain⟨h1,h2,h3,h4,-⟩:=toF_spec hp hF ha
 unfold nxN at hn
 have hq:toF F a-1<F.code.length:=by omega
 have hx:F.code[toF F a-1]? =some F.code[toF F a-1]:=gE hq
 have hn2:=(nextS_mem _ _ _).1 hn
 have hnr:=hp.nextR hF h3 (x:=insAt F (toF F a-1)) (by rw[insAt_eq hx];exact hx) hn2
 unfold stopB at h4
 rw[Bool.or_eq_true] at h4
 by_cases ho:15≤(insAt F (toF F a-1)).op
 ·refine hdL_mem.2 ⟨hnr.1,?_⟩
  unfold hdB
  rw[Bool.or_eq_true]
  right
  rw[List.any_eq_true]
  refine⟨toF F a-1,List.mem_range.2 hq,?_⟩
  unfold hdOf
  rw[h3,hx,←insAt_eq hx]
  simp[ho,hn]
 ·rcases h4 with h4|h4
  ·simp[ho] at h4
  ·have:nextL (insAt F (toF F a-1)) (toF F a-1)=[toF F a]:=by
    unfold nextL;rw[if_neg (by omega),if_neg (by omega),if_neg (by omega)];congr 1;omega
   rw[this] at hn2
   rw[List.mem_singleton.1 hn2]
   simpa using h4
end
end Tier
namespace Tier
open Go Go.RowKit Go.Proofs.YtedcjapmmnbamaaDoor
inductive Path(F:Fnc):Nat→Prop
 |zero:Path F 0
 |step {q n:Nat} {x:Ins} (h:Path F q) (hx:F.code[q]? =some x) (hn:n∈nextL x q):Path F n
section
variable {p:List Fnc}{F:Fnc}
theorem rch_path(hp:Right p)(hF:F∈p){n:Nat}(h:rchB F n=true):Path F n:=by
 have hfo:=hp.ok.fn F hF
 obtain⟨m,hm⟩:=rch_of h
 exact sure_ind (fun n _=>Path F n) .zero (fun pc m x n h hx hn=> .step h hx hn) (fun _ _ _ h _=>h) (iterS_inv hfo.cok hfo.p2) n m hm
theorem path_rch(hp:Right p)(hF:F∈p){n:Nat}(h:Path F n):rchB F n=true:=by
 induction h with
 |zero=>exact rch_zero (hp.ok.fn F hF)
 |step _ hx hn ih=>exact(hp.nextR hF ih hx hn).2
theorem rch_back(hp:Right p)(hF:F∈p){n:Nat}(h:rchB F n=true):n=0∨∃q x,rchB F q=true∧F.code[q]? =some x∧n∈nextL x q:=by
 cases rch_path hp hF h with
 |zero=>exact .inl rfl
 |step h hx hn=>exact .inr ⟨_,_,path_rch hp hF h,hx,hn⟩
theorem rch_step(hp:Right p)(hF:F∈p){n:Nat}(h:rchB F n=true)(hl:n<F.code.length)(hh:n∉hdL F):∃q,n=q+1∧rchB F q=true∧(insAt F q).op<15:=by
 rcases rch_back hp hF h with h0|⟨q,x,hq,hx,hn⟩
 ·subst h0
  exact absurd (gM (zero_head hp hF)) hh
 ·have hql:=(gI.1 hx).1
  by_cases ho:15≤x.op
  ·refine absurd (hdL_mem.2 ⟨hl,?_⟩) hh
   unfold hdB
   rw[Bool.or_eq_true]
   right
   rw[List.any_eq_true]
   refine⟨q,List.mem_range.2 hql,?_⟩
   unfold hdOf
   rw[hq,hx]
   have:=(nextS_mem x q n).2 hn
   simp[ho,this]
  ·have h1:nextL x q=[q+1]:=by unfold nextL;rw[if_neg (by omega),if_neg (by omega),if_neg (by omega)]
   rw[h1] at hn
   exact⟨q,List.mem_singleton.1 hn,hq,by rw[insAt_eq hx];omega⟩
theorem cov_end(hp:Right p)(hF:F∈p){a pc:Nat}(ha:a∈hdL F)(h1:a≤pc)(h2:pc+1<toF F a):(insAt F pc).op<15:=by
 have:=((toF_spec hp hF ha).2.2.2.2 (pc+1) (by omega) h2).1
 unfold stopB at this
 rw[Bool.or_eq_false_iff,Nat.add_sub_cancel] at this
 have:=this.1
 simp at this;omega
theorem cov_one(hp:Right p)(hF:F∈p){a b pc:Nat}(ha:a∈hdL F)(hb:b∈hdL F)(h1:a≤pc)(h2:pc<toF F a)(h3:b≤pc)(h4:pc<toF F b):a=b:=by
 have key:∀{a b:Nat},a∈hdL F→b∈hdL F→b≤pc→pc<toF F a→¬a<b:=fun{a b} ha hb h3 h2 hl=>by
  have:=((toF_spec hp hF ha).2.2.2.2 b hl (by omega)).1
  unfold stopB at this
  rw[Bool.or_eq_false_iff] at this
  have:=this.2
  simp[hb] at this
 have k1:=key ha hb h3 h2
 have k2:=key hb ha h1 h4
 omega
theorem cov_rch(hp:Right p)(hF:F∈p){a pc:Nat}(ha:a∈hdL F)(h1:a≤pc)(h2:pc<toF F a):rchB F pc=true:=by
 by_cases h:a=pc
 ·subst h;exact(head_rch hp hF ha).2
 ·exact((toF_spec hp hF ha).2.2.2.2 pc (by omega) h2).2
theorem cov_ex(hp:Right p)(hF:F∈p):∀pc,pc<F.code.length→rchB F pc=true→∃a,a∈hdL F∧a≤pc∧pc<toF F a:=by
 intro pc
 induction pc with
 |zero=>intro hl hr;exact⟨0,gM (zero_head hp hF),Nat.le_refl _,(toF_spec hp hF (gM (zero_head hp hF))).1⟩
 |succ q ih=>
  intro hl hr
  by_cases hh:q+1∈hdL F
  ·exact⟨q+1,hh,Nat.le_refl _,(toF_spec hp hF hh).1⟩
  ·obtain⟨q',he,hq,ho⟩:=rch_step hp hF hr hl hh
   obtain rfl:q=q' :=by omega
   obtain⟨a,ha,h1,h2⟩:=ih (by omega) hq
   refine⟨a,ha,by omega,?_⟩
   by_cases he:toF F a=q+1
   ·have h4:=(toF_spec hp hF ha).2.2.2.1
    rw[he] at h4
    unfold stopB at h4
    rw[Bool.or_eq_true,Nat.add_sub_cancel] at h4
    rcases h4 with h4|h4
    ·simp at h4;omega
    ·simp at h4;exact absurd h4 hh
   ·omega
def covB(F:Fnc)(pc q:Nat):Bool:=decide (hdA F q≤pc)&&decide (pc<toF F (hdA F q))
theorem cnt_one(f:Nat→Bool)(k:Nat):∀n,(∀q,q<n→f q=decide (q=k))→(List.range n).countP f=if k<n then 1 else 0
 |0,_=>by simp
 |n+1,h=>by
  rw[cnt_succ,cnt_one f k n (fun q hq=>h q (by omega)),h n (by omega)]
  simp only[decide_eq_true_eq]
  split<;>split<;>split<;>omega
theorem cov_count(hp:Right p)(hF:F∈p){pc:Nat}(hl:pc<F.code.length):(List.range (hdL F).length).countP (covB F pc)=if rchB F pc=true then 1 else 0:=by
 have hget:∀q,q<(hdL F).length→∃a,(hdL F)[q]? =some a:=fun q hq=>⟨_,gE hq⟩
 by_cases hr:rchB F pc=true
 ·obtain⟨a,ha,h1,h2⟩:=cov_ex hp hF pc hl hr
  have hk:=posH_get ha
  rw[cnt_one (covB F pc) (posH F a) _ (fun q hq=> ?_),if_pos (gI.1 hk).1,if_pos hr]
  obtain⟨b,hb⟩:=hget q hq
  unfold covB
  rw[hdA_eq hb]
  by_cases he:q=posH F a
  ·subst he
   rw[hk] at hb
   obtain rfl:=Option.some.inj hb
   simp[h1,h2]
  ·rw[decide_eq_false he,Bool.eq_false_iff]
   intro hc
   rw[Bool.and_eq_true,decide_eq_true_eq,decide_eq_true_eq] at hc
   have:=cov_one hp hF ha (gM hb) h1 h2 hc.1 hc.2
   subst this
   exact he (posH_of hb)
 ·rw[if_neg hr,List.countP_eq_zero]
  intro q hq hc
  obtain⟨b,hb⟩:=hget q (List.mem_range.1 hq)
  unfold covB at hc
  rw[hdA_eq hb,Bool.and_eq_true,decide_eq_true_eq,decide_eq_true_eq] at hc
  exact hr (cov_rch hp hF (gM hb) hc.1 hc.2)
end
end Tier
namespace Tier
open Go Go.RowKit Go.Proofs.YtedcjapmmnbamaaDoor
section
variable {p:List Fnc}{F:Fnc}
theorem pick_mem{F:Fnc}{l:List Nat}{q k:Nat}{z:Int}:z∈pickP F l q k↔k∈l∧z=(q:Int):=by
 unfold pickP
 rw[List.mem_map]
 constructor
 ·rintro⟨m,hm,rfl⟩
  rw[List.mem_filter] at hm
  obtain⟨h1,h2⟩:=hm
  have:m=k:=by simpa using h2
  subst this
  exact⟨h1,rfl⟩
 ·rintro⟨h,rfl⟩
  exact⟨k,List.mem_filter.2 ⟨h,by simp⟩,rfl⟩
theorem prevF_mem{k:Nat}{z:Int}:z∈prevF F k↔(k=0∧z= -1)∨∃q,q<(hdL F).length∧k∈nxI F (hdA F q)∧z=(q:Int):=by
 unfold prevF
 rw[List.mem_append,List.mem_flatMap]
 constructor
 ·rintro(h|⟨q,hq,h⟩)
  ·left
   by_cases hk:k=0
   ·rw[if_pos hk] at h;exact⟨hk,by simpa using h⟩
   ·rw[if_neg hk] at h;simp at h
  ·obtain⟨h1,h2⟩:=pick_mem.1 h
   exact .inr ⟨q,List.mem_range.1 hq,h1,h2⟩
 ·rintro(⟨rfl,rfl⟩|⟨q,hq,h,rfl⟩)
  ·left;simp
  ·exact .inr ⟨q,List.mem_range.2 hq,pick_mem.2 ⟨h,rfl⟩⟩
theorem meet_eq{i k:Nat}(hi:i<(hdL F).length):(decide ((k:Int)∈natI (nxI F (hdA F i))))=decide ((i:Int)∈prevF F k):=by
 have h1:(k:Int)∈natI (nxI F (hdA F i))↔k∈nxI F (hdA F i):=by
  unfold natI
  rw[List.mem_map]
  exact⟨fun⟨m,h1,h2⟩=>by
   have:m=k:=by omega
   subst this;exact h1,fun h=>⟨k,h,rfl⟩⟩
 rw[decide_eq_decide,h1,prevF_mem]
 constructor
 ·intro h;exact .inr ⟨i,hi,h,rfl⟩
 ·rintro(⟨-,h⟩|⟨q,-,h,he⟩)
  ·omega
  ·have:i=q:=by omega
   subst this;exact h
theorem nextS_sorted(x:Ins)(pc:Nat):(nextS x pc).Pairwise (· < ·):=by
 unfold nextS
 repeat' split
 all_goals simp
 all_goals omega
theorem nxI_nodup(hp:Right p)(hF:F∈p){a:Nat}(ha:a∈hdL F):(nxI F a).Nodup:=by
 have h1:(nxN F a).Nodup:=(nextS_sorted _ _).imp (fun h e=>by omega)
 unfold nxI
 rw[List.nodup_iff_pairwise_ne,List.pairwise_map]
 refine List.Pairwise.imp_of_mem (fun{m n} hm hn h e=>h ?_) (List.nodup_iff_pairwise_ne.1 h1)
 have k1:=posH_get (nxN_head hp hF ha hm)
 have k2:=posH_get (nxN_head hp hF ha hn)
 rw[e,k2] at k1
 exact(Option.some.inj k1).symm
theorem pick_sorted{l:List Nat}(h:l.Nodup)(q k:Nat):(pickP F l q k).Pairwise (· < ·):=by
 have h1:(l.filter (· ==k)).Nodup:=h.filter _
 have h2:(pickP F l q k).length≤1:=by
  unfold pickP
  rw[List.length_map]
  have h3:∀m∈l.filter (· ==k),m=k:=fun m hm=>by simpa using(List.mem_filter.1 hm).2
  match hl:l.filter (· ==k),h1,h3 with
  |[],_,_=>simp
  |[_],_,_=>simp
  |m::n::t,h1,h3=>
   have e1:=h3 m (by simp)
   have e2:=h3 n (by simp)
   simp[e1,e2] at h1
 match hl:pickP F l q k,h2 with
 |[],_=>exact .nil
 |[_],_=>simp
 |_::_::_,h2=>simp at h2
theorem prevF_sorted(hp:Right p)(hF:F∈p)(k:Nat):(prevF F k).Pairwise (· < ·):=by
 have hn:∀n,n≤(hdL F).length→((List.range n).flatMap fun q=>pickP F (nxI F (hdA F q)) q k).Pairwise (· < ·):=fun n=>by
  induction n with
  |zero=>intro _;simp
  |succ n ih=>
   intro hn
   rw[List.range_succ,List.flatMap_append,List.pairwise_append]
   have hget:(hdL F)[n]? =some (hdL F)[n]:=gE hn
   refine⟨ih (by omega),?_,fun a ha b hb=> ?_⟩
   ·simp only[List.flatMap_cons,List.flatMap_nil,List.append_nil]
    rw[hdA_eq hget]
    exact pick_sorted (nxI_nodup hp hF (gM hget)) n k
   ·rw[List.mem_flatMap] at ha
    obtain⟨q,hq,ha⟩:=ha
    simp only[List.flatMap_cons,List.flatMap_nil,List.append_nil] at hb
    have h1:=(pick_mem.1 ha).2
    have h2:=(pick_mem.1 hb).2
    have:=List.mem_range.1 hq
    omega
 unfold prevF
 rw[List.pairwise_append]
 refine⟨by split<;>simp,hn _ (Nat.le_refl _),fun a ha b hb=> ?_⟩
 have h1:a= -1:=by split at ha<;>simp at ha;exact ha
 rw[List.mem_flatMap] at hb
 obtain⟨q,hq,hb⟩:=hb
 have h2:=(pick_mem.1 hb).2
 omega
theorem prevF_some(hp:Right p)(hF:F∈p){k:Nat}(hk:k<(hdL F).length):0<(prevF F k).length:=by
 obtain⟨a,ha⟩:∃a,(hdL F)[k]? =some a:=⟨_,gE hk⟩
 have ham:=gM ha
 obtain⟨hal,har⟩:=head_rch hp hF ham
 have hz:=zero_head hp hF
 rcases rch_back hp hF har with h0|⟨q,x,hq,hx,hn⟩
 ·have h1:k=0:=by
   subst h0
   have h1:=posH_of ha
   have h2:=posH_of hz
   omega
  exact List.length_pos_of_mem (prevF_mem.2 (.inl ⟨h1,rfl⟩))
 ·have hql:=(gI.1 hx).1
  obtain⟨b,hb,h1,h2⟩:=cov_ex hp hF q hql hq
  have hT:toF F b=q+1:=by
   by_cases h3:q+1<toF F b
   ·have h4:=cov_end hp hF hb h1 h3
    rw[insAt_eq hx] at h4
    have h5:nextL x q=[q+1]:=by unfold nextL;rw[if_neg (by omega),if_neg (by omega),if_neg (by omega)]
    rw[h5] at hn
    have h6:=List.mem_singleton.1 hn
    have h7:=((toF_spec hp hF hb).2.2.2.2 (q+1) (by omega) h3).1
    unfold stopB at h7
    rw[Bool.or_eq_false_iff] at h7
    have h8:=h7.2
    rw[←h6] at h8
    simp[ham] at h8
   ·omega
  have hm:a∈nxN F b:=by
   unfold nxN
   rw[hT,Nat.add_sub_cancel,insAt_eq hx]
   exact(nextS_mem _ _ _).2 hn
  have hbg:=posH_get hb
  refine List.length_pos_of_mem (prevF_mem.2 (.inr ⟨posH F b,(gI.1 hbg).1,?_,rfl⟩))
  rw[hdA_eq hbg,posH_of ha]
  exact List.mem_map.2 ⟨a,hm,rfl⟩
theorem ends_before(hp:Right p)(hF:F∈p){i a b:Nat}(ha:(hdL F)[i]? =some a)(hb:(hdL F)[i+1]? =some b):toF F a≤b:=by
 have ham:=gM ha
 have hbm:=gM hb
 have hlt:a<b:=by
  obtain⟨h1,h2⟩:=gI.1 ha
  obtain⟨h3,h4⟩:=gI.1 hb
  have:=List.pairwise_iff_getElem.1 (hdL_sorted F) i (i+1) h1 h3 (by omega)
  rw[h2,h4] at this;exact this
 by_cases h:b<toF F a
 ·have:=((toF_spec hp hF ham).2.2.2.2 b hlt h).1
  unfold stopB at this
  rw[Bool.or_eq_false_iff] at this
  have:=this.2
  simp[hbm] at this
 ·omega
end
end Tier
namespace Go.Proofs.YtedcjapmmnbamaaDoor
open Go.RowKit Tier
def BlocksRet(F:Fnc)(B:Nat)(e:Ending)(w' :World):Prop:=∃g B' bs,e= .returned (.tuple #[.slice (some ⟨g,0,none⟩) (hdL F).length (hdL F).length, .int .i64 0])∧B≤g∧BlkB w' g B' bs∧BlkOk F bs
theorem infoBlk:(Tryd.prog.info? 71).map (fun i=>(i.zero,i.size,i.bytes))=some (some (.agg #[.int .i64 0, .int .i64 0, .slice none 0 0, .slice none 0 0]),4,64):=by kernel_rfl
theorem make_blks(N:Nat)(hN:N≤40)(w:World):(Instr.makeSlice 67 (.int .i64 (N:Int)) (.int .i64 (N:Int))).run Tryd.prog w= .ok (.slice (some ⟨w.heap.size,0,none⟩) N N) (w.alloc (.cells (madeCells #[.int .i64 0, .int .i64 0, .slice none 0 0, .slice none 0 0] (N*4)) 71)):=by
 obtain⟨i,hi,hzz⟩:=Option.map_eq_some_iff.1 infoBlk
 simp only[Prod.mk.injEq] at hzz
 obtain⟨hz,hs,hb⟩:=hzz
 have hr:=run_make (P:=Tryd.prog) w 67 71 i _ Tryd.underlying67 hi hz .i64 .i64 N N (by omega) (Int.le_refl _) (by rw[hb];omega) (by omega)
 simp only[Int.toNat_natCast,hs] at hr
 exact hr
def zBR:BR:=⟨0,0, .slice none 0 0,[], .slice none 0 0,[]⟩
theorem made_blks(n:Nat):madeCells #[Value.int .i64 0, .int .i64 0, .slice none 0 0, .slice none 0 0] (n*4)=(brCells (List.replicate n zBR)).toArray:=by
 apply Array.ext_getElem?
 intro i
 by_cases h:i<n*4
 ·have h1:i / 4<n:=by omega
  have h2:=brCells_get (l:=List.replicate n zBR) (q:=i / 4) (r:=zBR) (by rw[List.getElem?_replicate,if_pos h1]) (j:=i % 4) (by omega)
  rw[show i / 4*4+i % 4=i by omega] at h2
  have e:(brCells (List.replicate n zBR)).toArray[i]? =zBR.cells[i % 4]? :=List.getElem?_toArray.trans h2
  rw[e]
  have h3:i % 4=0∨i % 4=1∨i % 4=2∨i % 4=3:=by omega
  rcases h3 with h3|h3|h3|h3<;>simp[madeCells,h,h3,zBR,BR.cells]
 ·rw[Array.getElem?_eq_none (by simp[madeCells];omega),List.getElem?_toArray,List.getElem?_eq_none (by rw[brCells_length];simp;omega)]
theorem blks_start(w:World)(n:Nat):BlkB (w.alloc (.cells (madeCells #[.int .i64 0, .int .i64 0, .slice none 0 0, .slice none 0 0] (n*4)) 71)) w.heap.size (w.heap.size+1) (List.replicate n zBR):=by
 refine⟨by rw[made_blks];exact heap_alloc_new _ _,⟨fun q r c hq=> ?_,fun q q' r r' c c' b hq hq' _ hb=> ?_⟩,by omega⟩
 ·have:r=zBR:=List.eq_of_mem_replicate (gM hq)
  subst this
  cases c<;>exact World.ownsRow_nil _ _ _ _
 ·have:r=zBR:=List.eq_of_mem_replicate (gM hq)
  subst this
  cases c<;>simp[BR.val,zBR,Value.ownBlock] at hb
def fBR(v:Value):BR:=⟨0,0, .slice none 0 0,[],v,[-1]⟩
def blk0(v:Value)(n:Nat):List BR:=(List.replicate n zBR).set 0 (fBR v)
theorem blks_first(w:World)(n:Nat)(hn:0<n):BlkB (((w.alloc (.cells (madeCells #[.int .i64 0, .int .i64 0, .slice none 0 0, .slice none 0 0] (n*4)) 71)).alloc (.cells #[.int .i64 (-1)] 3)).setCell ⟨w.heap.size,3,none⟩ (.slice (some ⟨w.heap.size+1,0,none⟩) 1 1)) w.heap.size (w.heap.size+1) (blk0 (.slice (some ⟨w.heap.size+1,0,none⟩) 1 1) n):=by
 have h:=blks_start w n
 have hq:(List.replicate n zBR)[0]? =some zBR:=by rw[List.getElem?_replicate,if_pos hn]
 have ho:=OwnI.made (w.alloc (.cells (madeCells #[.int .i64 0, .int .i64 0, .slice none 0 0, .slice none 0 0] (n*4)) 71)) (w.heap.size+1) [-1] (by simp) (by simp)
 have hr:=h.rows.app hq true (v:= .slice (some ⟨w.heap.size+1,0,none⟩) 1 1) (x:= -1) (World.grownBy_alloc _ (.cells #[.int .i64 (-1)] 3) _) (by simpa [OwnI,zBR,BR.lst] using ho) (.inr ⟨w.heap.size+1,by simp,rfl⟩)
 have hb:=heap_alloc_old (w.alloc (.cells (madeCells #[.int .i64 0, .int .i64 0, .slice none 0 0, .slice none 0 0] (n*4)) 71)) (.cells #[.int .i64 (-1)] 3) (block_lt h.blk)
 have hs:=brCells_set (List.replicate n zBR) 0 zBR (fBR (.slice (some ⟨w.heap.size+1,0,none⟩) 1 1)) 3 (.slice (some ⟨w.heap.size+1,0,none⟩) 1 1) hq (by omega) rfl
 refine⟨?_,hr.setCell h.lt _,h.lt⟩
 have h2:=hb.trans h.blk
 simp only[World.setCell,Array.getElem?_modify,if_true,h2,Option.map_some]
 unfold blk0
 rw[←hs];simp
theorem blk0_start(F:Fnc)(v:Value):BkS F 0 0 (blk0 v (hdL F).length):=by
 have hg:∀(q:Nat) (r:BR),(blk0 v (hdL F).length)[q]? =some r→r=if q=0 then fBR v else zBR:=fun q r h=>by
  unfold blk0 at h
  have hl:q<(hdL F).length:=by have:=(gI.1 h).1;simpa using this
  rw[set_get (r:=zBR) (by rw[List.getElem?_replicate,if_pos (by omega)])] at h
  by_cases e:q=0
  ·rw[if_pos e] at h⊢;exact(Option.some.inj h).symm
  ·rw[if_neg e,List.getElem?_replicate,if_pos hl] at h;rw[if_neg e];exact(Option.some.inj h).symm
 refine⟨by simp[blk0],fun q r _ h=>by omega,fun q r h=> ?_,fun q r h=> ?_⟩
 ·rw[hg q r h]
  by_cases e:q=0<;>simp[e,fBR,zBR,natI]
 ·rw[hg q r h,prevTo_zero]
  by_cases e:q=0<;>simp[e,fBR,zBR]
theorem pickP_len(F:Fnc)(l:List Nat)(q k:Nat):(pickP F l q k).length≤l.length:=by unfold pickP;rw[List.length_map];exact List.length_filter_le _ _
theorem nxI_len(F:Fnc)(a:Nat):(nxI F a).length≤2:=by unfold nxI nxN;rw[List.length_map];exact nextS_length _ _
theorem prevTo_len(F:Fnc)(i t k:Nat):(prevTo F i t k).length≤3+2*i:=by
 have h1:∀n,((List.range n).flatMap fun q=>pickP F (nxI F (hdA F q)) q k).length≤2*n:=fun n=>by
  induction n with
  |zero=>simp
  |succ n ih=>
   rw[List.range_succ,List.flatMap_append,List.length_append]
   have h2:=pickP_len F (nxI F (hdA F n)) n k
   have h3:=nxI_len F (hdA F n)
   simp only[List.flatMap_cons,List.flatMap_nil,List.append_nil]
   omega
 have h4:=h1 i
 have h5:=pickP_len F ((nxI F (hdA F i)).take t) i k
 have h6:((nxI F (hdA F i)).take t).length≤2:=by rw[List.length_take];have:=nxI_len F (hdA F i);omega
 have h7:(if k=0 then[(-1:Int)] else[]).length≤1:=by split<;>simp
 unfold prevTo
 rw[List.length_append,List.length_append]
 omega
structure BW(w4 wr:World)(bs:List BR):Prop where
 low:Below w4.heap.size w4 wr
 blk:BlkB wr w4.heap.size (w4.heap.size+1) bs
structure BX(w4 w7 wr:World)(Av:Option Addr)(bs:List BR):Prop where
 bw:BW w4 wr bs
 size:w7.heap.size≤wr.heap.size
 keep:∀gv,Av=some ⟨gv,0,none⟩→gv<w7.heap.size→wr.heap[gv]? =w7.heap[gv]? ∧gv≠w4.heap.size∧∀(q:Nat) (r:BR) (c:Bool),bs[q]? =some r→(r.val c).ownBlock≠some gv
section
variable {w4 w7 wr w' :World}{bs:List BR}{Av:Option Addr}
theorem BW.first0(w:World)(n:Nat)(hn:0<n):BW w (((w.alloc (.cells (madeCells #[.int .i64 0, .int .i64 0, .slice none 0 0, .slice none 0 0] (n*4)) 71)).alloc (.cells #[.int .i64 (-1)] 3)).setCell ⟨w.heap.size,3,none⟩ (.slice (some ⟨w.heap.size+1,0,none⟩) 1 1)) (blk0 (.slice (some ⟨w.heap.size+1,0,none⟩) 1 1) n):=
 ⟨by exact Bq,blks_first w n hn⟩
theorem BW.first(w:World)(n:Nat)(hn:0<n):BW w ((w.alloc (.cells ((madeCells #[.int .i64 0, .int .i64 0, .slice none 0 0, .slice none 0 0] (n*4)).setIfInBounds 3 (.slice (some ⟨w.heap.size+1,0,none⟩) 1 1)) 71)).alloc (.cells #[.int .i64 (-1)] 3)) (blk0 (.slice (some ⟨w.heap.size+1,0,none⟩) 1 1) n):=by
 have h:=BW.first0 w n hn
 rw[World.setCell_alloc_past _ _ _ _ (by simp),World.setCell_alloc_at _ _ _ _ _ rfl] at h
 exact h
theorem BW.keeps(h:BW w4 wr bs)(hb:Below wr.heap.size wr w'):BW w4 w' bs:=⟨h.low.trans (hb.mono h.low.size),h.blk.keeps hb⟩
theorem BW.set0(h:BW w4 wr bs){q:Nat}{r:BR}(hq:bs[q]? =some r)(x:Int):BW w4 (wr.setCell ⟨w4.heap.size,q*4,none⟩ (.int .i64 x)) (bs.set q {r with fr:=x}):=⟨h.low.setCell (Nat.le_refl _) _,h.blk.set0 hq x⟩
theorem BW.set1(h:BW w4 wr bs){q:Nat}{r:BR}(hq:bs[q]? =some r)(x:Int):BW w4 (wr.setCell ⟨w4.heap.size,q*4+1,none⟩ (.int .i64 x)) (bs.set q {r with to:=x}):=⟨h.low.setCell (Nat.le_refl _) _,h.blk.set1 hq x⟩
theorem BW.both(h:BW w4 wr bs){q:Nat}{r:BR}(hq:bs[q]? =some r)(x y:Int):BW w4 ((wr.setCell ⟨w4.heap.size,q*4,none⟩ (.int .i64 x)).setCell ⟨w4.heap.size,q*4+1,none⟩ (.int .i64 y)) (bs.set q {r with fr:=x,to:=y}):=by
 have h1:=(h.set0 hq x).set1 (q:=q) (r:={r with fr:=x}) (by rw[set_get hq,if_pos rfl]) y
 have h2:(bs.set q {r with fr:=x}).set q {r with fr:=x,to:=y}=bs.set q {r with fr:=x,to:=y}:=by rw[List.set_set]
 rw[←h2];exact h1
theorem BW.app(h:BW w4 wr bs){q:Nat}{r:BR}(hq:bs[q]? =some r)(c:Bool){v:Value}{x:Int}(o:Obj)(hg:(wr.alloc o).grownBy w' (r.val c).ownBlock)
 (ho:w'.ownsRow (w4.heap.size+1) 3 1 v ((r.lst c).length+1) ((r.lst c).map (Value.int .i64)++[.int .i64 x])) (hat:v.ownBlock=(r.val c).ownBlock∨v.ownBlock=some (wr.alloc o).heap.size):
 BW w4 (w'.setCell ⟨w4.heap.size,q*4+(if c=true then 3 else 2),none⟩ v) (bs.set q (r.upd c v (r.lst c++[x])))∧w'.heap[w4.heap.size]? =wr.heap[w4.heap.size]? :=by
 obtain⟨h1,h2⟩:=h.blk.app hq c o hg ho hat
 refine⟨⟨?_,h1⟩,h2⟩
 have h3:=h.low.size
 have h4:Below w4.heap.size w4 (wr.alloc o):=h.low.alloc h3 o
 exact(h4.grown hg h4.size (fun k hk=>by have:=(h.blk.rows.lt hq c k hk).1;omega)).setCell (Nat.le_refl _) _
theorem upd_own{q:Nat}{r:BR}(hq:bs[q]? =some r)(c:Bool)(v:Value)(l:List Int)(i:Nat)(s:BR)(d:Bool)(hs:(bs.set q (r.upd c v l))[i]? =some s):s.val d=v∨∃s0,bs[i]? =some s0∧s.val d=s0.val d:=by
 rw[set_get hq] at hs
 by_cases e:i=q
 ·rw[if_pos e] at hs
  obtain rfl:=Option.some.inj hs
  by_cases hd:d=c
  ·subst hd;exact .inl (BR.upd_val _ _ _ _)
  ·exact .inr ⟨r,by rw[e];exact hq,BR.upd_val' r hd _ _⟩
 ·rw[if_neg e] at hs;exact .inr ⟨s,hs,rfl⟩
theorem upd_other{q:Nat}{r:BR}(hq:bs[q]? =some r)(v:Value)(l:List Int)(i:Nat)(s:BR)(hs:(bs.set q (r.upd false v l))[i]? =some s):∃s0,bs[i]? =some s0∧s.pl=s0.pl:=by
 rw[set_get hq] at hs
 by_cases e:i=q
 ·rw[if_pos e] at hs
  obtain rfl:=Option.some.inj hs
  exact⟨r,by rw[e];exact hq,rfl⟩
 ·rw[if_neg e] at hs;exact⟨s,hs,rfl⟩
theorem BX.app(h:BX w4 w7 wr Av bs){q:Nat}{r:BR}(hq:bs[q]? =some r)(c:Bool){v:Value}{x:Int}(o:Obj)(hg:(wr.alloc o).grownBy w' (r.val c).ownBlock)
 (ho:w'.ownsRow (w4.heap.size+1) 3 1 v ((r.lst c).length+1) ((r.lst c).map (Value.int .i64)++[.int .i64 x])) (hat:v.ownBlock=(r.val c).ownBlock∨v.ownBlock=some (wr.alloc o).heap.size):
 BX w4 w7 (w'.setCell ⟨w4.heap.size,q*4+(if c=true then 3 else 2),none⟩ v) Av (bs.set q (r.upd c v (r.lst c++[x])))∧w'.heap[w4.heap.size]? =wr.heap[w4.heap.size]? :=by
 obtain⟨h1,h2⟩:=h.bw.app hq c o hg ho hat
 have h3:(wr.alloc o).heap.size=wr.heap.size+1:=by simp
 refine⟨⟨h1,?_,fun gv hv hl=> ?_⟩,h2⟩
 ·have:=hg.size;have:=h.size;simp only[World.setCell,Array.size_modify];omega
 ·obtain⟨k1,k2,k3⟩:=h.keep gv hv hl
  have hs:=h.size
  refine⟨?_,k2,fun i s d hi e=> ?_⟩
  ·rw[Below.heap_setCell _ _ _ _ (by simpa using k2),hg.block gv (by omega) (fun e=>k3 q r c hq e.symm)]
   exact(heap_alloc_old wr o (r:=gv) (by omega)).trans k1
  ·rcases upd_own hq c v _ i s d hi with h4|⟨s0,h4,h5⟩
   ·rw[h4] at e
    rcases hat with h6|h6
    ·rw[h6] at e;exact k3 q r c hq e
    ·rw[h6] at e;have:=Option.some.inj e;omega
   ·rw[h5] at e;exact k3 i s0 d h4 e
theorem BX.start(h:BW w4 wr bs)(hb:Below wr.heap.size wr w')(hB:∀gv,Av=some ⟨gv,0,none⟩→wr.heap.size≤gv):BX w4 w' w' Av bs:=by
 refine⟨h.keeps hb,Nat.le_refl _,fun gv hv hl=>⟨rfl,fun e=> ?_,fun q r c hq e=> ?_⟩⟩
 ·have h1:=hB gv hv;have h2:=block_lt h.blk.blk;omega
 ·have h1:=hB gv hv;have h2:=(h.blk.rows.lt hq c gv e).2;omega
end
def RowN(w:World)(A:Option Addr)(l:List Nat):Prop:=0<l.length→∃g,A=some ⟨g,0,none⟩∧g<w.heap.size∧∀(i n:Nat),l[i]? =some n→w.cell? ⟨g,i,none⟩=some (.int .i64 (n:Int))
theorem RowN.keeps{w w' :World}{A:Option Addr}{l:List Nat}(h:RowN w A l)(hb:Below w.heap.size w w'):RowN w' A l:=fun hl=>by
 obtain⟨g,h1,h2,h3⟩:=h hl
 exact⟨g,h1,Nat.lt_of_lt_of_le h2 hb.size,fun i n hn=>(hb.cell (p:=⟨g,i,none⟩) h2).trans (h3 i n hn)⟩
theorem row_own{w:World}{B:Nat}{v:Value}{l:List Nat}(h:OwnI w B v (natI l)):∃A cap,v= .slice A l.length cap∧RowN w A l:=by
 obtain⟨A,cap,hv,hc⟩:=own_slice h
 rw[natI_length] at hv hc
 refine⟨A,cap,hv,fun hl=> ?_⟩
 obtain⟨g,h1,h2,h3⟩:=hc hl
 exact⟨g,h1,h2,fun i n hn=>(h3 i (by have:=(gI.1 hn).1;omega)).trans (by simp[natI,hn])⟩
def Idx(l:List Nat)(n:Nat)(w:World)(e:Ending)(w' :World):Prop:=∃r:Int,e= .returned (.int .i64 r)∧(decide (0≤r)=l.contains n)∧w=w'
set_option maxRecDepth 100000 in
set_option maxHeartbeats 4000000 in
theorem index_any(l:List Nat)(A:Option Addr)(cap n:Nat)(w:World)(h:RowN w A l)(hl:l.length≤1000):
 Calls Tryd.prog 69 #[.slice A l.length cap, .int .i64 (n:Int)] w (Idx l n w):=by
 have HR:=Lib.hid h
 clear h
 obtain⟨N,hN⟩:∃N,l.length=N:=⟨_,rfl⟩
 have HN:=Lib.hid hN
 rw[hN] at hl⊢
 clear hN
 go_enter Tryd.func69,Tryd.ntmps69
 go_wp2_with fail
 go_loop [8] (fun v=>∃i:Nat,i≤N∧v= .int .i64 (i:Int)∧∀j,j<i→l[j]? ≠some n) (fun v=>N-(intOf v).toNat)
 case atStart=>exact⟨0,by omega,rfl,fun j hj=>by omega⟩
 case round=>
  obtain⟨i,hi,rfl,hno⟩:=hrel
  have HNO:=Lib.hid hno
  clear hno
  by_cases hiN:i=N
  ·obtain rfl:N=i:=hiN.symm
   go_wp2_with fail
   go_ret
   refine⟨-1,rfl,?_,rfl⟩
   have:l.contains n=false:=by
    rw[Bool.eq_false_iff]
    intro hc
    obtain⟨j,hj⟩:=List.getElem?_of_mem (by simpa using hc)
    exact HNO.out j (by have:=(gI.1 hj).1;rw[HN.out] at this;exact this) hj
   rw[this];rfl
  ·have hi1:(i:Int)<N:=by omega
   have hi2:(0:Int)≤i:=by omega
   obtain⟨g,hg,hgl,hc⟩:=HR.out (by rw[HN.out];omega)
   obtain⟨m,hm⟩:∃m,l[i]? =some m:=⟨l[i]'(by rw[HN.out];omega),gE _⟩
   have cm:=hc i m hm
   have HM:=Lib.hid hm
   subst hg
   clear hc hm hiN
   by_cases hnm:n=m
   ·subst hnm
    go_wp2_with fail
    go_ret
    refine⟨(i:Int),rfl,?_,rfl⟩
    have:l.contains n=true:=by simpa using gM HM.out
    rw[this];simp
   ·have hq:((n:Int)==(m:Int))=false:=beq_eq_false_iff_ne.2 (by omega)
    have HNM:=Lib.hid hnm
    clear hnm
    go_wp2_with fail
    go_round
    case rel=>exact⟨i+1,by omega,by go_num,fun j hj=>by
     by_cases he:j=i
     ·rw[he,HM.out];intro h;exact HNM.out (Option.some.inj h).symm
     ·exact HNO.out j (by omega)⟩
    case measure=>simp[intOf];omega
theorem contains_any(l:List Nat)(A:Option Addr)(cap n:Nat)(w:World)(h:RowN w A l)(hl:l.length≤1000):
 Calls Tryd.prog 39 #[.slice A l.length cap, .int .i64 (n:Int)] w fun e w' =>e= .returned (.bool (l.contains n))∧w=w' :=by
 have HI:=Lib.hid (index_any l A cap n w h hl)
 clear h
 go_enter Tryd.func39,Tryd.ntmps39
 go_wp2_with (go_at_call 69;refine HI.out.mono ?_;rintro e w' ⟨r,rfl,hr,rfl⟩;have HRR:=Lib.hid hr;clear hr)
 go_ret
 exact⟨by rw[←HRR.out];rfl,rfl⟩
theorem isnan_any(a:Int)(w:World):Calls Tryd.prog 72 #[.int .i64 a] w fun e w' =>e= .returned (.bool false)∧w=w' :=by
 go_enter Tryd.func72,Tryd.ntmps72
 go_wp2
 go_ret
 exact⟨by simp,rfl⟩
theorem sorted_lt{l:List Nat}(h:l.Pairwise (· < ·)){i j a b:Nat}(ha:l[i]? =some a)(hb:l[j]? =some b)(hij:i<j):a<b:=by
 obtain⟨h1,h2⟩:=gI.1 ha
 obtain⟨h3,h4⟩:=gI.1 hb
 have:=List.pairwise_iff_getElem.1 h i j h1 h3 hij
 rw[h2,h4] at this;exact this
set_option maxRecDepth 100000 in
set_option maxHeartbeats 4000000 in
theorem bsearch_any(l:List Nat)(A:Option Addr)(cap n k:Nat)(w:World)(h:RowN w A l)(hl:l.length≤1000)(hs:l.Pairwise (· < ·))(hk:l[k]? =some n):
 Calls Tryd.prog 41 #[.slice A l.length cap, .int .i64 (n:Int)] w fun e w' =>e= .returned (.tuple #[.int .i64 (k:Int), .bool true])∧w=w' :=by
 have HR:=Lib.hid h
 have HS:=Lib.hid hs
 have HK:=Lib.hid hk
 have hkl:=(gI.1 hk).1
 clear h hs hk
 obtain⟨N,hN⟩:∃N,l.length=N:=⟨_,rfl⟩
 have HN:=Lib.hid hN
 rw[hN] at hl hkl⊢
 clear hN
 obtain⟨g,hg,hgl,hc⟩:=HR.out (by rw[HN.out];omega)
 have HC:=Lib.hid hc
 subst hg
 clear hc
 go_enter Tryd.func41,Tryd.ntmps41
 go_wp2_with fail
 go_loopw [7,8] (fun vi vj wr=>∃i j:Nat,vi= .int .i64 (i:Int)∧vj= .int .i64 (j:Int)∧i≤k∧k≤j∧j≤N∧wr=w) (fun vi vj _=>(intOf vj-intOf vi).toNat)
 case atStart=>exact⟨0,N,rfl,rfl,by omega,by omega,Nat.le_refl _,rfl⟩
 case round=>
  obtain⟨i,j,rfl,rfl,hik,hkj,hjN,rfl⟩:=hrel
  by_cases hij:i=j
  ·have hkk:i=k:=by omega
   subst hkk
   obtain rfl:i=j:=hij
   have ck:=HC.out i n HK.out
   have hi1:(i:Int)<N:=by omega
   have hi2:(0:Int)≤i:=by omega
   go_wp2_with fail
   go_ret2
   exact⟨rfl,rfl⟩
  ·have hlt:(i:Int)<j:=by omega
   obtain⟨hh,hhe⟩:∃h,(i+j) / 2=h:=⟨_,rfl⟩
   have hh1:i≤hh:=by omega
   have hh2:hh<j:=by omega
   have hhN:(hh:Int)<N:=by omega
   have hh0:(0:Int)≤hh:=by omega
   obtain⟨m,hm⟩:∃m,l[hh]? =some m:=⟨l[hh]'(by rw[HN.out];omega),gE _⟩
   have cm:=HC.out hh m hm
   have hd1:((i:Int)+j) / 2=hh:=by omega
   have HLE:=Lib.hid (fun(W:World)=>less_any (m:Int) (n:Int) W)
   have hcase:(m<n∧hh<k)∨(¬m<n∧k≤hh):=by
    rcases Nat.lt_trichotomy hh k with h|h|h
    ·exact .inl ⟨sorted_lt HS.out hm HK.out h,h⟩
    ·subst h;rw[hm] at *;have:=HK.out;rw[hm] at this;obtain rfl:=Option.some.inj this;exact .inr ⟨by omega,by omega⟩
    ·have:=sorted_lt HS.out HK.out hm h;exact .inr ⟨by omega,by omega⟩
   clear hm hhe
   rcases hcase with⟨c1,c2⟩|⟨c1,c2⟩
   ·have hdc:decide ((m:Int)<n)=true:=by simp;omega
    rw[hdc] at HLE
    clear hdc
    go_wp2_with (go_at_call 71;go_must (refine(HLE.out _).mono ?_;rintro e w' ⟨rfl,rfl⟩))
    go_roundw
    case rel=>exact⟨hh+1,j,by go_num,rfl,by omega,by omega,by omega,trivial⟩
    case measure=>simp[intOf];omega
   ·have hdc:decide ((m:Int)<n)=false:=by simp;omega
    rw[hdc] at HLE
    clear hdc
    go_wp2_with (go_at_call 71;go_must (refine(HLE.out _).mono ?_;rintro e w' ⟨rfl,rfl⟩))
    go_roundw
    case rel=>exact⟨i,hh,rfl,rfl,by omega,by omega,by omega,trivial⟩
    case measure=>simp[intOf];omega
theorem made3(w:World)(n:Nat)(hn:0<n):((w.alloc (.cells (madeCells #[.int .i64 0, .int .i64 0, .slice none 0 0, .slice none 0 0] (n*4)) 71)).alloc (.cells #[.int .i64 (-1)] 3)).cell? ⟨w.heap.size,3,none⟩=some (.slice none 0 0):=by
 have h:=(blks_start w n).keeps ((Below.refl _ _).alloc (Nat.le_refl _) (.cells #[.int .i64 (-1)] 3))
 have:=h.cell (q:=0) (r:=zBR) (by rw[List.getElem?_replicate,if_pos hn]) (j:=3) (by omega)
 rw[Nat.zero_mul] at this
 exact this
theorem madeF(w:World)(n:Nat):((w.alloc (.cells (madeCells #[.int .i64 0, .int .i64 0, .slice none 0 0, .slice none 0 0] (n*4)) 71)).alloc (.cells #[.int .i64 (-1)] 3)).frozen? ⟨w.heap.size,3,none⟩=false:=by
 have h:=(blks_start w n).keeps ((Below.refl _ _).alloc (Nat.le_refl _) (.cells #[.int .i64 (-1)] 3))
 exact h.frozen 3
set_option maxRecDepth 100000 in
set_option maxHeartbeats 8000000 in
theorem blocks_any(p:List Fnc)(A:Option Addr)(cap k:Nat)(F:Fnc)(w:World)(ht:Tab w)(hp:ProgAt w (.slice A p.length cap) p)(hk:checkP p=0)(hf:p[k]? =some F):
 Calls Tryd.prog 18 #[.agg #[.slice A p.length cap], .int .i64 (k:Int)] w fun e w' =>BlocksRet F w.heap.size e w' ∧Below w.heap.size w w' :=by
 have hR:=right_of hk
 have hE:=progE_ck hk
 have l2:=hR.ok.l2
 have hFm:=gM hf
 have hfo:=hR.ok.fn F hFm
 have hkl:=(gI.1 hf).1
 obtain⟨A0,cap0,hA0,hA⟩:=hp.slice
 simp only[Value.slice.injEq,true_and] at hA0
 obtain⟨g,hAg,hg,hfn⟩:=hA (by omega)
 obtain⟨rfl,rfl⟩:=hA0
 subst hAg
 obtain⟨u,hu,d0,d1,d2⟩:=hfn k F hf
 have HU:=Lib.hid hu
 obtain⟨FA,fcap,rfl,hFA⟩:=hu.slice
 obtain⟨gc,hgc,hgcl,hins⟩:=hFA (by have:=hfo.c1;omega)
 subst hgc
 have HPC:=Lib.hid (fun(W:World) (h1:Tab W) (h2:ProgAt W (.slice (some ⟨g,0,none⟩) p.length cap) p)=>pcheck_any p (some ⟨g,0,none⟩) cap W h1 h2 (by omega) (fun f hf=>by have:=(hR.ok.fn f hf).c2;omega))
 rw[hk] at HPC
 have HSU:=Lib.hid (fun(W:World) (h1:Tab W) (h2:ProgAt W (.slice (some ⟨g,0,none⟩) p.length cap) p)=>psure_any p (some ⟨g,0,none⟩) cap k F W h1 h2 hE hf)
 have HNX:=Lib.hid (fun(W:World) (pc:Nat) (x:Ins) (hx:F.code[pc]? =some x) (hc:CodeAt W (.slice (some ⟨gc,0,none⟩) F.code.length fcap) F.code)=>fnext_any F (some ⟨gc,0,none⟩) fcap pc x W hx hc hfo.c2 (fun h=>by have h1:=(hfo.ins x (gM hx)).jump h;have h2:=hfo.c2;omega))
 have HHD:=Lib.hid (fun(W:World) (b:Nat) (hc:CodeAt W (.slice (some ⟨gc,0,none⟩) F.code.length fcap) F.code) (hs:IntsB W b (outL (sureF F)))=>heads_any p F (some ⟨gc,0,none⟩) fcap b W hR hFm hc hs)
 have HT:=Lib.hid ht
 have HP:=Lib.hid hp
 have HR:=Lib.hid hR
 have HFM:=Lib.hid hFm
 have HFO:=Lib.hid hfo
 have HINS:=Lib.hid hins
 have n2:=hfo.c2
 obtain⟨H,hH⟩:∃H,(hdL F).length=H:=⟨_,rfl⟩
 have HH:=Lib.hid hH
 have hHM:H≤40:=by have h1:=hdTo_len F F.code.length;have h2:hdTo F F.code.length=hdL F:=rfl;rw[h2,hH] at h1;omega
 have hH1:0<H:=by have:=(gI.1 (zero_head hR hFm)).1;omega
 obtain⟨M,hM⟩:∃M,F.code.length=M:=⟨_,rfl⟩
 have HM:=Lib.hid hM
 obtain⟨N,hN⟩:∃N,p.length=N:=⟨_,rfl⟩
 have hk1:(k:Int)<N:=by omega
 have hk0:(0:Int)≤k:=by omega
 have hmk:=make_blks H hHM
 obtain⟨i0,hI0,hz0,hz1,hz2⟩:=info_parts infoInt
 rw[hN] at HPC HSU HP l2⊢
 rw[hM] at HSU HNX HU HHD d2 n2
 clear hA hfn hp ht hR hE hk hf hu hFA hfo hFm hM hN hkl hins hH
 go_enter Tryd.func18,Tryd.ntmps18
 go_wp2_with (first|(go_at_call 21;go_must (refine(HPC.out _ (HT.out.alloc _) (HP.out.keeps ((Below.refl _ _).alloc (Nat.le_refl _) _))).mono ?_;rintro e w1 ⟨rfl,hb⟩;have HB1:=Lib.hid (((Below.refl w.heap.size w).alloc (Nat.le_refl _) (.cells #[.slice (some ⟨g,0,none⟩) N cap] 29)).trans (hb.mono (by simp)));have HBX:=Lib.hid ((hb.block w.heap.size (by simp)).trans (heap_alloc_new w _));have q0:=cell_block HBX.out;have z0:=block_lt HBX.out;clear hb))|(go_at_call 36;go_must (refine(HSU.out _ (HT.out.keeps HB1.out) (HP.out.keeps HB1.out)).mono ?_;rintro e w2 ⟨⟨b,rfl,hgb,hIB⟩,hb⟩;have HIB:=Lib.hid hIB;have HB2:=Lib.hid (HB1.out.trans (hb.mono HB1.out.size));have HBX2:=Lib.hid ((hb.block _ (block_lt HBX.out)).trans HBX.out);have q2:=cell_block HBX2.out;have z2:=block_lt HBX2.out;have g2:=Nat.lt_of_lt_of_le hg HB2.out.size;have e0:=(HB2.out.cell (p:=⟨g,_,none⟩) hg).trans d0;have e1:=(HB2.out.cell (p:=⟨g,_,none⟩) hg).trans d1;have e2:=(HB2.out.cell (p:=⟨g,_,none⟩) hg).trans d2;have HB23:=Lib.hid ((Below.refl w2.heap.size w2).alloc (Nat.le_refl _) (.cells #[.int .i64 F.params, .int .i64 F.regs, .slice (some ⟨gc,0,none⟩) M fcap] 60));have HFB:=Lib.hid (heap_alloc_new w2 (.cells #[.int .i64 F.params, .int .i64 F.regs, .slice (some ⟨gc,0,none⟩) M fcap] 60));clear hb hgb hIB q0 z0))|(go_at_call 37;go_must (refine(HHD.out _ b (HU.out.keeps (HB2.out.trans (HB23.out.mono HB2.out.size))) (HIB.out.keeps HB23.out)).mono ?_;rintro e w4 ⟨⟨v,rfl,hov⟩,hb⟩;obtain⟨HA,hcap,hv,hrow⟩:=row_own hov;subst hv;rw[HH.out];have HROW:=Lib.hid hrow;have HB24:=Lib.hid (HB23.out.trans (hb.mono HB23.out.size));have HFB4:=Lib.hid ((hb.block _ (block_lt HFB.out)).trans HFB.out);have HBF:=Lib.hid (BW.first w4 H hH1);have c3:=made3 w4 H hH1;have f3:=madeF w4 H;clear hov hrow hb)))
 clear q2 z2 g2 e0 e1 e2 c3 f3 hmk
 have HBS:=Lib.hid (show BkS F 0 0 (blk0 (.slice (some ⟨w4.heap.size+1,0,none⟩) 1 1) H) by rw[←HH.out];exact blk0_start F _)
 have HB4:=Lib.hid (HB2.out.trans (HB24.out.mono HB2.out.size))
 obtain⟨gh,hgh,hghl,hrow⟩:=HROW.out (by rw[HH.out];exact hH1)
 have HRW:=Lib.hid hrow
 have HGH:=Lib.hid hghl
 subst hgh
 have HSR:=Lib.hid (fun(W:World) (n k:Nat) (h:RowN W (some ⟨gh,0,none⟩) (hdL F)) (hk:(hdL F)[k]? =some n)=>bsearch_any (hdL F) (some ⟨gh,0,none⟩) hcap n k W h (by rw[HH.out];omega) (hdL_sorted F) hk)
 have HCO:=Lib.hid (fun(W:World) (n:Nat) (h:RowN W (some ⟨gh,0,none⟩) (hdL F))=>contains_any (hdL F) (some ⟨gh,0,none⟩) hcap n W h (by rw[HH.out];omega))
 rw[HH.out] at HSR HCO
 have HGC:=Lib.hid hgcl
 have HZ4:=Lib.hid HB4.out.size
 have z24:=block_lt HFB4.out
 have HZ24:=Lib.hid z24
 clear hrow hghl z24 hgcl
 go_loopw [50] (fun v wr=>∃(i:Nat) (bs:List BR),i≤H∧v= .int .i64 (i:Int)∧BW w4 wr bs∧BkS F i 0 bs) (fun v _=>H-(intOf v).toNat)
 case atStart=>exact⟨0,blk0 (.slice (some ⟨w4.heap.size+1,0,none⟩) 1 1) H,by omega,rfl,HBF.out,HBS.out⟩
 case round=>
  obtain⟨i,bs,hi,rfl,hW,hS⟩:=hrel
  obtain⟨wo,hwo⟩:∃wo:World,wo=wr:=⟨_,rfl⟩
  subst hwo
  clear HBF HBS
  have HW:=Lib.hid hW
  have HS:=Lib.hid hS
  have HBO:=Lib.hid (HB4.out.trans (hW.low.mono HB4.out.size))
  clear hW hS
  by_cases hiH:i=H
  ·obtain rfl:H=i:=hiH.symm
   go_wp2_with fail
   go_ret2
   exact⟨⟨w4.heap.size,w4.heap.size+1,bs,by rw[HH.out];rfl,HZ4.out,HW.out.blk,BkS.fin (by rw[HH.out];exact HS.out)⟩,HBO.out⟩
  ·have hi1:(i:Int)<H:=by omega
   have hi2:(0:Int)≤i:=by omega
   obtain⟨a,ha⟩:∃a,(hdL F)[i]? =some a:=⟨_,gE (by rw[HH.out];omega)⟩
   have ham:=gM ha
   obtain⟨s1,s2,s3,s4,s5⟩:=toF_spec HR.out HFM.out ham
   have hda:=hdA_eq ha
   have HHA:=Lib.hid hda
   have ch:=(HW.out.low.cell (p:=⟨gh,i,none⟩) HGH.out).trans (HRW.out i a ha)
   have zgh:gh<wo.heap.size:=Nat.lt_of_lt_of_le HGH.out HW.out.low.size
   have zgc:gc<wo.heap.size:=Nat.lt_of_lt_of_le HGC.out HBO.out.size
   obtain⟨T,hT⟩:∃T,toF F a=T:=⟨_,rfl⟩
   have HTT:=Lib.hid hT
   have HAM:=Lib.hid ham
   rw[hT] at s1 s2 s3 s4 s5
   rw[HM.out] at s2
   have HS4:=Lib.hid s4
   have HS5:=Lib.hid s5
   obtain⟨r,hr⟩:∃r,bs[i]? =some r:=⟨_,gE (by rw[HS.out.len,HH.out];omega)⟩
   have HRR:=Lib.hid hr
   have qb:=cell_block ((HW.out.low.block _ HZ24.out).trans HFB4.out)
   have zb:w2.heap.size<wo.heap.size:=Nat.lt_of_lt_of_le HZ24.out HW.out.low.size
   clear hT ham s3 s4 s5 hr hda ha
   go_wp2_with fail
   go_loop [14] (fun v=>∃c:Nat,a≤c∧c+1≤T∧v= .int .i64 ((c:Int)+1)) (fun v=>T-(intOf v).toNat)
   case atStart=>exact⟨a,by omega,by omega,by go_num⟩
   case round=>
    obtain⟨c,hac,hcT,rfl⟩:=hrel
    obtain⟨x,hx⟩:∃x,F.code[c]? =some x:=⟨_,gE (by rw[HM.out];omega)⟩
    have hia:=insAt_eq hx
    have HXX:=Lib.hid hx
    obtain⟨e0,-,-,-,-⟩:=HINS.out c x hx
    rw[←HBO.out.cell (p:=⟨gc,_,none⟩) HGC.out] at e0
    have HEN:=Lib.hid (fun(W:World)=>ends_any x.op W)
    have HCC:=Lib.hid (HCO.out wo (c+1) (RowN.keeps HROW.out HW.out.low))
    have hcc:((c+1:Nat):Int)=(c:Int)+1:=by omega
    rw[hcc] at HCC
    have hc1:(c:Int)+1-1=c:=by omega
    have hst:stopB F (c+1)=(decide (15≤x.op)||(hdL F).contains (c+1)):=by unfold stopB;rw[Nat.add_sub_cancel,hia]
    have HST:=Lib.hid hst
    have HIA:=Lib.hid hia
    clear hx hst hia hcc
    by_cases hcs:c+1=T
    ·obtain rfl:T=c+1:=hcs.symm
     have hor:(decide (15≤x.op)||(hdL F).contains (c+1))=true:=by rw[←HST.out];exact HS4.out
     obtain⟨rf,rt,rn,rnl,rp,rpl⟩:=r
     have cf0:wo.cell? ⟨w4.heap.size,i*4,none⟩=some (.int .i64 rf):=HW.out.blk.cell HRR.out (j:=0) (by omega)
     have ff0:=HW.out.blk.frozen (i*4)
     have zg4:=block_lt HW.out.blk.blk
     obtain⟨wq1,hwq1⟩:∃W,wo.setCell ⟨w4.heap.size,i*4,none⟩ (.int .i64 (a:Int))=W:=⟨_,rfl⟩
     have HW1:=HW.out.set0 HRR.out (a:Int)
     rw[hwq1] at HW1
     have cf1:wq1.cell? ⟨w4.heap.size,i*4+1,none⟩=some (.int .i64 rt):=HW1.blk.cell (q:=i) (r:=⟨(a:Int),rt,rn,rnl,rp,rpl⟩) (by rw[set_get HRR.out,if_pos rfl]) (j:=1) (by omega)
     have ff1:=HW1.blk.frozen (i*4+1)
     have zg1:=block_lt HW1.blk.blk
     obtain⟨wq2,hwq2⟩:∃W,wq1.setCell ⟨w4.heap.size,i*4+1,none⟩ (.int .i64 ((c:Int)+1))=W:=⟨_,rfl⟩
     have hW2:=HW.out.both HRR.out (a:Int) ((c:Int)+1)
     rw[hwq1,hwq2] at hW2
     have HS2:=Lib.hid (HS.out.bounds HRR.out (a:Int) ((c:Int)+1))
     have hg2:=set_get (r' :=⟨(a:Int),(c:Int)+1,rn,rnl,rp,rpl⟩) HRR.out i
     rw[if_pos rfl] at hg2
     have HG2:=Lib.hid hg2
     have qb2:=cell_block ((hW2.low.block _ HZ24.out).trans HFB4.out)
     have zb2:w2.heap.size<wq2.heap.size:=Nat.lt_of_lt_of_le HZ24.out hW2.low.size
     have HB2' :=Lib.hid (HB4.out.trans (hW2.low.mono HB4.out.size))
     have HN1:=Lib.hid (HNX.out wq2 c x HXX.out (HU.out.keeps HB2'.out))
     have HW2:=Lib.hid hW2
     have hL0:nextS x c=nxN F a:=by unfold nxN;rw[HTT.out,Nat.add_sub_cancel,HIA.out]
     obtain⟨L,hL⟩:∃L,nextS x c=L:=⟨_,rfl⟩
     have HLN0:=Lib.hid (hL.symm.trans hL0)
     have hln2:=nextS_length x c
     rw[hL] at HN1 hln2
     clear hL hL0 HW1 hW2 hg2
     have HALL:=Lib.hid hor
     by_cases he:15≤x.op
     case' pos=>
      have h2:decide (15≤x.op)=true:=by simpa using he
      rw[h2] at HEN
      clear h2 he hor
      go_wp2_with (first|(go_at_call 38;go_must (refine(HEN.out _).mono ?_;rintro e w' ⟨rfl,rfl⟩))|(go_at_call 40;go_must (refine HN1.out.mono ?_;rintro e w7 ⟨⟨vv,rfl,hov⟩,hb7⟩;obtain⟨Av,capv,hvv,hcv⟩:=own_slice hov;rw[natI_length] at hvv hcv;subst hvv;have HX7:=Lib.hid (BX.start HW2.out hb7 (Av:=Av) (fun gv hgv=>(World.ownsRow.lt hov gv (by rw[hgv];rfl)).1));have HCV:=Lib.hid hcv;clear hov hb7 hcv)))
     case' neg=>
      have h2:decide (15≤x.op)=false:=by simpa using he
      have h3:(hdL F).contains (c+1)=true:=by have:=HALL.out;rw[h2] at this;simpa using this
      rw[h2] at HEN
      rw[h3] at HCC
      clear h2 h3 he hor
      go_wp2_with (first|(go_at_call 38;go_must (refine(HEN.out _).mono ?_;rintro e w' ⟨rfl,rfl⟩))|(go_at_call 39;go_must (refine HCC.out.mono ?_;rintro e w' ⟨rfl,rfl⟩))|(go_at_call 40;go_must (refine HN1.out.mono ?_;rintro e w7 ⟨⟨vv,rfl,hov⟩,hb7⟩;obtain⟨Av,capv,hvv,hcv⟩:=own_slice hov;rw[natI_length] at hvv hcv;subst hvv;have HX7:=Lib.hid (BX.start HW2.out hb7 (Av:=Av) (fun gv hgv=>(World.ownsRow.lt hov gv (by rw[hgv];rfl)).1));have HCV:=Lib.hid hcv;clear hov hb7 hcv)))
     all_goals
      clear qb zb qb2 zb2 ch zgh zgc e0 hc1 cf0 cf1 ff0 ff1 zg4 zg1 hwq1 hwq2 HEN HCC
      obtain⟨ln,hln⟩:∃n,L.length=n:=⟨_,rfl⟩
      have HLN:=Lib.hid hln
      have HLE:=Lib.hid (show(nxI F (hdA F i)).length=ln by unfold nxI;rw[List.length_map,HHA.out,←HLN0.out];exact hln)
      rw[hln] at HCV hln2⊢
      clear hln
      go_loopw [89] (fun v wr=>∃(t:Nat) (bs' :List BR),t≤ln∧v= .int .i64 (t:Int)∧BX w4 w7 wr Av bs' ∧BkS F i t bs' ∧∃s,bs'[i]? =some s∧s.fr=(a:Int)∧s.to=(c:Int)+1) (fun v _=>ln-(intOf v).toNat)
      case atStart=>exact⟨0,_,by omega,rfl,HX7.out,HS2.out,_,HG2.out,rfl,rfl⟩
      case round=>
       obtain⟨t,bs',ht,rfl,hX,hS',s,hs,hsf,hst⟩:=hrel
       have HX:=Lib.hid hX
       have HSS:=Lib.hid hS'
       have HSI:=Lib.hid hs
       have HSF:=Lib.hid hsf
       have HSG:=Lib.hid hst
       clear hX hS' hs hsf hst
       by_cases htl:t=ln
       ·obtain rfl:ln=t:=htl.symm
        go_wp2_with fail
        go_roundw
        case rel=>exact⟨i+1,bs',by omega,by go_num,HX.out.bw,BkS.next (by rw[HLE.out];exact HSS.out) (fun r' h' =>by rw[HSI.out] at h';obtain rfl:=Option.some.inj h';rw[HHA.out,HTT.out];exact⟨HSF.out,by rw[HSG.out];omega⟩)⟩
        case measure=>simp[intOf];omega
       ·have ht1:(t:Int)<ln:=by omega
        have ht2:(0:Int)≤t:=by omega
        obtain⟨n,hn⟩:∃n,L[t]? =some n:=⟨_,gE (by rw[HLN.out];omega)⟩
        obtain⟨gv,hgv,hgl,hcc⟩:=HCV.out (by omega)
        obtain⟨hk1,hk2,hk3⟩:=HX.out.keep gv hgv hgl
        have cn:=(cell_eqH hk1 (o:=t)).trans ((hcc t (by omega)).trans (show _=some (Value.int .i64 (n:Int)) by simp[natI,hn]))
        have zgv:gv<wr.heap.size:=World.block_lt_of_cell? _ _ cn
        have hnm:n∈hdL F:=nxN_head HR.out HFM.out HAM.out (by rw[←HLN0.out];exact gM hn)
        have hkk:=posH_get hnm
        obtain⟨kk,hkd⟩:∃q,posH F n=q:=⟨_,rfl⟩
        rw[hkd] at hkk
        have hkH:kk<H:=by have:=(gI.1 hkk).1;rw[HH.out] at this;exact this
        have hkI:(kk:Int)<H:=by omega
        have hkJ:(0:Int)≤kk:=by omega
        have HNX2:=Lib.hid (show(nxI F (hdA F i))[t]? =some kk by unfold nxI;rw[HHA.out,←HLN0.out,List.getElem?_map,hn];simp[hkd])
        have HBSR:=Lib.hid (HSR.out wr n kk (RowN.keeps HROW.out HX.out.bw.low) hkk)
        obtain⟨An,capn,hnv,-⟩:=own_slice (HX.out.bw.blk.rows.own i s false HSI.out)
        have hnl:s.nl.length=t:=by rw[HSS.out.nl i s HSI.out,if_neg (by omega),if_pos rfl,natI_length,List.length_take,HLE.out];omega
        rw[show(s.lst false).length=t from hnl] at hnv
        have hown:=HX.out.bw.blk.rows.own i s false HSI.out
        rw[show(s.lst false).length=t from hnl,hnv] at hown
        have HOWN:=Lib.hid hown
        have HNV:=Lib.hid hnv
        have HNL:=Lib.hid hnl
        have cs2:wr.cell? ⟨w4.heap.size,i*4+2,none⟩=some (.slice An t capn):=(HX.out.bw.blk.cell HSI.out (j:=2) (by omega)).trans (show some (s.val false)=_ by rw[hnv])
        have fs2:=HX.out.bw.blk.frozen (i*4+2)
        have zg:=block_lt HX.out.bw.blk.blk
        subst hgv
        clear hk1 hk2 hk3 hn hgl hcc hnm hkk hkd hnl hown hnv
        go_wp2_with (first|(go_at_call 41;go_must (refine HBSR.out.mono ?_;rintro e w' ⟨rfl,rfl⟩))|(have tok:=HX8;at_builtin;go_must (refine wpList_append_own_at _ rfl _ _ 24 rfl (w4.heap.size+1) 3 i0 _ 1 8 Tryd.underlying24 hI0 hz0 hz1 hz2 rfl (by decide) (.slice A2 P cap2) P (s2.pl.map (Value.int .i64)) rfl (own_below HOW2.out ((Below.refl _ _).alloc (Nat.le_refl _) _)) ⟨wa.heap.size,0,none⟩ 1 1 [.int .i64 (i:Int)] rfl rfl (World.news_of_block (cs:= #[.int .i64 (i:Int)]) (t:=3) (fr:=(0,0)) (by simpa using heap_alloc_new wa (.cells #[.int .i64 (i:Int)] 3))) (by simp[Value.oneCell']) (by unfold maxLen;omega) (by omega) (by simp;omega) ?_);go_must (intro v9 w9 hown9 hg9 _ hat9;obtain⟨A9,cap9,hv9,-⟩:=own_slice hown9;rw[hv9] at hown9 hat9;rw[hv9];have hap:=HX8.out.app HSI2.out true (v:= .slice A9 (P+1) cap9) (x:=(i:Int)) (.cells #[.int .i64 (i:Int)] 3) (by rw[HPV.out];exact hg9) (by rw[show(s2.lst true).length=P from HPL.out];exact hown9) (by rw[HPV.out];exact hat9);have c9:w9.cell? ⟨w4.heap.size,kk*4+3,none⟩=some (.slice A2 P cap2):=(cell_eqH hap.2).trans cs3;have f9:w9.frozen? ⟨w4.heap.size,kk*4+3,none⟩=false:=frozen_block (hap.2.trans HX8.out.bw.blk.blk) _;have z9:=block_lt (hap.2.trans HX8.out.bw.blk.blk);obtain⟨wz,hwz⟩:∃W,w9.setCell ⟨w4.heap.size,kk*4+3,none⟩ (.slice A9 (P+1) cap9)=W:=⟨_,rfl⟩;have hX9:BX w4 w7 wz (some ⟨gv,0,none⟩) ((bs'.set i (s.upd false (.slice A8 (t+1) cap8) (s.lst false++[(kk:Int)]))).set kk (s2.upd true (.slice A9 (P+1) cap9) (s2.lst true++[(i:Int)]))):=(by rw[←hwz];exact hap.1);have HX9:=Lib.hid hX9;have HST9:=Lib.hid (HSS.out.step HSI.out HNX2.out (v' := .slice A9 (P+1) cap9) HSI2.out);clear hown9 hg9 hat9 hap hX9);clear tok)|(at_builtin;go_must (refine wpList_append_own_at _ rfl _ _ 24 rfl (w4.heap.size+1) 3 i0 _ 1 8 Tryd.underlying24 hI0 hz0 hz1 hz2 rfl (by decide) (.slice An t capn) t (s.nl.map (Value.int .i64)) rfl (own_below HOWN.out ((Below.refl _ _).alloc (Nat.le_refl _) _)) ⟨wr.heap.size,0,none⟩ 1 1 [.int .i64 (kk:Int)] rfl rfl (World.news_of_block (cs:= #[.int .i64 (kk:Int)]) (t:=3) (fr:=(0,0)) (by simpa using heap_alloc_new wr (.cells #[.int .i64 (kk:Int)] 3))) (by simp[Value.oneCell']) (by unfold maxLen;omega) (by omega) (by simp;omega) ?_);intro v8 w8 hown8 hg8 _ hat8;obtain⟨A8,cap8,hv8,-⟩:=own_slice hown8;rw[hv8] at hown8 hat8;rw[hv8];have hap:=HX.out.app HSI.out false (v:= .slice A8 (t+1) cap8) (x:=(kk:Int)) (.cells #[.int .i64 (kk:Int)] 3) (by rw[HNV.out];exact hg8) (by rw[show(s.lst false).length=t from HNL.out];exact hown8) (by rw[HNV.out];exact hat8);have c8:w8.cell? ⟨w4.heap.size,i*4+2,none⟩=some (.slice An t capn):=(cell_eqH hap.2).trans cs2;have f8:w8.frozen? ⟨w4.heap.size,i*4+2,none⟩=false:=frozen_block (hap.2.trans HX.out.bw.blk.blk) _;have z8:=block_lt (hap.2.trans HX.out.bw.blk.blk);obtain⟨wa,hwa⟩:∃W,w8.setCell ⟨w4.heap.size,i*4+2,none⟩ (.slice A8 (t+1) cap8)=W:=⟨_,rfl⟩;have hX8:BX w4 w7 wa (some ⟨gv,0,none⟩) (bs'.set i (s.upd false (.slice A8 (t+1) cap8) (s.lst false++[(kk:Int)]))):=(by rw[←hwa];exact hap.1);obtain⟨s2,hs2⟩:∃s2,(bs'.set i (s.upd false (.slice A8 (t+1) cap8) (s.lst false++[(kk:Int)])))[kk]? =some s2:=⟨_,gE (by rw[List.length_set,HSS.out.len,HH.out];exact hkH)⟩;obtain⟨s0,hs0,hpl⟩:=upd_other HSI.out _ _ _ _ hs2;have hpb:s2.pl.length≤3+2*i:=(by rw[hpl,HSS.out.pl _ _ hs0];exact prevTo_len _ _ _ _);have HSI2:=Lib.hid hs2;obtain⟨A2,cap2,hpv,-⟩:=own_slice (hX8.bw.blk.rows.own kk s2 true hs2);obtain⟨P,hP⟩:∃n,s2.pl.length=n:=⟨_,rfl⟩;have HPL:=Lib.hid hP;rw[show(s2.lst true).length=P from hP] at hpv;rw[hP] at hpb;have HPV:=Lib.hid hpv;have HOW2:=Lib.hid (hX8.bw.blk.rows.own kk s2 true hs2);rw[show(s2.lst true).length=P from hP,hpv] at HOW2;have cs3:wa.cell? ⟨w4.heap.size,kk*4+3,none⟩=some (.slice A2 P cap2):=(hX8.bw.blk.cell hs2 (j:=3) (by omega)).trans (show some (s2.val true)=_ by rw[hpv]);have fs3:=hX8.bw.blk.frozen (kk*4+3);have z3:=block_lt hX8.bw.blk.blk;have HX8:=Lib.hid hX8;clear hown8 hg8 hat8 hap hX8 hs2 hs0 hpl hpv hP))
        go_roundw
        case rel=>obtain⟨k1,s9,k2,k3,k4⟩:=HST9.out;exact⟨t+1,_,by omega,by go_num,HX9.out,k1,s9,k2,k3.trans HSF.out,k4.trans HSG.out⟩
        case measure=>simp[intOf];omega
    ·have h1:=(HS5.out (c+1) (by omega) (by omega)).1
     rw[HST.out,Bool.or_eq_false_iff] at h1
     obtain⟨h2,h3⟩:=h1
     rw[h2] at HEN
     rw[h3] at HCC
     clear h2 h3
     go_wp2_with (first|(go_at_call 38;go_must (refine(HEN.out _).mono ?_;rintro e w' ⟨rfl,rfl⟩))|(go_at_call 39;go_must (refine HCC.out.mono ?_;rintro e w' ⟨rfl,rfl⟩)))
     go_round
     case rel=>exact⟨c+1,by omega,by omega,by go_num⟩
     case measure=>simp[intOf];omega
def RowI(w:World)(A:Option Addr)(l:List Int):Prop:=0<l.length→∃g,A=some ⟨g,0,none⟩∧g<w.heap.size∧∀(i:Nat) (z:Int),l[i]? =some z→w.cell? ⟨g,i,none⟩=some (.int .i64 z)
theorem RowI.keeps{w w' :World}{A:Option Addr}{l:List Int}(h:RowI w A l)(hb:Below w.heap.size w w'):RowI w' A l:=fun hl=>by
 obtain⟨g,h1,h2,h3⟩:=h hl
 exact⟨g,h1,Nat.lt_of_lt_of_le h2 hb.size,fun i n hn=>(hb.cell (p:=⟨g,i,none⟩) h2).trans (h3 i n hn)⟩
theorem rowI_own{w:World}{B:Nat}{v:Value}{l:List Int}(h:OwnI w B v l):∃A cap,v= .slice A l.length cap∧RowI w A l:=by
 obtain⟨A,cap,hv,hc⟩:=own_slice h
 refine⟨A,cap,hv,fun hl=> ?_⟩
 obtain⟨g,h1,h2,h3⟩:=hc hl
 exact⟨g,h1,h2,fun i n hn=>(h3 i (by have:=(gI.1 hn).1;omega)).trans (by simp[hn])⟩
set_option maxRecDepth 100000 in
set_option maxHeartbeats 4000000 in
theorem has_any(l:List Int)(A:Option Addr)(cap:Nat)(n:Int)(w:World)(h:RowI w A l)(hl:l.length≤1000):
 Calls Tryd.prog 17 #[.slice A l.length cap, .int .i64 n] w fun e w' =>e= .returned (.bool (decide (n∈l)))∧w=w' :=by
 have HR:=Lib.hid h
 clear h
 obtain⟨N,hN⟩:∃N,l.length=N:=⟨_,rfl⟩
 have HN:=Lib.hid hN
 rw[hN] at hl⊢
 clear hN
 go_enter Tryd.func17,Tryd.ntmps17
 go_wp2_with fail
 go_loop [5] (fun v=>∃i:Nat,i≤N∧v= .int .i64 (i:Int)∧∀j,j<i→l[j]? ≠some n) (fun v=>N-(intOf v).toNat)
 case atStart=>exact⟨0,by omega,rfl,fun j hj=>by omega⟩
 case round=>
  obtain⟨i,hi,rfl,hno⟩:=hrel
  have HNO:=Lib.hid hno
  clear hno
  by_cases hiN:i=N
  ·obtain rfl:N=i:=hiN.symm
   go_wp2_with fail
   go_ret
   refine⟨?_,rfl⟩
   have:decide (n∈l)=false:=by
    rw[decide_eq_false_iff_not]
    intro hc
    obtain⟨j,hj⟩:=List.getElem?_of_mem hc
    exact HNO.out j (by have:=(gI.1 hj).1;rw[HN.out] at this;exact this) hj
   rw[this];rfl
  ·have hi1:(i:Int)<N:=by omega
   have hi2:(0:Int)≤i:=by omega
   obtain⟨g,hg,hgl,hc⟩:=HR.out (by rw[HN.out];omega)
   obtain⟨m,hm⟩:∃m,l[i]? =some m:=⟨l[i]'(by rw[HN.out];omega),gE _⟩
   have cm:=hc i m hm
   have HM:=Lib.hid hm
   subst hg
   clear hc hm hiN
   by_cases hnm:n=m
   ·subst hnm
    go_wp2_with fail
    go_ret
    refine⟨?_,rfl⟩
    have:decide (n∈l)=true:=by simpa using gM HM.out
    rw[this];rfl
   ·have hmn:¬(m=n):=fun e=>hnm e.symm
    have hmd:decide (m=n)=false:=by simpa using hmn
    go_wp2_with fail
    go_round
    case rel=>exact⟨i+1,by omega,by go_num,fun j hj e=>by
     by_cases hji:j=i
     ·subst hji;rw[HM.out] at e;exact hnm (Option.some.inj e).symm
     ·exact HNO.out j (by omega) e⟩
    case measure=>simp[intOf];omega
end Go.Proofs.YtedcjapmmnbamaaDoor
