/-
  slices.Clone, of frames and of whole numbers: a row of the call's own of the same elements.
-/
import Derived.Test.YtedcjapmmnbamaaDoorStM
import Derived.Maps.AppendAt
import Derived.Deep.AppendLies
import Derived.Lib.Walk
import Derived.Lib.SliceRun
import Derived.Test.YtedcjapmmnbamaaDoorFnS
import Derived.Deep.MidRow
import Derived.Test.YtedcjapmmnbamaaDoorRw
namespace Go.Proofs.YtedcjapmmnbamaaDoor
open Go.RowKit Tier
theorem infoFr:(Tryd.prog.info? 42).map (fun i=>(i.zero,i.size,i.bytes))=some (some (.agg (frCell ⟨0,0,List.replicate 12 0⟩).toArray),14,112):=by kernel_rfl
theorem infoIn:(Tryd.prog.info? 3).map (fun i=>(i.zero,i.size,i.bytes))=some (some (.int .i64 0),1,8):=by kernel_rfl
set_option maxHeartbeats 2000000 in
set_option maxRecDepth 100000 in
theorem clone_num{B:Nat}{v:Value}{l:List Int}(w:World)(h:NumAt w B v l)(hl:l.length≤1000000):
 Calls Tryd.prog 76 #[v] w fun e w' =>(∃v',e= .returned v' ∧w'.ownsRow w.heap.size 3 1 v' l.length (intsV l))∧Below w.heap.size w w' :=by
 obtain⟨i0,hi,hz0,hz1,hz2⟩:=info_parts infoIn
 obtain⟨A,cap,rfl,-,hA⟩:=h
 have q22:∀(w:World) (a:Option Addr) (n c n' c' :Nat),(binOp .eql 24 (.slice a n c) (.slice none n' c')).run Tryd.prog w= .ok (.bool a.isNone) w:=fun w a n c n' c' =>Lib.run_eql_slice_nil w _ _ a n c n' c' Tryd.underlying24
 cases A with
 |none=>
  have h0:l.length=0:=by
   rcases Nat.eq_zero_or_pos l.length with h|h
   ·exact h
   ·obtain⟨b,o,cur,h1,-⟩:=hA h;cases h1
  have hl0:l=[]:=List.eq_nil_of_length_eq_zero h0
  subst hl0
  clear hA
  go_enter Tryd.func76,Tryd.ntmps76
  go_wp2_with fail
  go_ret
  exact⟨⟨_,rfl,World.ownsRow_nil _ _ _ _⟩,Below.refl _ _⟩
 |some a=>
  have HA:=Lib.hid (show∀j u,(intsV l)[j]? =some u→w.cell? (a.add j)=some u from fun j u hj=>by
   have hjl:j<l.length:=by
    have:=(gI.1 hj).1
    simpa [intsV] using this
   obtain⟨b,o,cur,h1,h2,h3,h4⟩:=hA (by omega)
   obtain rfl:=Option.some.inj h1
   simp only[intsV,List.getElem?_map,gE hjl,Option.map_some,Option.some.injEq] at hj
   subst hj
   rw[Addr.add_lit,cell_of_row w b (o+j) cur _ _ h3]
   exact h4 j _ (gE hjl))
  have HL:=Lib.hid (show(intsV l).length=l.length*1 by simp[intsV])
  have HO:=Lib.hid (show∀u∈intsV l,u.oneCell' =true from fun u hu=>by obtain⟨x,_,rfl⟩:=List.mem_map.1 hu;rfl)
  clear hA
  generalize l.length=n at *
  generalize intsV l=xs at *
  go_enter Tryd.func76,Tryd.ntmps76
  go_wp2_with (at_builtin;refine wpList_append_own _ rfl _ _ 24 rfl w.heap.size 3 i0 _ 1 8 Tryd.underlying24 hi hz0 hz1 hz2 rfl (by decide) _ _ _ rfl (World.ownsRow_made w #[] 0 (Nat.le_refl _) (Nat.zero_le _) rfl) a n cap xs rfl (by simpa using HL.out) (fun j u hj=>Lib.cell?_alloc_some _ (HA.out j u hj)) (by simpa using HO.out) (by unfold maxLen;omega) (by omega) (by simp) ?_)
  intro v' w1 hown hgrow hnil
  go_wp2_with fail
  go_ret
  exact⟨⟨v',rfl,by simpa using hown⟩,((Below.refl _ w).alloc (Nat.le_refl _) _).grown hgrow (by simp) (by intro k hk;simp[Value.ownBlock] at hk;omega)⟩
set_option maxHeartbeats 2000000 in
set_option maxRecDepth 100000 in
theorem clone_fr{B:Nat}{v:Value}{n:Nat}{xs:List Value}(w:World)(h:w.ownsRow B 42 14 v n xs)(ho:∀u∈xs,u.oneCell' =true)(hn:n≤8):
 Calls Tryd.prog 77 #[v] w fun e w' =>(∃v',e= .returned v' ∧w'.ownsRow w.heap.size 42 14 v' n xs)∧Below w.heap.size w w' :=by
 obtain⟨i0,hi,hz0,hz1,hz2⟩:=info_parts infoFr
 have q22:∀(w:World) (a:Option Addr) (n c n' c' :Nat),(binOp .eql 33 (.slice a n c) (.slice none n' c')).run Tryd.prog w= .ok (.bool a.isNone) w:=fun w a n c n' c' =>Lib.run_eql_slice_nil w _ _ a n c n' c' Tryd.underlying33
 rcases h.2 with⟨rfl,rfl⟩|⟨g,cap,cur,rfl,hg,hh,hc,hcm,hs,ht⟩
 ·have hx:xs=[]:=List.eq_nil_of_length_eq_zero (by have:=h.1;omega)
  subst hx
  clear h
  go_enter Tryd.func77,Tryd.ntmps77
  go_wp2_with fail
  go_ret
  exact⟨⟨_,rfl,World.ownsRow_nil _ _ _ _⟩,Below.refl _ _⟩
 ·have HA:=Lib.hid (show∀j u,xs[j]? =some u→w.cell? ((⟨g,0,none⟩:Addr).add j)=some u from h.cells rfl)
  have HL:=Lib.hid h.1
  have HO:=Lib.hid ho
  clear h ho hh hs ht
  go_enter Tryd.func77,Tryd.ntmps77
  go_wp2_with (at_builtin;refine wpList_append_own _ rfl _ _ 33 rfl w.heap.size 42 i0 _ 14 112 Tryd.underlying33 hi hz0 hz1 hz2 rfl (by decide) _ _ _ rfl (World.ownsRow_made w #[] 0 (Nat.le_refl _) (Nat.zero_le _) rfl) ⟨g,0,none⟩ n cap xs rfl (by simpa using HL.out) (fun j u hj=>Lib.cell?_alloc_some _ (HA.out j u hj)) (by simpa using HO.out) (by unfold maxLen;omega) (by omega) (by simp) ?_)
  intro v' w1 hown hgrow hnil
  go_wp2_with fail
  go_ret
  exact⟨⟨v',rfl,by simpa using hown⟩,((Below.refl _ w).alloc (Nat.le_refl _) _).grown hgrow (by simp) (by intro k hk;simp[Value.ownBlock] at hk;omega)⟩
theorem range_block{W:World}{b:Nat}{cs:List Value}{t:TypeId}{fr:Nat×Nat}(h:W.heap[b]? =some (.cells cs.toArray t fr)):W.rangeAt b 0 cs:=fun j v hv=>by
 rw[Nat.zero_add,cell_block h];simpa using hv
theorem there_block{W:World}{b n:Nat}{cs:Array Value}{t:TypeId}(h:W.heap[b]? =some (.cells cs t (0,0)))(hn:n≤cs.size):W.there b 0 n:=fun j hj=>by
 rw[Nat.zero_add,cell_block h,frozen_block h,Array.getElem?_eq_getElem (by omega)]
 exact⟨rfl,rfl⟩
theorem heap_alloc_new1(w:World)(o1 o2:Obj):((w.alloc o1).alloc o2).heap[w.heap.size+1]? =some o2:=by
 have:=heap_alloc_new (w.alloc o1) o2
 simpa using this
theorem fold_from:∀(l:List Value) (k:Nat) (z:Array Value),k+l.length=z.size→∀j,((l.zipIdx k).foldl (fun cs x=>cs.setIfInBounds x.snd x.fst) z)[j]? =if k≤j∧j<k+l.length then l[j-k]? else z[j]?
 |[],k,z,_,j=>by rw[if_neg (by simp)];rfl
 |v::l,k,z,h,j=>by
  rw[List.zipIdx_cons,List.foldl_cons,fold_from l (k+1) _ (by simp at h⊢;omega) j]
  simp only[List.length_cons] at h⊢
  by_cases h1:k+1≤j∧j<k+1+l.length
  ·rw[if_pos h1,if_pos (by omega),show j-k=(j-(k+1))+1 by omega];simp
  ·rw[if_neg h1]
   by_cases h2:j=k
   ·subst h2
    rw[if_pos (by omega),Nat.sub_self,List.getElem?_cons_zero,Array.getElem?_setIfInBounds,if_pos rfl,if_pos (by omega)]
   ·rw[if_neg (by omega),Array.getElem?_setIfInBounds,if_neg (fun e=>h2 e.symm)]
theorem fold_set(l:List Value)(z:Array Value)(h:l.length=z.size):l.zipIdx.foldl (fun cs x=>cs.setIfInBounds x.snd x.fst) z=l.toArray:=by
 apply Array.ext_getElem?
 intro j
 rw[fold_from l 0 z (by omega) j]
 by_cases hj:j<l.length
 ·rw[if_pos (by omega)];simp
 ·have hz:z.size≤j:=by omega
  have hj' :l.length≤j:=by omega
  rw[if_neg (by omega),Array.getElem?_eq_none hz,List.getElem?_toArray,List.getElem?_eq_none hj']
theorem results_cell2{fn:Func}{a t2:Tmp}{ty:TypeId}(h:fn.results= #[.cell a ty, .tmp t2])(tmps:Array Value)(P:Program)(w:World)(ad:Addr)(v:Value)(ha:tmps[a]?.getD undef= .pointer (some ad))
 (hl:(loadVar ty ad).run P w= .ok v w):(results fn tmps).run P w= .ok (.tuple #[v,tmps[t2]?.getD undef]) w:=by
 simp[results,h,ha,hl,asAddr]
theorem below_setCells{B:Nat}{W0:World}{b:Nat}(hb:B≤b):∀(vs:List Value) (o:Nat) (W:World),Below B W0 W→Below B W0 (W.setCells b o vs)
 |[],_,_,h=>h
 |v::vs,o,_W,h=>below_setCells hb vs (o+1) _ (h.setCell hb v)
theorem block_set{W:World}{b:Nat}{cs:Array Value}{t:TypeId}(h:W.heap[b]? =some (.cells cs t (0,0)))(i:Nat)(v:Value):(W.setCell ⟨b,i,none⟩ v).heap[b]? =some (.cells (cs.setIfInBounds i v) t (0,0)):=by
 simp only[World.setCell,Array.getElem?_modify,if_true,h,Option.map_some]
 rfl
theorem block_set_ne{W:World}{b b' :Nat}{o:Obj}(h:W.heap[b]? =some o)(hn:b' ≠b)(i:Nat)(v:Value):(W.setCell ⟨b',i,none⟩ v).heap[b]? =some o:=by
 simp only[World.setCell,Array.getElem?_modify,if_neg hn,h]
theorem block_alloc{W:World}{b:Nat}{o:Obj}(h:W.heap[b]? =some o)(o' :Obj):(W.alloc o').heap[b]? =some o:=
 (Below.heap_alloc _ _ _ (Array.getElem?_eq_some_iff.1 h).1).trans h
theorem block_setCells:∀(vs:List Value) (W:World) (b o:Nat) (cs:Array Value) (t:TypeId),W.heap[b]? =some (.cells cs t (0,0))→(W.setCells b o vs).heap[b]? =some (.cells ((vs.zipIdx o).foldl (fun cs x=>cs.setIfInBounds x.snd x.fst) cs) t (0,0))
 |[],_,_,_,_,_,h=>h
 |v::vs,W,b,o,cs,t,h=>by
  have:=block_setCells vs (W.setCell ⟨b,o,none⟩ v) b (o+1) (cs.setIfInBounds o v) t (block_set h o v)
  rw[List.zipIdx_cons,List.foldl_cons]
  exact this
theorem block_full{W:World}{b:Nat}{cs:Array Value}{t:TypeId}(h:W.heap[b]? =some (.cells cs t (0,0)))(vs:List Value)(hl:vs.length=cs.size):(W.setCells b 0 vs).heap[b]? =some (.cells vs.toArray t (0,0)):=by
 rw[block_setCells vs W b 0 cs t h]
 rw[show(vs.zipIdx 0).foldl (fun cs x=>cs.setIfInBounds x.snd x.fst) cs=vs.toArray from fold_set vs cs hl]
theorem block_setCells_ne:∀(vs:List Value) {W:World} {b b' :Nat} {o:Obj},W.heap[b]? =some o→b' ≠b→∀(i:Nat),(W.setCells b' i vs).heap[b]? =some o
 |[],_,_,_,_,h,_,_=>h
 |v::vs,_,_,_,_,h,hn,i=>block_setCells_ne vs (block_set_ne h hn i v) hn (i+1)
theorem size_setCells(b:Nat):∀(vs:List Value) (W:World) (i:Nat),(W.setCells b i vs).heap.size=W.heap.size
 |[],_,_=>rfl
 |v::vs,W,i=>by
  have:=size_setCells b vs (W.setCell ⟨b,i,none⟩ v) (i+1)
  simpa [World.setCells] using this
theorem block_lt{W:World}{b:Nat}{o:Obj}(h:W.heap[b]? =some o):b<W.heap.size:=(Array.getElem?_eq_some_iff.1 h).1
theorem below_cell{B:Nat}{W0 W:World}{b i:Nat}{v:Value}(h:Below B W0 W)(hb:B≤b):Below B W0 (W.setCell ⟨b,i,none⟩ v):=h.setCell hb v
theorem block_put{W:World}{b i:Nat}{cs ds:List Value}{t:TypeId}{v:Value}(h:W.heap[b]? =some (.cells cs.toArray t (0,0)))(he:cs.set i v=ds):(W.setCell ⟨b,i,none⟩ v).heap[b]? =some (.cells ds.toArray t (0,0)):=by
 rw[block_set h i v,←he];simp
theorem results_cell1{fn:Func}{a:Tmp}{ty:TypeId}(h:fn.results= #[.cell a ty])(tmps:Array Value)(P:Program)(w:World)(ad:Addr)(v:Value)(ha:tmps[a]?.getD undef= .pointer (some ad))
 (hl:(loadVar ty ad).run P w= .ok v w):(results fn tmps).run P w= .ok v w:=by
 simp[results,h,ha,hl,asAddr]
theorem ownsRow_setCells_below{base:Nat}{e:TypeId}{size:Nat}{v:Value}{n:Nat}{xs:List Value}{b:Nat}:∀{w:World},w.ownsRow base e size v n xs→b<base→∀(vs:List Value) (o:Nat),(w.setCells b o vs).ownsRow base e size v n xs
 |_,h,_,[],_=>h
 |_,h,hb,u::vs,o=>ownsRow_setCells_below (ownsRow_setCell_below h (a:=⟨b,o,none⟩) hb u) hb vs (o+1)
structure RowC where
 e:TypeId
 size:Nat
 v:Value
 n:Nat
 xs:List Value
def nilRow(e:TypeId)(size:Nat):RowC:=⟨e,size, .slice none 0 0,0,[]⟩
def putK{κ:Type}[DecidableEq κ](ρ:κ→RowC)(k:κ)(r:RowC):κ→RowC:=fun j=>if j=k then r else ρ j
theorem putK_self{κ:Type}[DecidableEq κ](ρ:κ→RowC)(k:κ)(r:RowC):putK ρ k r k=r:=if_pos rfl
theorem putK_ne{κ:Type}[DecidableEq κ](ρ:κ→RowC){j k:κ}(h:j≠k)(r:RowC):putK ρ k r j=ρ j:=if_neg h
structure OwnK{κ:Type}(w:World)(B:Nat)(ρ:κ→RowC):Prop where
 own:∀k,w.ownsRow B (ρ k).e (ρ k).size (ρ k).v (ρ k).n (ρ k).xs
 ap:∀j k,j≠k→∀b,(ρ j).v.ownBlock=some b→(ρ k).v.ownBlock≠some b
theorem own_of{w w' :World}{B:Nat}{e:TypeId}{size:Nat}{v:Value}{n:Nat}{xs:List Value}(h:w.ownsRow B e size v n xs)(hk:∀b,v.ownBlock=some b→w'.heap[b]? =w.heap[b]?):w'.ownsRow B e size v n xs:=by
 obtain⟨h1,h2⟩:=h
 refine⟨h1,?_⟩
 rcases h2 with h2|⟨g,cap,cur,rfl,hg,hh,r⟩
 ·exact .inl h2
 ·exact .inr ⟨g,cap,cur,rfl,hg,(hk g rfl).trans hh,r⟩
section
variable {κ:Type}{w w' :World}{B:Nat}{ρ:κ→RowC}
theorem OwnK.lt(h:OwnK w B ρ){k:κ}{b:Nat}(hb:(ρ k).v.ownBlock=some b):B≤b∧b<w.heap.size:=World.ownsRow.lt (h.own k) b hb
theorem OwnK.same(h:OwnK w B ρ)(hk:∀b,B≤b→b<w.heap.size→(∃k,(ρ k).v.ownBlock=some b)→w'.heap[b]? =w.heap[b]?):OwnK w' B ρ:=
 ⟨fun k=>own_of (h.own k) fun b hb=>hk b (h.lt hb).1 (h.lt hb).2 ⟨k,hb⟩,h.ap⟩
theorem OwnK.keeps(h:OwnK w B ρ)(hb:Below w.heap.size w w'):OwnK w' B ρ:=h.same fun b _ h2 _=>hb.block b h2
theorem OwnK.drew(h:OwnK w B ρ):OwnK w.drew B ρ:=h.keeps (Below.refl _ _).drew
theorem OwnK.alloc(h:OwnK w B ρ)(o:Obj):OwnK (w.alloc o) B ρ:=h.keeps ((Below.refl _ _).alloc (Nat.le_refl _) _)
theorem OwnK.box(h:OwnK w B ρ){b:Nat}{c:Array Value}{t:TypeId}{fr:Nat×Nat}(hb:w.heap[b]? =some (.cells c t fr))(ht:∀k,(ρ k).e≠t)(k:κ):(ρ k).v.ownBlock≠some b:=fun e=>by
 rcases(h.own k).2 with⟨h1,-⟩|⟨g,cap,cur,hv,hg,hh,-⟩
 ·rw[h1] at e;simp[Value.ownBlock] at e
 ·rw[hv] at e
  have e' :g=b:=by simpa [Value.ownBlock] using e
  subst e'
  rw[hb] at hh
  simp only[Option.some.injEq,Obj.cells.injEq] at hh
  exact ht k hh.2.1.symm
theorem OwnK.setOut(h:OwnK w B ρ){b:Nat}(hne:∀k,(ρ k).v.ownBlock≠some b)(i:Nat)(u:Value):OwnK (w.setCell ⟨b,i,none⟩ u) B ρ:=
 h.same fun b' _ _ ⟨k,hk⟩=>Below.heap_setCell _ _ _ _ (fun e=>hne k (by rw[hk];exact congrArg some e))
theorem OwnK.setsOut(h:OwnK w B ρ){b:Nat}(hne:∀k,(ρ k).v.ownBlock≠some b):∀(vs:List Value) (o:Nat),OwnK (w.setCells b o vs) B ρ:=fun vs=>by
 induction vs generalizing w with
 |nil=>intro o;exact h
 |cons v vs ih=>intro o;exact ih (h.setOut hne o v) (o+1)
variable [DecidableEq κ]
theorem OwnK.set(h:OwnK w B ρ)(k:κ){g n cap:Nat}(hv:(ρ k).v= .slice (some ⟨g,0,none⟩) n cap)(i:Nat)(u:Value)(hi:i<(ρ k).xs.length):
 OwnK (w.setCell ⟨g,i,none⟩ u) B (putK ρ k {ρ k with xs:=(ρ k).xs.set i u}):=by
 have hb:(ρ k).v.ownBlock=some g:=by rw[hv];rfl
 refine⟨fun j=> ?_,fun j j' hj b h1 h2=> ?_⟩
 ·by_cases e:j=k
  ·subst e
   rw[putK_self]
   obtain⟨h1,h2⟩:=h.own j
   refine⟨by simpa using h1, .inr ?_⟩
   rcases h2 with⟨h3,-⟩|⟨g',cap',cur,hv',hg,hh,hn,hc,hs,ht⟩
   ·rw[hv] at h3;simp at h3
   ·rw[hv] at hv'
    simp only[Value.slice.injEq,Option.some.injEq,Addr.mk.injEq,and_true] at hv'
    obtain⟨rfl,hn',rfl⟩:=hv'
    refine⟨g,cap,(cur.toList.set i u).toArray,by rw[←hn'];exact hv,hg,block_put (by simpa using hh) rfl,hn,hc,by simpa using hs,?_⟩
    rw[show(cur.toList.set i u).toArray.toList=cur.toList.set i u from rfl,List.take_set,ht]
  ·rw[putK_ne _ e]
   exact own_of (h.own j) fun b hb' =>Below.heap_setCell _ _ _ _ (fun e2=>h.ap j k e b hb' (by rw[hb];exact congrArg some e2.symm))
 ·have hs:∀j,(putK ρ k {ρ k with xs:=(ρ k).xs.set i u} j).v=(ρ j).v:=fun j=>by
   by_cases e:j=k
   ·subst e;rw[putK_self]
   ·rw[putK_ne _ e]
  rw[hs] at h1 h2
  exact h.ap j j' hj b h1 h2
theorem OwnK.put(h:OwnK w B ρ)(k:κ)(r:RowC)(hr:w'.ownsRow B r.e r.size r.v r.n r.xs)(hat:∀b,r.v.ownBlock=some b→(ρ k).v.ownBlock=some b∨w.heap.size≤b)
 (hb:∀b,b<w.heap.size→(ρ k).v.ownBlock≠some b→w'.heap[b]? =w.heap[b]?):OwnK w' B (putK ρ k r):=by
 have hx:∀j,j≠k→∀b,(ρ j).v.ownBlock=some b→r.v.ownBlock≠some b:=fun j hj b h1 h2=>by
  rcases hat b h2 with h3|h3
  ·exact h.ap j k hj b h1 h3
  ·have:=(h.lt h1).2;omega
 refine⟨fun j=> ?_,fun j j' hj b h1 h2=> ?_⟩
 ·by_cases e:j=k
  ·subst e;rw[putK_self];exact hr
  ·rw[putK_ne _ e]
   exact own_of (h.own j) fun b hb' =>hb b (h.lt hb').2 (fun e2=>h.ap j k e b hb' e2)
 ·by_cases e:j=k
  ·subst e
   rw[putK_self] at h1
   rw[putK_ne _ (Ne.symm hj)] at h2
   exact hx j' (Ne.symm hj) b h2 h1
  ·rw[putK_ne _ e] at h1
   by_cases e' :j' =k
   ·subst e'
    rw[putK_self] at h2
    exact hx j e b h1 h2
   ·rw[putK_ne _ e'] at h2
    exact h.ap j j' hj b h1 h2
theorem OwnK.app(h:OwnK w B ρ)(k:κ)(o:Obj){g m cap H:Nat}{xs:List Value}(hg:(w.alloc o).grownBy w' (ρ k).v.ownBlock)(ho:w'.ownsRow B (ρ k).e (ρ k).size (.slice (some ⟨g,0,none⟩) m cap) m xs)
 (hat:(ρ k).v.ownBlock=some g∨g=H) (hH:w.heap.size≤H):OwnK w' B (putK ρ k ⟨(ρ k).e,(ρ k).size, .slice (some ⟨g,0,none⟩) m cap,m,xs⟩):=
 h.put k _ ho (fun b hb=>by
  have e:g=b:=by simpa [Value.ownBlock] using hb
  subst e
  rcases hat with h1|h1
  ·exact .inl h1
  ·exact .inr (by omega)) fun b hb hne=>(hg.block b (by simp;omega) (fun e=>hne e.symm)).trans (Below.heap_alloc _ _ _ hb)
theorem OwnK.made(h:OwnK w B ρ)(hB:B≤w.heap.size)(k:κ)(e:TypeId)(size n:Nat)(xs:List Value)(hx:xs.length=n*size)(hn:n≤maxLen):OwnK (w.alloc (.cells xs.toArray e)) B (putK ρ k ⟨e,size, .slice (some ⟨w.heap.size,0,none⟩) n n,n,xs⟩):=
 h.put k _ ⟨hx, .inr ⟨w.heap.size,n,xs.toArray,rfl,hB,heap_alloc_new w _,Nat.le_refl _,hn,by simpa using hx,by rw[←hx];simp⟩⟩ (fun b hb=> .inr (by simp[Value.ownBlock] at hb;omega)) fun b hb _=>Below.heap_alloc _ _ _ hb
omit [DecidableEq κ] in
theorem OwnK.cell(h:OwnK w B ρ)(k:κ){g n cap:Nat}(hv:(ρ k).v= .slice (some ⟨g,0,none⟩) n cap){i:Nat}{u:Value}(hu:(ρ k).xs[i]? =some u):w.cell? ⟨g,i,none⟩=some u:=by
 rcases(h.own k).2 with⟨h3,-⟩|⟨g',cap',cur,hv',hg,hh,hn,hc,hs,ht⟩
 ·rw[hv] at h3;simp at h3
 ·rw[hv] at hv'
  simp only[Value.slice.injEq,Option.some.injEq,Addr.mk.injEq,and_true] at hv'
  obtain⟨rfl,-,-⟩:=hv'
  rw[cell_block hh]
  rw[←ht] at hu
  have hi:=(gI.1 hu).1
  rw[List.getElem?_take,if_pos (by simp at hi;omega)] at hu
  simpa using hu
omit [DecidableEq κ] in
theorem OwnK.free(h:OwnK w B ρ)(k:κ){g n cap:Nat}(hv:(ρ k).v= .slice (some ⟨g,0,none⟩) n cap)(i:Nat):w.frozen? ⟨g,i,none⟩=false∧g<w.heap.size:=by
 rcases(h.own k).2 with⟨h3,-⟩|⟨g',cap',cur,hv',hg,hh,hn,hc,hs,ht⟩
 ·rw[hv] at h3;simp at h3
 ·rw[hv] at hv'
  simp only[Value.slice.injEq,Option.some.injEq,Addr.mk.injEq,and_true] at hv'
  obtain⟨rfl,-,-⟩:=hv'
  exact⟨frozen_block hh _,block_lt hh⟩
omit [DecidableEq κ] in
theorem OwnK.slice(h:OwnK w B ρ)(k:κ):∃A cap,(ρ k).v= .slice A (ρ k).n cap∧(ρ k).n≤cap∧(0<(ρ k).n→∃g,A=some ⟨g,0,none⟩):=by
 rcases(h.own k).2 with⟨h3,h4⟩|⟨g',cap',cur,hv',hg,hh,hn,hc,hs,ht⟩
 ·exact⟨none,0,by rw[h3,h4],by omega,fun h=>by omega⟩
 ·exact⟨_,cap',hv',hn,fun _=>⟨g',rfl⟩⟩
end
end Go.Proofs.YtedcjapmmnbamaaDoor
