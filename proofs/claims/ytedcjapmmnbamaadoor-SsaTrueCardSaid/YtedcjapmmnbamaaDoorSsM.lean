import Derived.Test.YtedcjapmmnbamaaDoorCl
import Derived.Test.YtedcjapmmnbamaaDoorHd
import Derived.Test.YtedcjapmmnbamaaDoorFl1
import Derived.Deep.CutBlock
import Derived.Deep.CutRange
import Derived.Deep.DeepCutAuto
namespace Go.Proofs.YtedcjapmmnbamaaDoor
open Go.RowKit Tier
structure PhiS where
 reg:Int
 id:Int
 args:List Int
structure InsS where
 op:Int
 id:Int
 a:Int
 b:Int
 imm:Int
 pc:Int
structure PartS where
 block:Int
 phis:List PhiS
 ins:List InsS
 inn:List Int
structure SB where
 same:List Int
 ends:List (List Int)
 began:List (List Int)
 parts:List PartS
inductive SK where
 |same|ends|began|parts
 |phis (i:Nat)
 |ins (i:Nat)
 |args (i k:Nat)
deriving DecidableEq
def noPart:PartS:=⟨0,[],[],[]⟩
def noPhi:PhiS:=⟨0,0,[]⟩
def SB.part(s:SB)(i:Nat):PartS:=s.parts.getD i noPart
def SB.arg(s:SB)(i k:Nat):List Int:=((s.part i).phis.getD k noPhi).args
def InsS.cells(x:InsS):List Value:=[.int .i64 x.op, .int .i64 x.id, .int .i64 x.a, .int .i64 x.b, .int .i64 x.imm, .int .i64 x.pc]
def PhiS.cells(x:PhiS)(v:Value):List Value:=[.int .i64 x.reg, .int .i64 x.id,v]
def PartS.cells(x:PartS)(v u:Value):List Value:=[.int .i64 x.block,v,u]++intsV x.inn
def phiCells(l:List PhiS)(V:Nat→Value):List Value:=(List.range l.length).flatMap fun k=>(l.getD k noPhi).cells (V k)
def partsCells(l:List PartS)(V U:Nat→Value):List Value:=(List.range l.length).flatMap fun i=>(l.getD i noPart).cells (V i) (U i)
def regCells(l:List (List Int)):List Value:=(List.range l.length).flatMap fun i=>intsV (l.getD i [])
def noIns:InsS:=⟨0,0,0,0,0,0⟩
def insCells(l:List InsS):List Value:=(List.range l.length).flatMap fun k=>(l.getD k noIns).cells
def rowsOf(s:SB)(V:SK→Value):SK→RowC
 | .same=>⟨3,1,V .same,s.same.length,intsV s.same⟩
 | .ends=>⟨40,12,V .ends,s.ends.length,regCells s.ends⟩
 | .began=>⟨40,12,V .began,s.began.length,regCells s.began⟩
 | .parts=>⟨75,15,V .parts,s.parts.length,partsCells s.parts (fun i=>V (.phis i)) (fun i=>V (.ins i))⟩
 | .phis i=>⟨88,3,V (.phis i),(s.part i).phis.length,phiCells (s.part i).phis (fun k=>V (.args i k))⟩
 | .ins i=>⟨77,6,V (.ins i),(s.part i).ins.length,insCells (s.part i).ins⟩
 | .args i k=>⟨3,1,V (.args i k),(s.arg i k).length,intsV (s.arg i k)⟩
structure SC where
 pv:Value
 params:Int
 regs:Int
 cv:Value
 fn:Int
 bv:Value
 lv:Value
 op:Int
 ov:Int
def SC.cells(c:SC)(V:SK→Value):List Value:=[c.pv, .int .i64 c.params, .int .i64 c.regs,c.cv, .int .i64 c.fn,c.bv,c.lv, .int .i64 c.op, .int .i64 c.ov,V .parts,V .ends,V .same,V .began]
structure SbAt(w:World)(b:Nat)(c:SC)(s:SB)(V:SK→Value):Prop where
 box:w.heap[b]? =some (.cells (c.cells V).toArray 98 (0,0))
 own:OwnK w (b+1) (rowsOf s V)
def putV(V:SK→Value)(k:SK)(v:Value):SK→Value:=fun j=>if j=k then v else V j
section
variable {f f' :Nat→List Value}{n m i t:Nat}
theorem flat_len(hf:∀k,k<m→(f k).length=n):((List.range m).flatMap f).length=m*n:=by
 induction m with
 |zero=>simp
 |succ m ih=>
  rw[List.range_succ,List.flatMap_append,List.length_append,ih (fun k hk=>hf k (by omega))]
  simp[hf m (by omega),Nat.succ_mul]
theorem flat_same(h:∀k,k<m→f' k=f k):(List.range m).flatMap f' =(List.range m).flatMap f:=by
 induction m with
 |zero=>simp
 |succ m ih=>
  rw[List.range_succ,List.flatMap_append,List.flatMap_append,ih (fun k hk=>h k (by omega))]
  simp[h m (by omega)]
theorem flat_at(hf:∀k,k<m→(f k).length=n)(hi:i<m)(ht:t<n):((List.range m).flatMap f)[i*n+t]? =(f i)[t]? :=by
 induction m with
 |zero=>omega
 |succ m ih=>
  have hl:=flat_len (f:=f) (m:=m) (n:=n) (fun k hk=>hf k (by omega))
  rw[List.range_succ,List.flatMap_append]
  by_cases e:i=m
  ·subst e
   rw[List.getElem?_append_right (by rw[hl];omega),hl,Nat.add_sub_cancel_left]
   simp
  ·have h1:i*n+t<m*n:=by
    have:(i+1)*n≤m*n:=Nat.mul_le_mul_right n (by omega)
    rw[Nat.succ_mul] at this;omega
   rw[List.getElem?_append_left (by rw[hl];exact h1)]
   exact ih (fun k hk=>hf k (by omega)) (by omega)
theorem flat_set(hf:∀k,k<m→(f k).length=n)(hi:i<m)(ht:t<n)(v:Value)(hne:∀k,k≠i→f' k=f k)(he:f' i=(f i).set t v):((List.range m).flatMap f).set (i*n+t) v=(List.range m).flatMap f' :=by
 induction m with
 |zero=>omega
 |succ m ih=>
  have hl:=flat_len (f:=f) (m:=m) (n:=n) (fun k hk=>hf k (by omega))
  rw[List.range_succ,List.flatMap_append,List.flatMap_append]
  by_cases e:i=m
  ·subst e
   rw[List.set_append_right _ _ (by rw[hl];omega),hl,Nat.add_sub_cancel_left,flat_same (f:=f) (fun k hk=>hne k (by omega))]
   simp[he]
  ·have h1:i*n+t<m*n:=by
    have:(i+1)*n≤m*n:=Nat.mul_le_mul_right n (by omega)
    rw[Nat.succ_mul] at this;omega
   rw[List.set_append_left _ _ (by rw[hl];exact h1),ih (fun k hk=>hf k (by omega)) (by omega)]
   simp[hne m (fun h=>e h.symm)]
def setsL:List Value→Nat→List Value→List Value
 |xs,_,[]=>xs
 |xs,o,v::vs=>setsL (xs.set o v) (o+1) vs
theorem setsL_length:∀(vs xs:List Value) (o:Nat),(setsL xs o vs).length=xs.length
 |[],_,_=>rfl
 |v::vs,xs,o=>by unfold setsL;rw[setsL_length vs];simp
theorem setsL_get:∀(vs xs:List Value) (o j:Nat),o+vs.length≤xs.length→(setsL xs o vs)[j]? =if o≤j∧j<o+vs.length then vs[j-o]? else xs[j]?
 |[],xs,o,j,_=>by unfold setsL;rw[if_neg (by simp only[List.length_nil];omega)]
 |v::vs,xs,o,j,h=>by
  unfold setsL
  simp only[List.length_cons] at h
  rw[setsL_get vs (xs.set o v) (o+1) j (by simp;omega)]
  by_cases h1:o+1≤j∧j<o+1+vs.length
  ·rw[if_pos h1,if_pos (by simp;omega),show j-o=(j-(o+1))+1 by omega];rfl
  ·rw[if_neg h1,List.getElem?_set]
   by_cases h2:o=j
   ·subst h2
    rw[if_pos rfl,if_pos (by omega),if_pos (by simp),Nat.sub_self];rfl
   ·rw[if_neg h2,if_neg (by simp;omega)]
theorem flat_sets(hf:∀k,k<m→(f k).length=n)(hi:i<m)(vs:List Value)(hv:vs.length=n)(hne:∀k,k≠i→f' k=f k)(he:f' i=vs):setsL ((List.range m).flatMap f) (i*n) vs=(List.range m).flatMap f' :=by
 have hf' :∀k,k<m→(f' k).length=n:=fun k hk=>by
  by_cases e:k=i
  ·subst e;rw[he];exact hv
  ·rw[hne k e];exact hf k hk
 have hl:=flat_len (f:=f) hf
 have hl' :=flat_len (f:=f') hf'
 have hle:i*n+n≤m*n:=by
  have:(i+1)*n≤m*n:=Nat.mul_le_mul_right n (by omega)
  rw[Nat.succ_mul] at this;exact this
 apply List.ext_getElem?
 intro j
 rw[setsL_get _ _ _ _ (by rw[hl,hv];exact hle),hv]
 by_cases hn:n=0
 ·subst hn
  rw[if_neg (by omega),List.getElem?_eq_none (by rw[hl];omega),List.getElem?_eq_none (by rw[hl'];omega)]
 by_cases hj:j<m*n
 ·have hd:=Nat.div_add_mod j n
  have hm:=Nat.mod_lt j (by omega:0<n)
  have hq:j / n<m:=Nat.div_lt_of_lt_mul (by rw[Nat.mul_comm];exact hj)
  have hj2:j=j / n*n+j % n:=by rw[Nat.mul_comm];exact hd.symm
  rw[hj2,flat_at hf hq hm,flat_at hf' hq hm]
  by_cases e:j / n=i
  ·rw[e,if_pos (by omega),Nat.add_sub_cancel_left,he]
  ·rw[hne _ e,if_neg]
   rintro⟨h1,h2⟩
   rcases Nat.lt_or_gt_of_ne e with h3|h3
   ·have:(j / n+1)*n≤i*n:=Nat.mul_le_mul_right n (by omega)
    rw[Nat.succ_mul] at this;omega
   ·have:(i+1)*n≤j / n*n:=Nat.mul_le_mul_right n (by omega)
    rw[Nat.succ_mul] at this;omega
 ·rw[if_neg (by omega),List.getElem?_eq_none (by rw[hl];omega),List.getElem?_eq_none (by rw[hl'];omega)]
end
theorem OwnK.sets{κ:Type}[DecidableEq κ]{B:Nat}{k:κ}{g n cap:Nat}:∀(vs:List Value) (o:Nat) {w:World} {ρ:κ→RowC} (_:OwnK w B ρ) (_:(ρ k).v= .slice (some ⟨g,0,none⟩) n cap) (_:o+vs.length≤(ρ k).xs.length),
 OwnK (w.setCells g o vs) B (putK ρ k {ρ k with xs:=setsL (ρ k).xs o vs})
 |[],o,w,ρ,h,hv,ho=>by
  have e:putK ρ k {ρ k with xs:=setsL (ρ k).xs o []}=ρ:=by
   funext j
   by_cases e:j=k
   ·subst e;rw[putK_self];rfl
   ·rw[putK_ne _ e]
  rw[e];exact h
 |v::vs,o,w,ρ,h,hv,ho=>by
  have h1:=h.set k hv o v (by simp at ho;omega)
  have h2:=OwnK.sets (k:=k) vs (o+1) h1 (by rw[putK_self];exact hv) (by rw[putK_self];simp at ho⊢;omega)
  have e:putK (putK ρ k {ρ k with xs:=(ρ k).xs.set o v}) k {putK ρ k {ρ k with xs:=(ρ k).xs.set o v} k with xs:=setsL (putK ρ k {ρ k with xs:=(ρ k).xs.set o v} k).xs (o+1) vs}=putK ρ k {ρ k with xs:=setsL (ρ k).xs o (v::vs)}:=by
   funext j
   by_cases e:j=k
   ·subst e;rw[putK_self,putK_self,putK_self];rfl
   ·rw[putK_ne _ e,putK_ne _ e,putK_ne _ e]
  rw[e] at h2
  exact h2
theorem putV_self(V:SK→Value)(k:SK)(v:Value):putV V k v k=v:=if_pos rfl
theorem putV_ne(V:SK→Value){j k:SK}(h:j≠k)(v:Value):putV V k v j=V j:=if_neg h
section
variable {w w' :World}{b:Nat}{c:SC}{s:SB}{V:SK→Value}
theorem SbAt.lt(h:SbAt w b c s V):b<w.heap.size:=block_lt h.box
theorem SbAt.keeps(h:SbAt w b c s V)(hb:Below w.heap.size w w'):SbAt w' b c s V:=⟨(hb.block _ h.lt).trans h.box,h.own.keeps hb⟩
theorem SbAt.cell(h:SbAt w b c s V)(i:Nat):w.cell? ⟨b,i,none⟩=(c.cells V)[i]? :=(cell_block h.box i).trans List.getElem?_toArray
theorem rowsOf_v(s:SB)(V:SK→Value)(k:SK):(rowsOf s V k).v=V k:=by cases k<;>rfl
theorem SbAt.rlt(h:SbAt w b c s V)(k:SK){g:Nat}(hg:(V k).ownBlock=some g):b<g∧g<w.heap.size:=by
 have:=h.own.lt (k:=k) (by rw[rowsOf_v];exact hg)
 omega
theorem SbAt.setBox{ρ:SK→RowC}(hb:w.heap[b]? =some (.cells (c.cells V).toArray 98 (0,0)))(ho:OwnK w (b+1) ρ)(i:Nat)(v:Value):
 (w.setCell ⟨b,i,none⟩ v).heap[b]? =some (.cells ((c.cells V).set i v).toArray 98 (0,0))∧OwnK (w.setCell ⟨b,i,none⟩ v) (b+1) ρ:=
 ⟨block_put hb rfl,ho.setOut (fun k e=>by have:=(ho.lt e).1;omega) i v⟩
end
structure FrS(w:World)(b:Nat)(V:SK→Value)(w' :World)(V' :SK→Value):Prop where
 below:Below b w w'
 size:w.heap.size≤w'.heap.size
 kept:∀k,k<w.heap.size→k≠b→(∀key,(V key).ownBlock≠some k)→w'.heap[k]? =w.heap[k]?
 rows:∀key g,(V' key).ownBlock=some g→(∃key',(V key').ownBlock=some g)∨w.heap.size≤g
section
variable {w w1 w' :World}{b:Nat}{V V1 V' :SK→Value}
theorem FrS.refl(w:World)(b:Nat)(V:SK→Value):FrS w b V w V:=⟨Below.refl _ _,Nat.le_refl _,fun _ _ _ _=>rfl,fun key _ h=> .inl ⟨key,h⟩⟩
theorem FrS.free(h:FrS w b V w1 V1){k:Nat}(hk:k<w.heap.size)(hv:∀key,(V key).ownBlock≠some k)(key:SK):(V1 key).ownBlock≠some k:=fun e=>by
 rcases h.rows key k e with⟨key',h1⟩|h1
 ·exact hv key' h1
 ·omega
theorem FrS.trans(h:FrS w b V w1 V1)(h' :FrS w1 b V1 w' V'):FrS w b V w' V' :=
 ⟨h.below.trans h'.below,Nat.le_trans h.size h'.size,fun k hk hb hv=>(h'.kept k (by have:=h.size;omega) hb (h.free hk hv)).trans (h.kept k hk hb hv),fun key g hg=>by
  rcases h'.rows key g hg with⟨key',h1⟩|h1
  ·exact h.rows key' g h1
  ·exact .inr (Nat.le_trans h.size h1)⟩
theorem FrS.keeps(h:FrS w b V w1 V1)(hb:Below w1.heap.size w1 w')(hbl:b≤w1.heap.size):FrS w b V w' V1:=
 h.trans ⟨hb.mono hbl,hb.size,fun k hk _ _=>hb.block k hk,fun key _ h=> .inl ⟨key,h⟩⟩
theorem FrS.setLoc(h:FrS w b V w1 V1){L:Nat}(hL:w.heap.size≤L)(hb:b≤L)(i:Nat)(v:Value):FrS w b V (w1.setCell ⟨L,i,none⟩ v) V1:=
 ⟨h.below.setCell (by simpa using hb) v,by simpa [World.setCell] using h.size,fun k hk hkb hv=>(Below.heap_setCell _ _ _ _ (by simp;omega)).trans (h.kept k hk hkb hv),h.rows⟩
end
section
variable {w w1:World}{b:Nat}{c:SC}{s:SB}{V:SK→Value}
theorem SbAt.pushSame(h:SbAt w b c s V)(o:Obj)(x:Int){g m cap H:Nat}(hg:(w.alloc o).grownBy w1 (V .same).ownBlock)(hm:m=s.same.length+1)
 (ho:w1.ownsRow (b+1) 3 1 (.slice (some ⟨g,0,none⟩) m cap) m (intsV s.same++[.int .i64 x])) (hat:(V .same).ownBlock=some g∨g=H) (hH:w.heap.size≤H):
 SbAt (w1.setCell ⟨b,11,none⟩ (.slice (some ⟨g,0,none⟩) m cap)) b c {s with same:=s.same++[x]} (putV V .same (.slice (some ⟨g,0,none⟩) m cap))∧
 FrS w b V (w1.setCell ⟨b,11,none⟩ (.slice (some ⟨g,0,none⟩) m cap)) (putV V .same (.slice (some ⟨g,0,none⟩) m cap)):=by
 have hbl:=h.lt
 have hw1:w1.heap[b]? =w.heap[b]? :=(hg.block b (by simp;omega) (fun e=>by have:=(h.rlt .same e.symm).1;omega)).trans (Below.heap_alloc _ _ _ hbl)
 have ho1:=h.own.app .same o hg ho hat hH
 obtain⟨hb',ho'⟩:=SbAt.setBox (hw1.trans h.box) ho1 11 (.slice (some ⟨g,0,none⟩) m cap)
 refine⟨⟨?_,?_⟩,?_,?_,?_,?_⟩
 ·rw[hb'];rfl
 ·have e:rowsOf {s with same:=s.same++[x]} (putV V .same (.slice (some ⟨g,0,none⟩) m cap))=putK (rowsOf s V) .same ⟨3,1, .slice (some ⟨g,0,none⟩) m cap,m,intsV s.same++[.int .i64 x]⟩:=by
   funext k
   cases k<;>simp[rowsOf,putK,putV,SB.part,SB.arg,intsV,hm]
  rw[e];exact ho'
 ·refine Below.setCell ?_ (by simp) _
  exact((Below.refl b w).alloc (by omega) o).grown hg (by simp;omega) (fun k hk=>by have:=(h.rlt .same hk).1;omega)
 ·have:=hg.size
  simp[World.setCell] at this⊢;omega
 ·intro k hk hkb hv
  exact(Below.heap_setCell _ _ _ _ (by simpa using hkb)).trans ((hg.block k (by simp;omega) (fun e=>hv .same e.symm)).trans (Below.heap_alloc _ _ _ hk))
 ·intro key g' hg'
  by_cases e:key= .same
  ·subst e
   rw[putV_self] at hg'
   have e' :g=g' :=by simpa [Value.ownBlock] using hg'
   subst e'
   rcases hat with h1|h1
   ·exact .inl ⟨_,h1⟩
   ·exact .inr (by omega)
  ·rw[putV_ne _ e] at hg'
   exact .inl ⟨key,hg'⟩
end
structure SbX(w:World)(V0:SK→Value)(b:Nat)(c:SC)(wr:World)(s:SB)(V:SK→Value)(ls:List (Nat×Obj)):Prop where
 sb:SbAt wr b c s V
 fr:FrS w b V0 wr V
 loc:∀x∈ls,wr.heap[x.1]? =some x.2∧w.heap.size≤x.1∧b<x.1∧∀key,(V key).ownBlock≠some x.1
section
variable {w wr w' :World}{b:Nat}{c:SC}{s s' :SB}{V0 V V' :SK→Value}{ls ls' :List (Nat×Obj)}
theorem SbX.start(h:SbAt w b c s V):SbX w V b c w s V []:=⟨h,FrS.refl _ _ _,fun x hx=>by simp at hx⟩
theorem SbX.keeps(h:SbX w V0 b c wr s V ls)(hb:Below wr.heap.size wr w'):SbX w V0 b c w' s V ls:=
 ⟨h.sb.keeps hb,h.fr.keeps hb (Nat.le_of_lt h.sb.lt),fun x hx=>⟨(hb.block _ (Array.getElem?_eq_some_iff.1 (h.loc x hx).1).1).trans (h.loc x hx).1,(h.loc x hx).2⟩⟩
theorem SbX.push(h:SbX w V0 b c wr s V ls)(o:Obj):SbX w V0 b c (wr.alloc o) s V ((wr.heap.size,o)::ls):=by
 have hk:=h.keeps ((Below.refl wr.heap.size wr).alloc (Nat.le_refl _) o)
 refine⟨hk.sb,hk.fr,fun x hx=> ?_⟩
 rcases List.mem_cons.1 hx with rfl|hx
 ·exact⟨heap_alloc_new _ _,h.fr.size,h.sb.lt,fun key e=>by have:=(h.sb.rlt key e).2;simp at this⟩
 ·exact hk.loc x hx
theorem SbX.call(h:SbX w V0 b c wr s V ls)(hs:SbAt w' b c s' V')(hf:FrS wr b V w' V'):SbX w V0 b c w' s' V' ls:=
 ⟨hs,h.fr.trans hf,fun x hx=>by
  obtain⟨h1,h2,h3,h4⟩:=h.loc x hx
  have hl:=(Array.getElem?_eq_some_iff.1 h1).1
  exact⟨(hf.kept _ hl (by omega) h4).trans h1,h2,h3,fun key=>hf.free hl h4 key⟩⟩
theorem SbX.set(h:SbX w V0 b c wr s V ls){k:Nat}{cs:Array Value}{t:TypeId}(hk:(k, .cells cs t (0,0))∈ls)(i:Nat)(v:Value)(hn:∀x∈ls',x=(k, .cells (cs.toList.set i v).toArray t (0,0))∨(x∈ls∧x.1≠k)):
 SbX w V0 b c (wr.setCell ⟨k,i,none⟩ v) s V ls' :=by
 obtain⟨h1,h2,h3,h4⟩:=h.loc _ hk
 refine⟨⟨(Below.heap_setCell _ _ _ _ (by simp;omega)).trans h.sb.box,h.sb.own.setOut (fun key=>by rw[rowsOf_v];exact h4 key) i v⟩,h.fr.setLoc h2 (Nat.le_of_lt h3) i v,fun x hx=> ?_⟩
 rcases hn x hx with rfl|⟨hx,hne⟩
 ·exact⟨block_put (by simpa using h1) rfl,h2,h3,h4⟩
 ·obtain⟨q1,q2,q3,q4⟩:=h.loc x hx
  exact⟨(Below.heap_setCell _ _ _ _ (by simpa using hne)).trans q1,q2,q3,q4⟩
theorem SbX.box(h:SbX w V0 b c wr s V ls){k:Nat}{o:Obj}(hk:(k,o)∈ls):wr.heap[k]? =some o:=(h.loc _ hk).1
end
section
variable {w w1:World}{b:Nat}{c:SC}{s:SB}{V V' :SK→Value}
theorem FrS.grown(h:SbAt w b c s V)(key:SK)(o:Obj)(hg:(w.alloc o).grownBy w1 (V key).ownBlock)(hr:∀k g,(V' k).ownBlock=some g→(∃k',(V k').ownBlock=some g)∨w.heap.size≤g):FrS w b V w1 V' :=by
 have hbl:=h.lt
 refine⟨((Below.refl b w).alloc (by omega) o).grown hg (by simp;omega) (fun _ hk=>by have:=(h.rlt key hk).1;omega),by have:=hg.size;simp at this;omega,fun k hk hkb hv=> ?_,hr⟩
 exact(hg.block k (by simp;omega) (fun e=>hv key e.symm)).trans (Below.heap_alloc _ _ _ hk)
theorem FrS.row(h:SbAt w b c s V){key:SK}{g:Nat}(hk:(V key).ownBlock=some g)(i:Nat)(v:Value):FrS w b V (w.setCell ⟨g,i,none⟩ v) V:=by
 have hb:=(h.rlt key hk).1
 exact⟨(Below.refl b w).setCell (by simp;omega) v,by simp[World.setCell],fun k _ _ hv=>Below.heap_setCell _ _ _ _ (by simp;exact fun e=>hv key (by rw[e];exact hk)),fun k g' h=> .inl ⟨k,h⟩⟩
theorem box_grown(h:SbAt w b c s V)(key:SK)(o:Obj)(hg:(w.alloc o).grownBy w1 (V key).ownBlock):w1.heap[b]? =w.heap[b]? :=
 (hg.block b (by have:=h.lt;simp;omega) (fun e=>by have:=(h.rlt key e.symm).1;omega)).trans (Below.heap_alloc _ _ _ h.lt)
theorem box_row{w1:World}{ρ:SK→RowC}(hb:w1.heap[b]? =w.heap[b]?)(ho:OwnK w1 (b+1) ρ){key:SK}{g:Nat}(hk:(ρ key).v.ownBlock=some g)(i:Nat)(v:Value):(w1.setCell ⟨g,i,none⟩ v).heap[b]? =w.heap[b]? :=by
 have:=(ho.lt hk).1
 rw[Below.heap_setCell _ _ _ _ (by simp;omega)];exact hb
theorem part_set(s:SB){i:Nat}(hi:i<s.parts.length)(x:PartS)(j:Nat):({s with parts:=s.parts.set i x}:SB).part j=if j=i then x else s.part j:=by
 unfold SB.part
 rw[gD,List.getElem?_set,gD]
 by_cases e:i=j
 ·subst e;rw[if_pos rfl,if_pos hi,if_pos rfl];rfl
 ·rw[if_neg e,if_neg (fun h=>e h.symm)]
theorem getD_set{α:Type}(l:List α){i:Nat}(hi:i<l.length)(x d:α)(j:Nat):(l.set i x).getD j d=if j=i then x else l.getD j d:=by
 rw[gD,List.getElem?_set,gD]
 by_cases e:i=j
 ·subst e;rw[if_pos rfl,if_pos hi,if_pos rfl];rfl
 ·rw[if_neg e,if_neg (fun h=>e h.symm)]
theorem getD_snoc{α:Type}(l:List α)(x d:α)(j:Nat):(l++[x]).getD j d=if j=l.length then x else l.getD j d:=by
 rw[gD,gD]
 by_cases e:j=l.length
 ·subst e;rw[if_pos rfl];simp
 ·rw[if_neg e]
  rcases Nat.lt_or_ge j l.length with h|h
  ·rw[List.getElem?_append_left h]
  ·rw[List.getElem?_eq_none (by simp;omega),List.getElem?_eq_none h]
theorem part_len{s:SB}(hs:∀x∈s.parts,x.inn.length=12){k:Nat}(hk:k<s.parts.length)(v u:Value):((s.parts.getD k noPart).cells v u).length=15:=by
 have:(s.parts.getD k noPart).inn.length=12:=by
  rw[gD,gE hk];exact hs _ (List.getElem_mem hk)
 unfold PartS.cells intsV
 rw[List.length_append,List.length_map,this];rfl
theorem parts_xs_len{s:SB}(hs:∀x∈s.parts,x.inn.length=12)(V U:Nat→Value):(partsCells s.parts V U).length=s.parts.length*15:=flat_len (fun _k hk=>part_len hs hk _ _)
def SB.addPhi(s:SB)(i:Nat)(x:PhiS):SB:={s with parts:=s.parts.set i {s.part i with phis:=(s.part i).phis++[x]}}
def SB.addIns(s:SB)(i:Nat)(x:InsS):SB:={s with parts:=s.parts.set i {s.part i with ins:=(s.part i).ins++[x]}}
theorem SbAt.pushPhi(h:SbAt w b c s V)(hs:∀x∈s.parts,x.inn.length=12){i:Nat}(hi:i<s.parts.length)(o:Obj)(r id:Int){g m cap H gp np cp:Nat}(hp:V .parts= .slice (some ⟨gp,0,none⟩) np cp)
 (hg:(w.alloc o).grownBy w1 (V (.phis i)).ownBlock) (hm:m=(s.part i).phis.length+1)
 (ho:w1.ownsRow (b+1) 88 3 (.slice (some ⟨g,0,none⟩) m cap) m (phiCells (s.part i).phis (fun k=>V (.args i k))++[.int .i64 r, .int .i64 id, .slice none 0 0])) (hat:(V (.phis i)).ownBlock=some g∨g=H) (hH:w.heap.size≤H):
 SbAt (w1.setCell ⟨gp,i*15+1,none⟩ (.slice (some ⟨g,0,none⟩) m cap)) b c (s.addPhi i ⟨r,id,[]⟩) (putV (putV V (.args i (s.part i).phis.length) (.slice none 0 0)) (.phis i) (.slice (some ⟨g,0,none⟩) m cap))∧
 FrS w b V (w1.setCell ⟨gp,i*15+1,none⟩ (.slice (some ⟨g,0,none⟩) m cap)) (putV (putV V (.args i (s.part i).phis.length) (.slice none 0 0)) (.phis i) (.slice (some ⟨g,0,none⟩) m cap)):=by
 obtain⟨n,hn⟩:∃n,(s.part i).phis.length=n:=⟨_,rfl⟩
 rw[hn] at hm⊢
 have h0:=h.own.put (w' :=w) (.args i n) (nilRow 3 1) (World.ownsRow_nil _ _ _ _) (fun b hb=>by simp[nilRow,Value.ownBlock] at hb) (fun _ _ _=>rfl)
 have h1:=h0.app (.phis i) o (g:=g) (m:=m) (cap:=cap) (H:=H) (by rw[putK_ne _ (by simp),rowsOf_v];exact hg) (by rw[putK_ne _ (by simp)];exact ho) (by rw[putK_ne _ (by simp),rowsOf_v];exact hat) hH
 have hpv:(putK (putK (rowsOf s V) (.args i n) (nilRow 3 1)) (.phis i) ⟨(putK (rowsOf s V) (.args i n) (nilRow 3 1) (.phis i)).e,(putK (rowsOf s V) (.args i n) (nilRow 3 1) (.phis i)).size, .slice (some ⟨g,0,none⟩) m cap,m,phiCells (s.part i).phis (fun k=>V (.args i k))++[.int .i64 r, .int .i64 id, .slice none 0 0]⟩ .parts).v= .slice (some ⟨gp,0,none⟩) np cp:=by
  rw[putK_ne _ (by simp),putK_ne _ (by simp),rowsOf_v];exact hp
 have h2:=h1.set .parts hpv (i*15+1) (.slice (some ⟨g,0,none⟩) m cap) (by
  rw[putK_ne _ (by simp),putK_ne _ (by simp)]
  show _<(partsCells _ _ _).length
  rw[parts_xs_len hs]
  have:(i+1)*15≤s.parts.length*15:=Nat.mul_le_mul_right 15 (by omega)
  omega)
 have hbx:=box_row (w:=w) (box_grown h (.phis i) o hg) h1 (key:= .parts) (g:=gp) (by rw[hpv];rfl) (i*15+1) (.slice (some ⟨g,0,none⟩) m cap)
 have hrows:∀k g',(putV (putV V (.args i n) (.slice none 0 0)) (.phis i) (.slice (some ⟨g,0,none⟩) m cap) k).ownBlock=some g' →(∃k',(V k').ownBlock=some g')∨w.heap.size≤g' :=fun k g' hg' =>by
  by_cases e:k= .phis i
  ·subst e
   rw[putV_self] at hg'
   have e' :g=g' :=by simpa [Value.ownBlock] using hg'
   subst e'
   rcases hat with h1|h1
   ·exact .inl ⟨_,h1⟩
   ·exact .inr (by omega)
  ·rw[putV_ne _ e] at hg'
   by_cases e2:k= .args i n
   ·subst e2;rw[putV_self] at hg';simp[Value.ownBlock] at hg'
   ·rw[putV_ne _ e2] at hg';exact .inl ⟨k,hg'⟩
 have hsb:SbAt (w1.setCell ⟨gp,i*15+1,none⟩ (.slice (some ⟨g,0,none⟩) m cap)) b c (s.addPhi i ⟨r,id,[]⟩) (putV (putV V (.args i n) (.slice none 0 0)) (.phis i) (.slice (some ⟨g,0,none⟩) m cap)):=by
  refine⟨by rw[hbx,h.box];rfl,?_⟩
  have e:rowsOf (s.addPhi i ⟨r,id,[]⟩) (putV (putV V (.args i n) (.slice none 0 0)) (.phis i) (.slice (some ⟨g,0,none⟩) m cap))=putK (putK (putK (rowsOf s V) (.args i n) (nilRow 3 1)) (.phis i) ⟨(putK (rowsOf s V) (.args i n) (nilRow 3 1) (.phis i)).e,(putK (rowsOf s V) (.args i n) (nilRow 3 1) (.phis i)).size, .slice (some ⟨g,0,none⟩) m cap,m,phiCells (s.part i).phis (fun k=>V (.args i k))++[.int .i64 r, .int .i64 id, .slice none 0 0]⟩) .parts {putK (putK (rowsOf s V) (.args i n) (nilRow 3 1)) (.phis i) ⟨(putK (rowsOf s V) (.args i n) (nilRow 3 1) (.phis i)).e,(putK (rowsOf s V) (.args i n) (nilRow 3 1) (.phis i)).size, .slice (some ⟨g,0,none⟩) m cap,m,phiCells (s.part i).phis (fun k=>V (.args i k))++[.int .i64 r, .int .i64 id, .slice none 0 0]⟩ .parts with xs:=((putK (putK (rowsOf s V) (.args i n) (nilRow 3 1)) (.phis i) ⟨(putK (rowsOf s V) (.args i n) (nilRow 3 1) (.phis i)).e,(putK (rowsOf s V) (.args i n) (nilRow 3 1) (.phis i)).size, .slice (some ⟨g,0,none⟩) m cap,m,phiCells (s.part i).phis (fun k=>V (.args i k))++[.int .i64 r, .int .i64 id, .slice none 0 0]⟩ .parts).xs).set (i*15+1) (.slice (some ⟨g,0,none⟩) m cap)}:=by
   funext k
   cases k with
   |same=>rfl
   |ends=>rfl
   |began=>rfl
   |parts=>
    rw[putK_self,putK_ne _ (by simp),putK_ne _ (by simp)]
    show(⟨_,_,_,(s.parts.set i _).length,partsCells (s.parts.set i _) _ _⟩:RowC)=⟨_,_,_,s.parts.length,(partsCells s.parts _ _).set (i*15+1) _⟩
    rw[List.length_set]
    congr 1
    unfold partsCells
    rw[List.length_set]
    symm
    refine flat_set (fun k hk=>part_len hs hk _ _) hi (by omega) _ (fun k hk=> ?_) ?_
    ·rw[getD_set _ hi,if_neg hk]
     show PartS.cells _ (putV (putV V _ _) (.phis i) _ (.phis k)) (putV (putV V _ _) (.phis i) _ (.ins k))=_
     rw[putV_ne _ (by simpa using hk),putV_ne _ (by simp),putV_ne _ (by simp),putV_ne _ (by simp)]
    ·rw[getD_set _ hi,if_pos rfl]
     show PartS.cells _ (putV (putV V _ _) (.phis i) _ (.phis i)) (putV (putV V _ _) (.phis i) _ (.ins i))=_
     rw[putV_self,putV_ne _ (by simp),putV_ne _ (by simp)];rfl
   |phis j=>
    rw[putK_ne _ (by simp)]
    by_cases e:j=i
    ·subst e
     rw[putK_self]
     show(⟨_,_,putV _ (.phis j) _ (.phis j),((s.addPhi j _).part j).phis.length,phiCells ((s.addPhi j _).part j).phis _⟩:RowC)=_
     rw[SB.addPhi,part_set s hi,if_pos rfl,putV_self]
     show(⟨_,_,_,((s.part j).phis++[_]).length,phiCells ((s.part j).phis++[_]) _⟩:RowC)=_
     rw[List.length_append,hn,show n+[(⟨r,id,[]⟩:PhiS)].length=m from hm.symm]
     congr 1
     unfold phiCells
     rw[List.length_append,hn,show n+[(⟨r,id,[]⟩:PhiS)].length=n+1 from rfl,List.range_succ,List.flatMap_append]
     congr 1
     ·refine flat_same fun k hk=> ?_
      rw[getD_snoc,if_neg (by omega)]
      show PhiS.cells _ (putV (putV V (.args j n) _) (.phis j) _ (.args j k))=_
      rw[putV_ne _ (by simp),putV_ne _ (by simp;omega)]
     ·simp only[List.flatMap_cons,List.flatMap_nil,List.append_nil]
      rw[getD_snoc,if_pos hn.symm]
      show PhiS.cells _ (putV (putV V (.args j n) _) (.phis j) _ (.args j n))=_
      rw[putV_ne _ (by simp),putV_self];rfl
    ·rw[putK_ne _ (by simpa using e),putK_ne _ (by simp)]
     show(⟨_,_,putV _ _ _ (.phis j),((s.addPhi i _).part j).phis.length,phiCells ((s.addPhi i _).part j).phis _⟩:RowC)=⟨_,_,_,(s.part j).phis.length,phiCells (s.part j).phis _⟩
     rw[SB.addPhi,part_set s hi,if_neg e,putV_ne _ (by simpa using e),putV_ne _ (by simp)]
     congr 2
     funext k
     show putV (putV V (.args i n) _) (.phis i) _ (.args j k)=_
     rw[putV_ne _ (by simp),putV_ne _ (by simp;exact fun h=>absurd h e)]
   |ins j=>
    rw[putK_ne _ (by simp),putK_ne _ (by simp),putK_ne _ (by simp)]
    show(⟨_,_,putV _ _ _ (.ins j),((s.addPhi i _).part j).ins.length,insCells ((s.addPhi i _).part j).ins⟩:RowC)=⟨_,_,_,(s.part j).ins.length,insCells (s.part j).ins⟩
    rw[SB.addPhi,part_set s hi,putV_ne _ (by simp),putV_ne _ (by simp)]
    by_cases e:j=i
    ·subst e;rw[if_pos rfl]
    ·rw[if_neg e]
   |args j k=>
    rw[putK_ne _ (by simp),putK_ne _ (by simp)]
    show(⟨_,_,putV _ _ _ (.args j k),((s.addPhi i _).arg j k).length,intsV ((s.addPhi i _).arg j k)⟩:RowC)=_
    have ea:(s.addPhi i ⟨r,id,[]⟩).arg j k=if j=i∧k=n then[] else s.arg j k:=by
     unfold SB.arg
     rw[SB.addPhi,part_set s hi]
     by_cases e:j=i
     ·subst e
      rw[if_pos rfl]
      show(((s.part j).phis++[_]).getD k noPhi).args=_
      rw[getD_snoc,hn]
      by_cases e2:k=n
      ·rw[if_pos e2,if_pos ⟨rfl,e2⟩]
      ·rw[if_neg e2,if_neg (fun h=>e2 h.2)]
     ·rw[if_neg e,if_neg (fun h=>e h.1)]
    rw[ea,putV_ne _ (by simp)]
    by_cases e:j=i∧k=n
    ·obtain⟨rfl,rfl⟩:=e
     rw[if_pos ⟨rfl,rfl⟩,putK_self,putV_self];rfl
    ·rw[if_neg e,putK_ne _ (by simpa using e),putV_ne _ (by simpa using e)];rfl
  rw[e];exact h2
 exact⟨hsb,(FrS.grown h (.phis i) o hg hrows).trans ⟨(Below.refl b w1).setCell (by have:=(h.rlt .parts (g:=gp) (by rw[hp];rfl)).1;simp;omega) _,by simp[World.setCell],fun k _ _ hv=>Below.heap_setCell _ _ _ _ (by simp;exact fun e=>hv .parts (by rw[putV_ne _ (by simp),putV_ne _ (by simp),hp,e];rfl)),fun k g' h=> .inl ⟨k,h⟩⟩⟩
end
section
variable {w w1:World}{b:Nat}{c:SC}{s:SB}{V:SK→Value}
theorem SbAt.pushIns(h:SbAt w b c s V)(hs:∀x∈s.parts,x.inn.length=12){i:Nat}(hi:i<s.parts.length)(o:Obj)(x:InsS){g m cap H gp np cp:Nat}(hp:V .parts= .slice (some ⟨gp,0,none⟩) np cp)
 (hg:(w.alloc o).grownBy w1 (V (.ins i)).ownBlock) (hm:m=(s.part i).ins.length+1)
 (ho:w1.ownsRow (b+1) 77 6 (.slice (some ⟨g,0,none⟩) m cap) m (insCells (s.part i).ins++x.cells)) (hat:(V (.ins i)).ownBlock=some g∨g=H) (hH:w.heap.size≤H):
 SbAt (w1.setCell ⟨gp,i*15+2,none⟩ (.slice (some ⟨g,0,none⟩) m cap)) b c (s.addIns i x) (putV V (.ins i) (.slice (some ⟨g,0,none⟩) m cap))∧
 FrS w b V (w1.setCell ⟨gp,i*15+2,none⟩ (.slice (some ⟨g,0,none⟩) m cap)) (putV V (.ins i) (.slice (some ⟨g,0,none⟩) m cap)):=by
 obtain⟨r1,hr1⟩:∃r:RowC,(⟨77,6, .slice (some ⟨g,0,none⟩) m cap,m,insCells (s.part i).ins++x.cells⟩:RowC)=r:=⟨_,rfl⟩
 have h1:OwnK w1 (b+1) (putK (rowsOf s V) (.ins i) r1):=by rw[←hr1];exact h.own.app (.ins i) o hg ho hat hH
 have hpv:(putK (rowsOf s V) (.ins i) r1 .parts).v= .slice (some ⟨gp,0,none⟩) np cp:=by
  rw[putK_ne _ (by simp),rowsOf_v];exact hp
 have h2:=h1.set .parts hpv (i*15+2) (.slice (some ⟨g,0,none⟩) m cap) (by
  rw[putK_ne _ (by simp)]
  show _<(partsCells _ _ _).length
  rw[parts_xs_len hs]
  have:(i+1)*15≤s.parts.length*15:=Nat.mul_le_mul_right 15 (by omega)
  omega)
 have hbx:=box_row (w:=w) (box_grown h (.ins i) o hg) h1 (key:= .parts) (g:=gp) (by rw[hpv];rfl) (i*15+2) (.slice (some ⟨g,0,none⟩) m cap)
 have hrows:∀k g',(putV V (.ins i) (.slice (some ⟨g,0,none⟩) m cap) k).ownBlock=some g' →(∃k',(V k').ownBlock=some g')∨w.heap.size≤g' :=fun k g' hg' =>by
  by_cases e:k= .ins i
  ·subst e
   rw[putV_self] at hg'
   have e' :g=g' :=by simpa [Value.ownBlock] using hg'
   subst e'
   rcases hat with h1|h1
   ·exact .inl ⟨_,h1⟩
   ·exact .inr (by omega)
  ·rw[putV_ne _ e] at hg';exact .inl ⟨k,hg'⟩
 have hsb:SbAt (w1.setCell ⟨gp,i*15+2,none⟩ (.slice (some ⟨g,0,none⟩) m cap)) b c (s.addIns i x) (putV V (.ins i) (.slice (some ⟨g,0,none⟩) m cap)):=by
  refine⟨by rw[hbx,h.box];rfl,?_⟩
  have e:rowsOf (s.addIns i x) (putV V (.ins i) (.slice (some ⟨g,0,none⟩) m cap))=putK (putK (rowsOf s V) (.ins i) r1) .parts {putK (rowsOf s V) (.ins i) r1 .parts with xs:=(putK (rowsOf s V) (.ins i) r1 .parts).xs.set (i*15+2) (.slice (some ⟨g,0,none⟩) m cap)}:=by
   funext k
   cases k with
   |same=>rfl
   |ends=>rfl
   |began=>rfl
   |parts=>
    rw[putK_self,putK_ne _ (by simp)]
    show(⟨_,_,_,(s.parts.set i _).length,partsCells (s.parts.set i _) _ _⟩:RowC)=⟨_,_,_,s.parts.length,(partsCells s.parts _ _).set (i*15+2) _⟩
    rw[List.length_set]
    congr 1
    unfold partsCells
    rw[List.length_set]
    symm
    refine flat_set (fun k hk=>part_len hs hk _ _) hi (by omega) _ (fun k hk=> ?_) ?_
    ·rw[getD_set _ hi,if_neg hk]
     show PartS.cells _ (putV V (.ins i) _ (.phis k)) (putV V (.ins i) _ (.ins k))=_
     rw[putV_ne _ (by simp),putV_ne _ (by simpa using hk)]
    ·rw[getD_set _ hi,if_pos rfl]
     show PartS.cells _ (putV V (.ins i) _ (.phis i)) (putV V (.ins i) _ (.ins i))=_
     rw[putV_self,putV_ne _ (by simp)];rfl
   |ins j=>
    rw[putK_ne _ (by simp)]
    by_cases e:j=i
    ·subst e
     rw[putK_self,←hr1]
     show(⟨_,_,putV _ (.ins j) _ (.ins j),((s.addIns j _).part j).ins.length,insCells ((s.addIns j _).part j).ins⟩:RowC)=_
     rw[SB.addIns,part_set s hi,if_pos rfl,putV_self]
     show(⟨_,_,_,((s.part j).ins++[_]).length,insCells ((s.part j).ins++[_])⟩:RowC)=_
     rw[List.length_append,show(s.part j).ins.length+[x].length=m from hm.symm]
     congr 1
     unfold insCells
     rw[List.length_append,show[x].length=1 from rfl,List.range_succ,List.flatMap_append]
     congr 1
     ·refine flat_same fun k hk=> ?_
      rw[getD_snoc,if_neg (by omega)]
     ·simp only[List.flatMap_cons,List.flatMap_nil,List.append_nil]
      rw[getD_snoc,if_pos rfl]
    ·rw[putK_ne _ (by simpa using e)]
     show(⟨_,_,putV _ _ _ (.ins j),((s.addIns i _).part j).ins.length,insCells ((s.addIns i _).part j).ins⟩:RowC)=⟨_,_,_,(s.part j).ins.length,insCells (s.part j).ins⟩
     rw[SB.addIns,part_set s hi,if_neg e,putV_ne _ (by simpa using e)]
   |phis j=>
    rw[putK_ne _ (by simp),putK_ne _ (by simp)]
    show(⟨_,_,putV _ _ _ (.phis j),((s.addIns i _).part j).phis.length,phiCells ((s.addIns i _).part j).phis _⟩:RowC)=⟨_,_,_,(s.part j).phis.length,phiCells (s.part j).phis _⟩
    rw[SB.addIns,part_set s hi,putV_ne _ (by simp)]
    by_cases e:j=i
    ·subst e;rw[if_pos rfl];rfl
    ·rw[if_neg e];rfl
   |args j k=>
    rw[putK_ne _ (by simp),putK_ne _ (by simp)]
    show(⟨_,_,putV _ _ _ (.args j k),((s.addIns i _).arg j k).length,intsV ((s.addIns i _).arg j k)⟩:RowC)=_
    have ea:(s.addIns i x).arg j k=s.arg j k:=by
     unfold SB.arg
     rw[SB.addIns,part_set s hi]
     by_cases e:j=i
     ·subst e;rw[if_pos rfl]
     ·rw[if_neg e]
    rw[ea,putV_ne _ (by simp)];rfl
  rw[e];exact h2
 exact⟨hsb,(FrS.grown h (.ins i) o hg hrows).trans ⟨(Below.refl b w1).setCell (by have:=(h.rlt .parts (g:=gp) (by rw[hp];rfl)).1;simp;omega) _,by simp[World.setCell],fun k _ _ hv=>Below.heap_setCell _ _ _ _ (by simp;exact fun e=>hv .parts (by rw[putV_ne _ (by simp),hp,e];rfl)),fun k g' h=> .inl ⟨k,h⟩⟩⟩
theorem FrS.rows'(h:SbAt w b c s V){key:SK}{g:Nat}(hk:(V key).ownBlock=some g):∀(vs:List Value) (i:Nat) {w' :World},FrS w b V w' V→FrS w b V (w'.setCells g i vs) V
 |[],i,w',hf=>hf
 |v::vs,i,w',hf=>by
  have hb:=(h.rlt key hk).1
  refine FrS.rows' h hk vs (i+1) (w' :=w'.setCell ⟨g,i,none⟩ v) (hf.trans ⟨(Below.refl b w').setCell (by simp;omega) v,by simp[World.setCell],fun k _ _ hv=>Below.heap_setCell _ _ _ _ (by simp;exact fun e=>hv key (by rw[e];exact hk)),fun k g' h=> .inl ⟨k,h⟩⟩)
theorem setCells_far{b g:Nat}(hne:b≠g):∀(vs:List Value) (i:Nat) {w:World},(w.setCells g i vs).heap[b]? =w.heap[b]?
 |[],i,w=>rfl
 |v::vs,i,w=>by
  show((w.setCell ⟨g,i,none⟩ v).setCells g (i+1) vs).heap[b]? =_
  rw[setCells_far hne vs (i+1),Below.heap_setCell _ _ _ _ (by simpa using hne)]
theorem reg_len{l:List (List Int)}(hl:∀x∈l,x.length=12){k:Nat}(hk:k<l.length):(intsV (l.getD k [])).length=12:=by
 have:(l.getD k []).length=12:=by
  rw[gD,gE hk];exact hl _ (List.getElem_mem hk)
 unfold intsV
 rw[List.length_map,this]
theorem regs_set{l:List (List Int)}(hl:∀x∈l,x.length=12){i:Nat}(hi:i<l.length){R:List Int}(hR:R.length=12):setsL (regCells l) (i*12) (intsV R)=regCells (l.set i R):=by
 unfold regCells
 rw[List.length_set]
 refine flat_sets (fun k hk=>reg_len hl hk) hi _ (by simp[intsV,hR]) (fun k hk=> ?_) ?_
 ·rw[getD_set _ hi,if_neg hk]
 ·rw[getD_set _ hi,if_pos rfl]
theorem regs_len{l:List (List Int)}(hl:∀x∈l,x.length=12):(regCells l).length=l.length*12:=flat_len (fun _ hk=>reg_len hl hk)
theorem regs_at{l:List (List Int)}(hl:∀x∈l,x.length=12){i t:Nat}(hi:i<l.length)(ht:t<12):(regCells l)[i*12+t]? =some (.int .i64 ((l.getD i []).getD t 0)):=by
 unfold regCells
 rw[flat_at (fun k hk=>reg_len hl hk) hi ht]
 have:(l.getD i []).length=12:=by
  rw[gD,gE hi];exact hl _ (List.getElem_mem hi)
 generalize l.getD i []=R at this⊢
 unfold intsV
 rw[List.getElem?_map,gD,gE (by omega)];rfl
theorem SbAt.setEnds(h:SbAt w b c s V)(hl:∀x∈s.ends,x.length=12){i:Nat}(hi:i<s.ends.length){R:List Int}(hR:R.length=12){g n cap:Nat}(hv:V .ends= .slice (some ⟨g,0,none⟩) n cap):
 SbAt (w.setCells g (i*12) (intsV R)) b c {s with ends:=s.ends.set i R} V∧FrS w b V (w.setCells g (i*12) (intsV R)) V:=by
 have hg:=(h.rlt .ends (g:=g) (by rw[hv];rfl)).1
 have hle:(i+1)*12≤s.ends.length*12:=Nat.mul_le_mul_right 12 (by omega)
 have h1:=OwnK.sets (k:= .ends) (intsV R) (i*12) h.own (by rw[rowsOf_v];exact hv) (by
  show _≤(regCells s.ends).length
  rw[regs_len hl,show(intsV R).length=12 by simp[intsV,hR]];omega)
 refine⟨⟨by rw[setCells_far (by omega),h.box],?_⟩,FrS.rows' h (key:= .ends) (by rw[hv];rfl) _ _ (FrS.refl _ _ _)⟩
 have e:rowsOf {s with ends:=s.ends.set i R} V=putK (rowsOf s V) .ends {rowsOf s V .ends with xs:=setsL (rowsOf s V .ends).xs (i*12) (intsV R)}:=by
  funext k
  by_cases ek:k= .ends
  ·subst ek
   rw[putK_self]
   show(⟨_,_,_,(s.ends.set i R).length,regCells (s.ends.set i R)⟩:RowC)=⟨_,_,_,s.ends.length,setsL (regCells s.ends) (i*12) (intsV R)⟩
   rw[List.length_set,regs_set hl hi hR];rfl
  ·rw[putK_ne _ ek];cases k<;>first|rfl|exact absurd rfl ek
 rw[e];exact h1
theorem SbAt.setBegan(h:SbAt w b c s V)(hl:∀x∈s.began,x.length=12){i:Nat}(hi:i<s.began.length){R:List Int}(hR:R.length=12){g n cap:Nat}(hv:V .began= .slice (some ⟨g,0,none⟩) n cap):
 SbAt (w.setCells g (i*12) (intsV R)) b c {s with began:=s.began.set i R} V∧FrS w b V (w.setCells g (i*12) (intsV R)) V:=by
 have hg:=(h.rlt .began (g:=g) (by rw[hv];rfl)).1
 have hle:(i+1)*12≤s.began.length*12:=Nat.mul_le_mul_right 12 (by omega)
 have h1:=OwnK.sets (k:= .began) (intsV R) (i*12) h.own (by rw[rowsOf_v];exact hv) (by
  show _≤(regCells s.began).length
  rw[regs_len hl,show(intsV R).length=12 by simp[intsV,hR]];omega)
 refine⟨⟨by rw[setCells_far (by omega),h.box],?_⟩,FrS.rows' h (key:= .began) (by rw[hv];rfl) _ _ (FrS.refl _ _ _)⟩
 have e:rowsOf {s with began:=s.began.set i R} V=putK (rowsOf s V) .began {rowsOf s V .began with xs:=setsL (rowsOf s V .began).xs (i*12) (intsV R)}:=by
  funext k
  by_cases ek:k= .began
  ·subst ek
   rw[putK_self]
   show(⟨_,_,_,(s.began.set i R).length,regCells (s.began.set i R)⟩:RowC)=⟨_,_,_,s.began.length,setsL (regCells s.began) (i*12) (intsV R)⟩
   rw[List.length_set,regs_set hl hi hR];rfl
  ·rw[putK_ne _ ek];cases k<;>first|rfl|exact absurd rfl ek
 rw[e];exact h1
theorem SbAt.setSame(h:SbAt w b c s V){i:Nat}(hi:i<s.same.length)(x:Int){g n cap:Nat}(hv:V .same= .slice (some ⟨g,0,none⟩) n cap):
 SbAt (w.setCell ⟨g,i,none⟩ (.int .i64 x)) b c {s with same:=s.same.set i x} V∧FrS w b V (w.setCell ⟨g,i,none⟩ (.int .i64 x)) V:=by
 have hg:=(h.rlt .same (g:=g) (by rw[hv];rfl)).1
 have h1:=h.own.set .same (by rw[rowsOf_v];exact hv) i (.int .i64 x) (by show _<(intsV s.same).length;simpa [intsV] using hi)
 refine⟨⟨by rw[Below.heap_setCell _ _ _ _ (by simp;omega),h.box],?_⟩,FrS.row h (key:= .same) (by rw[hv];rfl) _ _⟩
 have e:rowsOf {s with same:=s.same.set i x} V=putK (rowsOf s V) .same {rowsOf s V .same with xs:=(rowsOf s V .same).xs.set i (.int .i64 x)}:=by
  funext k
  by_cases ek:k= .same
  ·subst ek
   rw[putK_self]
   show(⟨_,_,_,(s.same.set i x).length,intsV (s.same.set i x)⟩:RowC)=⟨_,_,_,s.same.length,(intsV s.same).set i _⟩
   rw[List.length_set]
   unfold intsV
   rw[List.map_set];rfl
  ·rw[putK_ne _ ek];cases k<;>first|rfl|exact absurd rfl ek
 rw[e];exact h1
end
theorem infoI:(Tryd.prog.info? 3).map (fun i=>(i.zero,i.size,i.bytes))=some (some (.int .i64 0),1,8):=by kernel_rfl
inductive FindN(l:List Int):Nat→Nat→Nat→Prop where
 |root {v:Nat}:l[v]? =some (v:Int)→FindN l 0 v v
 |step {k v u r:Nat}:l[v]? =some (u:Int)→u≠v→FindN l k u r→FindN l (k+1) v r
theorem FindN.lt{l:List Int}{k v r:Nat}(h:FindN l k v r):v<l.length:=by
 cases h with
 |root h=>exact(gI.1 h).1
 |step h _ _=>exact(gI.1 h).1
theorem FindN.is_root{l:List Int}{k v r:Nat}(h:FindN l k v r):l[r]? =some (r:Int):=by
 induction h with
 |root h=>exact h
 |step _ _ _ ih=>exact ih
theorem FindN.unique{l:List Int}{k k' v r r' :Nat}(h:FindN l k v r)(h' :FindN l k' v r'):k=k' ∧r=r' :=by
 induction h generalizing k' with
 |root h=>
  cases h' with
  |root _=>exact⟨rfl,rfl⟩
  |step h2 hne _=>rw[h] at h2;simp at h2;omega
 |step h hne _ ih=>
  cases h' with
  |root h2=>rw[h] at h2;simp at h2;omega
  |step h2 _ h3=>
   rw[h] at h2
   have e:=Int.ofNat_inj.1 (Option.some.inj h2)
   subst e
   obtain⟨h4,h5⟩:=ih h3
   exact⟨by omega,h5⟩
open Classical in
noncomputable def findM(l:List Int)(r:Nat)(x:Value):Nat:=if h:∃m u:Nat,x= .int .i64 (u:Int)∧FindN l m u r then h.choose else 0
theorem findM_eq{l:List Int}{r m u:Nat}(hu:FindN l m u r):findM l r (.int .i64 (u:Int))=m:=by
 have hex:∃m' u' :Nat,Value.int .i64 (u:Int)= .int .i64 (u' :Int)∧FindN l m' u' r:=⟨m,u,rfl,hu⟩
 unfold findM
 rw[dif_pos hex]
 obtain⟨u',h1,h2⟩:=hex.choose_spec
 have e:u=u' :=by simp at h1;omega
 subst e
 exact(h2.unique hu).1
set_option maxRecDepth 100000 in
set_option maxHeartbeats 8000000 in
theorem value_any(b:Nat)(c:SC)(s:SB)(V:SK→Value)(w:World)(h:SbAt w b c s V)(hn:s.same.length≤100000):
 Calls Tryd.prog 27 #[.pointer (some ⟨b,0,none⟩)] w fun e w' =>e= .returned (.int .i64 (s.same.length:Int))∧∃v,SbAt w' b c {s with same:=s.same++[(s.same.length:Int)]} (putV V .same v)∧FrS w b V w' (putV V .same v):=by
 obtain⟨i0,hi,hz0,hz1,hz2⟩:=info_parts infoI
 obtain⟨n,hsn⟩:∃n,s.same.length=n:=⟨_,rfl⟩
 have H:=Lib.hid h
 have HN:=Lib.hid hsn
 have hown:=h.own.own .same
 obtain⟨A,cap,hv,hnc,-⟩:=h.own.slice .same
 rw[rowsOf_v] at hv
 have hv' :V .same= .slice A n cap:=by rw[hv];show Value.slice A s.same.length cap=_;rw[hsn]
 have HV:=Lib.hid hv'
 have k11:w.cell? ⟨b,11,none⟩=some (.slice A n cap):=(h.cell 11).trans (by rw[←hv'];rfl)
 have kb:=frozen_block h.box
 have zb:=h.lt
 have HO:=Lib.hid (show w.ownsRow (b+1) 3 1 (.slice A n cap) n (intsV s.same) from by rw[←hv',←hsn];exact hown)
 rw[hsn] at hn⊢
 clear hsn h hown hv hnc hv'
 go_enter Tryd.func27,Tryd.ntmps27
 go_wp2_with (first|(at_builtin;go_must (refine wpList_append_lies _ rfl _ _ 24 rfl (b+1) 3 i0 _ 1 8 Tryd.underlying24 hi hz0 hz1 hz2 rfl (by decide) (.slice A n cap) n (intsV s.same) rfl (own_below HO.out ((Below.refl _ _).alloc (Nat.le_refl _) _)) ⟨w.heap.size,0,none⟩ 1 1 [.int .i64 (n:Int)] rfl rfl (cell_one_new _ _ _) (by simp[Value.oneCell']) (by omega) (by unfold maxLen;omega) (by omega) (by simp;omega) _ rfl ?_);intro g9 cap9 w9 hown9 hg9 hat9 _;have hpush:=H.out.pushSame _ (n:Int) (by rw[HV.out];exact hg9) (by rw[HN.out]) hown9 (by rw[HV.out];exact hat9) (by simp);have u9:=(cell_block ((hg9.block b (by simp;omega) (fun e=>by have:=(H.out.rlt .same (by rw[HV.out];exact e.symm)).1;omega)).trans ((Below.heap_alloc _ _ _ zb).trans H.out.box)) 11);have f9:=frozen_block ((hg9.block b (by simp;omega) (fun e=>by have:=(H.out.rlt .same (by rw[HV.out];exact e.symm)).1;omega)).trans ((Below.heap_alloc _ _ _ zb).trans H.out.box));have zb9:b<w9.heap.size:=(by have:=hg9.size;simp at this;omega);have HP:=Lib.hid hpush;clear hown9 hg9 hat9 hpush))
 go_ret
 exact⟨rfl,_,HP.out⟩
theorem SbAt.same_row{w:World}{b:Nat}{c:SC}{s:SB}{V:SK→Value}(h:SbAt w b c s V)(hn:0<s.same.length):∃g cap,V .same= .slice (some ⟨g,0,none⟩) s.same.length cap∧g<w.heap.size∧w.cell? ⟨b,11,none⟩=some (.slice (some ⟨g,0,none⟩) s.same.length cap)∧∀(i:Nat) (x:Int),s.same[i]? =some x→w.cell? ⟨g,i,none⟩=some (.int .i64 x):=by
 obtain⟨A,cap,hv,hnc,hA⟩:=h.own.slice .same
 obtain⟨g,rfl⟩:=hA hn
 have hv' :=hv
 rw[rowsOf_v] at hv
 refine⟨g,cap,hv,(h.own.free .same hv' 0).2,(h.cell 11).trans (by show some (V .same)=_;rw[hv];rfl),fun i x hx=>h.own.cell .same hv' (show(intsV s.same)[i]? =_ from by simp[intsV,hx])⟩
set_option maxRecDepth 100000 in
set_option maxHeartbeats 8000000 in
theorem find_any(b:Nat)(c:SC)(s:SB)(V:SK→Value)(w:World)(h:SbAt w b c s V){k v r:Nat}(hf:FindN s.same k v r):
 Calls Tryd.prog 60 #[.pointer (some ⟨b,0,none⟩), .int .i64 (v:Int)] w fun e w' =>e= .returned (.int .i64 (r:Int))∧w=w' :=by
 obtain⟨g,cap,-,zg,k11,hc⟩:=h.same_row (by have:=hf.lt;omega)
 have zb:=h.lt
 have HC:=Lib.hid hc
 have HF:=Lib.hid hf
 obtain⟨n,hn⟩:∃n,s.same.length=n:=⟨_,rfl⟩
 have HN:=Lib.hid hn
 rw[hn] at k11
 clear hc h hf hn
 go_enter Tryd.func60,Tryd.ntmps60
 go_wp2_with fail
 go_loop [1] (fun x=>∃m u:Nat,x= .int .i64 (u:Int)∧FindN s.same m u r) (fun x=>findM s.same r x)
 case atStart=>exact⟨k,v,rfl,HF.out⟩
 case round=>
  obtain⟨m,u,rfl,hu⟩:=hrel
  have hlt:=hu.lt
  rw[HN.out] at hlt
  have u0:(0:Int)≤u:=by omega
  have u1:(u:Int)<n:=by omega
  clear HF
  rcases hu with h|⟨h,hne,h2⟩
  ·have c0:=HC.out _ _ h
   have hb:((r:Int) !=(r:Int))=false:=by simp
   have HX:=Lib.hid h
   clear h
   go_wp2_with fail
   go_ret
   exact⟨rfl,rfl⟩
  ·next k' u' =>
   have c0:=HC.out _ _ h
   have hb:((u' :Int) !=(u:Int))=true:=by simpa using(fun e=>hne (by omega):¬(u' :Int)=u)
   have HX:=Lib.hid h2
   have HX1:=Lib.hid (FindN.step h hne h2)
   clear h h2 hne
   go_wp2_with fail
   go_round
   case rel=>exact⟨_,u',rfl,HX.out⟩
   case measure=>
    rw[findM_eq HX.out,findM_eq HX1.out]
    omega
set_option maxRecDepth 100000 in
theorem find_neg(b:Nat)(v:Int)(w:World)(hv:v<0):Calls Tryd.prog 60 #[.pointer (some ⟨b,0,none⟩), .int .i64 v] w fun e w' =>e= .returned (.int .i64 v)∧w=w' :=by
 have hg:¬(0≤v):=by omega
 have hd:decide (v≥0)=false:=by simpa using hg
 go_enter Tryd.func60,Tryd.ntmps60
 go_wp2_with fail
 go_loop [1] (fun x=>x= .int .i64 v) (fun _=>0)
 case atStart=>rfl
 case round=>
  obtain rfl:=hrel
  go_wp2_with fail
  go_ret
  exact⟨rfl,rfl⟩
theorem joins_any(r:BR)(w:World)(A:Option Addr)(n cap:Nat)(hp:r.pv= .slice A n cap):Calls Tryd.prog 55 #[.agg r.cells.toArray] w fun e w' =>e= .returned (.bool (decide ((n:Int)>1)))∧Below w.heap.size w w' :=by
 rw[show r.cells.toArray= #[.int .i64 r.fr, .int .i64 r.to,r.nv,r.pv] from rfl,hp]
 have HB:=Lib.hid ((Below.refl w.heap.size w).alloc (Nat.le_refl _) (.cells #[.int .i64 r.fr, .int .i64 r.to,r.nv, .slice A n cap] 71))
 go_enter Tryd.func55,Tryd.ntmps55
 go_wp2_with fail
 go_ret
 exact⟨rfl,HB.out⟩
def takesA(op:Int):Bool:= !(op==1||op==15)
def takesB(op:Int):Bool:= !(op==1||op==15||op==13||op==16||op==18||op==19)
theorem takes_any(op:Int)(w:World)(h1:1≤op)(h2:op≤19):Calls Tryd.prog 56 #[.int .i64 op] w fun e w' =>e= .returned (.tuple #[.bool (takesA op), .bool (takesB op)])∧w=w' :=by
 have hop:op=1∨op=2∨op=3∨op=4∨op=5∨op=6∨op=7∨op=8∨op=9∨op=10∨op=11∨op=12∨op=13∨op=14∨op=15∨op=16∨op=17∨op=18∨op=19:=by omega
 go_enter Tryd.func56,Tryd.ntmps56
 rcases hop with rfl|rfl|rfl|rfl|rfl|rfl|rfl|rfl|rfl|rfl|rfl|rfl|rfl|rfl|rfl|rfl|rfl|rfl|rfl
 all_goals
  go_wp2_with fail
  refine bodyPost_ret (by simp[results,Tryd.results56,go_sem,takesA,takesB]) rfl ⟨rfl,rfl⟩
structure SRo(w0:World)(c:SC)(p:List Fnc)(k:Nat)(F:Fnc)(bs:List BR)(O:List Nat):Prop where
 tab:Tab w0
 right:checkP p=0
 hF:p[k]? =some F
 prog:∃A cap,c.pv= .slice A p.length cap∧ProgAt w0 (.slice A p.length cap) p
 blk:∃gb B,c.bv= .slice (some ⟨gb,0,none⟩) bs.length bs.length∧BlkB w0 gb B bs
 live:∃lb,c.lv= .slice (some ⟨lb,0,none⟩) F.code.length F.code.length∧IntsB w0 lb (outL (liveL F O))
 code:CodeAt w0 c.cv F.code
 params:c.params=F.params
 regs:c.regs=F.regs
 fn:c.fn=(k:Int)
 bok:BlkOk F bs
 lok:LiveOk p F O
theorem SRo.keeps{w0 w:World}{c:SC}{p:List Fnc}{k:Nat}{F:Fnc}{bs:List BR}{O:List Nat}(h:SRo w0 c p k F bs O)(hb:Below w0.heap.size w0 w):SRo w c p k F bs O:=by
 obtain⟨A,cap,h1,h2⟩:=h.prog
 obtain⟨gb,B,h3,h4⟩:=h.blk
 obtain⟨lb,h5,h6⟩:=h.live
 exact⟨h.tab.keeps hb,h.right,h.hF,⟨A,cap,h1,h2.keeps hb⟩,⟨gb,B,h3,h4.keeps hb⟩,⟨lb,h5,h6.keeps hb⟩,h.code.keeps hb,h.params,h.regs,h.fn,h.bok,h.lok⟩
structure ES where
 R:List Int
 P:List PhiS
 S:List Int
def entStep(J:Bool)(i:Nat)(L:Nat)(E:List Int)(x:ES)(r:Nat):ES:=
 if L.testBit r=true then(if J=true then⟨x.R.set r (x.S.length:Int),x.P++[⟨(r:Int),(x.S.length:Int),[]⟩],x.S++[(x.S.length:Int)]⟩ else⟨x.R.set r (if i=0 then(r:Int) else E.getD r 0),x.P,x.S⟩) else x
def entTo(J:Bool)(i:Nat)(L:Nat)(E:List Int)(S:List Int)(n:Nat):ES:=(List.range n).foldl (entStep J i L E) ⟨List.replicate 12 (-1),[],S⟩
theorem entTo_succ(J:Bool)(i L:Nat)(E S:List Int)(n:Nat):entTo J i L E S (n+1)=entStep J i L E (entTo J i L E S n) n:=by
 unfold entTo
 rw[List.range_succ,List.foldl_append];rfl
theorem entTo_len(J:Bool)(i L:Nat)(E S:List Int):∀n,(entTo J i L E S n).R.length=12∧(entTo J i L E S n).S.length≤S.length+n∧(entTo J i L E S n).P.length≤n
 |0=>⟨by simp[entTo],by simp[entTo],by simp[entTo]⟩
 |n+1=>by
  obtain⟨h1,h2,h3⟩:=entTo_len J i L E S n
  rw[entTo_succ]
  unfold entStep
  split
  ·split
   ·exact⟨by simpa using h1,by simp;omega,by simp;omega⟩
   ·exact⟨by simpa using h1,by simp;omega,by simp;omega⟩
  ·exact⟨h1,by omega,by omega⟩
def SB.ent(s:SB)(i:Nat)(x:ES):SB:={s with same:=x.S,parts:=s.parts.set i {s.part i with phis:=(s.part i).phis++x.P}}
theorem ent_start(s:SB){i:Nat}(hi:i<s.parts.length)(J:Bool)(L:Nat)(E:List Int):s.ent i (entTo J i L E s.same 0)=s:=by
 have e:s.parts.set i {s.part i with phis:=(s.part i).phis++[]}=s.parts:=by
  rw[List.append_nil]
  apply List.ext_getElem?
  intro j
  rw[List.getElem?_set]
  by_cases e:i=j
  ·subst e
   rw[if_pos rfl,if_pos hi]
   unfold SB.part
   rw[gD,gE hi];rfl
  ·rw[if_neg e]
 show SB.mk s.same s.ends s.began (s.parts.set i {s.part i with phis:=(s.part i).phis++[]})=s
 rw[e]
theorem ent_part(s:SB){i:Nat}(hi:i<s.parts.length)(x:ES):(s.ent i x).part i={s.part i with phis:=(s.part i).phis++x.P}:=by
 have:=part_set s hi {s.part i with phis:=(s.part i).phis++x.P} i
 rw[if_pos rfl] at this
 exact this
theorem ent_phi(s:SB){i:Nat}(hi:i<s.parts.length)(x:ES)(r id:Int)(S:List Int)(R:List Int):({s.ent i x with same:=S}:SB).addPhi i ⟨r,id,[]⟩=s.ent i ⟨R,x.P++[⟨r,id,[]⟩],S⟩:=by
 unfold SB.addPhi
 show SB.mk S s.ends s.began ((s.parts.set i _).set i {(s.ent i x).part i with phis:=((s.ent i x).part i).phis++[_]})=_
 rw[ent_part s hi x,List.set_set]
 unfold SB.ent
 rw[List.append_assoc]
def initR(j:Nat):List Int:=(List.range 12).map fun t=>if t<j then -1 else 0
theorem initR_zero:initR 0=List.replicate 12 0:=by decide
theorem initR_full:initR 12=List.replicate 12 (-1):=by decide
theorem initR_set{j:Nat}(_h:j<12):(initR j).set j (-1)=initR (j+1):=by
 apply List.ext_getElem (by simp[initR])
 intro t h1 h2
 rw[List.getElem_set]
 simp only[initR,List.getElem_map,List.getElem_range]
 by_cases e:j=t
 ·subst e;rw[if_pos rfl,if_pos (by omega)]
 ·rw[if_neg e]
  by_cases h3:t<j
  ·rw[if_pos h3,if_pos (by omega)]
  ·rw[if_neg h3,if_neg (by omega)]
def boxI(R:List Int):Obj:= .cells (intsV R).toArray 40 (0,0)
theorem SbX.setI{w wr:World}{b:Nat}{c:SC}{s:SB}{V0 V:SK→Value}{ls:List (Nat×Obj)}{L:Nat}{R:List Int}(h:SbX w V0 b c wr s V ((L,boxI R)::ls))(hne:∀x∈ls,x.1≠L)(j:Nat)(v:Int):
 SbX w V0 b c (wr.setCell ⟨L,j,none⟩ (.int .i64 v)) s V ((L,boxI (R.set j v))::ls):=by
 refine h.set (.head _) j (.int .i64 v) (fun x hx=> ?_)
 rcases List.mem_cons.1 hx with rfl|hx
 ·left
  unfold boxI intsV
  rw[List.map_set]
 ·exact .inr ⟨.tail _ hx,hne x hx⟩
theorem boxI_cell{w:World}{L:Nat}{R:List Int}(h:w.heap[L]? =some (boxI R)){j:Nat}(hj:j<R.length):w.cell? ⟨L,j,none⟩=some (.int .i64 (R.getD j 0)):=by
 rw[cell_block h]
 simp[intsV,List.getD_eq_getElem?_getD,gE hj]
theorem infoPhi:(Tryd.prog.info? 88).map (fun i=>(i.zero,i.size,i.bytes))=some (some (.agg #[.int .i64 0, .int .i64 0, .slice none 0 0]),3,40):=by kernel_rfl
theorem boxI_range{w:World}{L:Nat}{R:List Int}(h:w.heap[L]? =some (boxI R)):w.rangeAt L 0 (intsV R):=range_block h
theorem boxI_info{R:List Int}(h:R.length=12):(Tryd.prog.info? 40).map (·.size)=some (intsV R).length:=by
 rw[show(intsV R).length=12 by simp[intsV,h]];kernel_rfl
theorem boxI_one(R:List Int):(intsV R).toArray.all (·.oneCell')=true:=by
 simp[intsV,Value.oneCell']
theorem SbX.setsI{w:World}{b:Nat}{c:SC}{s:SB}{V0 V:SK→Value}{k:Nat}:∀(vs:List Value) (i:Nat) {wr:World} {ls:List (Nat×Obj)} {R:Array Value} {t:TypeId},SbX w V0 b c wr s V ls→(k, .cells R t (0,0))∈ls→SbX w V0 b c (wr.setCells k i vs) s V []
 |[],i,wr,ls,R,t,h,_=>⟨h.sb,h.fr,fun x hx=>by simp at hx⟩
 |v::vs,i,wr,ls,R,t,h,hk=>by
  exact SbX.setsI vs (i+1) (h.set (ls' :=[(k, .cells (R.toList.set i v).toArray t (0,0))]) hk i v (fun x hx=>by left;simpa using hx)) (.head _)
theorem live_nat3(v r:Nat):bits .and .i64 ((v / 2^r:Nat):Int) 1=((v / 2^r % 2:Nat):Int):=by
 have h:=and_mask ((v / 2^r:Nat):Int) 1 (by omega)
 have e:(2:Int)^1-1=1:=by decide
 rw[e] at h
 rw[h]
 omega
theorem initR_get{j t:Nat}(h:t<12):(initR j).length=12∧t<(initR j).length:=by simp[initR];exact h
set_option maxRecDepth 100000 in
set_option maxHeartbeats 8000000 in
theorem enter_any(w0:World)(p:List Fnc)(k:Nat)(F:Fnc)(bs:List BR)(O:List Nat)(b:Nat)(c:SC)(s:SB)(V:SK→Value)(w:World)(ro:SRo w0 c p k F bs O)(h0:w0.heap.size≤b)(hw:Below w0.heap.size w0 w)(h:SbAt w b c s V)
 (hn:s.same.length≤90000) (hin:∀x∈s.parts,x.inn.length=12) (hen:∀x∈s.ends,x.length=12) {i:Nat} {r:BR} (hr:bs[i]? =some r) (hi:i<s.parts.length) (hpl:(s.part i).phis.length≤100)
 (J:Bool) (hJ:J=decide ((r.pl.length:Int)>1)) (E:List Int) (hE:J=false→i≠0→∃q:Nat,r.pl=[(q:Int)]∧s.ends[q]? =some E):
 Calls Tryd.prog 29 #[.pointer (some ⟨b,0,none⟩), .int .i64 (i:Int)] w fun e w' =>∃V',e= .returned (.agg (intsV (entTo J i (O.getD (hdA F i) 0) E s.same F.regs.toNat).R).toArray)∧
  SbAt w' b c (s.ent i (entTo J i (O.getD (hdA F i) 0) E s.same F.regs.toNat)) V' ∧FrS w b V w' V' ∧V' .parts=V .parts∧V' .ends=V .ends∧V' .began=V .began:=by
 have hR:=right_of ro.right
 have hFm:=gM ro.hF
 have hfo:=hR.ok.fn F hFm
 obtain⟨gb,Bb,hbv,hblk⟩:=ro.blk
 obtain⟨lb,hlv,hlive⟩:=ro.live
 obtain⟨e1,e2,e3,e4⟩:=ro.bok.at_ i r hr
 have hil:i<(hdL F).length:=by rw[←ro.bok.len];exact(gI.1 hr).1
 obtain⟨ha1,ha2⟩:=head_rch hR hFm (gM (show(hdL F)[i]? =some (hdA F i) by unfold hdA;rw[gD,gE hil];rfl))
 obtain⟨M,hM⟩:∃m,O.getD (hdA F i) 0=m:=⟨_,rfl⟩
 have hlc:=hlive.cell (outL_get (liveL_get ha1))
 rw[ha2,if_pos rfl,hM] at hlc
 obtain⟨PA,pcap,hpv,hpc⟩:=own_slice (hblk.rows.own i r true hr)
 have hpv' :r.pv= .slice PA r.pl.length pcap:=hpv
 obtain⟨a,ha⟩:∃a,hdA F i=a:=⟨_,rfl⟩
 rw[ha] at e1 hlc ha1
 obtain⟨rg,hrg⟩:∃n:Nat,F.regs=n:=⟨F.regs.toNat,by have:=hfo.r1;omega⟩
 have hrg2:rg≤12:=by have:=hfo.r2;omega
 have hrgN:F.regs.toNat=rg:=by omega
 have hcr:=ro.regs
 rw[hrg] at hcr
 rw[hM,hrgN]
 have zgb:=block_lt hblk.blk
 have zlb:=hlive.lt
 obtain⟨pn,hpn⟩:∃n,r.pl.length=n:=⟨_,rfl⟩
 have hbsl:=(gI.1 hr).1
 have hc0:w0.cell? ⟨gb,i*4,none⟩=some (.int .i64 (a:Int)):=(hblk.cell hr (j:=0) (by omega)).trans (by rw[←e1];rfl)
 have hc1:w0.cell? ⟨gb,i*4+1,none⟩=some (.int .i64 r.to):=hblk.cell hr (j:=1) (by omega)
 have hc2:w0.cell? ⟨gb,i*4+2,none⟩=some r.nv:=hblk.cell hr (j:=2) (by omega)
 have hc3:w0.cell? ⟨gb,i*4+3,none⟩=some (.slice PA pn pcap):=(hblk.cell hr (j:=3) (by omega)).trans (by rw[←hpn,←hpv'];rfl)
 have KRO:=Lib.hid (fun(W:World) (hb:Below w0.heap.size w0 W)=>(⟨(hb.cell (p:=⟨gb,_,none⟩) zgb).trans hc0,(hb.cell (p:=⟨gb,_,none⟩) zgb).trans hc1,(hb.cell (p:=⟨gb,_,none⟩) zgb).trans hc2,(hb.cell (p:=⟨gb,_,none⟩) zgb).trans hc3,(hb.cell (p:=⟨lb,_,none⟩) zlb).trans hlc,Nat.lt_of_lt_of_le zgb hb.size,Nat.lt_of_lt_of_le zlb hb.size⟩:
  W.cell? ⟨gb,i*4,none⟩=some (.int .i64 (a:Int))∧W.cell? ⟨gb,i*4+1,none⟩=some (.int .i64 r.to)∧W.cell? ⟨gb,i*4+2,none⟩=some r.nv∧W.cell? ⟨gb,i*4+3,none⟩=some (.slice PA pn pcap)∧W.cell? ⟨lb,a,none⟩=some (.int .i64 (M:Int))∧gb<W.heap.size∧lb<W.heap.size))
 obtain⟨N,hN⟩:∃n,bs.length=n:=⟨_,rfl⟩
 obtain⟨K,hK⟩:∃n,F.code.length=n:=⟨_,rfl⟩
 rw[hN] at hbv hbsl
 rw[hK] at hlv ha1
 rw[hpn] at hJ
 have KBX:=Lib.hid (fun(W:World) (s' :SB) (V' :SK→Value) (h:SbAt W b c s' V')=>(⟨(h.cell 2).trans (by show some (Value.int .i64 c.regs)=_;rw[hcr]),(h.cell 5).trans (by show some c.bv=_;rw[hbv]),(h.cell 6).trans (by show some c.lv=_;rw[hlv]),h.cell 9,h.cell 10,h.lt⟩:
  W.cell? ⟨b,2,none⟩=some (.int .i64 (rg:Int))∧W.cell? ⟨b,5,none⟩=some (.slice (some ⟨gb,0,none⟩) N N)∧W.cell? ⟨b,6,none⟩=some (.slice (some ⟨lb,0,none⟩) K K)∧W.cell? ⟨b,9,none⟩=some (V' .parts)∧W.cell? ⟨b,10,none⟩=some (V' .ends)∧b<W.heap.size))
 have HPN:=Lib.hid hpn
 have HJN:=Lib.hid (fun(W:World)=>(by rw[hJ];exact joins_any ⟨(a:Int),r.to,r.nv,r.nl, .slice PA pn pcap,r.pl⟩ W PA pn pcap rfl:Calls Tryd.prog 55 #[.agg #[.int .i64 (a:Int), .int .i64 r.to,r.nv, .slice PA pn pcap]] W fun e w' =>e= .returned (.bool J)∧Below W.heap.size W w'))
 have HPC:=Lib.hid hpc
 have hm4096:M<4096:=by
  rw[←hM,ha,gD]
  cases hO:O[a]? with
  |none=>simp
  |some m=>exact ro.lok.inv.lt m (gM hO)
 clear hJ hbv hblk hlv hlive e1 e2 e3 e4 hil ha2 hM hlc hpv hpc hpv' ha hrg hrgN hcr zgb zlb hpn hc0 hc1 hc2 hc3 hN hK hR hFm hfo
 have HRO:=Lib.hid ro
 have HW:=Lib.hid hw
 have H:=Lib.hid h
 have HIN:=Lib.hid hin
 have HEN:=Lib.hid hen
 have HE:=Lib.hid hE
 have HR:=Lib.hid hr
 have HH0:=Lib.hid h0
 have HHI:=Lib.hid hi
 have HPL:=Lib.hid hpl
 have zb:=h.lt
 clear ro hw h hin hen hE hr hi hpl h0
 go_enter Tryd.func29,Tryd.ntmps29
 go_wp2_with fail
 have HX0:Hid (SbX w V b c ((w.alloc (.cells #[.int .i64 0, .int .i64 0, .int .i64 0, .int .i64 0, .int .i64 0, .int .i64 0, .int .i64 0, .int .i64 0, .int .i64 0, .int .i64 0, .int .i64 0, .int .i64 0] 40)).alloc (.cells #[.int .i64 0, .int .i64 0, .int .i64 0, .int .i64 0, .int .i64 0, .int .i64 0, .int .i64 0, .int .i64 0, .int .i64 0, .int .i64 0, .int .i64 0, .int .i64 0] 40)) s V [(w.heap.size+1,boxI (initR 0)),(w.heap.size,boxI (initR 0))]):=Lib.hid (by
  have h:=((SbX.start H.out).push (boxI (initR 0))).push (boxI (initR 0))
  have e:(w.alloc (boxI (initR 0))).heap.size=w.heap.size+1:=by simp
  rw[e] at h
  exact h)
 obtain⟨w2,hw2⟩:∃W,((w.alloc (.cells #[.int .i64 0, .int .i64 0, .int .i64 0, .int .i64 0, .int .i64 0, .int .i64 0, .int .i64 0, .int .i64 0, .int .i64 0, .int .i64 0, .int .i64 0, .int .i64 0] 40)).alloc (.cells #[.int .i64 0, .int .i64 0, .int .i64 0, .int .i64 0, .int .i64 0, .int .i64 0, .int .i64 0, .int .i64 0, .int .i64 0, .int .i64 0, .int .i64 0, .int .i64 0] 40))=W:=⟨_,rfl⟩
 rw[hw2] at HX0⊢
 clear hw2
 go_loopw [6,9] (fun _ v9 wr=>∃j:Nat,j≤12∧v9= .int .i64 (j:Int)∧SbX w V b c wr s V [(w.heap.size+1,boxI (initR j)),(w.heap.size,boxI (initR 0))]) (fun _ v9 _=>12-(intOf v9).toNat)
 case atStart=>exact⟨0,by omega,rfl,HX0.out⟩
 case round=>
  obtain⟨j,hj,rfl,hX⟩:=hrel
  have HX:=Lib.hid hX
  clear HX0
  by_cases hj12:j=12
  ·subst hj12
   rw[initR_full] at HX
   rw[show((12:Nat):Int)=12 from rfl]
   obtain⟨w3,hw3⟩:∃wo:World,wo=wr:=⟨_,rfl⟩
   subst hw3
   obtain⟨A,cp,hvp,-,hpA⟩:=hX.sb.own.slice .parts
   rw[rowsOf_v] at hvp
   obtain⟨gp,rfl⟩:=hpA (by show 0<s.parts.length;have:=HHI.out;omega)
   obtain⟨NP,hNP⟩:∃n,s.parts.length=n:=⟨_,rfl⟩
   have hvp' :V .parts= .slice (some ⟨gp,0,none⟩) NP cp:=by rw[hvp];show Value.slice _ s.parts.length cp=_;rw[hNP]
   have HVP:=Lib.hid hvp'
   have HNP:=Lib.hid hNP
   obtain⟨k2,k5,k6,k9,k10,zb⟩:=KBX.out _ _ _ hX.sb
   rw[hvp'] at k9
   have hi1:i<NP:=by rw[←hNP];exact HHI.out
   have hi2:(i:Int)<NP:=by omega
   have hi3:(0:Int)≤i:=by omega
   have zgp:=(hX.sb.rlt .parts (g:=gp) (by rw[hvp'];rfl)).2
   have HX3:Hid (SbX w V b c w3 (s.ent i (entTo J i M E s.same 0)) V [(w.heap.size+1,boxI (entTo J i M E s.same 0).R),(w.heap.size,boxI (initR 0))]):=Lib.hid (by rw[ent_start s HHI.out];exact HX.out)
   clear hX hvp hvp' hNP k5 k6 k10 hpA
   go_wp2_with fail
   clear k2 k9 zb zgp
   go_loopw [8,27] (fun _ v27 wr=>∃(q:Nat) (V' :SK→Value),q≤rg∧v27= .int .i64 (q:Int)∧SbX w V b c wr (s.ent i (entTo J i M E s.same q)) V' [(w.heap.size+1,boxI (entTo J i M E s.same q).R),(w.heap.size,boxI (initR 0))]∧V' .parts=V .parts∧V' .ends=V .ends∧V' .began=V .began) (fun _ v27 _=>rg-(intOf v27).toNat)
   case atStart=>exact⟨0,V,by omega,rfl,HX3.out,rfl,rfl,rfl⟩
   case round=>
    obtain⟨q,V',hq,rfl,hX,hv1,hv2,hv3⟩:=hrel
    clear HX3 HX
    have HV:=Lib.hid (show V' .parts=V .parts∧V' .ends=V .ends∧V' .began=V .began from⟨hv1,hv2,hv3⟩)
    obtain⟨hl1,hl2,hl3⟩:=entTo_len J i M E s.same q
    have HLE:=Lib.hid (entTo_succ J i M E s.same q)
    have hbw:Below w0.heap.size w0 wr:=HW.out.trans (hX.fr.below.mono HH0.out)
    obtain⟨X,hXe⟩:∃X,entTo J i M E s.same q=X:=⟨_,rfl⟩
    have HXE:=Lib.hid hXe
    rw[hXe] at hX hl1 hl2 hl3 HLE
    have HX:=Lib.hid hX
    have HL1:=Lib.hid hl1
    clear hXe hv1 hv2 hv3
    by_cases hqr:q=rg
    ·subst hqr
     have HBX:=Lib.hid (hX.box (.head _))
     have HB0:=Lib.hid (hX.box (.tail _ (.head _)))
     have HFIN:=Lib.hid (hX.setsI (k:=w.heap.size) (intsV X.R) 0 (.tail _ (.head _)))
     clear hX hbw hl1 hl2 hl3 HLE
     go_wp2_with (first|(refine wpList_load_mid (by rfl) 40 _ (by rfl) (w.heap.size+1) 0 (by rfl) (intsV X.R) _ (boxI_range HBX.out) Tryd.underlying40 (by rfl) (boxI_info HL1.out) ?_)|(refine wpList_store_mid (by rfl) 40 _ _ (by rfl) w.heap.size 0 (intsV X.R).toArray (by rfl) (by rfl) (there_block (n:=(intsV X.R).toArray.size) HB0.out (by simp[intsV,HL1.out,initR])) (by simpa using boxI_info HL1.out) (boxI_one X.R) ?_))
     have hrd:=run_loadVar_mid (P:=Tryd.prog) _ _ _ 40 (intsV X.R) _ (World.rangeAt_setCells_same wr w.heap.size 0 (intsV X.R) (there_block (n:=(intsV X.R).length) HB0.out (by simp[intsV,HL1.out,initR]))) Tryd.underlying40 (by rfl) (boxI_info HL1.out)
     refine bodyPost_ret (v:= .agg (intsV X.R).toArray) (results_cell1 Tryd.results29 _ _ _ _ _ ?_ hrd) rfl ⟨V',?_,?_⟩
     ·rfl
     ·rw[HXE.out]
     ·rw[HXE.out]
      exact⟨HFIN.out.sb,HFIN.out.fr,HV.out.1,HV.out.2.1,HV.out.2.2⟩
    ·have q1:(q:Int)<rg:=by omega
     have q2:(0:Int)≤q:=by omega
     have q3:q<12:=by omega
     obtain⟨k2,k5,k6,k9,k10,zb⟩:=KBX.out _ _ _ hX.sb
     obtain⟨d0,d1,d2,d3,d4,zgb,zlb⟩:=KRO.out _ hbw
     have hi1' :(i:Int)<N:=by omega
     have ha1' :(a:Int)<K:=by omega
     have ha0:(0:Int)≤a:=by omega
     have hdv:(M:Int) / 2^q=((M / 2^q:Nat):Int):=by push_cast;rfl
     have hba:=live_nat3 M q
     have htb:M.testBit q=decide (M / 2^q % 2=1):=Nat.testBit_eq_decide_div_mod_eq
     obtain⟨d,hd⟩:∃d,M / 2^q=d:=⟨_,rfl⟩
     rw[hd] at hdv hba htb
     have HBW:=Lib.hid hbw
     have hzL:w.heap.size<wr.heap.size:=Nat.lt_of_lt_of_le (block_lt (hX.box (.tail _ (.head _)))) (Nat.le_refl _)
     clear hX hbw hd
     by_cases hbit:d % 2=1
     ·have hba1:bits .and .i64 (d:Int) 1=1:=by rw[hba,hbit];rfl
      have hno:M.testBit q=true:=by rw[htb,hbit];rfl
      clear hba htb hbit
      have HTB:=Lib.hid hno
      go_wp2_with fail
      go_quiet (fail)
      obtain⟨w4,hw4⟩:∃W,wr.drewN nq=W:=⟨_,rfl⟩
      have HX4:Hid (SbX w V b c w4 (s.ent i X) V' [(w.heap.size+1,boxI X.R),(w.heap.size,boxI (initR 0))]):=Lib.hid (hw4▸HX.out.keeps (below_drewN (Below.refl _ _) _))
      have HBW4:Hid (Below w0.heap.size w0 w4):=Lib.hid (hw4▸below_drewN HBW.out _)
      rw[hw4]
      clear hw4 nq k2 k5 k6 k9 k10 zb d0 d1 d2 d3 d4 zgb zlb hdv hba1 hno hzL
      obtain⟨k2,k5,k6,k9,k10,zb⟩:=KBX.out _ _ _ HX4.out.sb
      obtain⟨d0,d1,d2,d3,d4,zgb,zlb⟩:=KRO.out _ HBW4.out
      clear k2 k6 k9 k10 d4 zlb
      cases J with
      |true=>
       have HNX0:=Lib.hid (show entTo true i M E s.same (q+1)=⟨X.R.set q (X.S.length:Int),X.P++[⟨(q:Int),(X.S.length:Int),[]⟩],X.S++[(X.S.length:Int)]⟩ by rw[HLE.out];unfold entStep;rw[if_pos HTB.out,if_pos rfl])
       obtain⟨n,hn'⟩:∃n,X.S.length=n:=⟨_,rfl⟩
       have HNX:Hid (entTo true i M E s.same (q+1)=⟨X.R.set q (n:Int),X.P++[⟨(q:Int),(n:Int),[]⟩],X.S++[(n:Int)]⟩):=Lib.hid (by rw[←hn'];exact HNX0.out)
       have HVAL:Hid (∀W,SbAt W b c (s.ent i X) V' →Calls Tryd.prog 27 #[.pointer (some ⟨b,0,none⟩)] W fun e w' =>e= .returned (.int .i64 (n:Int))∧∃v,SbAt w' b c {s.ent i X with same:=X.S++[(n:Int)]} (putV V' .same v)∧FrS W b V' w' (putV V' .same v)):=Lib.hid (fun W h=>by rw[←hn'];exact value_any b c (s.ent i X) V' W h (by show X.S.length≤100000;omega))
       have q4:(q:Int)<12:=by omega
       clear hn' HNX0 HLE
       go_wp2_with (first|(go_at_call 55;go_must (refine(HJN.out _).mono ?_;rintro e w5 ⟨rfl,hb5⟩;have HX5:=Lib.hid (HX4.out.keeps hb5);have HBW5:=Lib.hid (HBW4.out.trans (hb5.mono HBW4.out.size));clear hb5 k5 d0 d1 d2 d3))|(go_at_call 27;go_must (refine(HVAL.out _ HX5.out.sb).mono ?_;rintro e w6 ⟨rfl,v6,hs6,hf6⟩;have HX6:=Lib.hid (HX5.out.call hs6 hf6);have hbL:=HX6.out.box (.head _);have cbL:=boxI_cell hbL (j:=q) (by rw[HL1.out];exact q3);have fbL:=frozen_block hbL;have zL:=block_lt hbL;clear hbL hs6 hf6)))
       obtain⟨w7,hw7⟩:∃W,w6.setCell ⟨w.heap.size+1,q,none⟩ (.int .i64 (n:Int))=W:=⟨_,rfl⟩
       have HX7:Hid (SbX w V b c w7 ({s.ent i X with same:=X.S++[(n:Int)]}:SB) (putV V' .same v6) [(w.heap.size+1,boxI (X.R.set q (n:Int))),(w.heap.size,boxI (initR 0))]):=Lib.hid (hw7▸HX6.out.setI (fun x hx=>by simp at hx;subst hx;simp) q (n:Int))
       rw[hw7]
       clear hw7 cbL fbL zL HX6
       have hbL:=HX7.out.box (.head _)
       have cL7:=boxI_cell hbL (j:=q) (by simp[HL1.out];exact q3)
       rw[show(X.R.set q (n:Int)).getD q 0=(n:Int) by rw[gD,List.getElem?_set_self (by rw[HL1.out];exact q3)];rfl] at cL7
       have zL7:=block_lt hbL
       have hvp7:(putV V' .same v6) .parts= .slice (some ⟨gp,0,none⟩) NP cp:=by rw[putV_ne _ (by simp),HV.out.1,HVP.out]
       have HVP7:=Lib.hid hvp7
       have hin7:∀x∈({s.ent i X with same:=X.S++[(n:Int)]}:SB).parts,x.inn.length=12:=fun x hx=>by
        rcases List.mem_or_eq_of_mem_set hx with h|h
        ·exact HIN.out x h
        ·rw[h]
         show(s.part i).inn.length=12
         unfold SB.part
         rw[gD,gE HHI.out]
         exact HIN.out _ (List.getElem_mem HHI.out)
       have hpl7:({s.ent i X with same:=X.S++[(n:Int)]}:SB).parts.length=NP:=by show(s.parts.set i _).length=NP;rw[List.length_set,HNP.out]
       have HIN7:=Lib.hid hin7
       have HPL7:=Lib.hid hpl7
       obtain⟨PH,cph,hvh,-,-⟩:=HX7.out.sb.own.slice (.phis i)
       rw[rowsOf_v] at hvh
       obtain⟨np,hnp⟩:∃m,(({s.ent i X with same:=X.S++[(n:Int)]}:SB).part i).phis.length=m:=⟨_,rfl⟩
       have hvh' :(putV V' .same v6) (.phis i)= .slice PH np cph:=by rw[hvh];show Value.slice PH (({s.ent i X with same:=X.S++[(n:Int)]}:SB).part i).phis.length cph=_;rw[hnp]
       have HVH:=Lib.hid hvh'
       have HNPH:=Lib.hid hnp
       have hnp2:np≤200:=by
        have h1:(({s.ent i X with same:=X.S++[(n:Int)]}:SB).part i).phis.length=(s.part i).phis.length+X.P.length:=by
         have:=ent_part s HHI.out X
         show((s.ent i X).part i).phis.length=_
         rw[this];simp
        have:=HPL.out
        omega
       have c15:w7.cell? ⟨gp,i*15+1,none⟩=some (.slice PH np cph):=by
        have h:=HX7.out.sb.own.cell .parts (by rw[rowsOf_v];exact hvp7) (i:=i*15+1) (u:=(putV V' .same v6) (.phis i)) (by
         show(partsCells ({s.ent i X with same:=X.S++[(n:Int)]}:SB).parts _ _)[i*15+1]? =_
         unfold partsCells
         rw[flat_at (fun k hk=>part_len hin7 hk _ _) (by rw[hpl7];exact hi1) (by omega)]
         rfl)
        rw[h,hvh']
       have zgp7:=(HX7.out.sb.rlt .parts (g:=gp) (by rw[hvp7];rfl)).2
       have HOW:Hid (w7.ownsRow (b+1) 88 3 (.slice PH np cph) np (phiCells (({s.ent i X with same:=X.S++[(n:Int)]}:SB).part i).phis (fun k=>(putV V' .same v6) (.args i k)))):=Lib.hid (by
        have h:=HX7.out.sb.own.own (.phis i)
        rw[←hvh',←hnp]
        exact h)
       have zb7:=HX7.out.sb.lt
       have HKL:=Lib.hid (fun(W:World) (hb:Below w7.heap.size w7 W)=>(hb.cell (p:=⟨w.heap.size+1,q,none⟩) zL7).trans cL7)
       obtain⟨i0,hi,hz0,hz1,hz2⟩:=info_parts infoPhi
       clear hbL hvp7 hin7 hpl7 hvh hvh' hnp
       refine wp_region_held_drew (S:=fun w' =>w'.cell? ⟨w.heap.size+1,q,none⟩=some (.int .i64 (n:Int))) (by kernel_rfl) (HKL.out _ (Below.refl _ _).drew) (fun hHeld=> ?_)
       clear cL7
       refine wpAnyH_take (i:=0) (v:= .pointer (some ⟨gp,i*15,none⟩)) rfl (by kernel_rfl) (by kernel_rfl) (by kernel_rfl) (fun _ _ _ h=>h) (Or.inl ⟨by rfl,?_⟩) hHeld ?_
       ·intro w hSw
        have p0:=hSw
        simp only[qg]
        go_simp
       simp only[Act.put,qs]
       refine wpAnyH_take (i:=1) (v:= .pointer (some ⟨gp,i*15,none⟩)) rfl (by kernel_rfl) (by kernel_rfl) (by kernel_rfl) (fun _ _ _ h=>h) (Or.inl ⟨by rfl,?_⟩) hHeld ?_
       ·intro w hSw
        have p0:=hSw
        simp only[qg]
        go_simp
       simp only[Act.put,qs]
       refine wpAnyH_take (i:=2) (v:= .pointer (some ⟨gp,i*15,none⟩)) rfl (by kernel_rfl) (by kernel_rfl) (by kernel_rfl) (fun _ _ _ h=>h) (Or.inl ⟨by rfl,?_⟩) hHeld ?_
       ·intro w hSw
        have p0:=hSw
        simp only[qg]
        go_simp
       simp only[Act.put,qs]
       refine wpAnyH_take (i:=3) (v:= .pointer (some ⟨gp,i*15+1,none⟩)) rfl (by kernel_rfl) (by kernel_rfl) (by kernel_rfl) (fun _ _ _ h=>h) (Or.inl ⟨by rfl,?_⟩) hHeld ?_
       ·intro w hSw
        have p0:=hSw
        simp only[qg]
        go_simp
       simp only[Act.put,qs]
       refine wpAnyH_take (i:=5) (v:= .int .i64 (q:Int)) rfl (by kernel_rfl) (by kernel_rfl) (by kernel_rfl) (fun _ _ _ h=>h) (Or.inl ⟨by rfl,?_⟩) hHeld ?_
       ·intro w hSw
        have p0:=hSw
        simp only[qg]
        go_simp
       simp only[Act.put,qs]
       refine wpAnyH_take (i:=6) (v:= .int .i64 (q:Int)) rfl (by kernel_rfl) (by kernel_rfl) (by kernel_rfl) (fun _ _ _ h=>h) (Or.inl ⟨by rfl,?_⟩) hHeld ?_
       ·intro w hSw
        have p0:=hSw
        simp only[qg]
        go_simp
       simp only[Act.put,qs]
       refine wpAnyH_take (i:=7) (v:= .pointer (some ⟨w.heap.size+1,q,none⟩)) rfl (by kernel_rfl) (by kernel_rfl) (by kernel_rfl) (fun _ _ _ h=>h) (Or.inl ⟨by rfl,?_⟩) hHeld ?_
       ·intro w hSw
        have p0:=hSw
        simp only[qg]
        go_simp
       simp only[Act.put,qs]
       refine wpAnyH_take (i:=8) (v:= .int .i64 (n:Int)) rfl (by kernel_rfl) (by kernel_rfl) (by kernel_rfl) (fun _ _ _ h=>h) (Or.inl ⟨by rfl,?_⟩) hHeld ?_
       ·intro w hSw
        have p0:=hSw
        simp only[qg]
        go_simp
       simp only[Act.put,qs]
       refine wpAnyH_take (i:=9) (v:= .agg #[.int .i64 (q:Int), .int .i64 (n:Int), .slice none 0 0]) rfl (by kernel_rfl) (by kernel_rfl) (by kernel_rfl) (fun _ _ _ h=>h) (Or.inl ⟨by rfl,?_⟩) hHeld ?_
       ·intro w hSw
        have p0:=hSw
        simp only[qg]
        go_simp
       simp only[Act.put,qs]
       refine wpAnyH_ready (rs:=[4,10]) (by kernel_rfl) (by simp) ?_
       refine AllReadyH.cons rfl (fun K hK=> ?_) (AllReadyH.cons rfl (fun K hK=> ?_) (AllReadyH.nil))
       ·simp only[qg]
        go_simp
        refine hK.out _ _ hHeld (fun hHeld=> ?_)
        clear hK K
        refine wpAnyH_ready (rs:=[10]) (by kernel_rfl) (by simp) ?_
        refine AllReadyH.cons rfl (fun K hK=> ?_) AllReadyH.nil
        simp only[qg]
        go_simp
        refine hK.out _ _ (HKL.out _ ((Below.refl w7.heap.size w7).drew.alloc (Nat.le_refl _) _)) (fun hHeld=> ?_)
        clear hK K
        refine wpAnyH_ready (rs:=[11]) (by kernel_rfl) (by simp) ?_
        refine AllReadyH.cons rfl (fun K hK=> ?_) AllReadyH.nil
        simp only[qg]
        rw[if_pos (by rfl)]
        refine wp_append_lies (w7.drew.alloc (.cells #[.int .i64 (q:Int), .int .i64 (n:Int), .slice none 0 0] 88)) _ _ 72 (by rfl) (b+1) 88 i0 _ 3 40 Tryd.underlying72 hi hz0 hz1 hz2 rfl (by decide) (.slice PH np cph) np (phiCells (({s.ent i X with same:=X.S++[(n:Int)]}:SB).part i).phis (fun k=>(putV V' .same v6) (.args i k))) (by rfl) (own_below HOW.out ((Below.refl _ _).drew.alloc (Nat.le_refl _) _)) ⟨w7.heap.size,0,none⟩ 1 1 [.int .i64 (q:Int), .int .i64 (n:Int), .slice none 0 0] (by rfl) rfl (World.news_of_block (heap_alloc_new w7.drew _)) (by simp[Value.oneCell']) (by decide) (by unfold maxLen;omega) (by omega) (by show b+1≤(w7.drew.alloc _).heap.size;simp;omega) _ rfl ?_
        intro gg cc wa hown hgr hgg hgl
        have HP9:=Lib.hid ((HX7.out.sb.keeps (Below.refl _ _).drew).pushPhi HIN7.out (by rw[HPL7.out];exact hi1) _ (q:Int) (n:Int) HVP7.out (by rw[HVH.out];exact hgr) (by rw[HNPH.out]) hown (by rw[HVH.out];exact hgg) (by simp))
        have hne:=HX7.out.sb.own.ap .parts (.phis i) (by simp) gp (by rw[rowsOf_v,HVP7.out];rfl)
        rw[rowsOf_v] at hne
        have hblk:=hgr.block gp (by simp;omega) (fun e=>hne (by rw[HVH.out];exact e.symm))
        have cga:wa.cell? ⟨gp,i*15+1,none⟩=some (.slice PH np cph):=(World.cell?_of_block hblk).trans ((((Below.refl w7.heap.size w7).drew.alloc (Nat.le_refl _) _).cell (p:=⟨gp,_,none⟩) zgp7).trans c15)
        have fga:wa.frozen? ⟨gp,i*15+1,none⟩=false:=(World.frozen?_of_block hblk).trans ((((Below.refl w7.heap.size w7).drew.alloc (Nat.le_refl _) _).frozen (p:=⟨gp,_,none⟩) zgp7).trans (HX7.out.sb.own.free .parts (by rw[rowsOf_v];exact HVP7.out) _).1)
        have zga:gp<wa.heap.size:=by have:=hgr.size;simp at this;omega
        have hla:wa.cell? ⟨w.heap.size+1,q,none⟩=some (.int .i64 (n:Int)):=(World.cell?_of_block (hgr.block (w.heap.size+1) (by simp;omega) (fun e=>(HX7.out.loc _ (.head _)).2.2.2 (.phis i) (by rw[HVH.out];exact e.symm)))).trans (HKL.out _ ((Below.refl w7.heap.size w7).drew.alloc (Nat.le_refl _) _))
        have HLA:=Lib.hid hla
        have HNG:Hid ((⟨gp,i*15+1,none⟩:Addr).block≠(⟨w.heap.size+1,q,none⟩:Addr).block):=Lib.hid (fun e=>(HX7.out.loc _ (.head _)).2.2.2 .parts (by rw[HVP7.out];exact congrArg some e))
        refine hK.out _ _ hla (fun hHeld=> ?_)
        clear hK K hown hgr hgg hgl hne hblk hla
        refine wpAnyH_take (i:=12) (v:= .pointer (some ⟨gp,i*15,none⟩)) rfl (by kernel_rfl) (by kernel_rfl) (by kernel_rfl) (fun _ _ _ h=>h) (Or.inl ⟨by rfl,?_⟩) hHeld ?_
        ·intro w hSw
         have p0:=hSw
         simp only[qg]
         go_simp
        simp only[Act.put,qs]
        refine wpAnyH_take (i:=13) (v:= .pointer (some ⟨gp,i*15+1,none⟩)) rfl (by kernel_rfl) (by kernel_rfl) (by kernel_rfl) (fun _ _ _ h=>h) (Or.inl ⟨by rfl,?_⟩) hHeld ?_
        ·intro w hSw
         have p0:=hSw
         simp only[qg]
         go_simp
        simp only[Act.put,qs]
        refine wpAnyH_ready (rs:=[14]) (by kernel_rfl) (by simp) ?_
        refine AllReadyH.cons rfl (fun K hK=> ?_) AllReadyH.nil
        simp only[qg]
        go_simp
        refine hK.out _ _ ((World.cell?_setCell_far _ _ _ _ HNG.out).trans HLA.out) (fun hHeld=> ?_)
        clear hK K cga fga
        clear hHeld
        refine wpAnyH_done (by kernel_rfl) ?_ _
        go_wp2_with fail
        go_roundw
        case rel=>exact⟨q+1,_,by omega,by go_num,by rw[HNX.out,←ent_phi s HHI.out X (q:Int) (n:Int) (X.S++[(n:Int)]) (X.R.set q (n:Int))];exact(HX7.out.keeps (Below.refl _ _).drew).call HP9.out.1 HP9.out.2,by rw[putV_ne _ (by simp),putV_ne _ (by simp),putV_ne _ (by simp)];exact HV.out.1,by rw[putV_ne _ (by simp),putV_ne _ (by simp),putV_ne _ (by simp)];exact HV.out.2.1,by rw[putV_ne _ (by simp),putV_ne _ (by simp),putV_ne _ (by simp)];exact HV.out.2.2⟩
        case measure=>simp[intOf];omega
       ·simp only[qg]
        go_simp
        refine hK.out _ _ (HKL.out _ ((Below.refl w7.heap.size w7).drew.alloc (Nat.le_refl _) _)) (fun hHeld=> ?_)
        clear hK K
        refine wpAnyH_ready (rs:=[4]) (by kernel_rfl) (by simp) ?_
        refine AllReadyH.cons rfl (fun K hK=> ?_) AllReadyH.nil
        simp only[qg]
        go_simp
        refine hK.out _ _ hHeld (fun hHeld=> ?_)
        clear hK K
        refine wpAnyH_ready (rs:=[11]) (by kernel_rfl) (by simp) ?_
        refine AllReadyH.cons rfl (fun K hK=> ?_) AllReadyH.nil
        simp only[qg]
        rw[if_pos (by rfl)]
        refine wp_append_lies (w7.drew.alloc (.cells #[.int .i64 (q:Int), .int .i64 (n:Int), .slice none 0 0] 88)) _ _ 72 (by rfl) (b+1) 88 i0 _ 3 40 Tryd.underlying72 hi hz0 hz1 hz2 rfl (by decide) (.slice PH np cph) np (phiCells (({s.ent i X with same:=X.S++[(n:Int)]}:SB).part i).phis (fun k=>(putV V' .same v6) (.args i k))) (by rfl) (own_below HOW.out ((Below.refl _ _).drew.alloc (Nat.le_refl _) _)) ⟨w7.heap.size,0,none⟩ 1 1 [.int .i64 (q:Int), .int .i64 (n:Int), .slice none 0 0] (by rfl) rfl (World.news_of_block (heap_alloc_new w7.drew _)) (by simp[Value.oneCell']) (by decide) (by unfold maxLen;omega) (by omega) (by show b+1≤(w7.drew.alloc _).heap.size;simp;omega) _ rfl ?_
        intro gg cc wa hown hgr hgg hgl
        have HP9:=Lib.hid ((HX7.out.sb.keeps (Below.refl _ _).drew).pushPhi HIN7.out (by rw[HPL7.out];exact hi1) _ (q:Int) (n:Int) HVP7.out (by rw[HVH.out];exact hgr) (by rw[HNPH.out]) hown (by rw[HVH.out];exact hgg) (by simp))
        have hne:=HX7.out.sb.own.ap .parts (.phis i) (by simp) gp (by rw[rowsOf_v,HVP7.out];rfl)
        rw[rowsOf_v] at hne
        have hblk:=hgr.block gp (by simp;omega) (fun e=>hne (by rw[HVH.out];exact e.symm))
        have cga:wa.cell? ⟨gp,i*15+1,none⟩=some (.slice PH np cph):=(World.cell?_of_block hblk).trans ((((Below.refl w7.heap.size w7).drew.alloc (Nat.le_refl _) _).cell (p:=⟨gp,_,none⟩) zgp7).trans c15)
        have fga:wa.frozen? ⟨gp,i*15+1,none⟩=false:=(World.frozen?_of_block hblk).trans ((((Below.refl w7.heap.size w7).drew.alloc (Nat.le_refl _) _).frozen (p:=⟨gp,_,none⟩) zgp7).trans (HX7.out.sb.own.free .parts (by rw[rowsOf_v];exact HVP7.out) _).1)
        have zga:gp<wa.heap.size:=by have:=hgr.size;simp at this;omega
        have hla:wa.cell? ⟨w.heap.size+1,q,none⟩=some (.int .i64 (n:Int)):=(World.cell?_of_block (hgr.block (w.heap.size+1) (by simp;omega) (fun e=>(HX7.out.loc _ (.head _)).2.2.2 (.phis i) (by rw[HVH.out];exact e.symm)))).trans (HKL.out _ ((Below.refl w7.heap.size w7).drew.alloc (Nat.le_refl _) _))
        have HLA:=Lib.hid hla
        have HNG:Hid ((⟨gp,i*15+1,none⟩:Addr).block≠(⟨w.heap.size+1,q,none⟩:Addr).block):=Lib.hid (fun e=>(HX7.out.loc _ (.head _)).2.2.2 .parts (by rw[HVP7.out];exact congrArg some e))
        refine hK.out _ _ hla (fun hHeld=> ?_)
        clear hK K hown hgr hgg hgl hne hblk hla
        refine wpAnyH_take (i:=12) (v:= .pointer (some ⟨gp,i*15,none⟩)) rfl (by kernel_rfl) (by kernel_rfl) (by kernel_rfl) (fun _ _ _ h=>h) (Or.inl ⟨by rfl,?_⟩) hHeld ?_
        ·intro w hSw
         have p0:=hSw
         simp only[qg]
         go_simp
        simp only[Act.put,qs]
        refine wpAnyH_take (i:=13) (v:= .pointer (some ⟨gp,i*15+1,none⟩)) rfl (by kernel_rfl) (by kernel_rfl) (by kernel_rfl) (fun _ _ _ h=>h) (Or.inl ⟨by rfl,?_⟩) hHeld ?_
        ·intro w hSw
         have p0:=hSw
         simp only[qg]
         go_simp
        simp only[Act.put,qs]
        refine wpAnyH_ready (rs:=[14]) (by kernel_rfl) (by simp) ?_
        refine AllReadyH.cons rfl (fun K hK=> ?_) AllReadyH.nil
        simp only[qg]
        go_simp
        refine hK.out _ _ ((World.cell?_setCell_far _ _ _ _ HNG.out).trans HLA.out) (fun hHeld=> ?_)
        clear hK K cga fga
        clear hHeld
        refine wpAnyH_done (by kernel_rfl) ?_ _
        go_wp2_with fail
        go_roundw
        case rel=>exact⟨q+1,_,by omega,by go_num,by rw[HNX.out,←ent_phi s HHI.out X (q:Int) (n:Int) (X.S++[(n:Int)]) (X.R.set q (n:Int))];exact(HX7.out.keeps (Below.refl _ _).drew).call HP9.out.1 HP9.out.2,by rw[putV_ne _ (by simp),putV_ne _ (by simp),putV_ne _ (by simp)];exact HV.out.1,by rw[putV_ne _ (by simp),putV_ne _ (by simp),putV_ne _ (by simp)];exact HV.out.2.1,by rw[putV_ne _ (by simp),putV_ne _ (by simp),putV_ne _ (by simp)];exact HV.out.2.2⟩
        case measure=>simp[intOf];omega
      |false=>
       by_cases hi0:i=0
       ·skip
        have HNX:=Lib.hid (show entTo false i M E s.same (q+1)=⟨X.R.set q (q:Int),X.P,X.S⟩ by rw[HLE.out];unfold entStep;rw[if_pos HTB.out,if_neg (by decide),if_pos hi0])
        have hib:((i:Int)==0)=true:=by simpa using hi0
        clear hi0
        go_wp2_with (first|(go_at_call 55;go_must (refine(HJN.out _).mono ?_;rintro e w5 ⟨rfl,hb5⟩;have HX5:=Lib.hid (HX4.out.keeps hb5);have HBW5:=Lib.hid (HBW4.out.trans (hb5.mono HBW4.out.size));clear hb5 k5 d0 d1 d2 d3 zgb zb;have hbL:=HX5.out.box (.head _);have cbL:=boxI_cell hbL (j:=q) (by rw[HL1.out];exact q3);have fbL:=frozen_block hbL;have zL:=block_lt hbL;clear hbL)))
        go_roundw
        case rel=>exact⟨q+1,V',by omega,by go_num,by rw[HNX.out];exact HX5.out.setI (fun x hx=>by simp at hx;subst hx;simp) q (q:Int),HV.out.1,HV.out.2.1,HV.out.2.2⟩
        case measure=>simp[intOf];omega
       ·skip
        obtain⟨q',hpl',hEq⟩:=HE.out rfl hi0
        have hib:((i:Int)==0)=false:=by simpa using hi0
        have HNX:=Lib.hid (show entTo false i M E s.same (q+1)=⟨X.R.set q (E.getD q 0),X.P,X.S⟩ by rw[HLE.out];unfold entStep;rw[if_pos HTB.out,if_neg (by decide),if_neg hi0])
        obtain⟨gq,hPA,zgq,hcq⟩:=HPC.out (by show 0<r.pl.length;rw[hpl'];simp)
        have hcq0:w0.cell? ⟨gq,0,none⟩=some (.int .i64 (q' :Int)):=(hcq 0 (by show 0<r.pl.length*1;rw[hpl'];simp)).trans (by show(r.pl.map _)[0]? =_;rw[hpl'];rfl)
        subst hPA
        have hqe:q' <s.ends.length:=(gI.1 hEq).1
        obtain⟨Ae,ce,hve,-,hAe⟩:=HX4.out.sb.own.slice .ends
        have hve' :=hve
        rw[rowsOf_v] at hve
        obtain⟨ge,rfl⟩:=hAe (by show 0<s.ends.length;omega)
        obtain⟨NE,hNE⟩:∃n,s.ends.length=n:=⟨_,rfl⟩
        have hve2:V' .ends= .slice (some ⟨ge,0,none⟩) NE ce:=by rw[hve];show Value.slice _ s.ends.length ce=_;rw[hNE]
        obtain⟨ev,hev⟩:∃x,E.getD q 0=x:=⟨_,rfl⟩
        rw[hev] at HNX
        have hED:s.ends.getD q' []=E:=by rw[gD,hEq];rfl
        have hcg:w4.cell? ⟨ge,q' *12+q,none⟩=some (.int .i64 ev):=HX4.out.sb.own.cell .ends hve' (by
         show(regCells s.ends)[q' *12+q]? =_
         rw[regs_at HEN.out hqe q3,hED,hev])
        have zge:=(HX4.out.sb.rlt .ends (g:=ge) (by rw[hve2];rfl)).2
        have HG:=Lib.hid (fun(W:World) (hb:Below w4.heap.size w4 W)=>(⟨(hb.cell (p:=⟨b,_,none⟩) HX4.out.sb.lt).trans (by obtain⟨k2,k5,k6,k9,k10,zb⟩:=KBX.out _ _ _ HX4.out.sb;rw[hve2] at k10;exact k10),(hb.cell (p:=⟨b,_,none⟩) HX4.out.sb.lt).trans (KBX.out _ _ _ HX4.out.sb).2.1,(KRO.out _ (HBW4.out.trans (hb.mono HBW4.out.size))).2.2.2.1,((HBW4.out.trans (hb.mono HBW4.out.size)).cell (p:=⟨gq,_,none⟩) zgq).trans hcq0,(hb.cell (p:=⟨ge,_,none⟩) zge).trans hcg⟩:(fun w' =>w'.cell? ⟨b,10,none⟩=some (.slice (some ⟨ge,0,none⟩) NE ce)∧w'.cell? ⟨b,5,none⟩=some (.slice (some ⟨gb,0,none⟩) N N)∧w'.cell? ⟨gb,i*4+3,none⟩=some (.slice (some ⟨gq,0,none⟩) pn pcap)∧w'.cell? ⟨gq,0,none⟩=some (.int .i64 (q' :Int))∧w'.cell? ⟨ge,q' *12+q,none⟩=some (.int .i64 ev)) W))
        have HNE:Hid ((⟨w.heap.size+1,q,none⟩:Addr).block≠(⟨b,0,none⟩:Addr).block∧w.heap.size+1≠gb∧w.heap.size+1≠gq∧w.heap.size+1≠ge):=Lib.hid ⟨by have:=H.out.lt;simp;omega,by have h1:=(KRO.out _ (Below.refl _ _)).2.2.2.2.2.1;have h2:=HW.out.size;omega,by have h2:=HW.out.size;omega,fun e=>(HX4.out.loc _ (.head _)).2.2.2 .ends (by rw[hve2,e];rfl)⟩
        have hq1:(q' :Int)<NE:=by omega
        have hq0:(0:Int)≤q' :=by omega
        have hp1:(0:Int)<pn:=by have:=HPN.out;rw[hpl'] at this;simp at this;omega
        have hpn0:¬pn=0:=by omega
        have q4:(q:Int)<12:=by omega
        have zgq4:=Nat.lt_of_lt_of_le zgq HBW4.out.size
        clear hi0 hpl' hEq hcq hcq0 hqe hve hve' hAe hNE hED hev hcg
        rw[hve2] at *
        clear hve2
        go_wp2_with (first|(go_at_call 55;go_must (refine(HJN.out _).mono ?_;rintro e w5 ⟨rfl,hb5⟩;have HX5:=Lib.hid (HX4.out.keeps hb5);have HBW5:=Lib.hid (HBW4.out.trans (hb5.mono HBW4.out.size));have HS5g:=Lib.hid (HG.out _ hb5);have HLE5:=Lib.hid hb5.size;clear hb5 k5 d0 d1 d2 d3;have hbL:=HX5.out.box (.head _);have cbL:=boxI_cell hbL (j:=q) (by rw[HL1.out];exact q3);have fbL:=frozen_block hbL;have zL:=block_lt hbL;clear hbL)))
        have HS5:=HS5g
        obtain⟨s0,s1,s2,s3,s4⟩:=HS5.out
        refine wp_region_held_drew (S:=fun w' =>w'.cell? ⟨b,10,none⟩=some (.slice (some ⟨ge,0,none⟩) NE ce)∧w'.cell? ⟨b,5,none⟩=some (.slice (some ⟨gb,0,none⟩) N N)∧w'.cell? ⟨gb,i*4+3,none⟩=some (.slice (some ⟨gq,0,none⟩) pn pcap)∧w'.cell? ⟨gq,0,none⟩=some (.int .i64 (q' :Int))∧w'.cell? ⟨ge,q' *12+q,none⟩=some (.int .i64 ev)) (by kernel_rfl) ⟨s0,s1,s2,s3,s4⟩ (fun hHeld=> ?_)
        clear s0 s1 s2 s3 s4
        have zgb5:=Nat.lt_of_lt_of_le zgb HLE5.out
        have zgq5:=Nat.lt_of_lt_of_le zgq4 HLE5.out
        have zge5:=Nat.lt_of_lt_of_le zge HLE5.out
        have zb5:=Nat.lt_of_lt_of_le zb HLE5.out
        refine wpAnyH_take (i:=0) (v:= .int .i64 (q:Int)) rfl (by kernel_rfl) (by kernel_rfl) (by kernel_rfl) (fun _ _ _ h=>h) (Or.inl ⟨by rfl,?_⟩) hHeld ?_
        ·intro w hSw
         obtain⟨p0,p1,p2,p3,p4⟩:=hSw
         simp only[qg]
         go_simp
        simp only[Act.put,qs]
        refine wpAnyH_take (i:=1) (v:= .pointer (some ⟨b,0,none⟩)) rfl (by kernel_rfl) (by kernel_rfl) (by kernel_rfl) (fun _ _ _ h=>h) (Or.inl ⟨by rfl,?_⟩) hHeld ?_
        ·intro w hSw
         obtain⟨p0,p1,p2,p3,p4⟩:=hSw
         simp only[qg]
         go_simp
        simp only[Act.put,qs]
        refine wpAnyH_take (i:=2) (v:= .pointer (some ⟨b,0,none⟩)) rfl (by kernel_rfl) (by kernel_rfl) (by kernel_rfl) (fun _ _ _ h=>h) (Or.inl ⟨by rfl,?_⟩) hHeld ?_
        ·intro w hSw
         obtain⟨p0,p1,p2,p3,p4⟩:=hSw
         simp only[qg]
         go_simp
        simp only[Act.put,qs]
        refine wpAnyH_take (i:=3) (v:= .pointer (some ⟨b,10,none⟩)) rfl (by kernel_rfl) (by kernel_rfl) (by kernel_rfl) (fun _ _ _ h=>h) (Or.inl ⟨by rfl,?_⟩) hHeld ?_
        ·intro w hSw
         obtain⟨p0,p1,p2,p3,p4⟩:=hSw
         simp only[qg]
         go_simp
        simp only[Act.put,qs]
        refine wpAnyH_take (i:=4) (v:= .slice (some ⟨ge,0,none⟩) NE ce) rfl (by kernel_rfl) (by kernel_rfl) (by kernel_rfl) (fun _ _ _ h=>h) (Or.inl ⟨by rfl,?_⟩) hHeld ?_
        ·intro w hSw
         obtain⟨p0,p1,p2,p3,p4⟩:=hSw
         simp only[qg]
         go_simp
        simp only[Act.put,qs]
        refine wpAnyH_take (i:=5) (v:= .pointer (some ⟨b,0,none⟩)) rfl (by kernel_rfl) (by kernel_rfl) (by kernel_rfl) (fun _ _ _ h=>h) (Or.inl ⟨by rfl,?_⟩) hHeld ?_
        ·intro w hSw
         obtain⟨p0,p1,p2,p3,p4⟩:=hSw
         simp only[qg]
         go_simp
        simp only[Act.put,qs]
        refine wpAnyH_take (i:=6) (v:= .pointer (some ⟨b,0,none⟩)) rfl (by kernel_rfl) (by kernel_rfl) (by kernel_rfl) (fun _ _ _ h=>h) (Or.inl ⟨by rfl,?_⟩) hHeld ?_
        ·intro w hSw
         obtain⟨p0,p1,p2,p3,p4⟩:=hSw
         simp only[qg]
         go_simp
        simp only[Act.put,qs]
        refine wpAnyH_take (i:=7) (v:= .pointer (some ⟨b,5,none⟩)) rfl (by kernel_rfl) (by kernel_rfl) (by kernel_rfl) (fun _ _ _ h=>h) (Or.inl ⟨by rfl,?_⟩) hHeld ?_
        ·intro w hSw
         obtain⟨p0,p1,p2,p3,p4⟩:=hSw
         simp only[qg]
         go_simp
        simp only[Act.put,qs]
        refine wpAnyH_take (i:=8) (v:= .slice (some ⟨gb,0,none⟩) N N) rfl (by kernel_rfl) (by kernel_rfl) (by kernel_rfl) (fun _ _ _ h=>h) (Or.inl ⟨by rfl,?_⟩) hHeld ?_
        ·intro w hSw
         obtain⟨p0,p1,p2,p3,p4⟩:=hSw
         simp only[qg]
         go_simp
        simp only[Act.put,qs]
        refine wpAnyH_take (i:=9) (v:= .int .i64 (i:Int)) rfl (by kernel_rfl) (by kernel_rfl) (by kernel_rfl) (fun _ _ _ h=>h) (Or.inl ⟨by rfl,?_⟩) hHeld ?_
        ·intro w hSw
         obtain⟨p0,p1,p2,p3,p4⟩:=hSw
         simp only[qg]
         go_simp
        simp only[Act.put,qs]
        refine wpAnyH_take (i:=10) (v:= .pointer (some ⟨gb,i*4,none⟩)) rfl (by kernel_rfl) (by kernel_rfl) (by kernel_rfl) (fun _ _ _ h=>h) (Or.inl ⟨by rfl,?_⟩) hHeld ?_
        ·intro w hSw
         obtain⟨p0,p1,p2,p3,p4⟩:=hSw
         simp only[qg]
         go_simp
        simp only[Act.put,qs]
        refine wpAnyH_take (i:=11) (v:= .pointer (some ⟨gb,i*4+3,none⟩)) rfl (by kernel_rfl) (by kernel_rfl) (by kernel_rfl) (fun _ _ _ h=>h) (Or.inl ⟨by rfl,?_⟩) hHeld ?_
        ·intro w hSw
         obtain⟨p0,p1,p2,p3,p4⟩:=hSw
         simp only[qg]
         go_simp
        simp only[Act.put,qs]
        refine wpAnyH_take (i:=12) (v:= .slice (some ⟨gq,0,none⟩) pn pcap) rfl (by kernel_rfl) (by kernel_rfl) (by kernel_rfl) (fun _ _ _ h=>h) (Or.inl ⟨by rfl,?_⟩) hHeld ?_
        ·intro w hSw
         obtain⟨p0,p1,p2,p3,p4⟩:=hSw
         simp only[qg]
         go_simp
        simp only[Act.put,qs]
        refine wpAnyH_take (i:=13) (v:= .pointer (some ⟨gq,0,none⟩)) rfl (by kernel_rfl) (by kernel_rfl) (by kernel_rfl) (fun _ _ _ h=>h) (Or.inl ⟨by rfl,?_⟩) hHeld ?_
        ·intro w hSw
         obtain⟨p0,p1,p2,p3,p4⟩:=hSw
         simp only[qg]
         go_simp
        simp only[Act.put,qs]
        refine wpAnyH_take (i:=14) (v:= .int .i64 (q' :Int)) rfl (by kernel_rfl) (by kernel_rfl) (by kernel_rfl) (fun _ _ _ h=>h) (Or.inl ⟨by rfl,?_⟩) hHeld ?_
        ·intro w hSw
         obtain⟨p0,p1,p2,p3,p4⟩:=hSw
         simp only[qg]
         go_simp
        simp only[Act.put,qs]
        refine wpAnyH_take (i:=15) (v:= .int .i64 (q:Int)) rfl (by kernel_rfl) (by kernel_rfl) (by kernel_rfl) (fun _ _ _ h=>h) (Or.inl ⟨by rfl,?_⟩) hHeld ?_
        ·intro w hSw
         obtain⟨p0,p1,p2,p3,p4⟩:=hSw
         simp only[qg]
         go_simp
        simp only[Act.put,qs]
        refine wpAnyH_take (i:=16) (v:= .pointer (some ⟨ge,q' *12,none⟩)) rfl (by kernel_rfl) (by kernel_rfl) (by kernel_rfl) (fun _ _ _ h=>h) (Or.inl ⟨by rfl,?_⟩) hHeld ?_
        ·intro w hSw
         obtain⟨p0,p1,p2,p3,p4⟩:=hSw
         simp only[qg]
         go_simp
        simp only[Act.put,qs]
        refine wpAnyH_take (i:=17) (v:= .pointer (some ⟨ge,q' *12+q,none⟩)) rfl (by kernel_rfl) (by kernel_rfl) (by kernel_rfl) (fun _ _ _ h=>h) (Or.inl ⟨by rfl,?_⟩) hHeld ?_
        ·intro w hSw
         obtain⟨p0,p1,p2,p3,p4⟩:=hSw
         simp only[qg]
         go_simp
        simp only[Act.put,qs]
        refine wpAnyH_take (i:=18) (v:= .int .i64 ev) rfl (by kernel_rfl) (by kernel_rfl) (by kernel_rfl) (fun _ _ _ h=>h) (Or.inl ⟨by rfl,?_⟩) hHeld ?_
        ·intro w hSw
         obtain⟨p0,p1,p2,p3,p4⟩:=hSw
         simp only[qg]
         go_simp
        simp only[Act.put,qs]
        refine wpAnyH_take (i:=19) (v:= .pointer (some ⟨w.heap.size+1,q,none⟩)) rfl (by kernel_rfl) (by kernel_rfl) (by kernel_rfl) (fun _ _ _ h=>h) (Or.inl ⟨by rfl,?_⟩) hHeld ?_
        ·intro w hSw
         obtain⟨p0,p1,p2,p3,p4⟩:=hSw
         simp only[qg]
         go_simp
        simp only[Act.put,qs]
        refine wpAnyH_ready (rs:=[20]) (by kernel_rfl) (by simp) ?_
        refine AllReadyH.cons rfl (fun K hK=> ?_) AllReadyH.nil
        simp only[qg]
        go_simp
        refine hK.out _ _ (by obtain⟨s0,s1,s2,s3,s4⟩:=HS5.out;exact⟨(World.cell?_setCell_far _ _ _ _ HNE.out.1).trans s0,(World.cell?_setCell_far _ _ _ _ HNE.out.1).trans s1,(World.cell?_setCell_far _ _ _ _ HNE.out.2.1).trans s2,(World.cell?_setCell_far _ _ _ _ HNE.out.2.2.1).trans s3,(World.cell?_setCell_far _ _ _ _ HNE.out.2.2.2).trans s4⟩) (fun hHeld=> ?_)
        clear hK K
        clear hHeld
        refine wpAnyH_done (by kernel_rfl) ?_ _
        go_wp2_with fail
        go_roundw
        case rel=>exact⟨q+1,V',by omega,by go_num,by rw[HNX.out];exact(HX5.out.setI (fun x hx=>by simp at hx;subst hx;simp) q ev).keeps (Below.refl _ _).drew,HV.out.1,HV.out.2.1,HV.out.2.2⟩
        case measure=>simp[intOf];omega
     ·have hbit0:d % 2=0:=by omega
      have hba1:bits .and .i64 (d:Int) 1=0:=by rw[hba,hbit0];rfl
      have hno:M.testBit q=false:=by rw[htb,hbit0];rfl
      have HNX:=Lib.hid (show entTo J i M E s.same (q+1)=X by rw[HLE.out];unfold entStep;rw[if_neg (by rw[hno];decide)])
      clear hba htb hbit hbit0 hno HLE
      go_wp2_with fail
      go_quiet (fail)
      go_wp2_with fail
      go_roundw
      case rel=>exact⟨q+1,V',by omega,by go_num,by rw[HNX.out];exact HX.out.keeps (below_drewN (Below.refl _ _) _),HV.out.1,HV.out.2.1,HV.out.2.2⟩
      case measure=>simp[intOf];omega
  ·have j1:(j:Int)<12:=by omega
   have j0:(0:Int)≤j:=by omega
   have hb:=hX.box (.head _)
   have cb:=boxI_cell hb (j:=j) (by simp[initR];omega)
   have fb:=frozen_block (show wr.heap[w.heap.size+1]? =some (.cells (intsV (initR j)).toArray 40 (0,0)) from hb)
   have zb:=block_lt (show wr.heap[w.heap.size+1]? =some (.cells (intsV (initR j)).toArray 40 (0,0)) from hb)
   have HS:=Lib.hid (initR_set (j:=j) (by omega)▸hX.setI (fun x hx=>by simp at hx;subst hx;simp) j (-1):SbX w V b c (wr.setCell ⟨w.heap.size+1,j,none⟩ (.int .i64 (-1))) s V [(w.heap.size+1,boxI (initR (j+1))),(w.heap.size,boxI (initR 0))])
   clear hX hb HX
   go_wp2_with fail
   go_roundw
   case rel=>exact⟨j+1,by omega,by go_num,HS.out⟩
   case measure=>simp[intOf];omega
def SB.addArg(s:SB)(i k:Nat)(v:Int):SB:={s with parts:=s.parts.set i {s.part i with phis:=(s.part i).phis.set k {(s.part i).phis.getD k noPhi with args:=s.arg i k++[v]}}}
section
variable {s:SB}{i k:Nat}
theorem addArg_part(hi:i<s.parts.length)(v:Int)(j:Nat):(s.addArg i k v).part j=if j=i then{s.part i with phis:=(s.part i).phis.set k {(s.part i).phis.getD k noPhi with args:=s.arg i k++[v]}} else s.part j:=part_set s hi _ j
theorem addArg_phi(hi:i<s.parts.length)(hk:k<(s.part i).phis.length)(v:Int)(j t:Nat):((s.addArg i k v).part j).phis.getD t noPhi=if j=i∧t=k then{(s.part i).phis.getD k noPhi with args:=s.arg i k++[v]} else(s.part j).phis.getD t noPhi:=by
 rw[addArg_part hi]
 by_cases e:j=i
 ·subst e
  rw[if_pos rfl]
  show((s.part j).phis.set k _).getD t noPhi=_
  rw[getD_set _ hk]
  by_cases e2:t=k
  ·rw[if_pos e2,if_pos ⟨rfl,e2⟩]
  ·rw[if_neg e2,if_neg (fun h=>e2 h.2)]
 ·rw[if_neg e,if_neg (fun h=>e h.1)]
theorem addArg_arg(hi:i<s.parts.length)(hk:k<(s.part i).phis.length)(v:Int)(j t:Nat):(s.addArg i k v).arg j t=if j=i∧t=k then s.arg i k++[v] else s.arg j t:=by
 unfold SB.arg
 rw[addArg_phi hi hk]
 by_cases e:j=i∧t=k
 ·rw[if_pos e,if_pos e];rfl
 ·rw[if_neg e,if_neg e]
end
section
variable {w w1:World}{b:Nat}{c:SC}{s:SB}{V:SK→Value}
theorem SbAt.pushArg(h:SbAt w b c s V){i k:Nat}(hi:i<s.parts.length)(hk:k<(s.part i).phis.length)(o:Obj)(v:Int){g m cap H gp np cp:Nat}(hp:V (.phis i)= .slice (some ⟨gp,0,none⟩) np cp)
 (hg:(w.alloc o).grownBy w1 (V (.args i k)).ownBlock) (hm:m=(s.arg i k).length+1)
 (ho:w1.ownsRow (b+1) 3 1 (.slice (some ⟨g,0,none⟩) m cap) m (intsV (s.arg i k)++[.int .i64 v])) (hat:(V (.args i k)).ownBlock=some g∨g=H) (hH:w.heap.size≤H):
 SbAt (w1.setCell ⟨gp,k*3+2,none⟩ (.slice (some ⟨g,0,none⟩) m cap)) b c (s.addArg i k v) (putV V (.args i k) (.slice (some ⟨g,0,none⟩) m cap))∧
 FrS w b V (w1.setCell ⟨gp,k*3+2,none⟩ (.slice (some ⟨g,0,none⟩) m cap)) (putV V (.args i k) (.slice (some ⟨g,0,none⟩) m cap)):=by
 obtain⟨r1,hr1⟩:∃r:RowC,(⟨3,1, .slice (some ⟨g,0,none⟩) m cap,m,intsV (s.arg i k)++[.int .i64 v]⟩:RowC)=r:=⟨_,rfl⟩
 have h1:OwnK w1 (b+1) (putK (rowsOf s V) (.args i k) r1):=by rw[←hr1];exact h.own.app (.args i k) o hg ho hat hH
 have hpv:(putK (rowsOf s V) (.args i k) r1 (.phis i)).v= .slice (some ⟨gp,0,none⟩) np cp:=by
  rw[putK_ne _ (by simp),rowsOf_v];exact hp
 have h2:=h1.set (.phis i) hpv (k*3+2) (.slice (some ⟨g,0,none⟩) m cap) (by
  rw[putK_ne _ (by simp)]
  show _<(phiCells (s.part i).phis _).length
  unfold phiCells
  rw[flat_len (n:=3) (fun _ _=>rfl)]
  have:(k+1)*3≤(s.part i).phis.length*3:=Nat.mul_le_mul_right 3 (by omega)
  omega)
 have hbx:=box_row (w:=w) (box_grown h (.args i k) o hg) h1 (key:= .phis i) (g:=gp) (by rw[hpv];rfl) (k*3+2) (.slice (some ⟨g,0,none⟩) m cap)
 have hrows:∀k' g',(putV V (.args i k) (.slice (some ⟨g,0,none⟩) m cap) k').ownBlock=some g' →(∃k',(V k').ownBlock=some g')∨w.heap.size≤g' :=fun k' g' hg' =>by
  by_cases e:k' = .args i k
  ·subst e
   rw[putV_self] at hg'
   have e' :g=g' :=by simpa [Value.ownBlock] using hg'
   subst e'
   rcases hat with h1|h1
   ·exact .inl ⟨_,h1⟩
   ·exact .inr (by omega)
  ·rw[putV_ne _ e] at hg';exact .inl ⟨k',hg'⟩
 have hsb:SbAt (w1.setCell ⟨gp,k*3+2,none⟩ (.slice (some ⟨g,0,none⟩) m cap)) b c (s.addArg i k v) (putV V (.args i k) (.slice (some ⟨g,0,none⟩) m cap)):=by
  refine⟨by rw[hbx,h.box];rfl,?_⟩
  have e:rowsOf (s.addArg i k v) (putV V (.args i k) (.slice (some ⟨g,0,none⟩) m cap))=putK (putK (rowsOf s V) (.args i k) r1) (.phis i) {putK (rowsOf s V) (.args i k) r1 (.phis i) with xs:=(putK (rowsOf s V) (.args i k) r1 (.phis i)).xs.set (k*3+2) (.slice (some ⟨g,0,none⟩) m cap)}:=by
   funext key
   cases key with
   |same=>rfl
   |ends=>rfl
   |began=>rfl
   |parts=>
    rw[putK_ne _ (by simp),putK_ne _ (by simp)]
    show(⟨_,_,_,(s.parts.set i _).length,partsCells (s.parts.set i _) _ _⟩:RowC)=⟨_,_,_,s.parts.length,partsCells s.parts _ _⟩
    rw[List.length_set]
    congr 1
    unfold partsCells
    rw[List.length_set]
    refine flat_same fun j hj=> ?_
    rw[getD_set _ hi]
    show PartS.cells _ (putV V (.args i k) _ (.phis j)) (putV V (.args i k) _ (.ins j))=_
    rw[putV_ne _ (by simp),putV_ne _ (by simp)]
    by_cases e:j=i
    ·subst e;rw[if_pos rfl];rfl
    ·rw[if_neg e]
   |ins j=>
    rw[putK_ne _ (by simp),putK_ne _ (by simp)]
    show(⟨_,_,putV _ _ _ (.ins j),((s.addArg i k v).part j).ins.length,insCells ((s.addArg i k v).part j).ins⟩:RowC)=⟨_,_,_,(s.part j).ins.length,insCells (s.part j).ins⟩
    rw[addArg_part hi,putV_ne _ (by simp)]
    by_cases e:j=i
    ·subst e;rw[if_pos rfl]
    ·rw[if_neg e]
   |phis j=>
    by_cases e:j=i
    ·subst e
     rw[putK_self,putK_ne _ (by simp)]
     show(⟨_,_,putV _ _ _ (.phis j),((s.addArg j k v).part j).phis.length,phiCells ((s.addArg j k v).part j).phis _⟩:RowC)=⟨_,_,V (.phis j),(s.part j).phis.length,(phiCells (s.part j).phis _).set (k*3+2) _⟩
     rw[addArg_part hi,if_pos rfl,putV_ne _ (by simp)]
     show(⟨_,_,_,((s.part j).phis.set k _).length,phiCells ((s.part j).phis.set k _) _⟩:RowC)=_
     rw[List.length_set]
     congr 1
     unfold phiCells
     rw[List.length_set]
     symm
     refine flat_set (n:=3) (fun _ _=>rfl) hk (by omega) _ (fun t ht=> ?_) ?_
     ·rw[getD_set _ hk,if_neg ht]
      show PhiS.cells _ (putV V (.args j k) _ (.args j t))=_
      rw[putV_ne _ (by simpa using ht)]
     ·rw[getD_set _ hk,if_pos rfl]
      show PhiS.cells _ (putV V (.args j k) _ (.args j k))=_
      rw[putV_self];rfl
    ·rw[putK_ne _ (by simpa using e),putK_ne _ (by simp)]
     show(⟨_,_,putV _ _ _ (.phis j),((s.addArg i k v).part j).phis.length,phiCells ((s.addArg i k v).part j).phis _⟩:RowC)=⟨_,_,_,(s.part j).phis.length,phiCells (s.part j).phis _⟩
     rw[addArg_part hi,if_neg e,putV_ne _ (by simp)]
     congr 2
     funext t
     show putV V (.args i k) _ (.args j t)=_
     rw[putV_ne _ (by simp;exact fun h=>absurd h e)]
   |args j t=>
    rw[putK_ne _ (by simp)]
    show(⟨_,_,putV _ _ _ (.args j t),((s.addArg i k v).arg j t).length,intsV ((s.addArg i k v).arg j t)⟩:RowC)=_
    rw[addArg_arg hi hk]
    by_cases e:j=i∧t=k
    ·obtain⟨rfl,rfl⟩:=e
     rw[if_pos ⟨rfl,rfl⟩,putK_self,putV_self,←hr1]
     simp[intsV,hm]
    ·rw[if_neg e,putK_ne _ (by simpa using e),putV_ne _ (by simpa using e)];rfl
  rw[e];exact h2
 exact⟨hsb,(FrS.grown h (.args i k) o hg hrows).trans ⟨(Below.refl b w1).setCell (by have:=(h.rlt (.phis i) (g:=gp) (by rw[hp];rfl)).1;simp;omega) _,by simp[World.setCell],fun k' _ _ hv=>Below.heap_setCell _ _ _ _ (by simp;exact fun e=>hv (.phis i) (by rw[putV_ne _ (by simp),hp,e];rfl)),fun k' g' h=> .inl ⟨k',h⟩⟩⟩
end
def comes(E:List (List Int))(q reg:Int):Int:=if 0≤q then(E.getD q.toNat []).getD reg.toNat 0 else reg
def fullA(E:List (List Int))(Q:List Int)(reg:Int):List Int:=Q.map fun q=>comes E q reg
def SB.phi(s:SB)(i k:Nat):PhiS:=(s.part i).phis.getD k noPhi
structure ClsR(s s' :SB)(P:Nat→List Int)(i k q:Nat):Prop where
 same:s'.same=s.same
 ends:s'.ends=s.ends
 began:s'.began=s.began
 len:s'.parts.length=s.parts.length
 part:∀j,(s'.part j).block=(s.part j).block∧(s'.part j).ins=(s.part j).ins∧(s'.part j).inn=(s.part j).inn∧(s'.part j).phis.length=(s.part j).phis.length
 phi:∀j t,(s'.phi j t).reg=(s.phi j t).reg∧(s'.phi j t).id=(s.phi j t).id
 arg:∀j t,t<(s.part j).phis.length→s'.arg j t=s.arg j t++if j<i∨(j=i∧t<k) then fullA s.ends (P j) (s.phi j t).reg else if j=i∧t=k then(fullA s.ends (P j) (s.phi j t).reg).take q else[]
theorem ClsR.start(s:SB)(P:Nat→List Int):ClsR s s P 0 0 0:=⟨rfl,rfl,rfl,rfl,fun _=>⟨rfl,rfl,rfl,rfl⟩,fun _ _=>⟨rfl,rfl⟩,fun j t _=>by
 rw[if_neg (by omega)]
 by_cases h:j=0∧t=0
 ·rw[if_pos h];simp
 ·rw[if_neg h];simp⟩
section
variable {s s' :SB}{P:Nat→List Int}{i k q:Nat}
theorem ClsR.step(h:ClsR s s' P i k q)(hi:i<s.parts.length)(hk:k<(s.part i).phis.length)(hq:q<(P i).length){v:Int}(hv:comes s.ends ((P i)[q]) (s.phi i k).reg=v):ClsR s (s'.addArg i k v) P i k (q+1):=by
 have hi' :i<s'.parts.length:=by rw[h.len];exact hi
 have hk' :k<(s'.part i).phis.length:=by rw[(h.part i).2.2.2];exact hk
 refine⟨h.same,h.ends,h.began,by show(s'.parts.set i _).length=_;rw[List.length_set];exact h.len,fun j=> ?_,fun j t=> ?_,fun j t ht=> ?_⟩
 ·rw[addArg_part hi']
  by_cases e:j=i
  ·subst e
   rw[if_pos rfl]
   obtain⟨h1,h2,h3,h4⟩:=h.part j
   exact⟨h1,h2,h3,by show((s'.part j).phis.set k _).length=_;rw[List.length_set];exact h4⟩
  ·rw[if_neg e];exact h.part j
 ·unfold SB.phi
  rw[addArg_phi hi' hk']
  by_cases e:j=i∧t=k
  ·obtain⟨rfl,rfl⟩:=e
   rw[if_pos ⟨rfl,rfl⟩]
   exact h.phi j t
  ·rw[if_neg e];exact h.phi j t
 ·rw[addArg_arg hi' hk']
  by_cases e:j=i∧t=k
  ·obtain⟨rfl,rfl⟩:=e
   rw[if_pos ⟨rfl,rfl⟩,h.arg j t ht,if_neg (by omega),if_pos ⟨rfl,rfl⟩,if_neg (by omega),if_pos ⟨rfl,rfl⟩,List.append_assoc]
   congr 1
   have hl:q<(fullA s.ends (P j) (s.phi j t).reg).length:=by unfold fullA;rw[List.length_map];exact hq
   rw[List.take_succ_eq_append_getElem hl]
   congr 1
   rw[←hv]
   have e:(fullA s.ends (P j) (s.phi j t).reg)[q]=comes s.ends ((P j)[q]) (s.phi j t).reg:=by simp[fullA]
   rw[e]
  ·rw[if_neg e,h.arg j t ht]
   by_cases e2:j<i∨(j=i∧t<k)
   ·rw[if_pos e2,if_pos e2]
   ·rw[if_neg e2,if_neg e2,if_neg e,if_neg e]
theorem ClsR.next(h:ClsR s s' P i k q)(hq:q=(P i).length):ClsR s s' P i (k+1) 0:=by
 refine⟨h.same,h.ends,h.began,h.len,h.part,h.phi,fun j t ht=> ?_⟩
 rw[h.arg j t ht]
 by_cases e2:j<i∨(j=i∧t<k)
 ·rw[if_pos e2,if_pos (by omega)]
 ·rw[if_neg e2]
  by_cases e:j=i∧t=k
  ·rw[if_pos e,if_pos (by omega),List.take_of_length_le (by unfold fullA;rw[List.length_map,e.1];omega)]
  ·rw[if_neg e,if_neg (by omega)]
   by_cases e3:j=i∧t=k+1
   ·rw[if_pos e3];simp
   ·rw[if_neg e3]
theorem ClsR.up(h:ClsR s s' P i k 0)(hk:k=(s.part i).phis.length):ClsR s s' P (i+1) 0 0:=by
 refine⟨h.same,h.ends,h.began,h.len,h.part,h.phi,fun j t ht=> ?_⟩
 rw[h.arg j t ht]
 by_cases e2:j<i∨(j=i∧t<k)
 ·rw[if_pos e2,if_pos (by omega)]
 ·have e3:¬(j=i):=fun e=>by subst e;omega
  rw[if_neg e2,if_neg (by omega),if_neg (by omega)]
  by_cases e4:j=i+1∧t=0
  ·rw[if_pos e4];simp
  ·rw[if_neg e4]
end
def AllR(l:List Int):Prop:=∀v,v<l.length→∃k r,FindN l k v r
open Classical in
noncomputable def rt(l:List Int)(v:Nat):Nat:=if h:∃r k,FindN l k v r then h.choose else 0
theorem rt_eq{l:List Int}{k v r:Nat}(h:FindN l k v r):rt l v=r:=by
 have hex:∃r k,FindN l k v r:=⟨r,k,h⟩
 unfold rt
 rw[dif_pos hex]
 obtain⟨k',hk'⟩:=hex.choose_spec
 exact(hk'.unique h).2
theorem AllR.at_{l:List Int}(h:AllR l){v:Nat}(hv:v<l.length):∃k,FindN l k v (rt l v):=by
 obtain⟨k,r,hf⟩:=h v hv
 exact⟨k,by rw[rt_eq hf];exact hf⟩
theorem AllR.root{l:List Int}(h:AllR l){v:Nat}(hv:v<l.length):l[rt l v]? =some ((rt l v:Nat):Int):=by
 obtain⟨k,hk⟩:=h.at_ hv
 exact hk.is_root
theorem rt_root{l:List Int}{v:Nat}(h:l[v]? =some (v:Int)):rt l v=v:=rt_eq (.root h)
theorem rt_step{l:List Int}(hl:AllR l){v u:Nat}(h:l[v]? =some (u:Int)):rt l v=rt l u:=by
 by_cases e:u=v
 ·rw[e]
 ·obtain⟨k,r,hf⟩:=hl v (gI.1 h).1
  cases hf with
  |root h2=>rw[h] at h2;simp at h2;omega
  |step h2 _ h3=>
   rw[h] at h2
   have e2:=Int.ofNat_inj.1 (Option.some.inj h2)
   subst e2
   rw[rt_eq h3,rt_eq (.step h e h3)]
noncomputable def rti(l:List Int)(a:Int):Int:=if a<0 then a else(rt l a.toNat:Nat)
theorem rti_neg{l:List Int}{a:Int}(h:a<0):rti l a=a:=if_pos h
theorem rti_nat(l:List Int)(v:Nat):rti l v=(rt l v:Nat):=by
 unfold rti
 rw[if_neg (by omega),Int.toNat_natCast]
theorem FindN.far{l:List Int}{d:Nat}{x:Int}(hd:l[d]? =some (d:Int)){k v r:Nat}(h:FindN l k v r)(hr:r≠d):FindN (l.set d x) k v r:=by
 have key:∀u:Nat,u≠d→(l.set d x)[u]? =l[u]? :=fun u hu=>by rw[List.getElem?_set,if_neg (fun e=>hu e.symm)]
 induction h with
 |root h=>exact .root (by rw[key _ hr];exact h)
 | @step k v u r h hne h2 ih=>
  have hv:v≠d:=fun e=>by
   subst e
   rw[hd] at h
   have:=Int.ofNat_inj.1 (Option.some.inj h)
   omega
  exact .step (by rw[key _ hv];exact h) hne (ih hr)
theorem FindN.turn{l:List Int}{d x:Nat}(hd:l[d]? =some (d:Int))(hx:l[x]? =some (x:Int))(hne:x≠d){k v r:Nat}(h:FindN l k v r)(hr:r=d):FindN (l.set d (x:Int)) (k+1) v x:=by
 have hdl:=(gI.1 hd).1
 have key:∀u:Nat,u≠d→(l.set d (x:Int))[u]? =l[u]? :=fun u hu=>by rw[List.getElem?_set,if_neg (fun e=>hu e.symm)]
 induction h with
 |root h=>subst hr;exact .step (by rw[List.getElem?_set,if_pos rfl,if_pos hdl]) hne (.root (by rw[key _ hne];exact hx))
 | @step k v u r h hne' h2 ih=>
  have hv:v≠d:=fun e=>by
   subst e
   rw[hd] at h
   have:=Int.ofNat_inj.1 (Option.some.inj h)
   omega
  exact .step (by rw[key _ hv];exact h) hne' (ih hr)
theorem rt_set{l:List Int}(hl:AllR l){d x:Nat}(hd:l[d]? =some (d:Int))(hx:l[x]? =some (x:Int))(hne:x≠d){v:Nat}(hv:v<l.length):rt (l.set d (x:Int)) v=if rt l v=d then x else rt l v:=by
 obtain⟨k,hk⟩:=hl.at_ hv
 by_cases e:rt l v=d
 ·rw[if_pos e]
  rw[e] at hk
  exact rt_eq (hk.turn hd hx hne rfl)
 ·rw[if_neg e]
  exact rt_eq (hk.far hd e)
theorem AllR.set{l:List Int}(hl:AllR l){d x:Nat}(hd:l[d]? =some (d:Int))(hx:l[x]? =some (x:Int))(hne:x≠d):AllR (l.set d (x:Int)):=fun v hv=>by
 rw[List.length_set] at hv
 obtain⟨k,hk⟩:=hl.at_ hv
 by_cases e:rt l v=d
 ·rw[e] at hk;exact⟨_,_,hk.turn hd hx hne rfl⟩
 ·exact⟨_,_,hk.far hd e⟩
def rootsC(l:List Int):Nat:=(List.range l.length).countP fun v:Nat=>l[v]? ==some (v:Int)
theorem countP_one{f g:Nat→Bool}{d:Nat}(hd:f d=false)(hg:g d=true)(h:∀n,n≠d→f n=g n):∀n,(d<n→(List.range n).countP f+1=(List.range n).countP g)∧(n≤d→(List.range n).countP f=(List.range n).countP g)
 |0=>⟨fun h=>by omega,fun _=>rfl⟩
 |n+1=>by
  obtain⟨h1,h2⟩:=countP_one hd hg h n
  rw[List.range_succ,List.countP_append,List.countP_append]
  simp only[List.countP_cons,List.countP_nil,Nat.zero_add]
  by_cases e:n=d
  ·subst e
   rw[hd,hg]
   have:=h2 (Nat.le_refl _)
   exact⟨fun _=>by simp;omega,fun h3=>by omega⟩
  ·rw[h n e]
   refine⟨fun h3=> ?_,fun h3=> ?_⟩
   ·have:=h1 (by omega);omega
   ·have:=h2 (by omega);omega
theorem rootsC_set{l:List Int}{d x:Nat}(hd:l[d]? =some (d:Int))(hne:x≠d):rootsC (l.set d (x:Int))+1=rootsC l:=by
 have hdl:=(gI.1 hd).1
 unfold rootsC
 rw[List.length_set]
 refine(countP_one (d:=d) ?_ (by rw[hd];simp) (fun n hn=> ?_) l.length).1 hdl
 ·rw[List.getElem?_set,if_pos rfl,if_pos hdl]
  simpa using fun e:(x:Int)=d=>hne (by omega)
 ·rw[List.getElem?_set,if_neg (fun e=>hn e.symm)]
def trv(id:Int):List Int→Int→Int
 |[],v=>v
 |a::l,v=>if a=id∨a=v then trv id l v else if 0≤v then -1 else trv id l a
theorem trv_mem(id:Int):∀(l:List Int) (v:Int),0≤trv id l v→trv id l v=v∨(trv id l v∈l∧trv id l v≠id)
 |[],v,_=> .inl rfl
 |a::l,v,h=>by
  unfold trv at h⊢
  by_cases e:a=id∨a=v
  ·rw[if_pos e] at h⊢
   rcases trv_mem id l v h with h1|⟨h1,h2⟩
   ·exact .inl h1
   ·exact .inr ⟨.tail _ h1,h2⟩
  ·rw[if_neg e] at h⊢
   by_cases e2:0≤v
   ·rw[if_pos e2] at h;omega
   ·rw[if_neg e2] at h⊢
    rcases trv_mem id l a h with h1|⟨h1,h2⟩
    ·rw[h1];exact .inr ⟨.head _,fun e3=>e (.inl e3)⟩
    ·exact .inr ⟨.tail _ h1,h2⟩
theorem trv_all(id:Int):∀(l:List Int) (v:Int),(∀a∈l,-1≤a)→-1≤v→0≤trv id l v→(∀a∈l,a=id∨a=trv id l v∨(a= -1∧v= -1))∧(0≤v→trv id l v=v)
 |[],v,_,_,h=>⟨fun a ha=>(by simp at ha),fun _=>rfl⟩
 |a::l,v,hl,hv,h=>by
  have ha:=hl a (.head _)
  have hl' :∀x∈l,-1≤x:=fun x hx=>hl x (.tail _ hx)
  unfold trv at h⊢
  by_cases e:a=id∨a=v
  ·rw[if_pos e] at h⊢
   obtain⟨h1,h2⟩:=trv_all id l v hl' hv h
   refine⟨fun x hx=> ?_,h2⟩
   rcases List.mem_cons.1 hx with rfl|hx
   ·rcases e with e|e
    ·exact .inl e
    ·by_cases h0:0≤v
     ·right;left;rw[h2 h0];exact e
     ·exact .inr (.inr ⟨by omega,by omega⟩)
   ·exact h1 x hx
  ·rw[if_neg e] at h⊢
   by_cases e2:0≤v
   ·rw[if_pos e2] at h;omega
   ·rw[if_neg e2] at h⊢
    have ha0:0≤a:=by
     have:a≠v:=fun e3=>e (.inr e3)
     omega
    obtain⟨h1,h2⟩:=trv_all id l a hl' ha h
    refine⟨fun x hx=> ?_,fun h0=>absurd h0 e2⟩
    rcases List.mem_cons.1 hx with rfl|hx
    ·exact .inr (.inl (h2 ha0).symm)
    ·rcases h1 x hx with h3|h3|⟨h3,h4⟩
     ·exact .inl h3
     ·exact .inr (.inl h3)
     ·omega
noncomputable def trvP(l:List Int)(x:PhiS):Int:=trv x.id (x.args.map (rti l)) (-1)
inductive Shr(s:SB):List Int→Prop where
 |base:Shr s s.same
 |step {l:List Int} {i k d x:Nat}:Shr s l→i<s.parts.length→k<(s.part i).phis.length→(s.phi i k).id=d→l[d]? =some (d:Int)→trvP l (s.phi i k)=x→Shr s (l.set d (x:Int))
theorem Shr.len{s:SB}{l:List Int}(h:Shr s l):l.length=s.same.length:=by
 induction h with
 |base=>rfl
 |step _ _ _ _ _ _ ih=>rw[List.length_set];exact ih
structure PhisOk(s:SB):Prop where
 id:∀i k,i<s.parts.length→k<(s.part i).phis.length→∃d:Nat,(s.phi i k).id=d∧d<s.same.length
 arg:∀i k,i<s.parts.length→k<(s.part i).phis.length→∀a∈(s.phi i k).args,-1≤a∧a<s.same.length
theorem trvP_root{s:SB}(ok:PhisOk s){l:List Int}(hl:AllR l)(hlen:l.length=s.same.length){i k:Nat}(hi:i<s.parts.length)(hk:k<(s.part i).phis.length){x:Nat}(h:trvP l (s.phi i k)=x):l[x]? =some (x:Int)∧(x:Int)≠(s.phi i k).id:=by
 have h0:0≤trvP l (s.phi i k):=by omega
 unfold trvP at h h0
 rcases trv_mem _ _ _ h0 with h1|⟨h1,h2⟩
 ·omega
 ·rw[h] at h1 h2
  refine⟨?_,h2⟩
  obtain⟨a,ha,e⟩:=List.mem_map.1 h1
  obtain⟨h3,h4⟩:=ok.arg i k hi hk a ha
  by_cases h5:a<0
  ·rw[rti_neg h5] at e;omega
  ·obtain⟨n,rfl⟩:∃n:Nat,a=n:=⟨a.toNat,by omega⟩
   rw[rti_nat] at e
   have e' :rt l n=x:=by omega
   rw[←e']
   exact hl.root (by omega)
theorem Shr.all{s:SB}(ok:PhisOk s)(h0:AllR s.same){l:List Int}(h:Shr s l):AllR l:=by
 induction h with
 |base=>exact h0
 | @step l i k d x h hi hk hd hr ht ih=>
  obtain⟨h1,h2⟩:=trvP_root ok ih h.len hi hk ht
  exact ih.set hr h1 (by rw[hd] at h2;omega)
def DoneP(s:SB)(l:List Int)(i k:Nat):Prop:=∀d:Nat,(s.phi i k).id=d→l[d]? =some (d:Int)→trvP l (s.phi i k)<0
def prevL(bs:List BR)(i:Nat):List Int:=((bs[i]?).map BR.pl).getD []
theorem SbAt.partCell{w:World}{b:Nat}{c:SC}{s:SB}{V:SK→Value}(h:SbAt w b c s V)(hs:∀x∈s.parts,x.inn.length=12){g n cap:Nat}(hv:V .parts= .slice (some ⟨g,0,none⟩) n cap){i:Nat}(hi:i<s.parts.length):
 w.cell? ⟨g,i*15+1,none⟩=some (V (.phis i))∧w.cell? ⟨g,i*15+2,none⟩=some (V (.ins i)):=by
 have key:∀t,t<15→w.cell? ⟨g,i*15+t,none⟩=((s.part i).cells (V (.phis i)) (V (.ins i)))[t]? :=fun t ht=>by
  have hl:=part_len hs hi (V (.phis i)) (V (.ins i))
  have h1:((s.part i).cells (V (.phis i)) (V (.ins i)))[t]? =some (((s.part i).cells (V (.phis i)) (V (.ins i)))[t]'(by show t<((s.parts.getD i noPart).cells _ _).length;omega)):=gE _
  rw[h1]
  refine h.own.cell .parts (by rw[rowsOf_v];exact hv) ?_
  show(partsCells s.parts _ _)[i*15+t]? =_
  unfold partsCells
  rw[flat_at (fun k hk=>part_len hs hk _ _) hi ht,←h1];rfl
 exact⟨(key 1 (by omega)).trans rfl,(key 2 (by omega)).trans rfl⟩
theorem SbAt.phiCell{w:World}{b:Nat}{c:SC}{s:SB}{V:SK→Value}(h:SbAt w b c s V){i k:Nat}{g n cap:Nat}(hv:V (.phis i)= .slice (some ⟨g,0,none⟩) n cap)(hk:k<(s.part i).phis.length):
 w.cell? ⟨g,k*3,none⟩=some (.int .i64 (s.phi i k).reg)∧w.cell? ⟨g,k*3+1,none⟩=some (.int .i64 (s.phi i k).id)∧w.cell? ⟨g,k*3+2,none⟩=some (V (.args i k)):=by
 have key:∀t,t<3→w.cell? ⟨g,k*3+t,none⟩=((s.phi i k).cells (V (.args i k)))[t]? :=fun t ht=>by
  have h1:((s.phi i k).cells (V (.args i k)))[t]? =some (((s.phi i k).cells (V (.args i k)))[t]'ht):=gE _
  rw[h1]
  refine h.own.cell (.phis i) (by rw[rowsOf_v];exact hv) ?_
  show(phiCells (s.part i).phis _)[k*3+t]? =_
  unfold phiCells
  rw[flat_at (n:=3) (fun _ _=>rfl) hk ht,←h1];rfl
 exact⟨(key 0 (by omega)).trans rfl,(key 1 (by omega)).trans rfl,(key 2 (by omega)).trans rfl⟩
theorem SbAt.rowV{w:World}{b:Nat}{c:SC}{s:SB}{V:SK→Value}(h:SbAt w b c s V)(key:SK){n:Nat}(hn:(rowsOf s V key).n=n):∃A cap,V key= .slice A n cap∧n≤cap∧(0<n→∃g,A=some ⟨g,0,none⟩∧b<g∧g<w.heap.size):=by
 obtain⟨A,cap,hv,hc,hA⟩:=h.own.slice key
 rw[rowsOf_v,hn] at hv
 rw[hn] at hc hA
 refine⟨A,cap,hv,hc,fun h0=> ?_⟩
 obtain⟨g,rfl⟩:=hA h0
 have:=h.rlt key (g:=g) (by rw[hv];rfl)
 exact⟨g,rfl,this.1,this.2⟩
set_option maxRecDepth 100000 in
set_option maxHeartbeats 8000000 in
theorem close_any(w0:World)(p:List Fnc)(k0:Nat)(F:Fnc)(bs:List BR)(O:List Nat)(b:Nat)(c:SC)(s:SB)(V:SK→Value)(w:World)(ro:SRo w0 c p k0 F bs O)(h0:w0.heap.size≤b)(hw:Below w0.heap.size w0 w)(h:SbAt w b c s V)
 (hpl:s.parts.length=bs.length) (hb100:bs.length≤100) (hel:s.ends.length=bs.length) (hen:∀x∈s.ends,x.length=12) (hin:∀x∈s.parts,x.inn.length=12)
 (hph:∀i,(s.part i).phis.length≤100) (hreg:∀i k,k<(s.part i).phis.length→∃r:Nat,(s.phi i k).reg=r∧r<12) (harg:∀i k,s.arg i k=[]) (hpv:∀i,(prevL bs i).length≤300∧∀q∈prevL bs i,-1≤q∧q<bs.length):
 Calls Tryd.prog 31 #[.pointer (some ⟨b,0,none⟩)] w fun e w' =>∃s' V',e= .returned (.tuple #[])∧SbAt w' b c s' V' ∧FrS w b V w' V' ∧ClsR s s' (prevL bs) s.parts.length 0 0:=by
 obtain⟨gb,Bb,hbv,hblk⟩:=ro.blk
 obtain⟨N,hN⟩:∃n,bs.length=n:=⟨_,rfl⟩
 have HBLK:=Lib.hid hblk
 have HPV:=Lib.hid hpv
 have HW:=Lib.hid hw
 have H:=Lib.hid h
 have HIN:=Lib.hid hin
 have HEN:=Lib.hid hen
 have HPH:=Lib.hid hph
 have HREG:=Lib.hid hreg
 have HARG:=Lib.hid harg
 have HH0:=Lib.hid h0
 rw[hN] at hbv hpl hel hb100
 have HPL:=Lib.hid hpl
 have HEL:=Lib.hid hel
 have HNB:=Lib.hid hN
 have zgbL:=block_lt hblk.blk
 have KBX:=Lib.hid (fun(W:World) (s' :SB) (V' :SK→Value) (h:SbAt W b c s' V')=>(⟨(h.cell 5).trans (by show some c.bv=_;rw[hbv]),h.cell 9,h.cell 10,h.lt⟩:
  W.cell? ⟨b,5,none⟩=some (.slice (some ⟨gb,0,none⟩) N N)∧W.cell? ⟨b,9,none⟩=some (V' .parts)∧W.cell? ⟨b,10,none⟩=some (V' .ends)∧b<W.heap.size))
 obtain⟨A0,cp,hvp,-,hpA⟩:=h.rowV .parts (n:=N) hpl
 have HVP:=Lib.hid hvp
 have HPA:=Lib.hid hpA
 obtain⟨k5,k9,k10,zb⟩:=KBX.out _ _ _ h
 rw[hvp] at k9
 have hs0:=SbX.start h
 have HX0:=Lib.hid hs0
 rw[hpl]
 clear hblk hpv hw h hin hen hph hreg harg h0 hpl hel hN hbv hvp hpA hs0 ro
 obtain⟨i0,hi,jz0,jz1,jz2⟩:=info_parts infoI
 go_enter Tryd.func31,Tryd.ntmps31
 go_wp2_with fail
 clear k5 k9 k10 zb
 go_loopw [14] (fun v14 wr=>∃(i:Nat) (s' :SB) (V' :SK→Value),i≤N∧v14= .int .i64 (i:Int)∧SbX w V b c wr s' V' []∧ClsR s s' (prevL bs) i 0 0∧V' .parts=V .parts) (fun v14 _=>N-(intOf v14).toNat)
 case atStart=>exact⟨0,s,V,by omega,rfl,HX0.out,ClsR.start _ _,rfl⟩
 case round=>
  obtain⟨i,s1,V1,hi100,rfl,hX,hR,hv1⟩:=hrel
  clear HX0
  have HX:=Lib.hid hX
  have HR:=Lib.hid hR
  have HV:=Lib.hid hv1
  by_cases hiN:i=N
  ·subst hiN
   go_wp2_with fail
   refine bodyPost_end (v:= .tuple #[]) (by simp[results,Tryd.results31,go_sem]) rfl ⟨s1,V1,rfl,HX.out.sb,HX.out.fr,HR.out⟩
  ·have hi1:i<N:=by omega
   have hi2:(i:Int)<N:=by omega
   have hi3:(0:Int)≤i:=by omega
   obtain⟨gp,rfl,-,-⟩:=HPA.out (by omega)
   have hin1:∀x∈s1.parts,x.inn.length=12:=fun x hx=>by
    obtain⟨j,hj,rfl⟩:=List.getElem_of_mem hx
    have h1:=(hR.part j).2.2.1
    have h2:s1.part j=s1.parts[j]:=by unfold SB.part;rw[gD,gE hj];rfl
    rw[←h2,h1]
    have hj' :j<s.parts.length:=by rw[←hR.len];exact hj
    unfold SB.part
    rw[gD,gE hj']
    exact HIN.out _ (List.getElem_mem hj')
   have hi1' :i<s1.parts.length:=by rw[hR.len,HPL.out];exact hi1
   have hvp:V1 .parts= .slice (some ⟨gp,0,none⟩) N cp:=hv1.trans HVP.out
   obtain⟨n,hn⟩:∃n,(s.part i).phis.length=n:=⟨_,rfl⟩
   have hn1:(s1.part i).phis.length=n:=by rw[(hR.part i).2.2.2,hn]
   have hn100:n≤100:=by rw[←hn];exact HPH.out i
   obtain⟨Ah,ch,hvh,-,hhA⟩:=hX.sb.rowV (.phis i) (n:=n) hn1
   have c1:=(hX.sb.partCell hin1 hvp hi1').1
   rw[hvh] at c1
   have zgp:=(hX.sb.rlt .parts (g:=gp) (by rw[hvp];rfl)).2
   obtain⟨k5,k9,k10,zb⟩:=KBX.out _ _ _ hX.sb
   rw[hvp] at k9
   have HNN:=Lib.hid hn
   have HVH:=Lib.hid hvh
   have HHA:=Lib.hid hhA
   obtain⟨w2,hw2⟩:∃wo:World,wo=wr:=⟨_,rfl⟩
   subst hw2
   clear hX hR hv1 hin1 hi1' hvp hn hn1 hvh hhA
   go_wp2_with fail
   clear c1 zgp k5 k9 k10 zb
   go_loopw [27] (fun v27 wr=>∃(k:Nat) (s' :SB) (V' :SK→Value),k≤n∧v27= .int .i64 (k:Int)∧SbX w V b c wr s' V' []∧ClsR s s' (prevL bs) i k 0∧V' .parts=V .parts∧V' (.phis i)= .slice Ah n ch) (fun v27 _=>n-(intOf v27).toNat)
   case atStart=>exact⟨0,s1,V1,by omega,rfl,HX.out,HR.out,HV.out,HVH.out⟩
   case round=>
    obtain⟨k,s2,V2,hkn,rfl,hX,hR,hv1,hv2⟩:=hrel
    clear HX HR HV HVH
    have HX:=Lib.hid hX
    have HR:=Lib.hid hR
    have HV:=Lib.hid (show V2 .parts=V .parts∧V2 (.phis i)= .slice Ah n ch from⟨hv1,hv2⟩)
    by_cases hkN:k=n
    ·subst hkN
     go_wp2_with fail
     go_roundw
     case rel=>exact⟨i+1,s2,V2,by omega,by go_num,HX.out,HR.out.up HNN.out.symm,HV.out.1⟩
     case measure=>simp[intOf];omega
    ·have hk1:k<n:=by omega
     have hk2:(k:Int)<n:=by omega
     have hk3:(0:Int)≤k:=by omega
     obtain⟨gh,rfl,-,-⟩:=HHA.out (by omega)
     have hin2:∀x∈s2.parts,x.inn.length=12:=fun x hx=>by
      obtain⟨j,hj,rfl⟩:=List.getElem_of_mem hx
      have h1:=(hR.part j).2.2.1
      have h2:s2.part j=s2.parts[j]:=by unfold SB.part;rw[gD,gE hj];rfl
      rw[←h2,h1]
      have hj' :j<s.parts.length:=by rw[←hR.len];exact hj
      unfold SB.part
      rw[gD,gE hj']
      exact HIN.out _ (List.getElem_mem hj')
     have hi1' :i<s2.parts.length:=by rw[hR.len,HPL.out];exact hi1
     have hvp:V2 .parts= .slice (some ⟨gp,0,none⟩) N cp:=hv1.trans HVP.out
     have c1:=(hX.sb.partCell hin2 hvp hi1').1
     rw[hv2] at c1
     have zgp:=(hX.sb.rlt .parts (g:=gp) (by rw[hvp];rfl)).2
     have zgh:=(hX.sb.rlt (.phis i) (g:=gh) (by rw[hv2];rfl)).2
     obtain⟨k5,k9,k10,zb⟩:=KBX.out _ _ _ hX.sb
     rw[hvp] at k9
     have hbw:Below w0.heap.size w0 wr:=HW.out.trans (hX.fr.below.mono HH0.out)
     obtain⟨r,hr⟩:∃r,bs[i]? =some r:=⟨_,gE (by rw[HNB.out];exact hi1)⟩
     have hP:prevL bs i=r.pl:=by unfold prevL;rw[hr];rfl
     obtain⟨PA,pcap,hpv,hpc⟩:=own_slice (HBLK.out.rows.own i r true hr)
     have hpv' :r.pv= .slice PA r.pl.length pcap:=hpv
     have c3:wr.cell? ⟨gb,i*4+3,none⟩=some (.slice PA r.pl.length pcap):=(hbw.cell (p:=⟨gb,_,none⟩) zgbL).trans ((HBLK.out.cell hr (j:=3) (by omega)).trans (by rw[←hpv'];rfl))
     have zgb:=Nat.lt_of_lt_of_le zgbL hbw.size
     obtain⟨hpl300,hpb⟩:=HPV.out i
     rw[hP] at hpl300
     have HPR:=Lib.hid hP
     obtain⟨pn,hpn⟩:∃m,r.pl.length=m:=⟨_,rfl⟩
     rw[hpn] at c3 hpl300
     have HPN:=Lib.hid hpn
     have HPB:=Lib.hid hpb
     have HPC:=Lib.hid hpc
     obtain⟨w3,hw3⟩:∃wo:World,wo=wr:=⟨_,rfl⟩
     subst hw3
     clear hX hR hv1 hv2 hin2 hi1' hvp hbw hr hP hpv hpv' hpn hpb hpc
     go_wp2_with fail
     clear c1 c3 zgp zgh zgb k5 k9 k10 zb
     go_loopw [50] (fun v50 wr=>∃(q:Nat) (s' :SB) (V' :SK→Value),q≤pn∧v50= .int .i64 (q:Int)∧SbX w V b c wr s' V' []∧ClsR s s' (prevL bs) i k q∧V' .parts=V .parts∧V' (.phis i)= .slice (some ⟨gh,0,none⟩) n ch) (fun v50 _=>pn-(intOf v50).toNat)
     case atStart=>exact⟨0,s2,V2,by omega,rfl,HX.out,HR.out,HV.out.1,HV.out.2⟩
     case round=>
      obtain⟨q,s3,V3,hqn,rfl,hX,hR,hv1,hv2⟩:=hrel
      clear HX HR HV
      have HX:=Lib.hid hX
      have HR:=Lib.hid hR
      have HV:=Lib.hid (show V3 .parts=V .parts∧V3 (.phis i)= .slice (some ⟨gh,0,none⟩) n ch from⟨hv1,hv2⟩)
      by_cases hqN:q=pn
      ·subst hqN
       go_wp2_with fail
       go_roundw
       case rel=>exact⟨k+1,s3,V3,by omega,by go_num,HX.out,HR.out.next (by rw[HPR.out,HPN.out]),HV.out.1,HV.out.2⟩
       case measure=>simp[intOf];omega
      ·have hq1:q<pn:=by omega
       have hq2:(q:Int)<pn:=by omega
       have hq3:(0:Int)≤q:=by omega
       obtain⟨gq,hPA,zgq,hcq⟩:=HPC.out (by show 0<r.pl.length;rw[HPN.out];omega)
       obtain⟨z,hz⟩:∃z,(prevL bs i)[q]'(by rw[HPR.out,HPN.out];exact hq1)=z:=⟨_,rfl⟩
       have hzm:z∈prevL bs i:=by rw[←hz];exact List.getElem_mem _
       obtain⟨hz1',hz2'⟩:=HPB.out z hzm
       rw[HNB.out] at hz2'
       have hbw:Below w0.heap.size w0 wr:=HW.out.trans (hX.fr.below.mono HH0.out)
       have cq:wr.cell? ⟨gq,q,none⟩=some (.int .i64 z):=(hbw.cell (p:=⟨gq,_,none⟩) zgq).trans ((hcq q (by show q<r.pl.length*1;rw[HPN.out];omega)).trans (by
        show(r.pl.map _)[q]? =_
        rw[List.getElem?_map,←HPR.out,gE (by rw[HPR.out,HPN.out];exact hq1),hz];rfl))
       subst hPA
       have zgq' :=Nat.lt_of_lt_of_le zgq hbw.size
       have hk' :k<(s3.part i).phis.length:=by rw[(hR.part i).2.2.2,HNN.out];exact hk1
       have hks:k<(s.part i).phis.length:=by rw[HNN.out];exact hk1
       obtain⟨rg,hrg,hrg12⟩:=HREG.out i k hks
       obtain⟨e0,e1,e2⟩:=hX.sb.phiCell hv2 hk'
       rw[(hR.phi i k).1,hrg] at e0
       have hal:(s3.arg i k).length=q:=by
        rw[hR.arg i k hks,HARG.out,if_neg (by omega),if_pos ⟨rfl,rfl⟩]
        unfold fullA
        rw[List.nil_append,List.length_take,List.length_map,HPR.out,HPN.out];omega
       obtain⟨Aa,ca,hva,-,-⟩:=hX.sb.rowV (.args i k) (n:=q) hal
       rw[hva] at e2
       have zgh:=(hX.sb.rlt (.phis i) (g:=gh) (by rw[hv2];rfl)).2
       obtain⟨v,hv⟩:∃v,comes s.ends z (s.phi i k).reg=v:=⟨_,rfl⟩
       have HZ:=Lib.hid (show comes s.ends ((prevL bs i)[q]'(by rw[HPR.out,HPN.out];exact hq1)) (s.phi i k).reg=v by rw[hz];exact hv)
       have HST:=Lib.hid (fun(hq:q<(prevL bs i).length)=>hR.step (by rw[HPL.out];exact hi1) hks hq HZ.out)
       have hvv:v=if 0≤z then(s.ends.getD z.toNat []).getD rg 0 else(rg:Int):=by rw[←hv,hrg];rfl
       have HVV:=Lib.hid hvv
       have HAL:=Lib.hid hal
       have HVA:=Lib.hid hva
       have HK3:=Lib.hid hk'
       have hq300:q≤300:=by omega
       obtain⟨k5,k9,k10,zb⟩:=KBX.out _ _ _ hX.sb
       have hen3:s3.ends=s.ends:=hR.ends
       have HE3:=Lib.hid hen3
       have hi1' :i<s3.parts.length:=by rw[hR.len,HPL.out];exact hi1
       have HI3:=Lib.hid hi1'
       obtain⟨Ae,ce,hve,-,heA⟩:=hX.sb.rowV .ends (n:=N) (by show s3.ends.length=N;rw[hen3];exact HEL.out)
       obtain⟨ge,rfl,-,zge⟩:=heA (by omega)
       rw[hve] at k10
       have HVE:=Lib.hid hve
       clear hX hR hv1 hv2 hz hzm hcq hbw hk' hks hrg hal hva hv hvv hen3 hi1' hve heA
       go_upto_if 59 with fail
       go_cut [7] from 51 to 82 (fun v7 wx=>v7= .int .i64 v∧SbX w V b c wx s3 V3 [])
       case first=>
        by_cases hz0:0≤z
        ·obtain⟨zn,rfl⟩:∃m:Nat,z=m:=⟨z.toNat,by omega⟩
         have hzN:zn<N:=by omega
         have hzN2:(zn:Int)<N:=by omega
         have hzN3:(0:Int)≤zn:=by omega
         have rg2:(rg:Int)<12:=by omega
         have rg3:(0:Int)≤rg:=by omega
         have hv2:(s.ends.getD zn []).getD rg 0=v:=by rw[HVV.out,if_pos hz0,Int.toNat_natCast]
         have hee:=HX.out.sb.own.cell .ends (by rw[rowsOf_v];exact HVE.out) (show(regCells s3.ends)[zn*12+rg]? =some (.int .i64 v) from by rw[HE3.out,regs_at HEN.out (by rw[HEL.out];exact hzN) hrg12,hv2])
         clear hv2 hz0
         go_wp2_with fail
         go_quiet (fail)
         go_wp2_with fail
         go_meet
         exact⟨rfl,HX.out.keeps (below_drewN (Below.refl _ _) _)⟩
        ·have hzd:decide (z≥0)=false:=by simpa using hz0
         go_wp2_with fail
         go_meet
         exact⟨by rw[HVV.out,if_neg (by omega)],HX.out⟩
       case rest=>
        obtain⟨rfl,hx⟩:=hcut
        rename World=>w5
        have HX5:=Lib.hid hx
        clear e0 e1 e2 zgh zb k5 k9 k10 zge zgq' cq HX
        obtain⟨e0,e1,e2⟩:=hx.sb.phiCell HV.out.2 HK3.out
        rw[HVA.out] at e2
        have zgh:=(hx.sb.rlt (.phis i) (g:=gh) (by rw[HV.out.2];rfl)).2
        have zb:=hx.sb.lt
        have HOW:Hid (w5.ownsRow (b+1) 3 1 (.slice Aa q ca) q (intsV (s3.arg i k))):=Lib.hid (by
         have h:=hx.sb.own.own (.args i k)
         have e:rowsOf s3 V3 (.args i k)=⟨3,1, .slice Aa q ca,q,intsV (s3.arg i k)⟩:=by
          show(⟨_,_,V3 _,(s3.arg i k).length,_⟩:RowC)=_
          rw[HVA.out,HAL.out]
         rw[e] at h
         exact h)
        have hne:=hx.sb.own.ap (.phis i) (.args i k) (by simp) gh (by rw[rowsOf_v,HV.out.2];rfl)
        rw[rowsOf_v,HVA.out] at hne
        have HNE:=Lib.hid hne
        have HFZ:=Lib.hid (hx.sb.own.free (.phis i) (by rw[rowsOf_v];exact HV.out.2) (k*3+2)).1
        clear hx hne
        go_wp2_with (first|(at_builtin;go_must (refine wpList_append_lies _ rfl _ _ 24 rfl (b+1) 3 i0 _ 1 8 Tryd.underlying24 hi jz0 jz1 jz2 rfl (by decide) (.slice Aa q ca) q (intsV (s3.arg i k)) rfl (own_below HOW.out ((Below.refl _ _).alloc (Nat.le_refl _) _)) ⟨w5.heap.size,0,none⟩ 1 1 [.int .i64 v] rfl rfl (cell_one_new _ _ _) (by simp[Value.oneCell']) (by omega) (by unfold maxLen;omega) (by omega) (by simp;omega) _ rfl ?_);intro g9 cap9 w9 hown9 hg9 hat9 _;have hpush:=HX5.out.sb.pushArg HI3.out HK3.out _ v HV.out.2 (by rw[HVA.out];exact hg9) (by rw[HAL.out]) hown9 (by rw[HVA.out];exact hat9) (by simp);have hbk:=hg9.block gh (by simp;omega) (fun e=>HNE.out e.symm);have u9:=(World.cell?_of_block hbk).trans ((((Below.refl w5.heap.size w5).alloc (Nat.le_refl _) _).cell (p:=⟨gh,_,none⟩) zgh).trans e2);have f9:=(World.frozen?_of_block hbk).trans ((((Below.refl w5.heap.size w5).alloc (Nat.le_refl _) _).frozen (p:=⟨gh,_,none⟩) zgh).trans HFZ.out);have zg9:gh<w9.heap.size:=(by have:=hg9.size;simp at this;omega);have HP:=Lib.hid hpush;clear hown9 hg9 hat9 hpush hbk e0 e1 e2))
        go_roundw
        case rel=>exact⟨q+1,s3.addArg i k v,_,by omega,by go_num,HX5.out.call HP.out.1 HP.out.2,HST.out (by rw[HPR.out,HPN.out];exact hq1),by rw[putV_ne _ (by simp)];exact HV.out.1,by rw[putV_ne _ (by simp)];exact HV.out.2⟩
        case measure=>simp[intOf];omega
theorem findi_any{b:Nat}{c:SC}{s:SB}{V:SK→Value}{w:World}(h:SbAt w b c s V)(ha:AllR s.same)(a:Int)(h2:a<s.same.length):
 Calls Tryd.prog 60 #[.pointer (some ⟨b,0,none⟩), .int .i64 a] w fun e w' =>e= .returned (.int .i64 (rti s.same a))∧w=w' :=by
 by_cases h0:a<0
 ·rw[rti_neg h0];exact find_neg b a w h0
 ·obtain⟨n,rfl⟩:∃n:Nat,a=n:=⟨a.toNat,by omega⟩
  obtain⟨k,hk⟩:=ha.at_ (v:=n) (by omega)
  rw[rti_nat];exact find_any b c s V w h hk
set_option maxRecDepth 100000 in
set_option maxHeartbeats 8000000 in
theorem trivial_any(b:Nat)(c:SC)(s:SB)(V:SK→Value)(w:World)(h:SbAt w b c s V)(ha:AllR s.same)(x:PhiS)(A:Option Addr)(n cap:Nat)(hn:x.args.length=n)(hn300:n≤300)
 (hA:0<n→∃g,A=some ⟨g,0,none⟩∧g<w.heap.size∧∀(j:Nat) (a:Int),x.args[j]? =some a→w.cell? ⟨g,j,none⟩=some (.int .i64 a)) (harg:∀a∈x.args,a<s.same.length):
 Calls Tryd.prog 57 #[.pointer (some ⟨b,0,none⟩), .agg #[.int .i64 x.reg, .int .i64 x.id, .slice A n cap]] w fun e w' =>e= .returned (.int .i64 (trvP s.same x))∧Below w.heap.size w w' :=by
 obtain⟨T,hT⟩:∃T,trvP s.same x=T:=⟨_,rfl⟩
 have HT0:=Lib.hid (show trv x.id ((x.args.drop 0).map (rti s.same)) (-1)=T from hT)
 rw[hT]
 obtain⟨id,hid⟩:∃d,x.id=d:=⟨_,rfl⟩
 obtain⟨rg,hrg⟩:∃d,x.reg=d:=⟨_,rfl⟩
 rw[hid] at HT0⊢
 rw[hrg]
 have HB:=Lib.hid ((Below.refl w.heap.size w).alloc (Nat.le_refl _) (.cells #[.int .i64 rg, .int .i64 id, .slice A n cap] 88))
 have HF:=Lib.hid (fun(a:Int) (h2:a<s.same.length)=>findi_any (h.keeps HB.out) ha a h2)
 have HA:=Lib.hid hA
 have HN:=Lib.hid hn
 have HG:=Lib.hid harg
 clear h ha hA hn harg hT hid hrg
 go_enter Tryd.func57,Tryd.ntmps57
 go_wp2_with fail
 go_loop [5,11] (fun v5 v11=>∃(j:Nat) (v:Int),j≤n∧v11= .int .i64 (j:Int)∧v5= .int .i64 v∧trv id ((x.args.drop j).map (rti s.same)) v=T) (fun _ v11=>n-(intOf v11).toNat)
 case atStart=>exact⟨0,-1,by omega,rfl,rfl,HT0.out⟩
 case round=>
  obtain⟨j,v,hj,rfl,rfl,hT⟩:=hrel
  clear HT0
  by_cases hjn:j=n
  ·subst hjn
   have hvT:v=T:=by
    rw[List.drop_of_length_le (by rw[HN.out];exact Nat.le_refl _)] at hT
    exact hT
   subst hvT
   clear hT
   go_wp2_with fail
   go_ret
   exact⟨rfl,HB.out⟩
  ·have hj1:j<n:=by omega
   have hj2:(j:Int)<n:=by omega
   have hj3:(0:Int)≤j:=by omega
   obtain⟨g,rfl,zg,hc⟩:=HA.out (by omega)
   obtain⟨a,ha⟩:∃a,x.args[j]? =some a:=⟨_,gE (by rw[HN.out];exact hj1)⟩
   have hcj:(w.alloc (.cells #[.int .i64 rg, .int .i64 id, .slice (some ⟨g,0,none⟩) n cap] 88)).cell? ⟨g,j,none⟩=some (.int .i64 a):=(HB.out.cell (p:=⟨g,_,none⟩) zg).trans (hc j a ha)
   have hfa:=HF.out a (HG.out a (gM ha))
   obtain⟨ra,hra⟩:∃r,rti s.same a=r:=⟨_,rfl⟩
   rw[hra] at hfa
   have HFA:=Lib.hid hfa
   have hd:(x.args.drop j).map (rti s.same)=ra::(x.args.drop (j+1)).map (rti s.same):=by
    have hl:=(gI.1 ha).1
    rw[List.drop_eq_getElem_cons hl,List.map_cons,(gI.1 ha).2,hra]
   rw[hd] at hT
   unfold trv at hT
   have HT:=Lib.hid hT
   have zg2:g<(w.alloc (.cells #[.int .i64 rg, .int .i64 id, .slice (some ⟨g,0,none⟩) n cap] 88)).heap.size:=by simp;omega
   clear hT hd hra hfa ha hc
   by_cases e1:ra=id
   ·have HT2:=Lib.hid (by have h:=HT.out;rw[if_pos (.inl e1)] at h;exact h:trv id ((x.args.drop (j+1)).map (rti s.same)) v=T)
    have b1:(ra==id)=true:=by simpa using e1
    clear e1 HT
    go_wp2_with (first|(go_at_call 60;go_must (refine(HFA.out).mono ?_;rintro e w2 ⟨rfl,rfl⟩)))
    go_round
    case rel=>exact⟨j+1,v,by omega,by go_num,rfl,HT2.out⟩
    case measure=>simp[intOf];omega
   ·have b1:(ra==id)=false:=by simpa using e1
    by_cases e2:ra=v
    ·have HT2:=Lib.hid (by have h:=HT.out;rw[if_pos (.inr e2)] at h;exact h:trv id ((x.args.drop (j+1)).map (rti s.same)) v=T)
     have b2:(ra==v)=true:=by simpa using e2
     clear e1 e2 HT
     go_wp2_with (first|(go_at_call 60;go_must (refine(HFA.out).mono ?_;rintro e w2 ⟨rfl,rfl⟩)))
     go_round
     case rel=>exact⟨j+1,v,by omega,by go_num,rfl,HT2.out⟩
     case measure=>simp[intOf];omega
    ·have b2:(ra==v)=false:=by simpa using e2
     have HT2:=Lib.hid (by have h:=HT.out;rw[if_neg (fun h=>h.elim e1 e2)] at h;exact h:(if 0≤v then -1 else trv id ((x.args.drop (j+1)).map (rti s.same)) ra)=T)
     clear e1 e2 HT
     by_cases e3:0≤v
     ·have HT3:=Lib.hid (by have h:=HT2.out;rw[if_pos e3] at h;exact h: -1=T)
      have b3:decide (v≥0)=true:=by simpa using e3
      clear e3 HT2
      go_wp2_with (first|(go_at_call 60;go_must (refine(HFA.out).mono ?_;rintro e w2 ⟨rfl,rfl⟩)))
      go_ret
      exact⟨by rw[←HT3.out];rfl,HB.out⟩
     ·have HT3:=Lib.hid (by have h:=HT2.out;rw[if_neg e3] at h;exact h:trv id ((x.args.drop (j+1)).map (rti s.same)) ra=T)
      have b3:decide (v≥0)=false:=by simpa using e3
      clear e3 HT2
      go_wp2_with (first|(go_at_call 60;go_must (refine(HFA.out).mono ?_;rintro e w2 ⟨rfl,rfl⟩)))
      go_round
      case rel=>exact⟨j+1,ra,by omega,by go_num,rfl,HT3.out⟩
      case measure=>simp[intOf];omega
theorem SbX.sub{w wr:World}{b:Nat}{c:SC}{s:SB}{V0 V:SK→Value}{ls ls' :List (Nat×Obj)}(h:SbX w V0 b c wr s V ls)(hs:∀x∈ls',x∈ls):SbX w V0 b c wr s V ls' :=⟨h.sb,h.fr,fun x hx=>h.loc x (hs x hx)⟩
theorem SbAt.argCells{w:World}{b:Nat}{c:SC}{s:SB}{V:SK→Value}(h:SbAt w b c s V)(i k:Nat){n:Nat}(hn:(s.arg i k).length=n):∃A cap,V (.args i k)= .slice A n cap∧(0<n→∃g,A=some ⟨g,0,none⟩∧g<w.heap.size∧∀(j:Nat) (a:Int),(s.arg i k)[j]? =some a→w.cell? ⟨g,j,none⟩=some (.int .i64 a)):=by
 obtain⟨A,cap,hv,-,hA⟩:=h.rowV (.args i k) (n:=n) hn
 refine⟨A,cap,hv,fun h0=> ?_⟩
 obtain⟨g,rfl,-,hg⟩:=hA h0
 exact⟨g,rfl,hg,fun j a ha=>h.own.cell (.args i k) (by rw[rowsOf_v];exact hv) (show(intsV (s.arg i k))[j]? =_ from by simp[intsV,ha])⟩
noncomputable def swK(s:SB)(i:Nat)(l:List Int)(k:Nat):List Int:=if l[(s.phi i k).id.toNat]? =some (s.phi i k).id∧0≤trvP l (s.phi i k) then l.set (s.phi i k).id.toNat (trvP l (s.phi i k)) else l
noncomputable def swI(s:SB)(l:List Int)(i n:Nat):List Int:=(List.range n).foldl (swK s i) l
noncomputable def swP(s:SB)(l:List Int)(n:Nat):List Int:=(List.range n).foldl (fun l i=>swI s l i (s.part i).phis.length) l
noncomputable def itS(s:SB):Nat→List Int
 |0=>s.same
 |n+1=>swP s (itS s n) s.parts.length
theorem swI_succ(s:SB)(l:List Int)(i n:Nat):swI s l i (n+1)=swK s i (swI s l i n) n:=by
 unfold swI
 rw[List.range_succ,List.foldl_append];rfl
theorem swP_succ(s:SB)(l:List Int)(n:Nat):swP s l (n+1)=swI s (swP s l n) n (s.part n).phis.length:=by
 unfold swP
 rw[List.range_succ,List.foldl_append];rfl
set_option maxRecDepth 100000 in
set_option maxHeartbeats 8000000 in
theorem shrink_any(b:Nat)(c:SC)(s:SB)(V:SK→Value)(w:World)(h:SbAt w b c s V)(ok:PhisOk s)(hal:AllR s.same)(hn:s.same.length≤100000)(hpl:s.parts.length≤100)(hin:∀x∈s.parts,x.inn.length=12)
 (hph:∀i,(s.part i).phis.length≤100) (har:∀i k,(s.arg i k).length≤300):
 Calls Tryd.prog 32 #[.pointer (some ⟨b,0,none⟩)] w fun e w' =>∃l,e= .returned (.tuple #[])∧(Shr s l∧(∃n,l=itS s n)∧swP s l s.parts.length=l)∧(∀i k,i<s.parts.length→k<(s.part i).phis.length→DoneP s l i k)∧SbAt w' b c {s with same:=l} V∧FrS w b V w' V:=by
 obtain⟨N,hN⟩:∃n,s.parts.length=n:=⟨_,rfl⟩
 obtain⟨NS,hNS⟩:∃n,s.same.length=n:=⟨_,rfl⟩
 obtain⟨A0,cp,hvp,-,hpA⟩:=h.rowV .parts (n:=N) hN
 obtain⟨A1,cs,hvs,-,hsA⟩:=h.rowV .same (n:=NS) hNS
 have HVP:=Lib.hid hvp
 have HPA:=Lib.hid hpA
 have HVS:=Lib.hid hvs
 have HSA:=Lib.hid hsA
 have HNN:=Lib.hid hN
 have HNS:=Lib.hid hNS
 have HIN:=Lib.hid hin
 have HPH:=Lib.hid hph
 have HAR:=Lib.hid har
 have HOK:=Lib.hid ok
 have HAL:=Lib.hid hal
 have KBX:=Lib.hid (fun(W:World) (s' :SB) (h:SbAt W b c s' V)=>(⟨(h.cell 9).trans (by show some (V .parts)=_;rw[hvp]),(h.cell 11).trans (by show some (V .same)=_;rw[hvs]),h.lt⟩:
  W.cell? ⟨b,9,none⟩=some (.slice A0 N cp)∧W.cell? ⟨b,11,none⟩=some (.slice A1 NS cs)∧b<W.heap.size))
 have HX0:Hid (SbX w V b c w {s with same:=s.same} V []):=Lib.hid (SbX.start h)
 have hN100:N≤100:=by omega
 have hNS5:NS≤100000:=by omega
 clear h ok hal hn hpl hin hph har hN hNS hvp hpA hvs hsA
 go_enter Tryd.func32,Tryd.ntmps32
 go_wp2_with fail
 go_loopg [2] (rootsC s.same+1) (fun q v2 wr=>∃(l:List Int) (ch:Bool),(Shr s l∧(∃n,l=itS s n)∧(ch=false→swP s l s.parts.length=l))∧(ch=false→∀i k,i<s.parts.length→k<(s.part i).phis.length→DoneP s l i k)∧q=(if ch=true then rootsC l+1 else 0)∧v2= .bool ch∧SbX w V b c wr {s with same:=l} V [])
 case atStart=>exact⟨s.same,true,⟨.base,⟨0,rfl⟩,fun h=>by simp at h⟩,fun h=>by simp at h,rfl,rfl,HX0.out⟩
 case round=>
  obtain⟨l,ch,hS,hD,rfl,rfl,hX⟩:=hrel
  have HS:=Lib.hid hS
  have HX:=Lib.hid hX
  have HD:=Lib.hid hD
  cases ch with
  |false=>
   clear hS hD hX HX0
   go_wp2_with fail
   refine bodyPost_end (v:= .tuple #[]) (by simp[results,Tryd.results32,go_sem]) rfl ⟨rfl,l,⟨HS.out.1,HS.out.2.1,HS.out.2.2 (by simp)⟩,HD.out (by simp),HX.out.sb,HX.out.fr⟩
  |true=>
   obtain⟨k9,k11,zb⟩:=KBX.out _ _ hX.sb
   obtain⟨w1,hw1⟩:∃wo:World,wo=wr:=⟨_,rfl⟩
   subst hw1
   clear hS hD hX HX0 HD
   go_wp2_with fail
   clear k9 k11 zb
   go_loopw [2,14] (fun v2 v14 wr=>∃(i:Nat) (m:List Int) (ch:Bool),i≤N∧v14= .int .i64 (i:Int)∧v2= .bool ch∧(Shr s m∧m=swP s l i)∧(ch=true→rootsC m<rootsC l)∧(ch=false→m=l∧∀j k,j<i→k<(s.part j).phis.length→DoneP s l j k)∧SbX w V b c wr {s with same:=m} V []) (fun _ v14 _=>N-(intOf v14).toNat)
   case atStart=>exact⟨0,l,false,by omega,rfl,rfl,⟨HS.out.1,rfl⟩,fun h=>by simp at h,fun _=>⟨rfl,fun j k hj=>by omega⟩,HX.out⟩
   case round=>
    obtain⟨i,m,ch,hiN,rfl,rfl,hS,hT,hD,hX⟩:=hrel
    clear HX
    have HSM:=Lib.hid hS
    have HX:=Lib.hid hX
    have HT:=Lib.hid hT
    have HD:=Lib.hid hD
    by_cases hi0:i=N
    ·subst hi0
     clear hS hT hD hX
     go_wp2_with fail
     cases ch with
     |false=>
      go_roundg 0
      case rel=>exact⟨m,false,⟨HSM.out.1,by obtain⟨q,hq⟩:=HS.out.2.1;exact⟨q+1,by show m=swP s (itS s q) s.parts.length;rw[HSM.out.2,←hq,HNN.out]⟩,fun _=>by have h1:=HSM.out.2;have h2:=(HD.out rfl).1;rw[HNN.out,h2];rw[h2] at h1;exact h1.symm⟩,fun _ j k hj hk=>by rw[(HD.out rfl).1];exact(HD.out rfl).2 j k (by rw[HNN.out] at hj;exact hj) hk,rfl,rfl,HX.out⟩
      case measure=>simp
     |true=>
      go_roundg (rootsC m+1)
      case rel=>exact⟨m,true,⟨HSM.out.1,by obtain⟨q,hq⟩:=HS.out.2.1;exact⟨q+1,by show m=swP s (itS s q) s.parts.length;rw[HSM.out.2,←hq,HNN.out]⟩,fun h=>by simp at h⟩,fun h=>by simp at h,rfl,rfl,HX.out⟩
      case measure=>have h:=HT.out rfl;simp;omega
    ·have hi1:i<N:=by omega
     have hi2:(i:Int)<N:=by omega
     have hi3:(0:Int)≤i:=by omega
     obtain⟨gp,rfl,-,-⟩:=HPA.out (by omega)
     obtain⟨k9,k11,zb⟩:=KBX.out _ _ hX.sb
     obtain⟨n,hnn⟩:∃n,(s.part i).phis.length=n:=⟨_,rfl⟩
     have hn100:n≤100:=by rw[←hnn];exact HPH.out i
     obtain⟨Ah,ch0,hvh,-,hhA⟩:=hX.sb.rowV (.phis i) (n:=n) hnn
     have c1:=(hX.sb.partCell HIN.out HVP.out (by show i<s.parts.length;rw[HNN.out];exact hi1)).1
     rw[hvh] at c1
     have zgp:=(hX.sb.rlt .parts (g:=gp) (by rw[HVP.out];rfl)).2
     have HVH:=Lib.hid hvh
     have HHA:=Lib.hid hhA
     have HNH:=Lib.hid hnn
     obtain⟨w2,hw2⟩:∃wo:World,wo=wr:=⟨_,rfl⟩
     subst hw2
     clear hS hT hD hX hvh hhA hnn
     go_wp2_with fail
     clear k9 k11 zb c1 zgp
     go_loopw [2,27] (fun v2 v27 wr=>∃(k:Nat) (m:List Int) (ch:Bool),k≤n∧v27= .int .i64 (k:Int)∧v2= .bool ch∧(Shr s m∧m=swI s (swP s l i) i k)∧(ch=true→rootsC m<rootsC l)∧(ch=false→m=l∧(∀j k,j<i→k<(s.part j).phis.length→DoneP s l j k)∧∀j,j<k→DoneP s l i j)∧SbX w V b c wr {s with same:=m} V []) (fun _ v27 _=>n-(intOf v27).toNat)
     case atStart=>exact⟨0,m,ch,by omega,rfl,rfl,⟨HSM.out.1,HSM.out.2⟩,HT.out,fun h=>⟨(HD.out h).1,(HD.out h).2,fun j hj=>by omega⟩,HX.out⟩
     case round=>
      obtain⟨k,m,ch,hkN,rfl,rfl,hS,hT,hD,hX⟩:=hrel
      clear HX HSM HT HD
      have HSM:=Lib.hid hS
      have HX:=Lib.hid hX
      have HT:=Lib.hid hT
      have HD:=Lib.hid hD
      by_cases hk0:k=n
      ·subst hk0
       clear hS hT hD hX
       go_wp2_with fail
       go_roundw
       case rel=>exact⟨i+1,m,ch,by omega,by go_num,rfl,⟨HSM.out.1,by rw[swP_succ,HNH.out];exact HSM.out.2⟩,HT.out,fun h=>⟨(HD.out h).1,fun j t hj ht=>by
        by_cases e:j=i
        ·subst e;exact(HD.out h).2.2 t (by rw[←HNH.out];exact ht)
        ·exact(HD.out h).2.1 j t (by omega) ht⟩,HX.out⟩
       case measure=>simp[intOf];omega
      ·have hk1:k<n:=by omega
       have hk2:(k:Int)<n:=by omega
       have hk3:(0:Int)≤k:=by omega
       obtain⟨gh,rfl,-,-⟩:=HHA.out (by omega)
       have hip:i<s.parts.length:=by rw[HNN.out];exact hi1
       have hkp:k<(s.part i).phis.length:=by rw[HNH.out];exact hk1
       obtain⟨d,hd,hdl⟩:=HOK.out.id i k hip hkp
       obtain⟨rg,hrg⟩:∃r,(s.phi i k).reg=r:=⟨_,rfl⟩
       obtain⟨na,hna⟩:∃r,(s.arg i k).length=r:=⟨_,rfl⟩
       have hna300:na≤300:=by rw[←hna];exact HAR.out i k
       obtain⟨Aa,ca,hva,hca⟩:=hX.sb.argCells i k (n:=na) hna
       obtain⟨e0',e1',e2⟩:=hX.sb.phiCell HVH.out hkp
       have e0:wr.cell? ⟨gh,k*3,none⟩=some (.int .i64 rg):=by rw[←hrg];exact e0'
       have e1:wr.cell? ⟨gh,k*3+1,none⟩=some (.int .i64 (d:Int)):=by rw[←hd];exact e1'
       rw[hva] at e2
       have zgh:=(hX.sb.rlt (.phis i) (g:=gh) (by rw[HVH.out];rfl)).2
       obtain⟨gs,rfl,-,-⟩:=HSA.out (by have:=HNS.out;omega)
       obtain⟨k9,k11,zb⟩:=KBX.out _ _ hX.sb
       have hml:m.length=s.same.length:=hS.1.len
       obtain⟨md,hmd⟩:∃x,m[d]? =some x:=⟨_,gE (by omega)⟩
       have cmd:wr.cell? ⟨gs,d,none⟩=some (.int .i64 md):=hX.sb.own.cell .same (by rw[rowsOf_v];exact HVS.out) (show(intsV m)[d]? =_ from by simp[intsV,hmd])
       have zgs:=(hX.sb.rlt .same (g:=gs) (by rw[HVS.out];rfl)).2
       have hd1:(d:Int)<NS:=by rw[HNS.out] at hdl;omega
       have hd0:(0:Int)≤d:=by omega
       have hdN:d<NS:=by omega
       obtain⟨L,hL⟩:∃L,wr.heap.size=L:=⟨_,rfl⟩
       have hX2:=hX.push (.cells #[.int .i64 rg, .int .i64 (d:Int), .slice Aa na ca] 88)
       rw[hL] at hX2
       have HX2:=Lib.hid hX2
       have HMD:=Lib.hid hmd
       have HML:=Lib.hid hml
       have HID:=Lib.hid hd
       have HKP:=Lib.hid hkp
       have HIP:=Lib.hid hip
       have HRG:=Lib.hid hrg
       have HNA:=Lib.hid hna
       have HVA:=Lib.hid hva
       clear e0' e1' hS hT hD hX hd hrg hna hva hmd hml hX2 hkp hip hdl
       by_cases hrt:md=d
       ·subst hrt
        obtain⟨T,hTT⟩:∃T,trvP m (s.phi i k)=T:=⟨_,rfl⟩
        have HAM:Hid (AllR m):=Lib.hid (HSM.out.1.all HOK.out HAL.out)
        have HTR:Hid (∀(W:World),SbX w V b c W {s with same:=m} V [(L, .cells #[.int .i64 rg, .int .i64 (d:Int), .slice Aa na ca] 88)]→Calls Tryd.prog 57 #[.pointer (some ⟨b,0,none⟩), .agg #[.int .i64 rg, .int .i64 (d:Int), .slice Aa na ca]] W fun e w' =>e= .returned (.int .i64 T)∧Below W.heap.size W w'):=Lib.hid (fun W hW=>by
         obtain⟨A',c',hv',hc'⟩:=hW.sb.argCells i k (n:=na) HNA.out
         have hee:(Value.slice Aa na ca)= .slice A' na c' :=by rw[←HVA.out];exact hv'
         simp only[Value.slice.injEq,true_and] at hee
         obtain⟨rfl,rfl⟩:=hee
         have h:=trivial_any b c {s with same:=m} V W hW.sb HAM.out (s.phi i k) Aa na ca HNA.out hna300 hc' (fun a ha=>by
          have:=(HOK.out.arg i k HIP.out HKP.out a ha).2
          show a<(m.length:Int)
          rw[HML.out];exact this)
         rw[HRG.out,HID.out,hTT] at h
         exact h)
        have HTT:=Lib.hid hTT
        clear hTT
        have hne:((d:Int) !=(d:Int))=false:=by simp
        go_wp2_with fail
        obtain⟨w3,hw3⟩:∃W,wr.alloc (.cells #[.int .i64 rg, .int .i64 (d:Int), .slice Aa na ca] 88)=W:=⟨_,rfl⟩
        rw[hw3] at HX2⊢
        clear hw3 e0 e1 e2 zgh k9 k11 zb cmd zgs hL
        obtain⟨k9,k11,zb⟩:=KBX.out _ _ HX2.out.sb
        have q1:w3.cell? ⟨L,1,none⟩=some (.int .i64 (d:Int)):=cell_block (HX2.out.box (.head _)) 1
        have zL:=block_lt (HX2.out.box (.head _))
        have cmd:w3.cell? ⟨gs,d,none⟩=some (.int .i64 (d:Int)):=HX2.out.sb.own.cell .same (by rw[rowsOf_v];exact HVS.out) (show(intsV m)[d]? =_ from by simp[intsV,HMD.out])
        have zgs:=(HX2.out.sb.rlt .same (g:=gs) (by rw[HVS.out];rfl)).2
        go_quiet (fail)
        obtain⟨w4,hw4⟩:∃W,w3.drewN nq=W:=⟨_,rfl⟩
        have HX4:Hid (SbX w V b c w4 {s with same:=m} V [(L, .cells #[.int .i64 rg, .int .i64 (d:Int), .slice Aa na ca] 88)]):=Lib.hid (hw4▸HX2.out.keeps (below_drewN (Below.refl _ _) _))
        rw[hw4]
        clear hw4 nq k9 k11 zb cmd zgs HX2 q1 zL
        have hbx:=HX4.out.box (.head _)
        have q0:w4.cell? ⟨L,0,none⟩=some (.int .i64 rg):=cell_block hbx 0
        have q1:w4.cell? ⟨L,1,none⟩=some (.int .i64 (d:Int)):=cell_block hbx 1
        have q2:w4.cell? ⟨L,2,none⟩=some (.slice Aa na ca):=cell_block hbx 2
        have zL:=block_lt hbx
        clear hbx
        by_cases hT0:T<0
        ·have hdT:decide (T≥0)=false:=by simpa using hT0
         go_wp2_with (first|(go_at_call 57;go_must (refine(HTR.out _ HX4.out).mono ?_;rintro e w6 ⟨rfl,hb6⟩;have HX6:=Lib.hid (HX4.out.keeps hb6);clear hb6 q0 q1 q2 zL)))
         go_roundw
         case rel=>exact⟨k+1,m,ch,by omega,by go_num,rfl,⟨HSM.out.1,by rw[swI_succ,←HSM.out.2];unfold swK;rw[if_neg (fun h=>by have h2:=h.2;rw[HTT.out] at h2;omega)]⟩,HT.out,fun h=>⟨(HD.out h).1,(HD.out h).2.1,fun j hj=>by
          by_cases e:j=k
          ·subst e
           intro d' _ _
           rw[←(HD.out h).1,HTT.out];exact hT0
          ·exact(HD.out h).2.2 j (by omega)⟩,HX6.out.sub (fun x hx=>by simp at hx)⟩
         case measure=>simp[intOf];omega
        ·obtain⟨x,rfl⟩:∃x:Nat,T=x:=⟨T.toNat,by omega⟩
         have hdT:decide ((x:Int)≥0)=true:=by simp
         obtain⟨hx1,hx2⟩:=trvP_root HOK.out HAM.out HML.out HIP.out HKP.out HTT.out
         rw[HID.out] at hx2
         have HRC:=Lib.hid (rootsC_set (x:=x) HMD.out (by omega))
         have HNX:=Lib.hid (HSM.out.1.step HIP.out HKP.out HID.out HMD.out HTT.out)
         have HLT:Hid (rootsC m≤rootsC l):=Lib.hid (by
          cases hc:ch with
          |false=>rw[(HD.out hc).1];exact Nat.le_refl _
          |true=>have:=HT.out hc;omega)
         have HST:=Lib.hid (fun(W:World) (h:SbAt W b c {s with same:=m} V)=>h.setSame (i:=d) (by show d<m.length;rw[HML.out,HNS.out];exact hdN) (x:Int) HVS.out)
         clear hx1 hx2 hT0
         go_wp2_with (first|(go_at_call 57;go_must (refine(HTR.out _ HX4.out).mono ?_;rintro e w6 ⟨rfl,hb6⟩;have HX6:=Lib.hid (HX4.out.keeps hb6);clear hb6 q0 q1 q2 zL)))
         have HX7:=HX6.out.keeps (Below.refl w6.heap.size w6).drew
         have HNE:Hid (gs≠b∧gs≠L):=Lib.hid ⟨fun e=>(by have:=(HX7.sb.rlt .same (g:=gs) (by rw[HVS.out];rfl)).1;omega),fun e=>(HX7.loc _ (.head _)).2.2.2 .same (by rw[HVS.out,e];rfl)⟩
         have HS6:Hid (w6.drew.cell? ⟨b,11,none⟩=some (.slice (some ⟨gs,0,none⟩) NS cs)∧w6.drew.cell? ⟨L,1,none⟩=some (.int .i64 (d:Int))):=Lib.hid ⟨(KBX.out _ _ HX7.sb).2.1,cell_block (HX7.box (.head _)) 1⟩
         have cmd:w6.cell? ⟨gs,d,none⟩=some (.int .i64 (d:Int)):=HX6.out.sb.own.cell .same (by rw[rowsOf_v];exact HVS.out) (show(intsV m)[d]? =_ from by simp[intsV,HMD.out])
         have fzs:=(HX6.out.sb.own.free .same (by rw[rowsOf_v];exact HVS.out) d).1
         have zgs:=(HX6.out.sb.rlt .same (g:=gs) (by rw[HVS.out];rfl)).2
         clear HX7
         refine wp_region_held_drew (S:=fun w' =>w'.cell? ⟨b,11,none⟩=some (.slice (some ⟨gs,0,none⟩) NS cs)∧w'.cell? ⟨L,1,none⟩=some (.int .i64 (d:Int))) (by kernel_rfl) HS6.out (fun hHeld=> ?_)
         refine wpAnyH_take (i:=0) (v:= .pointer (some ⟨b,0,none⟩)) rfl (by kernel_rfl) (by kernel_rfl) (by kernel_rfl) (fun _ _ _ h=>h) (Or.inl ⟨by rfl,?_⟩) hHeld ?_
         ·intro w hSw
          simp only[qg]
          go_simp
         simp only[Act.put,qs]
         refine wpAnyH_take (i:=1) (v:= .pointer (some ⟨b,0,none⟩)) rfl (by kernel_rfl) (by kernel_rfl) (by kernel_rfl) (fun _ _ _ h=>h) (Or.inl ⟨by rfl,?_⟩) hHeld ?_
         ·intro w hSw
          simp only[qg]
          go_simp
         simp only[Act.put,qs]
         refine wpAnyH_take (i:=2) (v:= .pointer (some ⟨b,11,none⟩)) rfl (by kernel_rfl) (by kernel_rfl) (by kernel_rfl) (fun _ _ _ h=>h) (Or.inl ⟨by rfl,?_⟩) hHeld ?_
         ·intro w hSw
          simp only[qg]
          go_simp
         simp only[Act.put,qs]
         refine wpAnyH_take (i:=3) (v:= .slice (some ⟨gs,0,none⟩) NS cs) rfl (by kernel_rfl) (by kernel_rfl) (by kernel_rfl) (fun _ _ _ h=>h) (Or.inl ⟨by rfl,?_⟩) hHeld ?_
         ·intro w hSw
          obtain⟨p0,p1⟩:=hSw
          simp only[qg]
          go_simp
         simp only[Act.put,qs]
         refine wpAnyH_take (i:=4) (v:= .pointer (some ⟨L,1,none⟩)) rfl (by kernel_rfl) (by kernel_rfl) (by kernel_rfl) (fun _ _ _ h=>h) (Or.inl ⟨by rfl,?_⟩) hHeld ?_
         ·intro w hSw
          simp only[qg]
          go_simp
         simp only[Act.put,qs]
         refine wpAnyH_take (i:=5) (v:= .int .i64 (d:Int)) rfl (by kernel_rfl) (by kernel_rfl) (by kernel_rfl) (fun _ _ _ h=>h) (Or.inl ⟨by rfl,?_⟩) hHeld ?_
         ·intro w hSw
          obtain⟨p0,p1⟩:=hSw
          simp only[qg]
          go_simp
         simp only[Act.put,qs]
         refine wpAnyH_take (i:=6) (v:= .int .i64 (x:Int)) rfl (by kernel_rfl) (by kernel_rfl) (by kernel_rfl) (fun _ _ _ h=>h) (Or.inl ⟨by rfl,?_⟩) hHeld ?_
         ·intro w hSw
          simp only[qg]
          go_simp
         simp only[Act.put,qs]
         refine wpAnyH_take (i:=7) (v:= .pointer (some ⟨gs,d,none⟩)) rfl (by kernel_rfl) (by kernel_rfl) (by kernel_rfl) (fun _ _ _ h=>h) (Or.inl ⟨by rfl,?_⟩) hHeld ?_
         ·intro w hSw
          simp only[qg]
          go_simp
         simp only[Act.put,qs]
         refine wpAnyH_ready (rs:=[8]) (by kernel_rfl) (by simp) ?_
         refine AllReadyH.cons rfl (fun K hK=> ?_) AllReadyH.nil
         simp only[qg]
         go_simp
         refine hK.out _ _ ⟨(World.cell?_setCell_far _ _ _ _ HNE.out.1).trans HS6.out.1,(World.cell?_setCell_far _ _ _ _ HNE.out.2).trans HS6.out.2⟩ (fun hHeld=> ?_)
         clear hK K
         clear hHeld
         refine wpAnyH_done (by kernel_rfl) ?_ _
         go_wp2_with fail
         go_roundw
         case rel=>exact⟨k+1,m.set d (x:Int),true,by omega,by go_num,rfl,⟨HNX.out,by rw[swI_succ,←HSM.out.2];unfold swK;rw[if_pos ⟨by rw[HID.out,Int.toNat_natCast];exact HMD.out,by rw[HTT.out];omega⟩,HTT.out,HID.out,Int.toNat_natCast]⟩,fun _=>by have h1:=HRC.out;have h2:=HLT.out;omega,fun h=>by simp at h,(((HX6.out.keeps (Below.refl _ _).drew).call (HST.out _ (HX6.out.keeps (Below.refl _ _).drew).sb).1 (HST.out _ (HX6.out.keeps (Below.refl _ _).drew).sb).2).sub (fun x hx=>by simp at hx))⟩
         case measure=>simp[intOf];omega
       ·have hne:((md:Int) !=(d:Int))=true:=by simpa using hrt
        go_wp2_with fail
        obtain⟨w3,hw3⟩:∃W,wr.alloc (.cells #[.int .i64 rg, .int .i64 (d:Int), .slice Aa na ca] 88)=W:=⟨_,rfl⟩
        rw[hw3] at HX2⊢
        clear hw3 e0 e1 e2 zgh k9 k11 zb cmd zgs hL
        obtain⟨k9,k11,zb⟩:=KBX.out _ _ HX2.out.sb
        have q1:w3.cell? ⟨L,1,none⟩=some (.int .i64 (d:Int)):=cell_block (HX2.out.box (.head _)) 1
        have zL:=block_lt (HX2.out.box (.head _))
        have cmd:w3.cell? ⟨gs,d,none⟩=some (.int .i64 md):=HX2.out.sb.own.cell .same (by rw[rowsOf_v];exact HVS.out) (show(intsV m)[d]? =_ from by simp[intsV,HMD.out])
        have zgs:=(HX2.out.sb.rlt .same (g:=gs) (by rw[HVS.out];rfl)).2
        go_quiet (fail)
        go_wp2_with fail
        go_roundw
        case rel=>exact⟨k+1,m,ch,by omega,by go_num,rfl,⟨HSM.out.1,by rw[swI_succ,←HSM.out.2];unfold swK;rw[if_neg (fun h=>by have h2:=h.1;rw[HID.out,Int.toNat_natCast,HMD.out] at h2;exact hrt (Option.some.inj h2))]⟩,HT.out,fun h=>⟨(HD.out h).1,(HD.out h).2.1,fun j hj=>by
         by_cases e:j=k
         ·subst e
          intro d' h1 h2
          exfalso
          rw[HID.out] at h1
          have e2:=Int.ofNat_inj.1 h1
          rw[←e2,←(HD.out h).1,HMD.out] at h2
          exact hrt (Option.some.inj h2)
         ·exact(HD.out h).2.2 j (by omega)⟩,(HX2.out.keeps (below_drewN (Below.refl _ _) _)).sub (fun x hx=>by simp at hx)⟩
        case measure=>simp[intOf];omega
end Go.Proofs.YtedcjapmmnbamaaDoor
