/-
  What is known of values: plain, and how the solver lies in memory.
-/
import Derived.Test.YtappljijljjkiaaDoorZfSsV
import Derived.Test.YtappljijljjkiaaDoorZfMkM
import Derived.Maps.OwnSet
import Derived.WideKeyArgs
import Derived.DeepKeys4
namespace Tier
open Go Go.RowKit
structure FactS where
 k:Int
 v:Int
deriving DecidableEq
def noF:FactS:=⟨0,0⟩
def joinF(a b:FactS):FactS:=if a.k=0 then b else if b.k=0∨a=b then a else⟨2,0⟩
def ofF(L:List FactS)(id:Int):FactS:=if id<0 then⟨1,0⟩ else L.getD id.toNat noF
def makeF(op imm:Int)(a b:FactS):FactS:=
 if a.k=0∨b.k=0 then⟨0,0⟩ else if 12<op then⟨2,0⟩ else if op=5∧b=⟨1,0⟩ then⟨0,0⟩ else if a.k=2∨b.k=2 then⟨2,0⟩ else⟨1,mk op a.v b.v imm⟩
structure SV where
 F:List FactS
 met:List Bool
 ed:Int→Int→Bool
 dirty:Bool
def sayF(x:SV)(id:Int)(f:FactS):SV:=if 0≤id∧ofF x.F id≠f then{x with F:=x.F.set id.toNat f,dirty:=true} else x
def goF(x:SV)(a b:Int):SV:=if x.ed a b=true then x else⟨x.F,x.met.set b.toNat true,fun c d=>x.ed c d||decide (c=a∧d=b),true⟩
def wayB(a:FactS)(imm tt n:Int):Bool:=decide (a.k=2)||(decide (a.k=1)&&((decide (a.v≠0)&&decide (n=imm))||(decide (a.v=0)&&decide (n=tt))))
def FactS.cells(f:FactS):List Value:=[.int .i64 f.k, .int .i64 f.v]
def factCells(L:List FactS):List Value:=(List.range L.length).flatMap fun i=>(L.getD i noF).cells
end Tier
namespace Go.Proofs.YtappljijljjkiaaDoor
open Go.RowKit Tier
abbrev mapE:TypeId:=116
theorem laidE:laidOutB Tryd.prog=true:=by kernel_rfl
theorem rowE:(63:TypeId)<Tryd.prog.types.size:=of_decide_eq_true (by kernel_rfl)
theorem wideE:(match Tryd.prog.underlying 63 with|some (.array _ _)|some (.struct _)=>true|_=>false)=true:=by rw[Tryd.underlying63]
set_option maxRecDepth 100000 in
theorem lawE:Maps.Keyed Tryd.prog 63:=Maps.Keyed.of_law (deep_law_laid laidE (m:=2) (by omega) rowE (by kernel_rfl) wideE)
theorem cells2:Tryd.prog.cellsOf 63=2:=by kernel_rfl
theorem cells1:Tryd.prog.cellsOf 3=1:=by kernel_rfl
theorem keyTE:Tryd.prog.keyType 63=true:=by kernel_rfl
theorem litE_wf{a:Int}(h1: -1≤a)(h2:a≤100000):(Lit.int .i64 a).wf=true:=by
 exact litI_wf (by omega) (by omega)
def keyE(a b:Int):Lit:= .string (keyBytes [.int .i64 a, .int .i64 b])
theorem keyE_of{a b:Int}(ha: -1≤a∧a≤100000)(hb: -1≤b∧b≤100000):keyOf Tryd.prog 63 (.agg #[.int .i64 a, .int .i64 b])=some (keyE a b):=by
 obtain⟨n,hn⟩:∃n,Tryd.prog.types.size+1=n+2:=⟨Tryd.prog.types.size-1,by have:0<Tryd.prog.types.size:=Nat.lt_of_le_of_lt (Nat.zero_le _) rowE;omega⟩
 have hf:(Value.agg #[.int .i64 a, .int .i64 b]).formed Tryd.prog 63=true:=by simp[Value.formed,Tryd.underlying63,cells2]
 unfold keyOf
 rw[Tryd.underlying63]
 simp only[keyTE,hf,Bool.and_self,if_true]
 rw[hn]
 have h0:∀z:Int,(Lit.int .i64 z).wf=true→Tryd.prog.keyLits (n+1) 3 [.int .i64 z]=some [.int .i64 z]:=fun z hz=>by
  unfold Program.keyLits
  rw[Tryd.underlying3]
  simp[hz]
 unfold Program.keyLits
 rw[Tryd.underlying63]
 simp only[Value.cells,cells2,cells1]
 rw[if_pos (by rfl)]
 have e:(List.range 2).mapM (fun i=>Tryd.prog.keyLits (n+1) 3 (([Value.int .i64 a,Value.int .i64 b].drop (i*1)).take 1))=some [[.int .i64 a],[.int .i64 b]]:=by
  show([0,1]:List Nat).mapM _=_
  simp[h0 a (litE_wf ha.1 ha.2),h0 b (litE_wf hb.1 hb.2)]
 rw[e];rfl
theorem keyE_inj{a b c d:Int}(ha: -1≤a∧a≤100000)(hb: -1≤b∧b≤100000)(hc: -1≤c∧c≤100000)(hd: -1≤d∧d≤100000)(h:keyE a b=keyE c d):a=c∧b=d:=by
 have h1:=keyE_of ha hb
 have h2:=keyE_of hc hd
 rw[←h] at h2
 have:=lawE.inj h1 h2
 simpa using this
def EdAt(w:World)(b n:Nat)(S:Int→Int→Bool):Prop:=
 ∃D:DataW Unit,w.ownsMap Tryd.prog 63 unitElem b n D∧Maps.IsMap D∧∀c d:Int,-1≤c∧c≤100000→-1≤d∧d≤100000→Maps.has D (keyE c d)=S c d
theorem EdAt.of_block{w w' :World}{b n:Nat}{S:Int→Int→Bool}(h:EdAt w b n S)(hb:w'.heap[b]? =w.heap[b]?):EdAt w' b n S:=by
 obtain⟨D,⟨es,clock,h1,r⟩,h2,h3⟩:=h
 exact⟨D,⟨es,clock,hb.trans h1,r⟩,h2,h3⟩
theorem EdAt.map{w:World}{b n:Nat}{S:Int→Int→Bool}(h:EdAt w b n S):∃es clock,w.heap[b]? =some (.map es clock):=by
 obtain⟨D,⟨es,clock,h1,r⟩,-,-⟩:=h
 exact⟨es,clock,h1⟩
theorem EdAt.made(w:World):EdAt (w.alloc (.map #[] 0)) w.heap.size 0 (fun _ _=>false):=
 ⟨_,World.ownsMap_made _ _ _ _,Maps.isMap_empty,fun _ _ _ _=>rfl⟩
theorem EdAt.put{w' :World}{b n:Nat}{S:Int→Int→Bool}{D:DataW Unit}{a e:Int}(ha: -1≤a∧a≤100000)(he: -1≤e∧e≤100000)(hI:Maps.IsMap D)(hS:∀c d:Int,-1≤c∧c≤100000→-1≤d∧d≤100000→Maps.has D (keyE c d)=S c d)(h:w'.ownsMap Tryd.prog 63 unitElem b n (D.put (keyE a e) (.agg []))):EdAt w' b n (fun c d=>S c d||decide (c=a∧d=e)):=by
 refine⟨_,h,hI.put _ _,fun c d hc hd=> ?_⟩
 by_cases hx:c=a∧d=e
 ·obtain⟨rfl,rfl⟩:=hx
  rw[Maps.has_put_same hI (by unfold keyE;trivial)];simp
 ·rw[Maps.has_put_other (fun h=>hx (keyE_inj hc hd ha he h)),hS c d hc hd]
  show S c d=(S c d||decide (c=a∧d=e))
  rw[decide_eq_false hx];simp
structure SH where
 h0:Value
 h1:Value
 h2:Value
 bv:Value
 gf:Nat
 gm:Nat
 ge:Nat
 n:Nat
 H:Nat
def SH.cells(h:SH)(d:Bool):List Value:=[h.h0,h.h1,h.h2,h.bv, .slice (some ⟨h.gf,0,none⟩) h.n h.n, .slice (some ⟨h.gm,0,none⟩) h.H h.H, .map (some h.ge), .bool d]
structure SolAt(w:World)(b:Nat)(h:SH)(ne:Nat)(x:SV):Prop where
 box:w.heap[b]? =some (.cells (h.cells x.dirty).toArray 118 (0,0))
 facts:w.heap[h.gf]? =some (.cells (factCells x.F).toArray 58 (0,0))
 met:w.heap[h.gm]? =some (.cells (x.met.map Value.bool).toArray 4 (0,0))
 ed:EdAt w h.ge ne x.ed
 fl:x.F.length=h.n
 ml:x.met.length=h.H
structure FrV(w:World)(b:Nat)(h:SH)(w' :World):Prop where
 base:Below 0 w w'
 size:w.heap.size≤w'.heap.size
 kept:∀k,k<w.heap.size→k≠b→k≠h.gf→k≠h.gm→k≠h.ge→w'.heap[k]? =w.heap[k]?
section
variable {w w1 w' :World}{b ne:Nat}{h:SH}{x:SV}
theorem FrV.refl(w:World)(b:Nat)(h:SH):FrV w b h w:=⟨Below.refl _ _,Nat.le_refl _,fun _ _ _ _ _ _=>rfl⟩
theorem FrV.trans(f:FrV w b h w1)(g:FrV w1 b h w'):FrV w b h w' :=
 ⟨f.base.trans g.base,Nat.le_trans f.size g.size,fun k hk h1 h2 h3 h4=>(g.kept k (Nat.lt_of_lt_of_le hk f.size) h1 h2 h3 h4).trans (f.kept k hk h1 h2 h3 h4)⟩
theorem FrV.of_below(hb:Below w.heap.size w w'):FrV w b h w' :=⟨hb.mono (Nat.zero_le _),hb.size,fun k hk _ _ _ _=>hb.block k hk⟩
theorem base0{w w' :World}(h1:w'.os=w.os)(h2:w'.tape=w.tape)(h3:w'.output=w.output)(h4:w.heap.size≤w'.heap.size):Below 0 w w' :=⟨h1,h2,h3,h4,fun k hk=>absurd hk (Nat.not_lt_zero k)⟩
theorem SolAt.lt(s:SolAt w b h ne x):b<w.heap.size∧h.gf<w.heap.size∧h.gm<w.heap.size∧h.ge<w.heap.size:=by
 obtain⟨es,clock,h1⟩:=s.ed.map
 exact⟨block_lt s.box,block_lt s.facts,block_lt s.met,block_lt h1⟩
theorem SolAt.keeps(s:SolAt w b h ne x)(hb:Below w.heap.size w w'):SolAt w' b h ne x:=by
 obtain⟨l1,l2,l3,l4⟩:=s.lt
 exact⟨(hb.block _ l1).trans s.box,(hb.block _ l2).trans s.facts,(hb.block _ l3).trans s.met,s.ed.of_block (hb.block _ l4),s.fl,s.ml⟩
theorem SolAt.dis(s:SolAt w b h ne x):b≠h.gf∧b≠h.gm∧b≠h.ge∧h.gf≠h.gm∧h.gf≠h.ge∧h.gm≠h.ge:=by
 obtain⟨es,clock,h1⟩:=s.ed.map
 have e1:=s.box
 have e2:=s.facts
 have e3:=s.met
 refine⟨fun e=> ?_,fun e=> ?_,fun e=> ?_,fun e=> ?_,fun e=> ?_,fun e=> ?_⟩
 ·rw[e,e2] at e1;simp at e1
 ·rw[e,e3] at e1;simp at e1
 ·rw[e,h1] at e1;simp at e1
 ·rw[e,e3] at e2;simp at e2
 ·rw[e,h1] at e2;simp at e2
 ·rw[e,h1] at e3;simp at e3
theorem SolAt.cell(s:SolAt w b h ne x)(i:Nat):w.cell? ⟨b,i,none⟩=(h.cells x.dirty)[i]? :=(cell_block s.box i).trans List.getElem?_toArray
theorem SolAt.frozen(s:SolAt w b h ne x)(i:Nat):w.frozen? ⟨b,i,none⟩=false:=frozen_block s.box i
theorem factCells_len(L:List FactS):(factCells L).length=L.length*2:=flat_len (fun _ _=>rfl)
theorem SolAt.fact(s:SolAt w b h ne x){i:Nat}(hi:i<h.n):w.cell? ⟨h.gf,i*2,none⟩=some (.int .i64 (x.F.getD i noF).k)∧w.cell? ⟨h.gf,i*2+1,none⟩=some (.int .i64 (x.F.getD i noF).v):=by
 have hi' :i<x.F.length:=by rw[s.fl];exact hi
 constructor
 ·refine(cell_block s.facts _).trans (List.getElem?_toArray.trans ?_)
  exact flat_at (f:=fun i=>(x.F.getD i noF).cells) (n:=2) (t:=0) (fun _ _=>rfl) hi' (by omega)
 ·refine(cell_block s.facts _).trans (List.getElem?_toArray.trans ?_)
  exact flat_at (f:=fun i=>(x.F.getD i noF).cells) (n:=2) (t:=1) (fun _ _=>rfl) hi' (by omega)
theorem SolAt.metC(s:SolAt w b h ne x){i:Nat}(hi:i<h.H):w.cell? ⟨h.gm,i,none⟩=some (.bool (x.met.getD i false)):=by
 refine(cell_block s.met _).trans (List.getElem?_toArray.trans ?_)
 rw[List.getElem?_map,gD,gE (by rw[s.ml];exact hi)];rfl
theorem SolAt.say(s:SolAt w b h ne x){i:Nat}(hi:i<h.n)(f:FactS):
 SolAt ((w.setCells h.gf (i*2) [.int .i64 f.k, .int .i64 f.v]).setCell ⟨b,7,none⟩ (.bool true)) b h ne {x with F:=x.F.set i f,dirty:=true}∧FrV w b h ((w.setCells h.gf (i*2) [.int .i64 f.k, .int .i64 f.v]).setCell ⟨b,7,none⟩ (.bool true)):=by
 obtain⟨n1,n2,n3,n4,n5,n6⟩:=s.dis
 have hi' :i<x.F.length:=by rw[s.fl];exact hi
 obtain⟨es,clock,hm⟩:=s.ed.map
 have h1:=block_set_ne (block_setCells_ne [.int .i64 f.k, .int .i64 f.v] s.box (fun e=>n1 e.symm) (i*2)) (b' :=b)
 have e1:((w.setCells h.gf (i*2) [.int .i64 f.k, .int .i64 f.v]).setCell ⟨b,7,none⟩ (.bool true)).heap[b]? =some (.cells (h.cells true).toArray 118 (0,0)):=
  block_put (block_setCells_ne [.int .i64 f.k, .int .i64 f.v] s.box (fun e=>n1 e.symm) (i*2)) rfl
 have e2:(w.setCells h.gf (i*2) [.int .i64 f.k, .int .i64 f.v]).heap[h.gf]? =some (.cells (factCells (x.F.set i f)).toArray 58 (0,0)):=by
  have h2:=block_put s.facts (i:=i*2) (v:= .int .i64 f.k) rfl
  have h3:=block_put h2 (i:=i*2+1) (v:= .int .i64 f.v) rfl
  refine h3.trans ?_
  congr 2
  have hs:=flat_sets (f:=fun i=>(x.F.getD i noF).cells) (f' :=fun j=>((x.F.set i f).getD j noF).cells) (m:=x.F.length) (n:=2) (i:=i) (fun _ _=>rfl) hi' f.cells rfl (fun k hk=>by
   show((x.F.set i f).getD k noF).cells=(x.F.getD k noF).cells
   rw[gD,List.getElem?_set_ne (fun e=>hk e.symm),←gD]) (by
   show((x.F.set i f).getD i noF).cells=_
   rw[gD,List.getElem?_set_self hi'];rfl)
  have e:factCells (x.F.set i f)=(List.range x.F.length).flatMap fun j=>((x.F.set i f).getD j noF).cells:=by
   unfold factCells;rw[List.length_set]
  rw[e,←hs];rfl
 refine⟨⟨e1,block_set_ne e2 n1 7 _,block_set_ne (block_setCells_ne _ s.met n4 _) n2 7 _,s.ed.of_block ?_,by rw[List.length_set];exact s.fl,s.ml⟩,base0 rfl rfl rfl (by simp[World.setCell,size_setCells]),?_,fun k hk k1 k2 k3 k4=> ?_⟩
 ·rw[hm];exact block_set_ne (block_setCells_ne _ hm n5 _) n3 7 _
 ·simp[World.setCell,size_setCells]
 ·obtain⟨o,ho⟩:∃o,w.heap[k]? =some o:=⟨_,Array.getElem?_eq_getElem hk⟩
  rw[ho]
  exact block_set_ne (block_setCells_ne _ ho (fun e=>k2 e.symm) _) (fun e=>k1 e.symm) 7 _
theorem FrV.block(f:FrV w b h w')(s:SolAt w b h ne x){g:Nat}{c:Array Value}{t:TypeId}{fr:Nat×Nat}(hg:w.heap[g]? =some (.cells c t fr))(h1:t≠118)(h2:t≠58)(h3:t≠4):w'.heap[g]? =some (.cells c t fr):=by
 obtain⟨es,clock,hm⟩:=s.ed.map
 refine(f.kept g (block_lt hg) (fun e=> ?_) (fun e=> ?_) (fun e=> ?_) (fun e=> ?_)).trans hg
 ·rw[e,s.box] at hg;simp at hg;exact h1 hg.2.1.symm
 ·rw[e,s.facts] at hg;simp at hg;exact h2 hg.2.1.symm
 ·rw[e,s.met] at hg;simp at hg;exact h3 hg.2.1.symm
 ·rw[e,hm] at hg;simp at hg
end
end Go.Proofs.YtappljijljjkiaaDoor
