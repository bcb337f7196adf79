/-
  Arguments, opened: a slice of whole numbers. No condition but that the memory can be read.
-/
import Derived.Test.YtedcjapmmnbamaaDoorLib
import Derived.ProofKit
import Derived.LaidMore
import Derived.OpenShut
import Derived.Stop.Joined
import Derived.Deep.Slices
namespace Tier
open Go Go.RowKit Go.ChangeShapes Go.WideShapes Go.ChangeAt
theorem list_of0{α:Type}{Q:Nat→α→Prop}:∀n:Nat,(∀i,i<n→∃x,Q i x)→∃l:List α,l.length=n∧∀i x,l[i]? =some x→Q i x
 |0,_=>⟨[],rfl,fun i x h=>by simp at h⟩
 |n+1,h=>by
  obtain⟨l,hl,hq⟩:=list_of0 n fun i hi=>h i (by omega)
  obtain⟨x,hx⟩:=h n (by omega)
  refine⟨l++[x],by simp[hl],fun i y hy=> ?_⟩
  rcases Nat.lt_or_ge i n with hi|hi
  ·rw[List.getElem?_append_left (by omega)] at hy
   exact hq i y hy
  ·rw[List.getElem?_append_right (by omega)] at hy
   have:i=n:=by
    have:=(gI.1 hy).1
    simp at this;omega
   subst this
   simp[hl] at hy
   subst hy
   exact hx
theorem block_of_cell0{w:World}{a:Addr}{v:Value}(h:w.cell? a=some v):a.block<w.heap.size:=World.block_lt_of_cell? w a h
theorem spot_eq0{a:Addr}(h:a.spot=none)(k:Nat):a.add k=⟨a.block,a.off+k,none⟩:=by
 obtain⟨b,o,s⟩:=a
 dsimp only at h
 subst h
 unfold Addr.add
 split
 ·next h=>subst h;rfl
 ·rfl
def IntRow(w:World)(A:Option Addr)(l:List Int):Prop:=
 0<l.length→∃b o,A=some ⟨b,o,none⟩∧b<w.heap.size∧∀(i:Nat) (x:Int),l[i]? =some x→In x∧w.cell? ⟨b,o+i,none⟩=some (.int .i64 x)
theorem IntRow.keeps{w w' :World}{A:Option Addr}{l:List Int}(h:IntRow w A l)(hb:Below w.heap.size w w'):IntRow w' A l:=fun hl=>by
 obtain⟨b,o,h1,h2,h3⟩:=h hl
 exact⟨b,o,h1,Nat.lt_of_lt_of_le h2 hb.size,fun i x hx=>⟨(h3 i x hx).1,(hb.cell (p:=⟨b,_,none⟩) h2).trans (h3 i x hx).2⟩⟩
section
variable {H:Type}{enc:TypeId×Value→H}{P:Program}{w:World}{base:Nat}{spare:Nat→Bool}{held:Bool}{fuel:Nat}{t i0:TypeId}{v:Value}{x:DataW H×List MemPlace}
theorem open_ints0(ht:P.underlying t=some (.slice i0))(hi:P.underlying i0=some (.int .i64))(hci:P.cellsOf i0=1)(h:DataW.trod enc P w base spare held fuel t [v]=some x):
 ∃A cap l,v= .slice A (List.length l) cap∧IntRow w A l∧(l.length:Int)≤9223372036854775807:=by
 rcases Go.Deep.open_slice ht h with⟨h0,-⟩|⟨a,len,cap,m,n,D,Pl,hcs,hb,hl,hm,hmm,hx,hi'⟩
 ·exact⟨none,0,[],by simpa using h0,fun h=>by simp at h,by simp⟩
 ·have key:∀i,i<len→∃y:Int,In y∧w.cell? ((a.add (i*1)).add 0)=some (.int .i64 y):=by
   intro i hil
   obtain⟨cs',hc,ht'⟩:=hi' i (by rw[hmm];split<;>omega)
   rw[hci] at hc
   obtain⟨-,-,hat⟩:=World.cells?_some hc
   obtain⟨z,hz,-,hw⟩:=DataW.trod_int hi ht'
   exact⟨z,in_of_wf hw,(hat 0 (by omega)).trans (by rw[hz];rfl)⟩
  obtain⟨l,hll,hq⟩:=list_of0 len key
  refine⟨some a,cap,l,by rw[hll];simpa using hcs,fun h0=> ?_,by unfold maxLen at hm;omega⟩
  have hget:∀i,i<l.length→∃y,l[i]? =some y:=fun i hi=>⟨l[i],gE hi⟩
  obtain⟨y0,hy0⟩:=hget 0 h0
  have d0:=(hq 0 y0 hy0).2
  rw[Nat.zero_mul,show(a.add 0).add 0=a from rfl] at d0
  have hs:a.spot=none:=World.cell?_spot d0
  refine⟨a.block,a.off,by cases a;simp_all,block_of_cell0 d0,fun i y hy=> ?_⟩
  obtain⟨q,c0⟩:=hq i y hy
  rw[Go.Deep.add_add,spot_eq0 hs] at c0
  exact⟨q,by simpa using c0⟩
theorem open_intsW{r:Reach}{b0:Nat}{d:DataW H}{p:List MemPlace}(ht:P.underlying t=some (.slice i0))(hi:P.underlying i0=some (.int .i64))(hci:P.cellsOf i0=1)
 (hv:Value.okWide P w r b0 t v) (h:DataW.Trod enc P w base spare held t v d p):∃A cap l,v= .slice A (List.length l) cap∧IntRow w A l∧(l.length:Int)≤9223372036854775807:=by
 obtain⟨fuel,h⟩:=h
 have hvc:v.cells.toList=[v]:=by
  obtain⟨a,len,cap,rfl⟩:=okWide_slice ht hv;rfl
 rw[hvc] at h
 exact open_ints0 ht hi hci h
end
end Tier
