/-
  From the row's condition on the table 'has' to what the walks ask of memory; the door's own heap meets the condition; an argument that is a slice of raw functions, opened.
-/
import Derived.Test.YtedcjapmmnbamaaDoorFnS
import Derived.Test.YtedcjapmmnbamaaDoorRows
import Derived.Test.YtedcjapmmnbamaaDoorLib
import Derived.ProofKit
import Derived.LaidMore
import Derived.OpenShut
import Derived.Stop.Joined
import Derived.Deep.Slices
namespace Tier
open Go Go.RowKit
section
variable {H:Type}{enc:TypeId×Value→H}{P:Program}{w:World}{base:Nat}{spare:Nat→Bool}{held:Bool}{fuel:Nat}{t e i0:TypeId}{cs:List Value}{p:List MemPlace}
theorem tab_flat{n:Nat}{row:List Int}(ht:P.underlying t=some (.array n i0))(hi:P.underlying i0=some (.int .i64))(hci:P.cellsOf i0=1)
 (h:DataW.trod enc P w base spare held fuel t cs=some (.agg (row.map fun z=> .lit (.int .i64 z)),p)):
 ∀i,i<n→cs[i]? =some (.int .i64 (row.getD i 0)):=by
 intro i hin
 obtain⟨xs,k,-,hx,-,hn,hel⟩:=DataW.trod_array ht h
 have hel:=hel i hin
 rw[hci,Nat.mul_one] at hel
 have hil:i<xs.length:=by omega
 rw[gE hil] at hel
 obtain⟨z,hc,hv,-⟩:=DataW.trod_int hi hel
 have hz1:xs[i].1= .lit (.int .i64 (row.getD i 0)):=by
  have h1:=congrArg Prod.fst hx
  simp only[DataW.agg.injEq] at h1
  have h2:=congrArg (·[i]?) h1
  simp only[List.getElem?_map,gE hil,Option.map_some] at h2
  rw[gD]
  cases hr:row[i]? with
  |none=>rw[hr] at h2;simp at h2
  |some r=>rw[hr] at h2;simpa using h2.symm
 rw[hv] at hz1
 simp only[DataW.lit.injEq,Lit.int.injEq,true_and] at hz1
 have h0:((cs.drop i).take 1)[0]? =some (Value.int .i64 z):=by rw[hc];rfl
 rw[List.getElem?_take_of_lt (by omega),List.getElem?_drop] at h0
 rw[←hz1];exact h0
end
theorem list_of{α:Type}{Q:Nat→α→Prop}:∀n:Nat,(∀i,i<n→∃x,Q i x)→∃l:List α,l.length=n∧∀i x,l[i]? =some x→Q i x
 |0,_=>⟨[],rfl,fun i x h=>by simp at h⟩
 |n+1,h=>by
  obtain⟨l,hl,hq⟩:=list_of n fun i hi=>h i (by omega)
  obtain⟨x,hx⟩:=h n (by omega)
  refine⟨l++[x],by simp[hl],fun i y hy=> ?_⟩
  rcases Nat.lt_or_ge i n with hi|hi
  ·rw[List.getElem?_append_left (by omega)] at hy
   exact hq i y hy
  ·rw[List.getElem?_append_right (by omega)] at hy
   have:i=n:=by
    have:=(gI.1 hy).1
    simp at this;omega
   subst this
   simp[hl] at hy
   subst hy
   exact hx
theorem block_of_cell{w:World}{a:Addr}{v:Value}(h:w.cell? a=some v):a.block<w.heap.size:=World.block_lt_of_cell? w a h
end Tier
namespace Go.Proofs.YtedcjapmmnbamaaDoor
open Go Go.ChangeShapes Go.WideShapes Go.ChangeAt Go.RowKit Tier
section
variable {H:Type}{enc:TypeId×Value→H}{P:Program}{w:World}{base:Nat}{spare:Nat→Bool}{held:Bool}{fuel:Nat}{t e i0 ts e2:TypeId}{v:Value}{x:DataW H×List MemPlace}{fs fs2:Array Field}
theorem spot_eq{a:Addr}(h:a.spot=none)(k:Nat):a.add k=⟨a.block,a.off+k,none⟩:=by
 obtain⟨b,o,s⟩:=a
 dsimp only at h
 subst h
 unfold Addr.add
 split
 ·next h=>subst h;rfl
 ·rfl
theorem open_raw(ht:P.underlying t=some (.slice e))(he:P.underlying e=some (.struct fs))(hi:P.underlying i0=some (.int .i64))(hce:P.cellsOf e=5)(hci:P.cellsOf i0=1)
 (hf:∀j,j<5→∃f,fs[j]? =some f∧f.type=i0∧f.offset=j) (h:DataW.trod enc P w base spare held fuel t [v]=some x):
 ∃A cap l,v= .slice A (List.length l) cap∧RawAt w A l∧(l.length:Int)≤9223372036854775807:=by
 rcases Go.Deep.open_slice ht h with⟨h0,-⟩|⟨a,len,cap,m,n,D,Pl,hcs,hb,hl,hm,hmm,hx,hi'⟩
 ·exact⟨none,0,[],by simpa using h0,fun h=>by simp at h,by simp⟩
 ·have key:∀i,i<len→∃y:Ins,InI y∧w.cell? ((a.add (i*5)).add 0)=some (.int .i64 y.op)∧w.cell? ((a.add (i*5)).add 1)=some (.int .i64 y.dst)∧w.cell? ((a.add (i*5)).add 2)=some (.int .i64 y.a)∧w.cell? ((a.add (i*5)).add 3)=some (.int .i64 y.b)∧w.cell? ((a.add (i*5)).add 4)=some (.int .i64 y.imm):=by
   intro i hil
   obtain⟨cs',hc,ht'⟩:=hi' i (by rw[hmm];split<;>omega)
   rw[hce] at hc
   obtain⟨-,hcl,hat⟩:=World.cells?_some hc
   obtain⟨ys,n',-,-,-,hyl,hg⟩:=DataW.trod_struct he ht'
   have hone:∀j,j<5→∃z,cs'[j]? =some (.int .i64 z)∧In z:=by
    intro j hj
    obtain⟨f,hfj,hft,hfo⟩:=hf j hj
    have h1:=hg j f hfj
    rw[hft,hfo,hci] at h1
    have hxl:j<ys.length:=by rw[hyl];exact(Array.getElem?_eq_some_iff.1 hfj).1
    rw[gE hxl] at h1
    exact field_int hi (by omega) h1
   obtain⟨z0,c0,i0'⟩:=hone 0 (by omega)
   obtain⟨z1,c1,i1⟩:=hone 1 (by omega)
   obtain⟨z2,c2,i2⟩:=hone 2 (by omega)
   obtain⟨z3,c3,i3⟩:=hone 3 (by omega)
   obtain⟨z4,c4,i4⟩:=hone 4 (by omega)
   exact⟨⟨z0,z1,z2,z3,z4⟩,⟨i0',i1,i2,i3,i4⟩,(hat 0 (by omega)).trans c0,(hat 1 (by omega)).trans c1,(hat 2 (by omega)).trans c2,(hat 3 (by omega)).trans c3,(hat 4 (by omega)).trans c4⟩
  obtain⟨l,hll,hq⟩:=list_of len key
  refine⟨some a,cap,l,by rw[hll];simpa using hcs,fun h0=> ?_,by unfold maxLen at hm;omega⟩
  have hget:∀i,i<l.length→∃y,l[i]? =some y:=fun i hi=>⟨l[i],gE hi⟩
  obtain⟨y0,hy0⟩:=hget 0 h0
  have hs:a.spot=none:=by
   have:=(hq 0 y0 hy0).2.1
   rw[Nat.zero_mul,show(a.add 0).add 0=a from rfl] at this
   exact World.cell?_spot this
  refine⟨a.block,a.off,by cases a;simp_all,?_,fun i y hy=> ?_⟩
  ·have:=block_of_cell (hq 0 y0 hy0).2.1
   rwa [Nat.zero_mul,show(a.add 0).add 0=a from rfl] at this
  ·obtain⟨q,c0,c1,c2,c3,c4⟩:=hq i y hy
   rw[Go.Deep.add_add,spot_eq hs] at c0 c1 c2 c3 c4
   exact⟨q,c0,c1,c2,c3,c4⟩
theorem open_bodies{r:Reach}{b0:Nat}{d:DataW H}{p:List MemPlace}(ht:P.underlying t=some (.slice e))(he:P.underlying e=some (.struct fs))(hi:P.underlying i0=some (.int .i64))(hce:P.cellsOf e=3)(hci:P.cellsOf i0=1)
 (hf:∀j,j<2→∃f,fs[j]? =some f∧f.type=i0∧f.offset=j) (hf2:∃f,fs[2]? =some f∧f.type=ts∧f.offset=2) (hcs:P.cellsOf ts=1)
 (hts:P.underlying ts=some (.slice e2)) (he2:P.underlying e2=some (.struct fs2)) (hce2:P.cellsOf e2=5) (hfs2:∀j,j<5→∃f,fs2[j]? =some f∧f.type=i0∧f.offset=j)
 (hv:Value.okWide P w r b0 t v) (h:DataW.Trod enc P w base spare held t v d p):
 ∃A cap l,v= .slice A (List.length l) cap∧RawsAt w A l∧(l.length:Int)≤9223372036854775807:=by
 obtain⟨fuel,h⟩:=h
 have hvc:v.cells.toList=[v]:=by
  obtain⟨a,len,cap,rfl⟩:=okWide_slice ht hv;rfl
 rw[hvc] at h
 rcases Go.Deep.open_slice ht h with⟨h0,-⟩|⟨a,len,cap,m,n,D,Pl,hcs',hb,hl,hm,hmm,hx,hi'⟩
 ·exact⟨none,0,[],by simpa using h0,fun h=>by simp at h,by simp⟩
 ·have key:∀i,i<len→∃y:Fnc,In y.params∧In y.regs∧(y.code.length:Int)≤9223372036854775807∧∃CA cap,RawAt w CA y.code∧w.cell? ((a.add (i*3)).add 0)=some (.int .i64 y.params)∧w.cell? ((a.add (i*3)).add 1)=some (.int .i64 y.regs)∧w.cell? ((a.add (i*3)).add 2)=some (.slice CA y.code.length cap):=by
   intro i hil
   obtain⟨cs',hc,ht'⟩:=hi' i (by rw[hmm];split<;>omega)
   rw[hce] at hc
   obtain⟨-,hcl,hat⟩:=World.cells?_some hc
   obtain⟨ys,n',-,-,-,hyl,hg⟩:=DataW.trod_struct he ht'
   have hone:∀j,j<2→∃z,cs'[j]? =some (.int .i64 z)∧In z:=by
    intro j hj
    obtain⟨f,hfj,hft,hfo⟩:=hf j hj
    have h1:=hg j f hfj
    rw[hft,hfo,hci] at h1
    have hxl:j<ys.length:=by rw[hyl];exact(Array.getElem?_eq_some_iff.1 hfj).1
    rw[gE hxl] at h1
    exact field_int hi (by omega) h1
   obtain⟨z0,c0,i0'⟩:=hone 0 (by omega)
   obtain⟨z1,c1,i1⟩:=hone 1 (by omega)
   obtain⟨f2,hfj,hft,hfo⟩:=hf2
   have h1:=hg 2 f2 hfj
   rw[hft,hfo,hcs] at h1
   have hxl:2<ys.length:=by rw[hyl];exact(Array.getElem?_eq_some_iff.1 hfj).1
   have c2:cs'[2]? =some (cs'[2]'(by omega)):=gE (by omega)
   have hone' :(cs'.drop 2).take 1=[cs'[2]'(by omega)]:=by
    rw[List.drop_eq_getElem_cons (by omega)];rfl
   rw[hone',gE hxl] at h1
   obtain⟨CA,ccap,l,hv2,hr,hlen⟩:=open_raw hts he2 hi hce2 hci hfs2 h1
   exact⟨⟨z0,z1,l⟩,i0',i1,hlen,CA,ccap,hr,(hat 0 (by omega)).trans c0,(hat 1 (by omega)).trans c1,((hat 2 (by omega)).trans c2).trans (by rw[hv2])⟩
  obtain⟨l,hll,hq⟩:=list_of len key
  refine⟨some a,cap,l,by rw[hll];simpa using hcs',fun h0=> ?_,by unfold maxLen at hm;omega⟩
  have hget:∀i,i<l.length→∃y,l[i]? =some y:=fun i hi=>⟨l[i],gE hi⟩
  obtain⟨y0,hy0⟩:=hget 0 h0
  obtain⟨-,-,-,-,-,-,d0,-⟩:=hq 0 y0 hy0
  rw[Nat.zero_mul,show(a.add 0).add 0=a from rfl] at d0
  have hs:a.spot=none:=World.cell?_spot d0
  refine⟨a.block,a.off,by cases a;simp_all,block_of_cell d0,fun i y hy=> ?_⟩
  obtain⟨q0,q1,q2,CA,ccap,hr,c0,c1,c2⟩:=hq i y hy
  rw[Go.Deep.add_add,spot_eq hs] at c0 c1 c2
  exact⟨q0,q1,q2,CA,ccap,hr,c0,c1,c2⟩
end
theorem own:ownKnob Tryd.prog.godebug=none:=by kernel_rfl
theorem gHas:Tryd.prog.globalNamed "tierline/code.has" =some 0:=by kernel_rfl
theorem tHas:(Tryd.prog.globals[0]?).map (·.type)=some 170:=by kernel_rfl
theorem cInt:Tryd.prog.cellsOf 3=1:=by kernel_rfl
theorem cIns:Tryd.prog.cellsOf 117=5:=by kernel_rfl
theorem cBody:Tryd.prog.cellsOf 80=3:=by kernel_rfl
theorem cRaws:Tryd.prog.cellsOf 78=1:=by kernel_rfl
abbrev laid2:List (String×DataW Unit):=[("tierline/code.has",Rows.laid_tierline_code_has)]
theorem door_met(os:Os)(args:Array Value):laidMetH Tryd.prog laid2 ((World.doorLaid Tryd.prog 400 os).forCall (fun _ _=>0) ⟨#[],args,[]⟩).memory:=
 laidMetH_of_parts3 (fuel:=8) (laidMet_of_run' 8 (by kernel_rfl) (by kernel_rfl)) (by kernel_rfl) (by kernel_rfl)
theorem of_laid{W:World}(h:laidMetH Tryd.prog laid2 W):Tab W:=by
 rw[MakeChecks.laidMetH_plain _ _ _ (by kernel_rfl)] at h
 obtain⟨ps,⟨g0,t0,cs0,f0,p0,q0,hg0,ht0,hv0,hd0,-⟩,-⟩:=h
 obtain rfl:=Option.some.inj (gHas.symm.trans hg0)
 obtain rfl:=Option.some.inj (tHas.symm.trans ht0)
 have e0:(Rows.laid_tierline_code_has:DataW Unit)= .agg (hasTab.map fun z=> .lit (.int .i64 z)):=rfl
 rw[e0] at hd0
 have a0:=tab_flat Tryd.underlying170 Tryd.underlying3 cInt hd0
 have c0:∀i,i<20→W.cell? ⟨0,i,none⟩=some (.int .i64 (hasTab.getD i 0)):=fun i hi=>by
  rw[World.var?_cell hg0 hv0 i,←a0 i hi,←Array.getElem?_toList]
 exact⟨c0,block_of_cell (c0 0 (by omega))⟩
set_option maxRecDepth 100000 in
theorem open_l{H:Type}{enc:TypeId×Value→H}{w:World}{base:Nat}{spare:Nat→Bool}{held:Bool}{r:Reach}{b0:Nat}{v:Value}{d:DataW H}{p:List MemPlace}
 (hv:Value.okWide Tryd.prog w r b0 22 v) (h:DataW.Trod enc Tryd.prog w base spare held 22 v d p):
 ∃A cap l,v= .slice A (List.length l) cap∧RawsAt w A l∧(l.length:Int)≤9223372036854775807:=
 open_bodies Tryd.underlying22 Tryd.underlying80 Tryd.underlying3 cBody cInt
  (fun j hj=>by
    have hc:j=0∨j=1:=by omega
    rcases hc with rfl|rfl<;>exact⟨_,rfl,rfl,rfl⟩) ⟨_,rfl,rfl,rfl⟩ cRaws Tryd.underlying78 Tryd.underlying117 cIns
  (fun j hj=>by
    have hc:j=0∨j=1∨j=2∨j=3∨j=4:=by omega
    rcases hc with rfl|rfl|rfl|rfl|rfl<;>exact⟨_,rfl,rfl,rfl⟩) hv h
end Go.Proofs.YtedcjapmmnbamaaDoor
