/-
  Plain: facts that only rise; the solver as acts, its sweeps, their end.
-/
import Derived.Test.YtappljijljjkiaaDoorZfFdP
namespace Tier
open Go Go.RowKit
def FactS.ok(f:FactS):Prop:=(f.k=0∧f.v=0)∨f.k=1∨(f.k=2∧f.v=0)
def FactS.le(f g:FactS):Prop:=f.k=0∨(f.k=g.k∧f.v=g.v)∨g.k=2
theorem FactS.eta{f g:FactS}(h1:f.k=g.k)(h2:f.v=g.v):f=g:=by cases f;cases g;cases h1;cases h2;rfl
theorem FactS.ne{f g:FactS}(h:f≠g):¬(f.k=g.k∧f.v=g.v):=fun e=>h (FactS.eta e.1 e.2)
theorem FactS.le_refl(f:FactS):f.le f:= .inr (.inl ⟨rfl,rfl⟩)
theorem FactS.le_trans{f g h:FactS}(a:f.le g)(b:g.le h):f.le h:=by unfold FactS.le at *;omega
theorem FactS.le_lt{f g:FactS}(hf:f.ok)(hg:g.ok)(a:f.le g)(h:f≠g):f.k.toNat<g.k.toNat:=by
 have:=FactS.ne h
 unfold FactS.le FactS.ok at *
 omega
theorem FactS.le_two{f:FactS}(h:f.ok):f.k.toNat≤2:=by unfold FactS.ok at h;omega
theorem noF_ok:noF.ok:= .inl ⟨rfl,rfl⟩
theorem noF_le(f:FactS):noF.le f:= .inl rfl
theorem join_ok{a b:FactS}(ha:a.ok)(hb:b.ok):(joinF a b).ok:=by
 unfold joinF
 split
 ·exact hb
 ·split
  ·exact ha
  ·exact .inr (.inr ⟨rfl,rfl⟩)
theorem le_join_left(a b:FactS):a.le (joinF a b):=by
 unfold joinF
 split
 ·exact .inl (by assumption)
 ·split
  ·exact FactS.le_refl a
  ·exact .inr (.inr rfl)
theorem le_join_right(a b:FactS):b.le (joinF a b):=by
 unfold joinF
 split
 ·exact FactS.le_refl b
 ·split
  ·rename_i h
   rcases h with h|h
   ·exact .inl h
   ·rw[h];exact FactS.le_refl b
  ·exact .inr (.inr rfl)
theorem join_le{a b c:FactS}(ha:a.le c)(hb:b.le c):(joinF a b).le c:=by
 unfold joinF
 split
 ·exact hb
 ·split
  ·exact ha
  ·rename_i h1 h2
   have h3:=FactS.ne (fun e=>h2 (.inr e))
   have h4:¬b.k=0:=fun e=>h2 (.inl e)
   unfold FactS.le at *
   show(2:Int)=0∨_∨c.k=2
   omega
theorem join_mono{a b a' b' :FactS}(ha:a.le a')(hb:b.le b'):(joinF a b).le (joinF a' b'):=
 join_le (FactS.le_trans ha (le_join_left _ _)) (FactS.le_trans hb (le_join_right _ _))
theorem make_ok(op imm:Int)(a b:FactS):(makeF op imm a b).ok:=by
 unfold makeF
 repeat' split
 all_goals first|exact .inl ⟨rfl,rfl⟩|exact .inr (.inl rfl)|exact .inr (.inr ⟨rfl,rfl⟩)
theorem make_mono(op imm:Int){a b a' b' :FactS}(ha:a.le a')(hb:b.le b'):(makeF op imm a b).le (makeF op imm a' b'):=by
 unfold makeF
 by_cases h1:a.k=0∨b.k=0
 ·rw[if_pos h1];exact .inl rfl
 have h1' :¬(a'.k=0∨b'.k=0):=by unfold FactS.le at *;omega
 rw[if_neg h1,if_neg h1']
 by_cases h2:12<op
 ·rw[if_pos h2,if_pos h2];exact FactS.le_refl _
 rw[if_neg h2,if_neg h2]
 by_cases h3:op=5∧b=⟨1,0⟩
 ·rw[if_pos h3];exact .inl rfl
 have h3' :¬(op=5∧b' =⟨1,0⟩):=fun h=>h3 ⟨h.1,by
  have e1:b'.k=1:=by rw[h.2]
  have e2:b'.v=0:=by rw[h.2]
  refine FactS.eta ?_ ?_
  ·show b.k=1
   unfold FactS.le at hb;omega
  ·show b.v=0
   unfold FactS.le at hb;omega⟩
 rw[if_neg h3,if_neg h3']
 by_cases h4:a'.k=2∨b'.k=2
 ·rw[if_pos h4];exact .inr (.inr rfl)
 have h4' :¬(a.k=2∨b.k=2):=by unfold FactS.le at *;omega
 have ea:a=a' :=FactS.eta (by unfold FactS.le at *;omega) (by unfold FactS.le at *;omega)
 have eb:b=b' :=FactS.eta (by unfold FactS.le at *;omega) (by unfold FactS.le at *;omega)
 rw[if_neg h4,if_neg h4',ea,eb];exact FactS.le_refl _
theorem way_mono{a a' :FactS}(imm tt n:Int)(ha:a.le a')(h:wayB a imm tt n=true):wayB a' imm tt n=true:=by
 unfold wayB at *
 by_cases h2:a'.k=2
 ·rw[decide_eq_true h2];rfl
 have:a.k≠0:=fun e=>by
  rw[e] at h
  simp at h
 have e:a=a' :=FactS.eta (by unfold FactS.le at *;omega) (by unfold FactS.le at *;omega)
 rw[←e];exact h
structure SV.le(x y:SV):Prop where
 f:∀i:Nat,(x.F.getD i noF).le (y.F.getD i noF)
 e:∀a b,x.ed a b=true→y.ed a b=true
theorem SV.le.refl(x:SV):x.le x:=⟨fun _=>FactS.le_refl _,fun _ _ h=>h⟩
theorem SV.le.trans{x y z:SV}(h:x.le y)(g:y.le z):x.le z:=⟨fun i=>FactS.le_trans (h.f i) (g.f i),fun a b hh=>g.e a b (h.e a b hh)⟩
theorem SV.le.of{x y:SV}(h:x.le y)(id:Int):(ofF x.F id).le (ofF y.F id):=by
 unfold ofF
 split
 ·exact FactS.le_refl _
 ·exact h.f _
def SV.fok(x:SV):Prop:=∀i:Nat,(x.F.getD i noF).ok
theorem SV.fok.of{x:SV}(h:x.fok)(id:Int):(ofF x.F id).ok:=by
 unfold ofF
 split
 ·exact .inr (.inl rfl)
 ·exact h _
inductive AcF where
 |say (id:Int) (f:SV→FactS)
 |go (c:SV→Bool) (a:Int) (b:Nat)
def AcF.run:AcF→SV→SV
 | .say id f,x=>sayF x id (f x)
 | .go c a b,x=>if c x=true then goF x a b else x
def AcF.holds(z:SV):AcF→Prop
 | .say id f=>0≤id→(f z).le (ofF z.F id)
 | .go c a b=>c z=true→z.ed a b=true
structure SysF(n H:Nat)(acts:Nat→List AcF):Prop where
 sok:∀i id f,i<H→AcF.say id f∈acts i→id<(n:Int)∧(∀x:SV,x.fok→(f x).ok)∧∀x y:SV,x.le y→(f x).le (f y)
 gok:∀i c a b,i<H→AcF.go c a b∈acts i→(-1≤a∧a<(H:Int))∧b<H∧∀x y:SV,x.le y→c x=true→c y=true
 uni:∀i j id f g,i<H→j<H→AcF.say id f∈acts i→AcF.say id g∈acts j→0≤id→f=g∧i=j
structure GoodF(n H:Nat)(acts:Nat→List AcF)(x:SV):Prop where
 n:x.F.length=n
 m:x.met.length=H
 ok:x.fok
 le:∀i id f,i<H→AcF.say id f∈acts i→0≤id→(ofF x.F id).le (f x)
 mt:∀d:Nat,d<H→(x.met.getD d false=true↔∃a:Int,x.ed a d=true)
 er:∀a b:Int,x.ed a b=true→(-1≤a∧a<(H:Int))∧0≤b∧b<(H:Int)
def lvF(L:List FactS):Nat:=(L.map fun f=>f.k.toNat).sum
theorem lv_set{f:FactS}:∀{L:List FactS} {i:Nat},i<L.length→(L.getD i noF).k.toNat<f.k.toNat→lvF L<lvF (L.set i f)
 |[],_,h,_=>by cases h
 |g::L,0,_,h=>by
  have h' :g.k.toNat<f.k.toNat:=h
  unfold lvF
  simp only[List.set_cons_zero,List.map_cons,List.sum_cons]
  omega
 |g::L,i+1,hi,h=>by
  have:=lv_set (L:=L) (i:=i) (f:=f) (by simpa using hi) (by simpa using h)
  unfold lvF at *
  simp only[List.set_cons_succ,List.map_cons,List.sum_cons]
  omega
theorem lv_le:∀{L:List FactS},(∀f∈L,f.k.toNat≤2)→lvF L≤2*L.length
 |[],_=>Nat.le_refl _
 |g::L,h=>by
  have h1:=lv_le (L:=L) (fun f hf=>h f (.tail _ hf))
  have h2:=h g (.head _)
  unfold lvF at *
  simp only[List.map_cons,List.sum_cons,List.length_cons]
  omega
def muF(H:Nat)(x:SV):Nat:=lvF x.F+ecnt H x.ed
theorem muF_le{n H:Nat}{acts:Nat→List AcF}{x:SV}(h:GoodF n H acts x):muF H x≤2*n+(H+1)*H:=by
 have h1:=lv_le (L:=x.F) (fun f hf=>by
  obtain⟨i,hi,e⟩:=List.getElem_of_mem hf
  have:=h.ok i
  rw[gD,gE hi,e] at this
  exact FactS.le_two this)
 have h2:=ecnt_le H x.ed
 rw[h.n] at h1
 unfold muF;omega
section
variable {n H:Nat}{acts:Nat→List AcF}{x y z:SV}
def UpF(H:Nat)(x y:SV):Prop:=y=x∨(y.dirty=true∧muF H x<muF H y)
theorem UpF.trans(h:UpF H x y)(g:UpF H y z):UpF H x z:=by
 rcases g with rfl|⟨g1,g2⟩
 ·exact h
 ·rcases h with rfl|⟨-,h2⟩
  ·exact .inr ⟨g1,g2⟩
  ·exact .inr ⟨g1,by omega⟩
theorem getD_setF{L:List FactS}{i j:Nat}{f:FactS}(hi:i<L.length):(L.set i f).getD j noF=if j=i then f else L.getD j noF:=by
 split
 ·rename_i h
  subst h
  rw[gD,List.getElem?_set_self hi];rfl
 ·rename_i h
  rw[gD,List.getElem?_set_ne (fun e=>h e.symm),←gD]
theorem SysF.step(S:SysF n H acts)(h:GoodF n H acts x){i:Nat}(hi:i<H){act:AcF}(ha:act∈acts i):GoodF n H acts (act.run x)∧x.le (act.run x)∧UpF H x (act.run x):=by
 cases act with
 |say id f=>
  obtain⟨s1,s2,s3⟩:=S.sok i id f hi ha
  show GoodF n H acts (sayF x id (f x))∧x.le (sayF x id (f x))∧UpF H x (sayF x id (f x))
  unfold sayF
  by_cases hc:0≤id∧ofF x.F id≠f x
  ·rw[if_pos hc]
   have hl:=h.le i id f hi ha hc.1
   have hn:id.toNat<x.F.length:=by rw[h.n];omega
   have hof:ofF x.F id=x.F.getD id.toNat noF:=by unfold ofF;rw[if_neg (by omega)]
   have hle:x.le {x with F:=x.F.set id.toNat (f x),dirty:=true}:=⟨fun j=>by
    show(x.F.getD j noF).le ((x.F.set id.toNat (f x)).getD j noF)
    rw[getD_setF hn]
    split
    ·rename_i e
     rw[e,←hof];exact hl
    ·exact FactS.le_refl _,fun _ _ h=>h⟩
   refine⟨⟨by rw[←h.n];exact List.length_set,h.m,fun j=> ?_,fun j id' g hj hg h0=> ?_,h.mt,h.er⟩,hle, .inr ⟨rfl,?_⟩⟩
   ·show((x.F.set id.toNat (f x)).getD j noF).ok
    rw[getD_setF hn]
    split
    ·exact s2 x h.ok
    ·exact h.ok j
   ·have hm:=(S.sok j id' g hj hg).2.2 _ _ hle
    show(ofF (x.F.set id.toNat (f x)) id').le _
    by_cases e:id' =id
    ·subst e
     have hfg:=(S.uni i j id' f g hi hj ha hg h0).1
     subst hfg
     refine FactS.le_trans ?_ hm
     unfold ofF
     rw[if_neg (by omega),getD_setF hn,if_pos rfl];exact FactS.le_refl _
    ·refine FactS.le_trans ?_ hm
     have:=h.le j id' g hj hg h0
     unfold ofF at this⊢
     rw[if_neg (by omega)] at this⊢
     rw[getD_setF hn,if_neg (by omega)];exact this
   ·have hlt:=FactS.le_lt (h.ok.of id) (s2 x h.ok) hl hc.2
    rw[hof] at hlt
    have:=lv_set hn hlt
    unfold muF
    show lvF x.F+ecnt H x.ed<lvF (x.F.set id.toNat (f x))+ecnt H x.ed
    omega
  ·rw[if_neg hc]
   exact⟨h,SV.le.refl _, .inl rfl⟩
 |go c a b=>
  obtain⟨g1,g2,g3⟩:=S.gok i c a b hi ha
  show GoodF n H acts (if c x=true then goF x a b else x)∧x.le (if c x=true then goF x a b else x)∧UpF H x (if c x=true then goF x a b else x)
  by_cases hc:c x=true
  ·rw[if_pos hc]
   cases hx:x.ed a b with
   |true=>
    rw[goF_same hx]
    exact⟨h,SV.le.refl _, .inl rfl⟩
   |false=>
    have hE:=ecnt_go g1 g2 hx
    have e:goF x a b=⟨x.F,x.met.set b true,fun c d=>x.ed c d||decide (c=a∧d=b),true⟩:=by unfold goF;rw[if_neg (by rw[hx];simp)];rfl
    rw[e] at hE⊢
    have hle:x.le ⟨x.F,x.met.set b true,fun c d=>x.ed c d||decide (c=a∧d=b),true⟩:=⟨fun j=>FactS.le_refl _,fun c d hh=>by
     show(x.ed c d||decide (c=a∧d=b))=true
     rw[hh];rfl⟩
    refine⟨⟨h.n,by rw[←h.m];exact List.length_set,h.ok,fun j id g hj hg h0=> ?_,fun d hd=> ?_,fun c d hh=> ?_⟩,hle, .inr ⟨rfl,?_⟩⟩
    ·exact FactS.le_trans (h.le j id g hj hg h0) ((S.sok j id g hj hg).2.2 _ _ hle)
    ·have hb:b<x.met.length:=by rw[h.m];exact g2
     by_cases e:d=b
     ·subst e
      refine⟨fun _=>⟨a,by show(x.ed a d||decide (a=a∧(d:Int)=d))=true;simp⟩,fun _=> ?_⟩
      show(x.met.set d true).getD d false=true
      rw[gD,List.getElem?_set_self hb];rfl
     ·have e1:(x.met.set b true).getD d false=x.met.getD d false:=by
       rw[gD,List.getElem?_set_ne (fun e' =>e e'.symm),←gD]
      show(x.met.set b true).getD d false=true↔∃a',(x.ed a' d||decide (a' =a∧(d:Int)=b))=true
      rw[e1,h.mt d hd]
      constructor
      ·rintro⟨a',h'⟩
       exact⟨a',by rw[h'];rfl⟩
      ·rintro⟨a',h'⟩
       rw[decide_eq_false (fun h=>e (by omega)),Bool.or_false] at h'
       exact⟨a',h'⟩
    ·have hh' :(x.ed c d||decide (c=a∧d=b))=true:=hh
     rcases Bool.or_eq_true_iff.1 hh' with h1|h1
     ·exact h.er c d h1
     ·obtain⟨rfl,rfl⟩:=of_decide_eq_true h1
      exact⟨g1,by omega,by omega⟩
    ·unfold muF
     show lvF x.F+ecnt H x.ed<lvF x.F+_
     rw[hE];omega
  ·rw[if_neg hc]
   exact⟨h,SV.le.refl _, .inl rfl⟩
def runsF(l:List AcF)(x:SV):SV:=l.foldl (fun y a=>a.run y) x
theorem UpF.back(h:UpF H x y)(g:UpF H y z)(e:z=x):y=x:=by
 rcases h with h|⟨-,h⟩
 ·exact h
 ·rcases g with g|⟨-,g⟩
  ·rw[←g];exact e
  ·rw[e] at g;omega
theorem SysF.runs(S:SysF n H acts){i:Nat}(hi:i<H):∀(l:List AcF),(∀a∈l,a∈acts i)→∀{x:SV},GoodF n H acts x→GoodF n H acts (runsF l x)∧x.le (runsF l x)∧UpF H x (runsF l x)∧(runsF l x=x→∀a∈l,a.run x=x)
 |[],_,_,h=>⟨h,SV.le.refl _, .inl rfl,fun _ _ ha=>nomatch ha⟩
 |a::l,hl,x,h=>by
  obtain⟨g1,l1,u1⟩:=S.step h hi (hl a (.head _))
  obtain⟨g2,l2,u2,f2⟩:=SysF.runs S hi l (fun b hb=>hl b (.tail _ hb)) g1
  refine⟨g2,l1.trans l2,u1.trans u2,fun e b hb=> ?_⟩
  have e1:a.run x=x:=u1.back u2 e
  cases hb with
  |head=>exact e1
  |tail _ hb=>
   have e2:runsF l (a.run x)=x:=e
   rw[e1] at e2 f2
   exact f2 e2 b hb
def swF(acts:Nat→List AcF)(x:SV):Nat→SV
 |0=>x
 |i+1=>if (swF acts x i).met.getD i false=true then runsF (acts i) (swF acts x i) else swF acts x i
theorem SysF.sweep(S:SysF n H acts)(h:GoodF n H acts x):∀i,i≤H→GoodF n H acts (swF acts x i)∧x.le (swF acts x i)∧UpF H x (swF acts x i)∧(swF acts x i=x→∀j,j<i→x.met.getD j false=true→∀a∈acts j,a.run x=x)
 |0,_=>⟨h,SV.le.refl _, .inl rfl,fun _ j hj=>by omega⟩
 |i+1,hi=>by
  obtain⟨g1,l1,u1,f1⟩:=SysF.sweep S h i (by omega)
  show GoodF n H acts (if (swF acts x i).met.getD i false=true then runsF (acts i) (swF acts x i) else swF acts x i)∧x.le (if (swF acts x i).met.getD i false=true then runsF (acts i) (swF acts x i) else swF acts x i)∧UpF H x (if (swF acts x i).met.getD i false=true then runsF (acts i) (swF acts x i) else swF acts x i)∧((if (swF acts x i).met.getD i false=true then runsF (acts i) (swF acts x i) else swF acts x i)=x→_)
  by_cases hm:(swF acts x i).met.getD i false=true
  ·rw[if_pos hm]
   obtain⟨g2,l2,u2,f2⟩:=S.runs (i:=i) (by omega) (acts i) (fun a ha=>ha) g1
   refine⟨g2,l1.trans l2,u1.trans u2,fun e j hj hmj=> ?_⟩
   have e1:=u1.back u2 e
   by_cases hji:j=i
   ·subst hji
    rw[e1] at f2 e
    exact f2 e
   ·exact f1 e1 j (by omega) hmj
  ·rw[if_neg hm]
   refine⟨g1,l1,u1,fun e j hj hmj=> ?_⟩
   by_cases hji:j=i
   ·subst hji
    rw[e] at hm
    exact absurd hmj hm
   ·exact f1 e j (by omega) hmj
def offF(x:SV):SV:={x with dirty:=false}
def nxF(acts:Nat→List AcF)(H:Nat)(x:SV):SV:=swF acts (offF x) H
theorem GoodF.off(h:GoodF n H acts x)(S:SysF n H acts):GoodF n H acts (offF x):=⟨h.n,h.m,h.ok,fun i id f hi hf h0=>FactS.le_trans (h.le i id f hi hf h0) ((S.sok i id f hi hf).2.2 x (offF x) ⟨fun _=>FactS.le_refl _,fun _ _ h=>h⟩),h.mt,h.er⟩
def DoneF(acts:Nat→List AcF)(H:Nat)(x:SV):Prop:=∀j,j<H→x.met.getD j false=true→∀a∈acts j,a.run x=x
theorem SysF.next(S:SysF n H acts)(h:GoodF n H acts x):GoodF n H acts (nxF acts H x)∧x.le (nxF acts H x)∧((nxF acts H x).dirty=true→muF H x<muF H (nxF acts H x))∧((nxF acts H x).dirty=false→nxF acts H x=offF x∧DoneF acts H (nxF acts H x)):=by
 obtain⟨g1,l1,u1,f1⟩:=S.sweep (h.off S) H (Nat.le_refl _)
 refine⟨g1,SV.le.trans (⟨fun _=>FactS.le_refl _,fun _ _ h=>h⟩:x.le (offF x)) l1,fun hd=> ?_,fun hd=> ?_⟩
 ·rcases u1 with e|⟨-,h2⟩
  ·have:(swF acts (offF x) H).dirty=true:=hd
   rw[e] at this
   exact absurd this (by show¬false=true;decide)
  ·exact h2
 ·rcases u1 with e|⟨h1,-⟩
  ·refine⟨e,?_⟩
   have e' :nxF acts H x=offF x:=e
   rw[e']
   intro j hj hm
   exact f1 e j hj hm
  ·have:(swF acts (offF x) H).dirty=false:=hd
   rw[h1] at this
   exact absurd this (by decide)
def itF(acts:Nat→List AcF)(H:Nat)(x:SV):Nat→SV
 |0=>x
 |k+1=>nxF acts H (itF acts H x k)
def EndF(acts:Nat→List AcF)(H:Nat)(x y:SV):Prop:=∃k,y=itF acts H x k∧y.dirty=false∧∀j,j<k→(itF acts H x j).dirty=true
theorem SysF.its(S:SysF n H acts)(h:GoodF n H acts x):∀k,GoodF n H acts (itF acts H x k)∧x.le (itF acts H x k)
 |0=>⟨h,SV.le.refl _⟩
 |k+1=>by
  obtain⟨g,l⟩:=SysF.its S h k
  obtain⟨g1,l1,-⟩:=S.next g
  exact⟨g1,l.trans l1⟩
theorem SysF.done(S:SysF n H acts)(h:GoodF n H acts x)(hd:x.dirty=true)(he:EndF acts H x y):GoodF n H acts y∧x.le y∧DoneF acts H y:=by
 obtain⟨k,rfl,h2,h3⟩:=he
 cases k with
 |zero=>
  have:x.dirty=false:=h2
  rw[hd] at this;cases this
 |succ k=>
  obtain⟨g,l⟩:=S.its h k
  obtain⟨g1,l1,-,d1⟩:=S.next g
  exact⟨g1,l.trans l1,(d1 h2).2⟩
theorem DoneF.say(S:SysF n H acts)(g:GoodF n H acts y)(h:DoneF acts H y){j:Nat}(hj:j<H)(hm:y.met.getD j false=true){id:Int}{f:SV→FactS}(ha:AcF.say id f∈acts j)(h0:0≤id):ofF y.F id=f y:=by
 have e:sayF y id (f y)=y:=h j hj hm _ ha
 unfold sayF at e
 refine Decidable.byContradiction fun hne=> ?_
 rw[if_pos ⟨h0,hne⟩] at e
 have e2:y.F.set id.toNat (f y)=y.F:=congrArg SV.F e
 have hn:id.toNat<y.F.length:=by rw[g.n];have:=(S.sok j id f hj ha).1;omega
 refine hne ?_
 unfold ofF
 rw[if_neg (by omega),←e2,getD_setF hn,if_pos rfl]
theorem DoneF.go(h:DoneF acts H y){j:Nat}(hj:j<H)(hm:y.met.getD j false=true){c:SV→Bool}{a:Int}{b:Nat}(ha:AcF.go c a b∈acts j)(hc:c y=true):y.ed a b=true:=by
 have e:(if c y=true then goF y a b else y)=y:=h j hj hm _ ha
 rw[if_pos hc] at e
 rw[←e]
 unfold goF
 split
 ·assumption
 ·show(y.ed a b||decide (a=a∧(b:Int)=b))=true
  simp
theorem run_least{i:Nat}(S:SysF n H acts)(hi:i<H){act:AcF}(ha:act∈acts i)(hz:act.holds z)(hx:GoodF n H acts x)(hl:x.le z):(act.run x).le z:=by
 cases act with
 |say id f=>
  show(sayF x id (f x)).le z
  unfold sayF
  split
  ·rename_i hc
   refine⟨fun j=> ?_,hl.e⟩
   have hn:id.toNat<x.F.length:=by rw[hx.n];have:=(S.sok i id f hi ha).1;omega
   show((x.F.set id.toNat (f x)).getD j noF).le _
   rw[getD_setF hn]
   split
   ·rename_i e
    subst e
    have h1:(f z).le (ofF z.F id):=hz hc.1
    have h2:=(S.sok i id f hi ha).2.2 x z hl
    have h3:=FactS.le_trans h2 h1
    unfold ofF at h3
    rw[if_neg (by omega)] at h3;exact h3
   ·exact hl.f j
  ·exact hl
 |go c a b=>
  show(if c x=true then goF x a b else x).le z
  split
  ·rename_i hc
   have h1:z.ed a b=true:=hz ((S.gok i c a b hi ha).2.2 x z hl hc)
   unfold goF
   split
   ·exact hl
   ·refine⟨hl.f,fun c d hh=> ?_⟩
    have hh' :(x.ed c d||decide (c=a∧d=b))=true:=hh
    rcases Bool.or_eq_true_iff.1 hh' with h2|h2
    ·exact hl.e c d h2
    ·obtain⟨rfl,rfl⟩:=of_decide_eq_true h2
     exact h1
  ·exact hl
theorem runs_least(S:SysF n H acts){i:Nat}(hi:i<H)(hz:∀a∈acts i,a.holds z):∀(l:List AcF),(∀a∈l,a∈acts i)→∀{x:SV},GoodF n H acts x→x.le z→(runsF l x).le z
 |[],_,_,_,h=>h
 |a::l,hl,_,g,h=>runs_least S hi hz l (fun b hb=>hl b (.tail _ hb)) (S.step g hi (hl a (.head _))).1 (run_least S hi (hl a (.head _)) (hz a (hl a (.head _))) g h)
theorem sweep_least(S:SysF n H acts)(hz:∀i,i<H→(∃a:Int,z.ed a i=true)→∀a∈acts i,a.holds z)(g:GoodF n H acts x)(hl:x.le z):∀i,i≤H→(swF acts x i).le z
 |0,_=>hl
 |i+1,hi=>by
  have h1:=sweep_least S hz g hl i (by omega)
  have g1:=(S.sweep g i (by omega)).1
  show(if (swF acts x i).met.getD i false=true then runsF (acts i) (swF acts x i) else swF acts x i).le z
  split
  ·rename_i hm
   obtain⟨a,ha⟩:=(g1.mt i (by omega)).1 hm
   exact runs_least S (by omega) (hz i (by omega) ⟨a,h1.e _ _ ha⟩) (acts i) (fun a ha=>ha) g1 h1
  ·exact h1
theorem SysF.least(S:SysF n H acts)(hz:∀i,i<H→(∃a:Int,z.ed a i=true)→∀a∈acts i,a.holds z)(g:GoodF n H acts x)(hl:x.le z)(he:EndF acts H x y):y.le z:=by
 obtain⟨k,rfl,-,-⟩:=he
 have key:∀k,(itF acts H x k).le z:=fun k=>by
  induction k with
  |zero=>exact hl
  |succ k ih=>
   have gk:=(S.its g k).1
   exact sweep_least S hz (gk.off S) (SV.le.trans (⟨fun _=>FactS.le_refl _,fun _ _ h=>h⟩:(offF (itF acts H x k)).le (itF acts H x k)) ih) H (Nat.le_refl _)
 exact key k
open Classical in
theorem SysF.unmet(S:SysF n H acts)(g:GoodF n H acts x)(hd:x.dirty=true)(h0:∀i id f,i<H→AcF.say id f∈acts i→0≤id→(ofF x.F id).k=0)(he:EndF acts H x y){i:Nat}(hi:i<H)(hm:¬y.met.getD i false=true){id:Int}{f:SV→FactS}(ha:AcF.say id f∈acts i)(hid:0≤id):(ofF y.F id).k=0:=by
 obtain⟨gy,ly,dy⟩:=S.done g hd he
 obtain⟨Z,hZ⟩:∃Z:List FactS,Z=(List.range n).map fun(v:Nat)=>if∃i f,i<H∧¬y.met.getD i false=true∧AcF.say (v:Int) f∈acts i then noF else y.F.getD v noF:=⟨_,rfl⟩
 have hZg:∀v,v<n→Z.getD v noF=if∃i f,i<H∧¬y.met.getD i false=true∧AcF.say (v:Int) f∈acts i then noF else y.F.getD v noF:=fun v hv=>by
  rw[hZ,gD,List.getElem?_map,List.getElem?_range hv];rfl
 have hZo:∀v,¬v<n→Z.getD v noF=noF:=fun v hv=>by
  rw[hZ,gD,List.getElem?_eq_none (by simp;omega)];rfl
 have hzy:({y with F:=Z}:SV).le y:=⟨fun v=>by
  show(Z.getD v noF).le _
  by_cases hv:v<n
  ·rw[hZg v hv]
   split
   ·exact noF_le _
   ·exact FactS.le_refl _
  ·rw[hZo v hv];exact noF_le _,fun _ _ h=>h⟩
 have hyz:y.le {y with F:=Z}:=S.least (fun j hj hmj a haj=>by
  have hmy:y.met.getD j false=true:=(gy.mt j hj).2 hmj
  cases a with
  |say id' f' =>
   intro h1
   have e1:=dy.say S gy hj hmy haj h1
   have hb:=(S.sok j id' f' hj haj).1
   refine FactS.le_trans ((S.sok j id' f' hj haj).2.2 _ y hzy) ?_
   rw[←e1]
   show(ofF y.F id').le (ofF Z id')
   unfold ofF
   rw[if_neg (by omega),if_neg (by omega),hZg _ (by omega),if_neg]
   ·exact FactS.le_refl _
   ·rintro⟨k,f'',hk,hmk,hak⟩
    rw[show((id'.toNat:Nat):Int)=id' by omega] at hak
    have:=(S.uni j k id' f' f'' hj hk haj hak h1).2
    rw[this] at hmy
    exact hmk hmy
  |go c a b=>
   intro hc
   exact dy.go hj hmy haj ((S.gok j c a b hj haj).2.2 _ y hzy hc)) g ⟨fun v=>by
  show(x.F.getD v noF).le (Z.getD v noF)
  by_cases hv:v<n
  ·rw[hZg v hv]
   split
   ·rename_i h
    obtain⟨k,f',hk,-,hak⟩:=h
    have:=h0 k _ f' hk hak (by omega)
    unfold ofF at this
    rw[if_neg (by omega),Int.toNat_natCast] at this
    exact .inl this
   ·exact ly.f v
  ·refine .inl ?_
   rw[gD,List.getElem?_eq_none (by rw[g.n];omega)];rfl,fun a b h=>ly.e a b h⟩ he
 have hb:=(S.sok i id f hi ha).1
 have h1:=hyz.of id
 have h2:ofF ({y with F:=Z}:SV).F id=noF:=by
  show ofF Z id=noF
  unfold ofF
  rw[if_neg (by omega),hZg _ (by omega),if_pos ⟨i,f,hi,hm,by rw[show((id.toNat:Nat):Int)=id by omega];exact ha⟩]
 rw[h2] at h1
 rcases h1 with h|h|h
 ·exact h
 ·exact h.1
 ·exact absurd h (by decide)
end
end Tier
