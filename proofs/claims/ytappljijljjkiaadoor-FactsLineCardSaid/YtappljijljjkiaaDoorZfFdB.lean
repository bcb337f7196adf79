/-
  Plain: the solver of a function as acts.
-/
import Derived.Test.YtappljijljjkiaaDoorZfFd5
import Derived.Test.YtappljijljjkiaaDoorZfFdA
namespace Go.Proofs.YtappljijljjkiaaDoor
open Go.RowKit Tier
section
variable {p:List Fnc}{F:Fnc}{O:List Nat}{bs:List BR}{s:SB}{vals:Nat}{g:Nat→Nat}{c:Nat→Nat→Nat}
def phA(bs:List BR)(s:SB)(i k:Nat):AcF:= .say (s.phi i k).id fun x=>phTo x i (prevL bs i) (s.phi i k).args (prevL bs i).length
def inA(s:SB)(i t:Nat):AcF:= .say (s.insA i t).id fun x=>makeF (s.insA i t).op (s.insA i t).imm (ofF x.F (s.insA i t).a) (ofF x.F (s.insA i t).b)
def goA(F:Fnc)(i:Nat)(op a imm:Int)(n:Nat):AcF:= .go (fun x=>decide (op≠16)||wayB (ofF x.F a) imm (toF F (hdA F i)) (hdA F n)) i n
def lastA(s:SB)(i:Nat):InsS:=s.insA i ((s.part i).ins.length-1)
def actsF(F:Fnc)(bs:List BR)(s:SB)(i:Nat):List AcF:=(List.range (s.part i).phis.length).map (phA bs s i)++((List.range (s.part i).ins.length).map (inA s i)++(nxI F (hdA F i)).map (goA F i (lastA s i).op (lastA s i).a (lastA s i).imm))
theorem mem_acts{i:Nat}{act:AcF}:act∈actsF F bs s i↔(∃k,k<(s.part i).phis.length∧phA bs s i k=act)∨(∃t,t<(s.part i).ins.length∧inA s i t=act)∨∃n,n∈nxI F (hdA F i)∧goA F i (lastA s i).op (lastA s i).a (lastA s i).imm n=act:=by
 unfold actsF
 simp only[List.mem_append,List.mem_map,List.mem_range]
theorem runs_app(l m:List AcF)(x:SV):runsF (l++m) x=runsF m (runsF l x):=List.foldl_append
theorem runs_phis(bs:List BR)(s:SB)(i:Nat)(x:SV):∀k,phisTo bs s i x k=runsF ((List.range k).map (phA bs s i)) x
 |0=>rfl
 |k+1=>by rw[List.range_succ,List.map_append,runs_app,←runs_phis bs s i x k];rfl
theorem runs_ins(s:SB)(i:Nat)(x:SV):∀t,sayTo s i x t=runsF ((List.range t).map (inA s i)) x
 |0=>rfl
 |t+1=>by rw[List.range_succ,List.map_append,runs_app,←runs_ins s i x t];rfl
theorem goF_F(x:SV)(a b:Int):(goF x a b).F=x.F:=by unfold goF;split<;>rfl
theorem runs_go(F:Fnc)(i:Nat)(op a imm:Int)(x:SV):∀(l:List Nat) (y:SV),y.F=x.F→l.foldl (fun y n=>if op≠16∨wayB (ofF x.F a) imm (toF F (hdA F i)) (hdA F n)=true then goF y i n else y) y=runsF (l.map (goA F i op a imm)) y
 |[],_,_=>rfl
 |n::l,y,h=>by
  have e:(if op≠16∨wayB (ofF x.F a) imm (toF F (hdA F i)) (hdA F n)=true then goF y i n else y)=(goA F i op a imm n).run y:=by
   show _=if (decide (op≠16)||wayB (ofF y.F a) imm (toF F (hdA F i)) (hdA F n))=true then goF y i n else y
   rw[h]
   simp only[Bool.or_eq_true,decide_eq_true_eq]
  have hF:((goA F i op a imm n).run y).F=x.F:=by
   rw[←e,←h]
   split
   ·exact goF_F _ _ _
   ·rfl
  show List.foldl _ (if op≠16∨wayB (ofF x.F a) imm (toF F (hdA F i)) (hdA F n)=true then goF y i n else y) l=runsF (l.map (goA F i op a imm)) ((goA F i op a imm n).run y)
  rw[e]
  exact runs_go F i op a imm x l _ hF
theorem block_runs(F:Fnc)(bs:List BR)(s:SB)(i:Nat)(x:SV):blockF F bs s i x=runsF (actsF F bs s i) x:=by
 unfold blockF actsF leaveTo
 rw[List.take_length,runs_app,runs_app,←runs_phis,←runs_ins]
 exact runs_go F i _ _ _ _ _ _ rfl
theorem phTo_ok{x:SV}(h:x.fok)(i:Nat)(P args:List Int):∀q,(phTo x i P args q).ok
 |0=>noF_ok
 |q+1=>by
  rw[phTo_succ]
  split
  ·exact join_ok (phTo_ok h i P args q) (h.of _)
  ·exact phTo_ok h i P args q
theorem phTo_mono{x y:SV}(h:x.le y)(i:Nat)(P args:List Int):∀q,(phTo x i P args q).le (phTo y i P args q)
 |0=>noF_le _
 |q+1=>by
  rw[phTo_succ,phTo_succ]
  have ih:=phTo_mono h i P args q
  by_cases hx:x.ed (P.getD q 0) i=true
  ·rw[if_pos hx,if_pos (h.e _ _ hx)]
   exact join_mono ih (h.of _)
  ·rw[if_neg hx]
   split
   ·exact FactS.le_trans ih (le_join_left _ _)
   ·exact ih
theorem FinP.cm(hf:FinP p F O bs s vals g c){i:Nat}(hi:i<bs.length)(t:Nat):∀u,t≤u→u≤(s.part i).ins.length→c i t≤c i u
 |0,h,_=>by rw[show t=0 by omega];exact Nat.le_refl _
 |u+1,h,hu=>by
  by_cases e:t=u+1
  ·rw[e];exact Nat.le_refl _
  ·have h1:=hf.cm hi t u (by omega) (by omega)
   have h2:=hf.iid i u hi (by omega)
   by_cases e2:0≤(s.insA i u).id
   ·have:=(h2.1 e2).2;omega
   ·have:=h2.2 (by omega);omega
theorem FinP.gm(hf:FinP p F O bs s vals g c)(j:Nat):∀k,j≤k→k≤bs.length→g j≤g k
 |0,h,_=>by rw[show j=0 by omega];exact Nat.le_refl _
 |k+1,h,hk=>by
  by_cases e:j=k+1
  ·rw[e];exact Nat.le_refl _
  ·have h1:=hf.gm j k (by omega) (by omega)
   have h2:=hf.gs k (by omega)
   omega
theorem FinP.pAt(hf:FinP p F O bs s vals g c){i k:Nat}(hi:i<bs.length)(hk:k<(s.part i).phis.length):(s.phi i k).id=((F.params.toNat+(g i+k):Nat):Int)∧g i+k<g (i+1):=by
 have h1:=hf.gs i hi
 have h2:=(hf.pid i k hi hk).1
 exact⟨by rw[h2];omega,by omega⟩
theorem FinP.iAt(hf:FinP p F O bs s vals g c){i t:Nat}(hi:i<bs.length)(ht:t<(s.part i).ins.length)(h0:0≤(s.insA i t).id):(s.insA i t).id=((F.params.toNat+(g i+(s.part i).phis.length+c i t):Nat):Int)∧g i+(s.part i).phis.length+c i t<g (i+1):=by
 have h1:=hf.gs i hi
 have h2:=(hf.iid i t hi ht).1 h0
 have h3:=hf.cm hi (t+1) _ (by omega) (Nat.le_refl _)
 exact⟨by rw[h2.1];omega,by omega⟩
theorem FinP.same(hf:FinP p F O bs s vals g c){i j x:Nat}(hi:i<bs.length)(hj:j<bs.length)(h1:g i≤x)(h2:x<g (i+1))(h3:g j≤x)(h4:x<g (j+1)):i=j:=by
 rcases Nat.lt_trichotomy i j with h|h|h
 ·have:=hf.gm (i+1) j (by omega) (by omega);omega
 ·exact h
 ·have:=hf.gm (j+1) i (by omega) (by omega);omega
theorem FinP.pLt(hf:FinP p F O bs s vals g c){i k:Nat}(hi:i<bs.length)(hk:k<(s.part i).phis.length):(s.phi i k).id<vals:=by
 have h1:=hf.pAt hi hk
 have h2:=hf.gm (i+1) bs.length (by omega) (Nat.le_refl _)
 rw[h1.1,hf.vals];omega
theorem FinP.iLt(hf:FinP p F O bs s vals g c){i t:Nat}(hi:i<bs.length)(ht:t<(s.part i).ins.length):(s.insA i t).id<vals:=by
 by_cases h0:0≤(s.insA i t).id
 ·have h1:=hf.iAt hi ht h0
  have h2:=hf.gm (i+1) bs.length (by omega) (Nat.le_refl _)
  rw[h1.1,hf.vals];omega
 ·omega
theorem FinP.few(hf:FinP p F O bs s vals g c)(hp:F.params.toNat≤12)(hb:bs.length≤40)(hl:∀i,i<bs.length→(s.part i).ins.length≤40):vals≤10000:=by
 have hc:∀i,i<bs.length→∀t,t≤(s.part i).ins.length→c i t≤t:=fun i hi t=>by
  induction t with
  |zero=>intro _;rw[hf.c0];exact Nat.le_refl _
  |succ t ih=>
   intro ht
   have h1:=hf.iid i t hi (by omega)
   have h2:=ih (by omega)
   by_cases e:0≤(s.insA i t).id
   ·have:=(h1.1 e).2;omega
   ·have:=h1.2 (by omega);omega
 have hg:∀i,i≤bs.length→g i≤52*i:=fun i=>by
  induction i with
  |zero=>intro _;rw[hf.g0];omega
  |succ i ih=>
   intro hi
   have h1:=ih (by omega)
   have h2:=hf.gs i (by omega)
   have h3:=hf.phl i (by omega)
   have h4:=hc i (by omega) _ (Nat.le_refl _)
   have h5:=hl i (by omega)
   omega
 have:=hg bs.length (Nat.le_refl _)
 rw[hf.vals];omega
theorem say_at(hf:FinP p F O bs s vals g c){i:Nat}{id:Int}{f:SV→FactS}(hi:i<bs.length)(ha:AcF.say id f∈actsF F bs s i)(h0:0≤id):∃x:Nat,id=((F.params.toNat+x:Nat):Int)∧g i≤x∧x<g (i+1)∧((∃k,k<(s.part i).phis.length∧x=g i+k∧phA bs s i k= .say id f)∨∃t,t<(s.part i).ins.length∧x=g i+(s.part i).phis.length+c i t∧c i (t+1)=c i t+1∧inA s i t= .say id f):=by
 rcases mem_acts.1 ha with⟨k,hk,e⟩|⟨t,ht,e⟩|⟨n,-,e⟩
 ·have h1:=hf.pAt hi hk
  have e1:(s.phi i k).id=id:=by unfold phA at e;injection e
  exact⟨g i+k,by rw[←e1,h1.1],by omega,h1.2, .inl ⟨k,hk,rfl,e⟩⟩
 ·have e1:(s.insA i t).id=id:=by unfold inA at e;injection e
  have h1:=hf.iAt hi ht (by rw[e1];exact h0)
  exact⟨_,by rw[←e1];exact h1.1,by omega,h1.2, .inr ⟨t,ht,rfl,((hf.iid i t hi ht).1 (by rw[e1];exact h0)).2,e⟩⟩
 ·unfold goA at e;cases e
theorem FinP.sys(hf:FinP p F O bs s vals g c)(hnx:∀i,i<bs.length→∀n∈nxI F (hdA F i),n<bs.length):SysF vals bs.length (actsF F bs s) where
 sok:=fun i id f hi ha=>by
  rcases mem_acts.1 ha with⟨k,hk,e⟩|⟨t,ht,e⟩|⟨n,-,e⟩
  ·unfold phA at e
   injection e with e1 e2
   subst e1 e2
   exact⟨hf.pLt hi hk,fun x hx=>phTo_ok hx _ _ _ _,fun x y h=>phTo_mono h _ _ _ _⟩
  ·unfold inA at e
   injection e with e1 e2
   subst e1 e2
   exact⟨hf.iLt hi ht,fun x _=>make_ok _ _ _ _,fun x y h=>make_mono _ _ (h.of _) (h.of _)⟩
  ·unfold goA at e;cases e
 gok:=fun i d a b hi ha=>by
  rcases mem_acts.1 ha with⟨k,hk,e⟩|⟨t,ht,e⟩|⟨n,hn,e⟩
  ·unfold phA at e;cases e
  ·unfold inA at e;cases e
  ·unfold goA at e
   injection e with e1 e2 e3
   subst e1 e2 e3
   refine⟨by omega,hnx i hi n hn,fun x y h hc=> ?_⟩
   rcases Bool.or_eq_true_iff.1 hc with h1|h1
   ·exact Bool.or_eq_true_iff.2 (.inl h1)
   ·exact Bool.or_eq_true_iff.2 (.inr (way_mono _ _ _ (h.of _) h1))
 uni:=fun i j id f f' hi hj ha hb h0=>by
  obtain⟨x,hx,x1,x2,hxx⟩:=say_at hf hi ha h0
  obtain⟨y,hy,y1,y2,hyy⟩:=say_at hf hj hb h0
  have hxy:x=y:=by omega
  subst hxy
  have hij:=hf.same hi hj x1 x2 y1 y2
  subst hij
  refine⟨?_,rfl⟩
  rcases hxx with⟨k,hk,e1,e2⟩|⟨t,ht,e1,e3,e2⟩
  ·rcases hyy with⟨k',hk',f1,f2⟩|⟨t',ht',f1,f3,f2⟩
   ·have:k=k' :=by omega
    subst this
    have h:=e2.symm.trans f2
    injection h
   ·omega
  ·rcases hyy with⟨k',hk',f1,f2⟩|⟨t',ht',f1,f3,f2⟩
   ·omega
   ·have:t=t' :=by
     rcases Nat.lt_trichotomy t t' with h|h|h
     ·have:=hf.cm hi (t+1) t' (by omega) (by omega);omega
     ·exact h
     ·have:=hf.cm hi (t' +1) t (by omega) (by omega);omega
    subst this
    have h:=e2.symm.trans f2
    injection h
def parF(P n:Nat):List FactS:=(List.range n).map fun v=>if v<P then⟨2,0⟩ else noF
theorem parF_get(P n v:Nat):(parF P n).getD v noF=if v<P∧v<n then⟨2,0⟩ else noF:=by
 unfold parF
 rw[gD,List.getElem?_map]
 by_cases h:v<n
 ·rw[List.getElem?_range h]
  show(if v<P then _ else _)=_
  simp only[h,and_true]
 ·rw[List.getElem?_eq_none (by simp;omega),if_neg (by omega)];rfl
def begF(P n H:Nat):SV:=⟨parF P n,List.replicate H false,fun _ _=>false,false⟩
def stF(P n H:Nat):SV:=goF (begF P n H) (-1) 0
theorem stF_eq(P n H:Nat):stF P n H=⟨parF P n,(List.replicate H false).set 0 true,fun c d=>decide (c= -1∧d=0),true⟩:=by
 unfold stF goF begF
 rw[if_neg (by simp)]
 simp
theorem FinP.good(hf:FinP p F O bs s vals g c)(h0:0<bs.length):GoodF vals bs.length (actsF F bs s) (stF F.params.toNat vals bs.length):=by
 rw[stF_eq]
 refine⟨by simp[parF],by simp,fun v=> ?_,fun i id f hi ha hid=> ?_,fun d hd=> ?_,fun a b h=> ?_⟩
 ·show((parF _ _).getD v noF).ok
  rw[parF_get]
  split
  ·exact .inr (.inr ⟨rfl,rfl⟩)
  ·exact noF_ok
 ·obtain⟨x,hx,-,-,-⟩:=say_at hf hi ha hid
  show(ofF (parF _ _) id).le _
  unfold ofF
  rw[if_neg (by omega),parF_get,if_neg (by omega)]
  exact noF_le _
 ·show((List.replicate bs.length false).set 0 true).getD d false=true↔∃a:Int,decide (a= -1∧(d:Int)=0)=true
  by_cases e:d=0
  ·subst e
   rw[gD,List.getElem?_set_self (by simpa using h0)]
   exact⟨fun _=>⟨-1,by simp⟩,fun _=>rfl⟩
  ·rw[gD,List.getElem?_set_ne (by omega)]
   simp[hd,e]
 ·obtain⟨rfl,rfl⟩:=of_decide_eq_true h
  omega
end
end Go.Proofs.YtappljijljjkiaaDoor
