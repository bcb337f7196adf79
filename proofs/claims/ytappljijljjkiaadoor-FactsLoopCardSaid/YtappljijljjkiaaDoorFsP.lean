/-
  Plain: what is known of the values of two small functions: one with a way that is never gone, one with a loop.
-/
import Derived.Test.YtappljijljjkiaaDoorFdF
import Derived.Test.YtappljijljjkiaaDoorSv6
namespace Tier
open Go Go.RowKit
def hdB2(c:List Ins)(n:Nat):Bool:=n==0||(List.range c.length).any fun q=>match c[q]? with
 |some x=>decide (15≤x.op)&&(nextS x q).contains n
 |none=>false
def hdL2(c:List Ins):List Nat:=(List.range c.length).filter (hdB2 c)
def posH2(c:List Ins)(n:Nat):Nat:=(List.range n).countP (hdB2 c)
def insAt2(c:List Ins)(pc:Nat):Ins:=c.getD pc ⟨0,0,0,0,0⟩
def toG2(c:List Ins)(H:List Nat):Nat→Nat→Nat
 |0,b=>b
 |k+1,b=>if (decide (15≤(insAt2 c (b-1)).op)||H.contains b)=true then b else toG2 c H k (b+1)
def toF2(c:List Ins)(a:Nat):Nat:=toG2 c (hdL2 c) c.length (a+1)
def nxI2(c:List Ins)(a:Nat):List Nat:=(nextS (insAt2 c (toF2 c a-1)) (toF2 c a-1)).map (posH2 c)
def prevF2(c:List Ins)(k:Nat):List Int:=(if k=0 then[-1] else[])++((List.range (hdL2 c).length).flatMap fun q=>((nxI2 c ((hdL2 c).getD q 0)).filter (· ==k)).map fun _=>(q:Int))
section
variable {F:Fnc}(h:∀q,q<F.code.length→rchB F q=true)
include h
theorem hdB_all:hdB F F.code.length=hdB2 F.code:=by
 funext n
 unfold hdB hdB2
 congr 1
 rw[Bool.eq_iff_iff,List.any_eq_true,List.any_eq_true]
 constructor
 ·rintro⟨q,hq,e⟩
  refine⟨q,hq,?_⟩
  unfold hdOf at e
  rw[h q (List.mem_range.1 hq)] at e
  exact e
 ·rintro⟨q,hq,e⟩
  refine⟨q,hq,?_⟩
  unfold hdOf
  rw[h q (List.mem_range.1 hq)]
  exact e
theorem hdL_all:hdL F=hdL2 F.code:=by unfold hdL hdL2;rw[hdB_all h]
theorem hdA_all(i:Nat):hdA F i=(hdL2 F.code).getD i 0:=by unfold hdA;rw[hdL_all h]
theorem posH_all:posH F=posH2 F.code:=by funext n;unfold posH posH2;rw[hdB_all h]
theorem toG_all:∀k b,toG F k b=toG2 F.code (hdL2 F.code) k b
 |0,_=>rfl
 |k+1,b=>by
  unfold toG toG2 stopB
  rw[hdL_all h,toG_all k (b+1)];rfl
theorem toF_all(a:Nat):toF F a=toF2 F.code a:=by unfold toF toF2;rw[toG_all h]
theorem nxI_all(a:Nat):nxI F a=nxI2 F.code a:=by unfold nxI nxN nxI2;rw[toF_all h,posH_all h];rfl
theorem prevF_all(k:Nat):prevF F k=prevF2 F.code k:=by
 unfold prevF prevF2 pickP
 rw[hdL_all h]
 simp only[hdA_all h,nxI_all h]
end
def badAt2(p:List Fnc)(f:Fnc)(L:List (Option Nat))(pc:Nat):Bool:=
 match f.code[pc]?,L[pc]? with
 |some x,some (some m)=>readsM x (parOf p x)-(readsM x (parOf p x)&&&m) !=0
 |_,_=>false
theorem check_one{F:Fnc}{L:List (Option Nat)}(hE:progE [F]=0)(hs:sureF F=L)(hb:(List.range F.code.length).any (badAt2 [F] F L)=false)(he:((L[F.code.length]?).getD none).isSome=false):checkP [F]=0:=by
 subst hs
 have e1:badAt [F] F=badAt2 [F] F (sureF F):=rfl
 have e2:endAt F=false:=he
 have e3:fnP [F] F=0:=by
  unfold fnP
  rw[e1,hb,e2];rfl
 unfold checkP
 rw[hE,if_neg (fun h=>h rfl),List.map_cons,e3];rfl
def sideF(n m:Int):Fnc:=⟨0,2,[⟨1,0,0,0,n⟩,⟨16,0,0,0,4⟩,⟨1,1,0,0,m⟩,⟨15,0,0,0,5⟩,⟨1,1,0,0,8⟩,⟨19,0,1,0,0⟩]⟩
def loopF(n m:Int):Fnc:=⟨1,4,[⟨1,1,0,0,n⟩,⟨1,2,0,0,m⟩,⟨1,3,0,0,-1⟩,⟨16,0,0,0,5⟩,⟨19,0,1,0,0⟩,⟨2,2,2,3,0⟩,⟨7,1,1,1,0⟩,⟨2,0,0,2,0⟩,⟨15,0,0,0,3⟩]⟩
theorem sideF_sure(n m:Int):sureF (sideF n m)=[some 0,some 1,some 1,some 3,some 1,some 3,none]:=by
 have e0:iterS (sideF n m).code 0 (startS (sideF n m))=⟨[some 0,none,none,none,none,none,none],[0]⟩:=by kernel_rfl
 have e1:iterS (sideF n m).code 1 (startS (sideF n m))=⟨[some 0,some 1,none,none,none,none,none],[1]⟩:=by
  show stepS _ (iterS _ 0 _)=_
  rw[e0];kernel_rfl
 have e2:iterS (sideF n m).code 2 (startS (sideF n m))=⟨[some 0,some 1,some 1,none,some 1,none,none],[2,4]⟩:=by
  show stepS _ (iterS _ 1 _)=_
  rw[e1];kernel_rfl
 have e3:iterS (sideF n m).code 3 (startS (sideF n m))=⟨[some 0,some 1,some 1,none,some 1,some 3,none],[2,5]⟩:=by
  show stepS _ (iterS _ 2 _)=_
  rw[e2];kernel_rfl
 have e4:iterS (sideF n m).code 4 (startS (sideF n m))=⟨[some 0,some 1,some 1,none,some 1,some 3,none],[2]⟩:=by
  show stepS _ (iterS _ 3 _)=_
  rw[e3];kernel_rfl
 have e5:iterS (sideF n m).code 5 (startS (sideF n m))=⟨[some 0,some 1,some 1,some 3,some 1,some 3,none],[3]⟩:=by
  show stepS _ (iterS _ 4 _)=_
  rw[e4];kernel_rfl
 have e6:iterS (sideF n m).code 6 (startS (sideF n m))=⟨[some 0,some 1,some 1,some 3,some 1,some 3,none],[]⟩:=by
  show stepS _ (iterS _ 5 _)=_
  rw[e5];kernel_rfl
 rw[←sureF_of (fn_ok (funcs:=1) (by kernel_rfl)).cok (by show(0:Int)≤2;decide) (k:=6) (by rw[e6]),e6]
theorem sideF_rch(n m:Int):∀q,q<(sideF n m).code.length→rchB (sideF n m) q=true:=fun q hq=>by
 have hq' :q<6:=hq
 unfold rchB
 rw[sideF_sure]
 have h9:q=0∨q=1∨q=2∨q=3∨q=4∨q=5:=by omega
 rcases h9 with rfl|rfl|rfl|rfl|rfl|rfl<;>rfl
theorem sideF_ok(n m:Int):checkP [sideF n m]=0:=check_one (by kernel_rfl) (sideF_sure n m) (by kernel_rfl) (by kernel_rfl)
theorem loopF_sure(n m:Int):sureF (loopF n m)=[some 1,some 3,some 7,some 15,some 15,some 15,some 15,some 15,some 15,none]:=by
 have e0:iterS (loopF n m).code 0 (startS (loopF n m))=⟨[some 1,none,none,none,none,none,none,none,none,none],[0]⟩:=by kernel_rfl
 have e1:iterS (loopF n m).code 1 (startS (loopF n m))=⟨[some 1,some 3,none,none,none,none,none,none,none,none],[1]⟩:=by
  show stepS _ (iterS _ 0 _)=_
  rw[e0];kernel_rfl
 have e2:iterS (loopF n m).code 2 (startS (loopF n m))=⟨[some 1,some 3,some 7,none,none,none,none,none,none,none],[2]⟩:=by
  show stepS _ (iterS _ 1 _)=_
  rw[e1];kernel_rfl
 have e3:iterS (loopF n m).code 3 (startS (loopF n m))=⟨[some 1,some 3,some 7,some 15,none,none,none,none,none,none],[3]⟩:=by
  show stepS _ (iterS _ 2 _)=_
  rw[e2];kernel_rfl
 have e4:iterS (loopF n m).code 4 (startS (loopF n m))=⟨[some 1,some 3,some 7,some 15,some 15,some 15,none,none,none,none],[4,5]⟩:=by
  show stepS _ (iterS _ 3 _)=_
  rw[e3];kernel_rfl
 have e5:iterS (loopF n m).code 5 (startS (loopF n m))=⟨[some 1,some 3,some 7,some 15,some 15,some 15,some 15,none,none,none],[4,6]⟩:=by
  show stepS _ (iterS _ 4 _)=_
  rw[e4];kernel_rfl
 have e6:iterS (loopF n m).code 6 (startS (loopF n m))=⟨[some 1,some 3,some 7,some 15,some 15,some 15,some 15,some 15,none,none],[4,7]⟩:=by
  show stepS _ (iterS _ 5 _)=_
  rw[e5];kernel_rfl
 have e7:iterS (loopF n m).code 7 (startS (loopF n m))=⟨[some 1,some 3,some 7,some 15,some 15,some 15,some 15,some 15,some 15,none],[4,8]⟩:=by
  show stepS _ (iterS _ 6 _)=_
  rw[e6];kernel_rfl
 have e8:iterS (loopF n m).code 8 (startS (loopF n m))=⟨[some 1,some 3,some 7,some 15,some 15,some 15,some 15,some 15,some 15,none],[4]⟩:=by
  show stepS _ (iterS _ 7 _)=_
  rw[e7];kernel_rfl
 have e9:iterS (loopF n m).code 9 (startS (loopF n m))=⟨[some 1,some 3,some 7,some 15,some 15,some 15,some 15,some 15,some 15,none],[]⟩:=by
  show stepS _ (iterS _ 8 _)=_
  rw[e8];kernel_rfl
 rw[←sureF_of (fn_ok (funcs:=1) (by kernel_rfl)).cok (by show(1:Int)≤2;decide) (k:=9) (by rw[e9]),e9]
theorem loopF_rch(n m:Int):∀q,q<(loopF n m).code.length→rchB (loopF n m) q=true:=fun q hq=>by
 have hq' :q<9:=hq
 unfold rchB
 rw[loopF_sure]
 have h9:q=0∨q=1∨q=2∨q=3∨q=4∨q=5∨q=6∨q=7∨q=8:=by omega
 rcases h9 with rfl|rfl|rfl|rfl|rfl|rfl|rfl|rfl|rfl<;>rfl
theorem loopF_ok(n m:Int):checkP [loopF n m]=0:=check_one (by kernel_rfl) (loopF_sure n m) (by kernel_rfl) (by kernel_rfl)
end Tier
namespace Go.Proofs.YtappljijljjkiaaDoor
open Go.RowKit Tier
theorem getD_stf{α:Type}(l:List α)(i j:Nat)(x d:α):(l.set i x).getD j d=if j=i∧i<l.length then x else l.getD j d:=by
 rw[List.getD_eq_getElem?_getD,List.getElem?_set]
 by_cases e:i=j
 ·subst e
  rw[if_pos rfl]
  by_cases h:i<l.length
  ·rw[if_pos h,if_pos ⟨rfl,h⟩];rfl
  ·rw[if_neg h,if_neg (fun e=>h e.2),List.getD_eq_getElem?_getD,List.getElem?_eq_none (by omega)]
 ·rw[if_neg e,if_neg (fun h=>e h.1.symm),List.getD_eq_getElem?_getD]
section
variable {p:List Fnc}{F:Fnc}{O:List Nat}{bs:List BR}{l:List Int}{s s1 s2:SB}{K:Nat}{y:SV}
theorem BuiltX.inn12(h:BuiltX p F O bs K s1 s2 l s){j:Nat}(hj:j<bs.length):(s.part j).inn.length=12:=by
 unfold SB.part
 rw[List.getD_eq_getElem?_getD,List.getElem?_eq_getElem (by rw[h.b.len];exact hj)]
 exact h.finP.inn _ (List.getElem_mem _)
theorem BuiltX.aV(h:BuiltX p F O bs K s1 s2 l s){j t:Nat}(hj:j<bs.length)(ht:t<(s.part j).ins.length):(s.insA j t).a=(if useA p (insAt F (hdA F j+t))=true then(atR s F j t).getD (insAt F (hdA F j+t)).a.toNat 0 else -1)∧(s.insA j t).b=if useB p (insAt F (hdA F j+t))=true then(atR s F j t).getD (insAt F (hdA F j+t)).b.toNat 0 else -1:=by
 have hp:=right_of h.hk
 have ht1:t<(s1.part j).ins.length:=by rw[←h.il hj];exact ht
 have hjH:j<(hdL F).length:=by rw[←h.b.bok.len];exact hj
 have hsp:=toF_spec hp h.hF (hdA_mem2 hjH).1
 have hil:=h.finP.il j hj
 have hx:F.code[hdA F j+t]? =some (insAt F (hdA F j+t)):=by unfold insAt;rw[List.getD_eq_getElem?_getD,List.getElem?_eq_getElem (by omega)];rfl
 have hio:=(hp.ok.fn F h.hF).ins _ (List.mem_of_getElem? hx)
 have hr2:=(hp.ok.fn F h.hF).r2
 have:=hio.a1;have:=hio.a2;have:=hio.b1;have:=hio.b2
 obtain⟨ea,eb⟩:=(h.rawok hj).ab t ht1
 have er:=h.at_raw hj t (by omega)
 have hl12:(rawL F (hdA F j) (s1.part j).ins (s1.began.getD j []) t).length=12:=by rw[rawL_len];exact(h.raw.part j hj).b12
 rw[h.insV hj ht1,er]
 refine⟨?_,?_⟩
 ·show toV l (numM F bs s2 l) ((s1.part j).ins.getD t noIns).a=_
  rw[ea]
  split
  ·rw[getD_map12 hl12 (by omega)];rfl
  ·exact toV_neg (by omega)
 ·show toV l (numM F bs s2 l) ((s1.part j).ins.getD t noIns).b=_
  rw[eb]
  split
  ·rw[getD_map12 hl12 (by omega)];rfl
  ·exact toV_neg (by omega)
theorem BuiltX.atS(h:BuiltX p F O bs K s1 s2 l s){j t:Nat}(hj:j<bs.length){r:Nat}(hd:(insAt F (hdA F j+t)).dst.toNat<12)(h0:0≤(s.insA j t).id):(atR s F j (t+1)).getD r 0=if r=(insAt F (hdA F j+t)).dst.toNat then(s.insA j t).id else(atR s F j t).getD r 0:=by
 have e:atR s F j (t+1)=(atR s F j t).set (insAt F (hdA F j+t)).dst.toNat (s.insA j t).id:=if_pos h0
 rw[e,getD_stf]
 by_cases er:r=(insAt F (hdA F j+t)).dst.toNat
 ·rw[if_pos ⟨er,by rw[atR_len (h.inn12 hj)];exact hd⟩,if_pos er]
 ·rw[if_neg (fun e=>er e.1),if_neg er]
theorem atN{j t:Nat}(h0:¬0≤(s.insA j t).id):atR s F j (t+1)=atR s F j t:=if_neg h0
theorem BuiltX.fsay(h:BuiltX p F O bs K s1 s2 l s)(g:GoodF (valN F bs s2 l) bs.length (actsF F bs s) y)(d:DoneF (actsF F bs s) bs.length y){j t:Nat}(hj:j<bs.length)(hm:y.met.getD j false=true)(ht:t<(s.part j).ins.length)(h0:0≤(s.insA j t).id):ofF y.F (s.insA j t).id=makeF (insAt F (hdA F j+t)).op (insAt F (hdA F j+t)).imm (ofF y.F (s.insA j t).a) (ofF y.F (s.insA j t).b):=by
 obtain⟨e1,e2,-⟩:=h.finP.iop j t hj ht
 rw[←e1,←e2]
 exact d.say h.sys g hj hm (mem_acts.2 (.inr (.inl ⟨t,ht,rfl⟩))) h0
theorem BuiltX.fphs(h:BuiltX p F O bs K s1 s2 l s)(g:GoodF (valN F bs s2 l) bs.length (actsF F bs s) y)(d:DoneF (actsF F bs s) bs.length y){j k:Nat}(hj:j<bs.length)(hm:y.met.getD j false=true)(hk:k<(s.part j).phis.length):ofF y.F (s.phi j k).id=phTo y j (prevL bs j) (s.phi j k).args (prevL bs j).length:=
 d.say h.sys g hj hm (mem_acts.2 (.inl ⟨k,hk,rfl⟩)) (by have:=(h.finP.pid j k hj hk).1;omega)
theorem BuiltX.set1(h:BuiltX p F O bs K s1 s2 l s){j t:Nat}(hj:j<bs.length)(ht:t<(s.part j).ins.length){x:Ins}(hx:insAt F (hdA F j+t)=x)(hs:setsB x=true):0≤(s.insA j t).id:=(h.finP.iset j t hj ht).2 (by rw[hx];exact hs)
theorem BuiltX.set0(h:BuiltX p F O bs K s1 s2 l s){j t:Nat}(hj:j<bs.length)(ht:t<(s.part j).ins.length){x:Ins}(hx:insAt F (hdA F j+t)=x)(hs:setsB x=false):¬0≤(s.insA j t).id:=fun e=>by
 have:=(h.finP.iset j t hj ht).1 e
 rw[hx,hs] at this
 cases this
theorem BuiltX.opX(h:BuiltX p F O bs K s1 s2 l s){j t:Nat}(hj:j<bs.length)(ht:t<(s.part j).ins.length){x:Ins}(hx:insAt F (hdA F j+t)=x):(s.insA j t).op=x.op∧(s.insA j t).imm=x.imm:=by
 obtain⟨e1,e2,-⟩:=h.finP.iop j t hj ht
 rw[hx] at e1 e2
 exact⟨e1,e2⟩
theorem BuiltX.aX(h:BuiltX p F O bs K s1 s2 l s){j t:Nat}(hj:j<bs.length)(ht:t<(s.part j).ins.length){x:Ins}(hx:insAt F (hdA F j+t)=x):(s.insA j t).a=(if useA p x=true then(atR s F j t).getD x.a.toNat 0 else -1)∧(s.insA j t).b=if useB p x=true then(atR s F j t).getD x.b.toNat 0 else -1:=by
 subst hx
 exact h.aV hj ht
theorem BuiltX.atX(h:BuiltX p F O bs K s1 s2 l s){j t:Nat}(hj:j<bs.length){r:Nat}{x:Ins}(hx:insAt F (hdA F j+t)=x){d:Nat}(hd:x.dst.toNat=d)(hd12:d<12)(h0:0≤(s.insA j t).id):(atR s F j (t+1)).getD r 0=if r=d then(s.insA j t).id else(atR s F j t).getD r 0:=by
 subst hx hd
 exact h.atS hj hd12 h0
theorem BuiltX.sayX(h:BuiltX p F O bs K s1 s2 l s)(g:GoodF (valN F bs s2 l) bs.length (actsF F bs s) y)(d:DoneF (actsF F bs s) bs.length y){j t:Nat}(hj:j<bs.length)(hm:y.met.getD j false=true)(ht:t<(s.part j).ins.length)(h0:0≤(s.insA j t).id){x:Ins}(hx:insAt F (hdA F j+t)=x):ofF y.F (s.insA j t).id=makeF x.op x.imm (ofF y.F (s.insA j t).a) (ofF y.F (s.insA j t).b):=by
 subst hx
 exact h.fsay g d hj hm ht h0
theorem goes_of(d:DoneF (actsF F bs s) bs.length y){j n:Nat}(hj:j<bs.length)(hm:y.met.getD j false=true)(hn:n∈nxI F (hdA F j))(hc:(lastA s j).op≠16∨wayB (ofF y.F (lastA s j).a) (lastA s j).imm (toF F (hdA F j)) (hdA F n)=true):y.ed j n=true:=by
 refine d.go hj hm (mem_acts.2 (.inr (.inr ⟨n,hn,rfl⟩))) ?_
 show(decide ((lastA s j).op≠16)||wayB (ofF y.F (lastA s j).a) (lastA s j).imm (toF F (hdA F j)) (hdA F n))=true
 rcases hc with hc|hc
 ·rw[decide_eq_true hc];rfl
 ·rw[hc];simp
theorem FinP.idne{vals:Nat}{g:Nat→Nat}{c:Nat→Nat→Nat}(hf:FinP p F O bs s vals g c){i j t u:Nat}(hi:i<bs.length)(hj:j<bs.length)(ht:t<(s.part i).ins.length)(hu:u<(s.part j).ins.length)(h0:0≤(s.insA i t).id)(hne:i≠j):(s.insA i t).id≠(s.insA j u).id:=fun e=>by
 obtain⟨a1,a2⟩:=hf.iAt hi ht h0
 obtain⟨b1,b2⟩:=hf.iAt hj hu (by omega)
 exact hne (hf.same (x:=g i+(s.part i).phis.length+c i t) hi hj (by omega) a2 (by omega) (by omega))
theorem BuiltX.two(h:BuiltX p F O bs K s1 s2 l s){j:Nat}(hj:j<bs.length){q0 q1:Int}(hP:prevL bs j=[q0,q1]){r:Nat}(hr:r<12)(hlv:(O.getD (hdA F j) 0).testBit r=true):
 (∃m,m<(s.part j).phis.length∧(s.phi j m).reg=(r:Int)∧(s.phi j m).id=(s.part j).inn.getD r 0∧(s.phi j m).args=[endV s F q0 r,endV s F q1 r])∨((s.part j).inn.getD r 0=endV s F q0 r∧(s.part j).inn.getD r 0=endV s F q1 r):=by
 rcases h.come hj (q:=q0) (by rw[hP];simp) hr hlv with⟨m,m1,m2,m3,m4⟩|⟨m1,m2⟩
 ·rcases h.come hj (q:=q1) (by rw[hP];simp) hr hlv with⟨k,k1,k2,k3,k4⟩|⟨k1,k2⟩
  ·have e1:=(h.finP.pid j m hj m1).1
   obtain⟨e2,-⟩:=h.finP.pid j k hj k1
   have hmk:k=m:=by
    have:(s.phi j m).id=(s.phi j k).id:=by rw[m3,k3]
    rw[e1,e2] at this;omega
   subst hmk
   have a0:=m4 0 (by rw[hP];rfl)
   have a1:=k4 1 (by rw[hP];rfl)
   have al:=(h.finP.pid j k hj k1).2
   rw[hP] at al
   refine .inl ⟨k,k1,k2,k3,?_⟩
   match hA:(s.phi j k).args,al with
   |[x,z],_=>
    rw[hA] at a0 a1
    have e0:x=endV s F q0 r:=Option.some.inj a0
    have e1:z=endV s F q1 r:=Option.some.inj a1
    rw[e0,e1]
  ·exact absurd m3 (k2 m m1)
 ·rcases h.come hj (q:=q1) (by rw[hP];simp) hr hlv with⟨k,k1,k2,k3,-⟩|⟨k1,-⟩
  ·exact absurd k3 (m2 k k1)
  ·exact .inr ⟨m1,k1⟩
theorem BuiltX.one(h:BuiltX p F O bs K s1 s2 l s){j:Nat}(hj:j<bs.length){q:Int}(hP:prevL bs j=[q]){r:Nat}(hr:r<12)(hlv:(O.getD (hdA F j) 0).testBit r=true):(s.part j).inn.getD r 0=endV s F q r:=by
 rcases h.come hj (q:=q) (by rw[hP];simp) hr hlv with⟨m,m1,-⟩|⟨m1,-⟩
 ·have:=h.finP.pjn j hj (by omega)
  rw[hP] at this
  simp at this
 ·exact m1
theorem BuiltX.livR(h:BuiltX p F O bs K s1 s2 l s){pc r:Nat}(hr:rchB F pc=true)(hx:F.code[pc]? =some (insAt F pc))(hb:(readsM (insAt F pc) (parOf p (insAt F pc))).testBit r=true):(O.getD pc 0).testBit r=true:=(h.b.lok.pre pc _ hr hx).2 r hb
theorem BuiltX.livN(h:BuiltX p F O bs K s1 s2 l s){pc n r:Nat}(hr:rchB F pc=true)(hx:F.code[pc]? =some (insAt F pc))(hn:n∈nextL (insAt F pc) pc)(hb:(O.getD n 0).testBit r=true)(hs:(setM (insAt F pc)).testBit r=false):(O.getD pc 0).testBit r=true:=(h.b.lok.pre pc _ hr hx).1 n hn r hb hs
theorem endV_nat(j:Nat)(r:Nat):endV s F (j:Int) r=(atR s F j (s.part j).ins.length).getD r 0:=by
 unfold endV;rw[if_pos (by omega)];rfl
end
structure SideP(n m:Int)(vl:Nat)(s:SB)(y:SV):Prop where
 m0:y.met.getD 0 false=true
 m1:y.met.getD 1 false=decide (n=0)
 m2:y.met.getD 2 false=decide (n≠0)
 m3:y.met.getD 3 false=true
 ph:(s.part 3).phis.length=1
 x:∃d:Nat,(s.phi 3 0).id=d∧d<vl∧y.F.getD d noF=⟨1,if n=0 then m else 8⟩
section
variable {p:List Fnc}{n m:Int}{O:List Nat}{bs:List BR}{l:List Int}{s s1 s2:SB}{K:Nat}{y:SV}
set_option maxRecDepth 100000 in
theorem side_law(h:BuiltX p (sideF n m) O bs K s1 s2 l s)(he:EndF (actsF (sideF n m) bs s) bs.length (stF (sideF n m).params.toNat (valN (sideF n m) bs s2 l) bs.length) y):bs.length=4∧SideP n m (valN (sideF n m) bs s2 l) s y:=by
 have hb:bs.length=4:=by rw[h.b.bok.len,hdL_all (sideF_rch n m)];kernel_rfl
 have I00:insAt (sideF n m) (hdA (sideF n m) 0+0)=⟨1,0,0,0,n⟩:=by rw[hdA_all (sideF_rch n m)];kernel_rfl
 have I01:insAt (sideF n m) (hdA (sideF n m) 0+1)=⟨16,0,0,0,4⟩:=by rw[hdA_all (sideF_rch n m)];kernel_rfl
 have I10:insAt (sideF n m) (hdA (sideF n m) 1+0)=⟨1,1,0,0,m⟩:=by rw[hdA_all (sideF_rch n m)];kernel_rfl
 have I11:insAt (sideF n m) (hdA (sideF n m) 1+1)=⟨15,0,0,0,5⟩:=by rw[hdA_all (sideF_rch n m)];kernel_rfl
 have I20:insAt (sideF n m) (hdA (sideF n m) 2+0)=⟨1,1,0,0,8⟩:=by rw[hdA_all (sideF_rch n m)];kernel_rfl
 have A3:hdA (sideF n m) 3=5:=by rw[hdA_all (sideF_rch n m)];kernel_rfl
 have A1:hdA (sideF n m) 1=2:=by rw[hdA_all (sideF_rch n m)];kernel_rfl
 have A2:hdA (sideF n m) 2=4:=by rw[hdA_all (sideF_rch n m)];kernel_rfl
 have T0:toF (sideF n m) (hdA (sideF n m) 0)=2:=by rw[toF_all (sideF_rch n m),hdA_all (sideF_rch n m)];kernel_rfl
 have N0:nxI (sideF n m) (hdA (sideF n m) 0)=[1,2]:=by rw[nxI_all (sideF_rch n m),hdA_all (sideF_rch n m)];kernel_rfl
 have N1:nxI (sideF n m) (hdA (sideF n m) 1)=[3]:=by rw[nxI_all (sideF_rch n m),hdA_all (sideF_rch n m)];kernel_rfl
 have N2:nxI (sideF n m) (hdA (sideF n m) 2)=[3]:=by rw[nxI_all (sideF_rch n m),hdA_all (sideF_rch n m)];kernel_rfl
 have N3:nxI (sideF n m) (hdA (sideF n m) 3)=[]:=by rw[nxI_all (sideF_rch n m),hdA_all (sideF_rch n m)];kernel_rfl
 have S:=h.sys
 have hdy:(stF (sideF n m).params.toNat (valN (sideF n m) bs s2 l) bs.length).dirty=true:=by rw[stF_eq]
 obtain⟨g,-,d⟩:=S.done h.beg hdy he
 have fm:=h.form he
 have L0:(s.part 0).ins.length=2:=by rw[h.finP.il 0 (by omega),toF_all (sideF_rch n m),hdA_all (sideF_rch n m)];kernel_rfl
 have L1:(s.part 1).ins.length=2:=by rw[h.finP.il 1 (by omega),toF_all (sideF_rch n m),hdA_all (sideF_rch n m)];kernel_rfl
 have L2:(s.part 2).ins.length=1:=by rw[h.finP.il 2 (by omega),toF_all (sideF_rch n m),hdA_all (sideF_rch n m)];kernel_rfl
 have L3:(s.part 3).ins.length=1:=by rw[h.finP.il 3 (by omega),toF_all (sideF_rch n m),hdA_all (sideF_rch n m)];kernel_rfl
 have P3:prevL bs 3=[1,2]:=(prevL_eq h.b.bok (by omega)).trans (by rw[prevF_all (sideF_rch n m)];kernel_rfl)
 have i00:0≤(s.insA 0 0).id:=h.set1 (by omega) (by omega) I00 rfl
 have i10:0≤(s.insA 1 0).id:=h.set1 (by omega) (by omega) I10 rfl
 have i20:0≤(s.insA 2 0).id:=h.set1 (by omega) (by omega) I20 rfl
 have i11:¬0≤(s.insA 1 1).id:=h.set0 (by omega) (by omega) I11 rfl
 have v1:endV s (sideF n m) (1:Nat) 1=(s.insA 1 0).id:=by
  rw[endV_nat,L1,atN i11,h.atX (d:=1) (by omega) I10 rfl (by omega) i10];rfl
 have v2:endV s (sideF n m) (2:Nat) 1=(s.insA 2 0).id:=by
  rw[endV_nat,L2,h.atX (d:=1) (by omega) I20 rfl (by omega) i20];rfl
 have aIf:(s.insA 0 1).a=(s.insA 0 0).id:=by
  rw[(h.aX (j:=0) (t:=1) (by omega) (by omega) I01).1,if_pos (by rfl)]
  show(atR s (sideF n m) 0 1).getD 0 0=_
  rw[h.atX (d:=0) (by omega) I00 rfl (by omega) i00];rfl
 have lv3:(O.getD (hdA (sideF n m) 3) 0).testBit 1=true:=by rw[A3];exact h.livR (pc:=5) (sideF_rch n m 5 (show 5<6 by omega)) rfl (by kernel_rfl)
 obtain⟨k,k1,k2,k3,k4⟩:∃k,k<(s.part 3).phis.length∧(s.phi 3 k).reg=((1:Nat):Int)∧(s.phi 3 k).id=(s.part 3).inn.getD 1 0∧(s.phi 3 k).args=[(s.insA 1 0).id,(s.insA 2 0).id]:=by
  rcases h.two (j:=3) (by omega) P3 (r:=1) (by omega) lv3 with⟨k,k1,k2,k3,k4⟩|⟨e1,e2⟩
  ·exact⟨k,k1,k2,k3,by rw[k4];exact congr (congrArg List.cons v1) (congrArg (fun z=>[z]) v2)⟩
  ·exact absurd ((v1.symm.trans e1.symm).trans (e2.trans v2)) (h.finP.idne (by omega) (by omega) (by omega) (by omega) i10 (by omega))
 have one:∀k,k<(s.part 3).phis.length→(s.phi 3 k).reg=1:=fun k hk=>by
  obtain⟨r,r1,-,r3,-⟩:=h.finP.preg 3 k (by omega) hk
  have hf:=h.b.lok.fix 5 (insAt (sideF n m) 5) (sideF_rch n m 5 (show 5<6 by omega)) rfl
  have r3' :=r3
  rw[A3,hf,liveV_bit] at r3'
  rcases r3' with⟨⟨q,hq,-⟩,-⟩|h2
  ·cases hq
  ·have h3:(2^1).testBit r=true:=h2
   rw[Nat.testBit_two_pow] at h3
   have:=of_decide_eq_true h3
   omega
 have ph:(s.part 3).phis.length=1:=by
  refine Decidable.byContradiction fun hn=> ?_
  have h1:=h.finP.pinc 3 0 (by omega) (by omega)
  rw[one 0 (by omega),one 1 (by omega)] at h1
  omega
 obtain rfl:k=0:=by omega
 have x0:ofF y.F (s.insA 0 0).id=⟨1,n⟩:=by
  obtain⟨o1,o2⟩:=h.opX (j:=0) (t:=0) (by omega) (by omega) I00
  obtain⟨q,q1,-,q3,-⟩:=fm.set 0 0 (by omega) (by omega) o1
  rw[q1]
  unfold ofF
  rw[if_neg (by omega),Int.toNat_natCast,q3 fm.m0,o2]
 have la:lastA s 0=s.insA 0 1:=by unfold lastA;rw[L0]
 have lop:(s.insA 0 1).op=16:=(h.opX (j:=0) (t:=1) (by omega) (by omega) I01).1
 have lim:(s.insA 0 1).imm=4:=(h.opX (j:=0) (t:=1) (by omega) (by omega) I01).2
 have met:∀{a:Int} {b:Nat},b<4→y.ed a b=true→y.met.getD b false=true:=fun{a b} hb' e=>(g.mt b (by omega)).2 ⟨a,e⟩
 have toE:∀(j:Nat) (d:Nat) (f:FactS) (_:(s.insA j 0).id=d) (_:y.F.getD d noF=f),ofF y.F (s.insA j 0).id=f:=fun j d f e1 e2=>by
  rw[e1];unfold ofF;rw[if_neg (by omega),Int.toNat_natCast,e2]
 have upE:∀(E:Int→Int→Bool),E (-1) 0=true→(n=0→E 0 1=true∧E 1 3=true)→(n≠0→E 0 2=true∧E 2 3=true)→(E 1 3=false→∀a,E a 1=false)→(E 2 3=false→∀a,E a 2=false)→(∀a,E a 3=true→True)→∀a b,y.ed a b=true→E a b=true:=fun E e0 e1 e2 e3 e4 _=>by
  have:=S.least (z:=⟨(List.range (valN (sideF n m) bs s2 l)).map fun(v:Nat)=>if (v:Int)=(s.insA 0 0).id then⟨1,n⟩ else⟨2,0⟩,y.met,E,true⟩) (fun i hi ⟨a0,ha0⟩ act hact=> ?_) h.beg ⟨fun v=> ?_,fun a b hab=> ?_⟩ he
  ·exact this.e
  ·have zget:∀v:Nat,v<valN (sideF n m) bs s2 l→((List.range (valN (sideF n m) bs s2 l)).map fun(v:Nat)=>if (v:Int)=(s.insA 0 0).id then(⟨1,n⟩:FactS) else⟨2,0⟩).getD v noF=if (v:Int)=(s.insA 0 0).id then⟨1,n⟩ else⟨2,0⟩:=fun v hv=>by
    rw[List.getD_eq_getElem?_getD,List.getElem?_map,List.getElem?_range hv];rfl
   cases act with
   |say id f=>
    intro h0
    obtain⟨w1,-,-⟩:=S.sok i id f hi hact
    show(f _).le (ofF _ id)
    unfold ofF
    rw[if_neg (by omega),zget _ (by omega)]
    split
    ·rename_i hid
     have hm0:AcF.say (s.insA 0 0).id (fun x:SV=>makeF (s.insA 0 0).op (s.insA 0 0).imm (ofF x.F (s.insA 0 0).a) (ofF x.F (s.insA 0 0).b))∈actsF (sideF n m) bs s 0:=mem_acts.2 (.inr (.inl ⟨0,by omega,rfl⟩))
     rw[show id=(s.insA 0 0).id by omega] at hact h0
     rw[(S.uni i 0 _ _ _ hi (by omega) hact hm0 h0).1]
     obtain⟨o1,o2⟩:=h.opX (j:=0) (t:=0) (by omega) (by omega) I00
     obtain⟨ea,eb⟩:=h.aX (j:=0) (t:=0) (by omega) (by omega) I00
     show(makeF (s.insA 0 0).op (s.insA 0 0).imm (ofF _ (s.insA 0 0).a) (ofF _ (s.insA 0 0).b)).le _
     rw[o1,o2,ea,eb,if_neg (by exact Bool.false_ne_true),if_neg (by exact Bool.false_ne_true)]
     exact FactS.le_refl _
    ·exact .inr (.inr rfl)
   |go c a b=>
    intro hc
    rcases mem_acts.1 hact with⟨k,hk,e⟩|⟨t,ht,e⟩|⟨q,hq,e⟩
    ·unfold phA at e;cases e
    ·unfold inA at e;cases e
    unfold goA at e
    obtain⟨e5,e6,e7⟩:=AcF.go.inj e
    rw[←e6,←e7]
    rw[←e5] at hc
    clear e e5 e6 e7 hact
    show E i q=true
    have h4:i=0∨i=1∨i=2∨i=3:=by omega
    have ha0' :E a0 i=true:=ha0
    rcases h4 with rfl|rfl|rfl|rfl
    ·have hq' :q∈[1,2]:=N0▸hq
     have hid0:(s.insA 0 0).id.toNat<valN (sideF n m) bs s2 l:=by
      have:=h.finP.iLt (i:=0) (t:=0) (by omega) (by omega);omega
     have hc' :wayB (ofF ((List.range (valN (sideF n m) bs s2 l)).map fun(v:Nat)=>if (v:Int)=(s.insA 0 0).id then(⟨1,n⟩:FactS) else⟨2,0⟩) (lastA s 0).a) (lastA s 0).imm (toF (sideF n m) (hdA (sideF n m) 0)) (hdA (sideF n m) q)=true:=by
      rcases Bool.or_eq_true_iff.1 hc with h1|h1
      ·rw[la,lop] at h1;cases h1
      ·exact h1
     rw[la,aIf,lim,T0] at hc'
     unfold ofF at hc'
     rw[if_neg (by omega),zget _ hid0,if_pos (by omega)] at hc'
     by_cases hn:n=0
     ·simp only[List.mem_cons,List.not_mem_nil,or_false] at hq'
      rcases hq' with rfl|rfl
      ·exact(e1 hn).1
      ·rw[A2,hn] at hc';exact absurd hc' (by decide)
     ·simp only[List.mem_cons,List.not_mem_nil,or_false] at hq'
      rcases hq' with rfl|rfl
      ·exfalso
       unfold wayB at hc'
       rw[A1] at hc'
       simp[hn] at hc'
      ·exact(e2 hn).1
    ·have hq' :q∈[3]:=N1▸hq
     simp only[List.mem_cons,List.not_mem_nil,or_false] at hq'
     subst hq'
     cases hE:E ((1:Nat):Int) ((3:Nat):Int) with
     |true=>rfl
     |false=>exact absurd ((e3 hE a0).symm.trans ha0') (by decide)
    ·have hq' :q∈[3]:=N2▸hq
     simp only[List.mem_cons,List.not_mem_nil,or_false] at hq'
     subst hq'
     cases hE:E ((2:Nat):Int) ((3:Nat):Int) with
     |true=>rfl
     |false=>exact absurd ((e4 hE a0).symm.trans ha0') (by decide)
    ·rw[N3] at hq;cases hq
  ·rw[stF_eq]
   exact .inl (by
    show((parF 0 _).getD v noF).k=0
    rw[parF_get,if_neg (by omega)];rfl)
  ·rw[stF_eq] at hab
   obtain⟨rfl,rfl⟩:=of_decide_eq_true hab
   exact e0
 refine⟨hb,?_⟩
 have wy:∀q:Nat,wayB (⟨1,n⟩:FactS) 4 2 q=((decide (n≠0)&&decide (q=4))||(decide (n=0)&&decide (q=2))):=fun q=>by
  unfold wayB
  rw[show decide ((q:Int)=4)=decide (q=4) from decide_eq_decide.2 (by omega),show decide ((q:Int)=2)=decide (q=2) from decide_eq_decide.2 (by omega)];rfl
 by_cases hn:n=0
 ·have E01:y.ed (0:Nat) (1:Nat)=true:=goes_of d (by omega) fm.m0 (by rw[N0];decide) (.inr (by rw[la,aIf,lim,x0,T0,A1];exact(wy 2).trans (by rw[hn];rfl)))
  have M1:=met (by omega) E01
  have E13:y.ed (1:Nat) (3:Nat)=true:=goes_of d (by omega) M1 (by rw[N1];decide) (.inl (by
   have:lastA s 1=s.insA 1 1:=by unfold lastA;rw[L1]
   rw[this,(h.opX (j:=1) (t:=1) (by omega) (by omega) I11).1];decide))
  have M3:=met (by omega) E13
  have up:=upE (fun a b=>decide ((a= -1∧b=0)∨(a=0∧b=1)∨(a=1∧b=3))) (by decide) (fun _=>by decide) (fun e=>absurd hn e) (fun e=>by cases e) (fun _ a=>decide_eq_false (by omega)) (fun _ _=>trivial)
  have M2:y.met.getD 2 false=false:=by
   cases hm:y.met.getD 2 false with
   |false=>rfl
   |true=>
    obtain⟨a,ha⟩:=(g.mt 2 (by omega)).1 hm
    have:=of_decide_eq_true (up _ _ ha)
    omega
  have E23:y.ed (2:Nat) (3:Nat)=false:=by
   cases hE:y.ed (2:Nat) (3:Nat) with
   |false=>rfl
   |true=>have:=of_decide_eq_true (up _ _ hE);omega
  obtain⟨q,q1,-,q3,-⟩:=fm.set 1 0 (by omega) (by omega) (h.opX (j:=1) (t:=0) (by omega) (by omega) I10).1
  have x1:=toE 1 q _ q1 (q3 M1)
  have hph:=h.fphs g d (j:=3) (k:=0) (by omega) M3 k1
  have pl:=h.finP.pid 3 0 (by omega) k1
  have plt:=h.finP.pLt (i:=3) (k:=0) (by omega) k1
  refine⟨fm.m0,by rw[M1,decide_eq_true hn],by rw[M2,decide_eq_false (fun e=>e hn)],M3,ph,(s.phi 3 0).id.toNat,by omega,by omega,?_⟩
  unfold ofF at hph
  rw[if_neg (by omega)] at hph
  rw[hph,P3,k4,if_pos hn]
  show phTo y 3 [1,2] [(s.insA 1 0).id,(s.insA 2 0).id] 2=_
  have e1:y.ed 1 (3:Nat)=true:=E13
  have e2:y.ed 2 (3:Nat)=false:=E23
  unfold phTo phTo phTo
  show(if y.ed 2 (3:Nat)=true then _ else if y.ed 1 (3:Nat)=true then joinF noF (ofF y.F (s.insA 1 0).id) else noF)=_
  rw[e1,e2,if_neg (by decide),if_pos rfl,x1,(h.opX (j:=1) (t:=0) (by omega) (by omega) I10).2];rfl
 ·have E02:y.ed (0:Nat) (2:Nat)=true:=goes_of d (by omega) fm.m0 (by rw[N0];decide) (.inr (by rw[la,aIf,lim,x0,T0,A2];exact(wy 4).trans (by rw[decide_eq_true hn];rfl)))
  have M2:=met (by omega) E02
  have E23:y.ed (2:Nat) (3:Nat)=true:=goes_of d (by omega) M2 (by rw[N2];decide) (.inl (by
   have:lastA s 2=s.insA 2 0:=by unfold lastA;rw[L2]
   rw[this,(h.opX (j:=2) (t:=0) (by omega) (by omega) I20).1];decide))
  have M3:=met (by omega) E23
  have up:=upE (fun a b=>decide ((a= -1∧b=0)∨(a=0∧b=2)∨(a=2∧b=3))) (by decide) (fun e=>absurd e hn) (fun _=>by decide) (fun _ a=>decide_eq_false (by omega)) (fun e=>by cases e) (fun _ _=>trivial)
  have M1:y.met.getD 1 false=false:=by
   cases hm:y.met.getD 1 false with
   |false=>rfl
   |true=>
    obtain⟨a,ha⟩:=(g.mt 1 (by omega)).1 hm
    have:=of_decide_eq_true (up _ _ ha)
    omega
  have E13:y.ed (1:Nat) (3:Nat)=false:=by
   cases hE:y.ed (1:Nat) (3:Nat) with
   |false=>rfl
   |true=>have:=of_decide_eq_true (up _ _ hE);omega
  obtain⟨q,q1,-,q3,-⟩:=fm.set 2 0 (by omega) (by omega) (h.opX (j:=2) (t:=0) (by omega) (by omega) I20).1
  have x1:=toE 2 q _ q1 (q3 M2)
  have hph:=h.fphs g d (j:=3) (k:=0) (by omega) M3 k1
  have pl:=h.finP.pid 3 0 (by omega) k1
  have plt:=h.finP.pLt (i:=3) (k:=0) (by omega) k1
  refine⟨fm.m0,by rw[M1,decide_eq_false hn],by rw[M2,decide_eq_true hn],M3,ph,(s.phi 3 0).id.toNat,by omega,by omega,?_⟩
  unfold ofF at hph
  rw[if_neg (by omega)] at hph
  rw[hph,P3,k4,if_neg hn]
  show phTo y 3 [1,2] [(s.insA 1 0).id,(s.insA 2 0).id] 2=_
  have e1:y.ed 1 (3:Nat)=false:=E13
  have e2:y.ed 2 (3:Nat)=true:=E23
  unfold phTo phTo phTo
  show(if y.ed 2 (3:Nat)=true then joinF (if y.ed 1 (3:Nat)=true then _ else noF) (ofF y.F (s.insA 2 0).id) else _)=_
  rw[e1,e2,if_pos rfl,if_neg (by decide),x1,(h.opX (j:=2) (t:=0) (by omega) (by omega) I20).2];rfl
end
structure LoopP(n:Int)(vl:Nat)(s:SB)(y:SV):Prop where
 m:∀i,i<4→y.met.getD i false=true
 x:∃d0 d1 d2 d3:Nat,(s.part 1).inn.getD 0 0=d0∧(s.part 1).inn.getD 1 0=d1∧(s.part 1).inn.getD 2 0=d2∧(s.part 1).inn.getD 3 0=d3∧d0<vl∧d1<vl∧d2<vl∧d3<vl∧y.F.getD d1 noF=⟨1,n⟩∧(y.F.getD d2 noF).k=2∧(y.F.getD d0 noF).k=2∧y.F.getD d3 noF=⟨1,-1⟩
section
variable {p:List Fnc}{n m:Int}{O:List Nat}{bs:List BR}{l:List Int}{s s1 s2:SB}{K:Nat}{y:SV}
theorem mk_or_self{n:Int}(h:In n):mk 7 n n 0=n:=by
 show bits .or .i64 n n=n
 rw[bits_or,BitVec.or_self,h.v]
theorem joinF_two(f:FactS)(v:Int):(joinF ⟨2,v⟩ f).k=2:=by
 unfold joinF
 rw[if_neg (show¬(2:Int)=0 by decide)]
 split<;>rfl
theorem joinF_none(f:FactS):joinF noF f=f:=rfl
theorem join_k2{a b:FactS}(h:a.k=2):(joinF a b).k=2:=by
 obtain⟨k,v⟩:=a
 have:k=2:=h
 subst this
 exact joinF_two b v
set_option maxRecDepth 100000 in
theorem loop_law(hn:In n)(hm:In m)(h:BuiltX p (loopF n m) O bs K s1 s2 l s)(he:EndF (actsF (loopF n m) bs s) bs.length (stF (loopF n m).params.toNat (valN (loopF n m) bs s2 l) bs.length) y):bs.length=4∧LoopP n (valN (loopF n m) bs s2 l) s y:=by
 have hb:bs.length=4:=by rw[h.b.bok.len,hdL_all (loopF_rch n m)];kernel_rfl
 have I00:insAt (loopF n m) (hdA (loopF n m) 0+0)=⟨1,1,0,0,n⟩:=by rw[hdA_all (loopF_rch n m)];kernel_rfl
 have I01:insAt (loopF n m) (hdA (loopF n m) 0+1)=⟨1,2,0,0,m⟩:=by rw[hdA_all (loopF_rch n m)];kernel_rfl
 have I02:insAt (loopF n m) (hdA (loopF n m) 0+2)=⟨1,3,0,0,-1⟩:=by rw[hdA_all (loopF_rch n m)];kernel_rfl
 have I10:insAt (loopF n m) (hdA (loopF n m) 1+0)=⟨16,0,0,0,5⟩:=by rw[hdA_all (loopF_rch n m)];kernel_rfl
 have I30:insAt (loopF n m) (hdA (loopF n m) 3+0)=⟨2,2,2,3,0⟩:=by rw[hdA_all (loopF_rch n m)];kernel_rfl
 have I31:insAt (loopF n m) (hdA (loopF n m) 3+1)=⟨7,1,1,1,0⟩:=by rw[hdA_all (loopF_rch n m)];kernel_rfl
 have I32:insAt (loopF n m) (hdA (loopF n m) 3+2)=⟨2,0,0,2,0⟩:=by rw[hdA_all (loopF_rch n m)];kernel_rfl
 have I33:insAt (loopF n m) (hdA (loopF n m) 3+3)=⟨15,0,0,0,3⟩:=by rw[hdA_all (loopF_rch n m)];kernel_rfl
 have A0:hdA (loopF n m) 0=0:=by rw[hdA_all (loopF_rch n m)];kernel_rfl
 have A1:hdA (loopF n m) 1=3:=by rw[hdA_all (loopF_rch n m)];kernel_rfl
 have A3:hdA (loopF n m) 3=5:=by rw[hdA_all (loopF_rch n m)];kernel_rfl
 have N0:nxI (loopF n m) (hdA (loopF n m) 0)=[1]:=by rw[nxI_all (loopF_rch n m),hdA_all (loopF_rch n m)];kernel_rfl
 have N1:nxI (loopF n m) (hdA (loopF n m) 1)=[2,3]:=by rw[nxI_all (loopF_rch n m),hdA_all (loopF_rch n m)];kernel_rfl
 have N3:nxI (loopF n m) (hdA (loopF n m) 3)=[1]:=by rw[nxI_all (loopF_rch n m),hdA_all (loopF_rch n m)];kernel_rfl
 have R:=loopF_rch n m
 have S:=h.sys
 have hdy:(stF (loopF n m).params.toNat (valN (loopF n m) bs s2 l) bs.length).dirty=true:=by rw[stF_eq]
 obtain⟨g,-,d⟩:=S.done h.beg hdy he
 have fm:=h.form he
 have L0:(s.part 0).ins.length=3:=by rw[h.finP.il 0 (by omega),toF_all (loopF_rch n m),hdA_all (loopF_rch n m)];kernel_rfl
 have L1:(s.part 1).ins.length=1:=by rw[h.finP.il 1 (by omega),toF_all (loopF_rch n m),hdA_all (loopF_rch n m)];kernel_rfl
 have L3:(s.part 3).ins.length=4:=by rw[h.finP.il 3 (by omega),toF_all (loopF_rch n m),hdA_all (loopF_rch n m)];kernel_rfl
 have P0:prevL bs 0=[-1]:=(prevL_eq h.b.bok (by omega)).trans (by rw[prevF_all (loopF_rch n m)];kernel_rfl)
 have P1:prevL bs 1=[0,3]:=(prevL_eq h.b.bok (by omega)).trans (by rw[prevF_all (loopF_rch n m)];kernel_rfl)
 have P3:prevL bs 3=[1]:=(prevL_eq h.b.bok (by omega)).trans (by rw[prevF_all (loopF_rch n m)];kernel_rfl)
 have i00:0≤(s.insA 0 0).id:=h.set1 (by omega) (by omega) I00 rfl
 have i01:0≤(s.insA 0 1).id:=h.set1 (by omega) (by omega) I01 rfl
 have i02:0≤(s.insA 0 2).id:=h.set1 (by omega) (by omega) I02 rfl
 have i10:¬0≤(s.insA 1 0).id:=h.set0 (by omega) (by omega) I10 rfl
 have i30:0≤(s.insA 3 0).id:=h.set1 (by omega) (by omega) I30 rfl
 have i31:0≤(s.insA 3 1).id:=h.set1 (by omega) (by omega) I31 rfl
 have i32:0≤(s.insA 3 2).id:=h.set1 (by omega) (by omega) I32 rfl
 have i33:¬0≤(s.insA 3 3).id:=h.set0 (by omega) (by omega) I33 rfl
 have a4:(O.getD 4 0).testBit 1=true:=h.livR (pc:=4) (R _ (by show _<9;omega)) rfl (by kernel_rfl)
 have a52:(O.getD 5 0).testBit 2=true:=h.livR (pc:=5) (R _ (by show _<9;omega)) rfl (by kernel_rfl)
 have a53:(O.getD 5 0).testBit 3=true:=h.livR (pc:=5) (R _ (by show _<9;omega)) rfl (by kernel_rfl)
 have a61:(O.getD 6 0).testBit 1=true:=h.livR (pc:=6) (R _ (by show _<9;omega)) rfl (by kernel_rfl)
 have a70:(O.getD 7 0).testBit 0=true:=h.livR (pc:=7) (R _ (by show _<9;omega)) rfl (by kernel_rfl)
 have a60:(O.getD 6 0).testBit 0=true:=h.livN (pc:=6) (n:=7) (R _ (by show _<9;omega)) rfl (show 7∈[7] by decide) a70 (by kernel_rfl)
 have a50:(O.getD 5 0).testBit 0=true:=h.livN (pc:=5) (n:=6) (R _ (by show _<9;omega)) rfl (show 6∈[6] by decide) a60 (by kernel_rfl)
 have a51:(O.getD 5 0).testBit 1=true:=h.livN (pc:=5) (n:=6) (R _ (by show _<9;omega)) rfl (show 6∈[6] by decide) a61 (by kernel_rfl)
 have a3:∀r,r<4→(O.getD 3 0).testBit r=true:=fun r hr=>by
  have h4:r=0∨r=1∨r=2∨r=3:=by omega
  rcases h4 with rfl|rfl|rfl|rfl
  ·exact h.livR (pc:=3) (R _ (by show _<9;omega)) rfl (by kernel_rfl)
  ·exact h.livN (pc:=3) (n:=5) (R _ (by show _<9;omega)) rfl (show 5∈[4,5] by decide) a51 (by kernel_rfl)
  ·exact h.livN (pc:=3) (n:=5) (R _ (by show _<9;omega)) rfl (show 5∈[4,5] by decide) a52 (by kernel_rfl)
  ·exact h.livN (pc:=3) (n:=5) (R _ (by show _<9;omega)) rfl (show 5∈[4,5] by decide) a53 (by kernel_rfl)
 have a5:∀r,r<4→(O.getD 5 0).testBit r=true:=fun r hr=>by
  have h4:r=0∨r=1∨r=2∨r=3:=by omega
  rcases h4 with rfl|rfl|rfl|rfl
  ·exact a50
  ·exact a51
  ·exact a52
  ·exact a53
 have a0:(O.getD 0 0).testBit 0=true:=h.livN (pc:=0) (n:=1) (R _ (by show _<9;omega)) rfl (show 1∈[1] by decide) (h.livN (pc:=1) (n:=2) (R _ (by show _<9;omega)) rfl (show 2∈[2] by decide) (h.livN (pc:=2) (n:=3) (R _ (by show _<9;omega)) rfl (show 3∈[3] by decide) (a3 0 (by omega)) (by kernel_rfl)) (by kernel_rfl)) (by kernel_rfl)
 have e3:∀r,r<4→(s.part 3).inn.getD r 0=(s.part 1).inn.getD r 0:=fun r hr=>by
  rw[h.one (j:=3) (by omega) P3 (by omega) (by rw[A3];exact a5 r hr)]
  show endV s (loopF n m) (1:Nat) r=_
  rw[endV_nat,L1,atN i10];rfl
 have v0:∀r,endV s (loopF n m) (0:Nat) r=if r=3 then(s.insA 0 2).id else if r=2 then(s.insA 0 1).id else if r=1 then(s.insA 0 0).id else(s.part 0).inn.getD r 0:=fun r=>by
  rw[endV_nat,L0,h.atX (d:=3) (by omega) I02 rfl (by omega) i02,h.atX (d:=2) (by omega) I01 rfl (by omega) i01,h.atX (d:=1) (by omega) I00 rfl (by omega) i00];rfl
 have v3:∀r,endV s (loopF n m) (3:Nat) r=if r=0 then(s.insA 3 2).id else if r=1 then(s.insA 3 1).id else if r=2 then(s.insA 3 0).id else(s.part 3).inn.getD r 0:=fun r=>by
  rw[endV_nat,L3,atN i33,h.atX (d:=0) (by omega) I32 rfl (by omega) i32,h.atX (d:=1) (by omega) I31 rfl (by omega) i31,h.atX (d:=2) (by omega) I30 rfl (by omega) i30];rfl
 have in0:(s.part 0).inn.getD 0 0=0:=by
  rw[h.one (j:=0) (by omega) P0 (by omega) (by rw[A0];exact a0)];rfl
 have nep:∀t,t<4→0≤(s.insA 3 t).id→(s.insA 3 t).id≠0:=fun t ht h0 e=>by
  have:=(h.finP.iAt (i:=3) (t:=t) (by omega) (by omega) h0).1
  have hp1:(loopF n m).params.toNat=1:=rfl
  omega
 have ph:∀r,r<3→∃k,k<(s.part 1).phis.length∧(s.phi 1 k).id=(s.part 1).inn.getD r 0∧(s.phi 1 k).args=[endV s (loopF n m) (0:Nat) r,endV s (loopF n m) (3:Nat) r]:=fun r hr=>by
  rcases h.two (j:=1) (by omega) P1 (r:=r) (by omega) (by rw[A1];exact a3 r (by omega)) with⟨k,k1,-,k3,k4⟩|⟨e1,e2⟩
  ·exact⟨k,k1,k3,k4⟩
  ·have e:endV s (loopF n m) (0:Nat) r=endV s (loopF n m) (3:Nat) r:=e1.symm.trans e2
   rw[v0,v3] at e
   have h4:r=0∨r=1∨r=2:=by omega
   rcases h4 with rfl|rfl|rfl
   ·have e' :(s.part 0).inn.getD 0 0=(s.insA 3 2).id:=e
    rw[in0] at e'
    exact absurd e'.symm (nep 2 (by omega) i32)
   ·exact absurd e (h.finP.idne (j:=3) (u:=1) (by omega) (by omega) (by omega) (by omega) i00 (by omega))
   ·exact absurd e (h.finP.idne (j:=3) (u:=0) (by omega) (by omega) (by omega) (by omega) i01 (by omega))
 have in3:(s.part 1).inn.getD 3 0=(s.insA 0 2).id:=by
  rcases h.two (j:=1) (by omega) P1 (r:=3) (by omega) (by rw[A1];exact a3 3 (by omega)) with⟨k,k1,-,k3,k4⟩|⟨e1,e2⟩
  ·obtain⟨x,hx,z,hz,x1,z1,xz⟩:=h.says (i:=1) (k:=k) (by omega) k1
   have q3:endV s (loopF n m) 3 3=(s.phi 1 k).id:=(v3 3).trans ((e3 3 (by omega)).trans k3.symm)
   rw[k4,q3] at hx hz
   simp only[List.mem_cons,List.not_mem_nil,or_false] at hx hz
   exfalso
   rcases hx with rfl|rfl
   ·rcases hz with rfl|rfl
    ·exact xz rfl
    ·exact z1 rfl
   ·exact x1 rfl
  ·rw[e1];exact v0 3
 have toE:∀(j t:Nat),j<4→t<(s.part j).ins.length→(s.insA j t).op=1→y.met.getD j false=true→ofF y.F (s.insA j t).id=⟨1,(s.insA j t).imm⟩:=fun j t hj ht ho hmt=>by
  obtain⟨q,q1,-,q3,-⟩:=fm.set j t (by omega) ht ho
  rw[q1];unfold ofF;rw[if_neg (by omega),Int.toNat_natCast,q3 hmt]
 have x00:ofF y.F (s.insA 0 0).id=⟨1,n⟩:=by
  rw[toE 0 0 (by omega) (by omega) (h.opX (j:=0) (t:=0) (by omega) (by omega) I00).1 fm.m0,(h.opX (j:=0) (t:=0) (by omega) (by omega) I00).2]
 have x01:ofF y.F (s.insA 0 1).id=⟨1,m⟩:=by
  rw[toE 0 1 (by omega) (by omega) (h.opX (j:=0) (t:=1) (by omega) (by omega) I01).1 fm.m0,(h.opX (j:=0) (t:=1) (by omega) (by omega) I01).2]
 have x02:ofF y.F (s.insA 0 2).id=⟨1,-1⟩:=by
  rw[toE 0 2 (by omega) (by omega) (h.opX (j:=0) (t:=2) (by omega) (by omega) I02).1 fm.m0,(h.opX (j:=0) (t:=2) (by omega) (by omega) I02).2]
 have met:∀{a:Int} {b:Nat},b<4→y.ed a b=true→y.met.getD b false=true:=fun{a b} hb' e=>(g.mt b (by omega)).2 ⟨a,e⟩
 have E01:y.ed (0:Nat) (1:Nat)=true:=goes_of d (by omega) fm.m0 (by rw[N0];decide) (.inl (by
  have:lastA s 0=s.insA 0 2:=by unfold lastA;rw[L0]
  rw[this,(h.opX (j:=0) (t:=2) (by omega) (by omega) I02).1];decide))
 have M1:=met (by omega) E01
 have xph:∀r,r<3→ofF y.F ((s.part 1).inn.getD r 0)=if y.ed 3 (1:Nat)=true then joinF (ofF y.F (endV s (loopF n m) (0:Nat) r)) (ofF y.F (endV s (loopF n m) (3:Nat) r)) else ofF y.F (endV s (loopF n m) (0:Nat) r):=fun r hr=>by
  obtain⟨k,k1,k3,k4⟩:=ph r hr
  rw[←k3,h.fphs g d (j:=1) (by omega) M1 k1,P1,k4]
  have e1:y.ed 0 (1:Nat)=true:=E01
  show(if y.ed 3 (1:Nat)=true then joinF (if y.ed 0 (1:Nat)=true then joinF noF _ else noF) _ else if y.ed 0 (1:Nat)=true then joinF noF _ else noF)=_
  rw[e1,if_pos rfl];rfl
 have k0:(ofF y.F ((s.part 1).inn.getD 0 0)).k=2:=by
  have h0:(ofF y.F (endV s (loopF n m) (0:Nat) 0)).k=2:=by
   rw[v0]
   show(ofF y.F ((s.part 0).inn.getD 0 0)).k=2
   rw[in0]
   exact fm.par 0 (show 0<1 by omega)
  rw[xph 0 (by omega)]
  split
  ·exact join_k2 h0
  ·exact h0
 have la1:lastA s 1=s.insA 1 0:=by unfold lastA;rw[L1]
 have aIf:(s.insA 1 0).a=(s.part 1).inn.getD 0 0:=by
  rw[(h.aX (j:=1) (t:=0) (by omega) (by omega) I10).1,if_pos (by rfl)];rfl
 have way:∀q:Nat,wayB (ofF y.F (lastA s 1).a) (lastA s 1).imm (toF (loopF n m) (hdA (loopF n m) 1)) q=true:=fun q=>by
  unfold wayB
  rw[la1,aIf,decide_eq_true k0];rfl
 have E12:y.ed (1:Nat) (2:Nat)=true:=goes_of d (by omega) M1 (by rw[N1];decide) (.inr (way _))
 have E13:y.ed (1:Nat) (3:Nat)=true:=goes_of d (by omega) M1 (by rw[N1];decide) (.inr (way _))
 have M2:=met (by omega) E12
 have M3:=met (by omega) E13
 have E31:y.ed 3 (1:Nat)=true:=goes_of (j:=3) d (by omega) M3 (by rw[N3];decide) (.inl (by
  have:lastA s 3=s.insA 3 3:=by unfold lastA;rw[L3]
  rw[this,(h.opX (j:=3) (t:=3) (by omega) (by omega) I33).1];decide))
 have xp2:∀r,r<3→ofF y.F ((s.part 1).inn.getD r 0)=joinF (ofF y.F (endV s (loopF n m) (0:Nat) r)) (ofF y.F (endV s (loopF n m) (3:Nat) r)):=fun r hr=>by
  rw[xph r hr,if_pos E31]
 have k2:(ofF y.F ((s.part 1).inn.getD 2 0)).k=2:=by
  have hj:=xp2 2 (by omega)
  have w0:endV s (loopF n m) (0:Nat) 2=(s.insA 0 1).id:=v0 2
  have w3:endV s (loopF n m) (3:Nat) 2=(s.insA 3 0).id:=v3 2
  rw[w0,w3,x01] at hj
  have ha:=h.aX (j:=3) (t:=0) (by omega) (by omega) I30
  rw[if_pos (by rfl),if_pos (by rfl)] at ha
  have ha1:(s.insA 3 0).a=(s.part 1).inn.getD 2 0:=ha.1.trans (e3 2 (by omega))
  have ha2:(s.insA 3 0).b=(s.insA 0 2).id:=ha.2.trans ((e3 3 (by omega)).trans in3)
  have hs:=h.sayX g d (j:=3) (t:=0) (by omega) M3 (by omega) i30 I30
  rw[ha1,ha2,x02] at hs
  rw[hj] at hs⊢
  generalize ofF y.F (s.insA 3 0).id=f at hs⊢
  unfold joinF at hs⊢
  rw[if_neg (show¬(1:Int)=0 by decide)] at hs⊢
  split
  ·rename_i hc
   rw[if_pos hc] at hs
   exfalso
   have e:f=⟨1,mk 2 m (-1) 0⟩:=hs
   rcases hc with hc|hc
   ·rw[e] at hc;cases hc
   ·rw[e] at hc
    have:m=mk 2 m (-1) 0:=congrArg FactS.v hc
    unfold mk at this
    have h3:m=wrap64 (m+ -1):=this
    unfold wrap64 at h3
    obtain⟨l1,l2⟩:=hm
    omega
  ·rfl
 have up:y.le ⟨(List.range (valN (loopF n m) bs s2 l)).map fun(v:Nat)=>if (v:Int)=(s.insA 0 0).id∨(v:Int)=(s.part 1).inn.getD 1 0∨(v:Int)=(s.insA 3 1).id then⟨1,n⟩ else⟨2,0⟩,y.met,fun _ _=>true,true⟩:=by
  have zget:∀v:Nat,v<valN (loopF n m) bs s2 l→((List.range (valN (loopF n m) bs s2 l)).map fun(v:Nat)=>if (v:Int)=(s.insA 0 0).id∨(v:Int)=(s.part 1).inn.getD 1 0∨(v:Int)=(s.insA 3 1).id then(⟨1,n⟩:FactS) else⟨2,0⟩).getD v noF=if (v:Int)=(s.insA 0 0).id∨(v:Int)=(s.part 1).inn.getD 1 0∨(v:Int)=(s.insA 3 1).id then⟨1,n⟩ else⟨2,0⟩:=fun v hv=>by
   rw[List.getD_eq_getElem?_getD,List.getElem?_map,List.getElem?_range hv];rfl
  have zof:∀v:Int,0≤v→v<valN (loopF n m) bs s2 l→ofF ((List.range (valN (loopF n m) bs s2 l)).map fun(v:Nat)=>if (v:Int)=(s.insA 0 0).id∨(v:Int)=(s.part 1).inn.getD 1 0∨(v:Int)=(s.insA 3 1).id then(⟨1,n⟩:FactS) else⟨2,0⟩) v=if v=(s.insA 0 0).id∨v=(s.part 1).inn.getD 1 0∨v=(s.insA 3 1).id then⟨1,n⟩ else⟨2,0⟩:=fun v h0 h1=>by
   unfold ofF
   rw[if_neg (by omega),zget _ (by omega),show((v.toNat:Nat):Int)=v by omega]
  obtain⟨inl1,inl2⟩:=(h.finP.innl 1 1 (by omega) (by omega)).2
  have in10:0≤(s.part 1).inn.getD 1 0:=(h.finP.innl 1 1 (by omega) (by omega)).1.2 (by rw[A1];exact a3 1 (by omega))
  have lt00:=h.finP.iLt (i:=0) (t:=0) (by omega) (by omega)
  have lt31:=h.finP.iLt (i:=3) (t:=1) (by omega) (by omega)
  refine S.least (fun i hi _ act hact=> ?_) h.beg ⟨fun v=> ?_,fun _ _ _=>rfl⟩ he
  ·cases act with
   |go c a b=>exact fun _=>rfl
   |say id f=>
    intro h0
    obtain⟨w1,-,-⟩:=S.sok i id f hi hact
    show(f _).le (ofF _ id)
    rw[zof id h0 w1]
    split
    ·rename_i hid
     rcases hid with rfl|rfl|rfl
     ·have hm0:AcF.say (s.insA 0 0).id (fun x:SV=>makeF (s.insA 0 0).op (s.insA 0 0).imm (ofF x.F (s.insA 0 0).a) (ofF x.F (s.insA 0 0).b))∈actsF (loopF n m) bs s 0:=mem_acts.2 (.inr (.inl ⟨0,by omega,rfl⟩))
      rw[(S.uni i 0 _ _ _ hi (by omega) hact hm0 h0).1]
      obtain⟨o1,o2⟩:=h.opX (j:=0) (t:=0) (by omega) (by omega) I00
      obtain⟨ea,eb⟩:=h.aX (j:=0) (t:=0) (by omega) (by omega) I00
      show(makeF (s.insA 0 0).op (s.insA 0 0).imm (ofF _ (s.insA 0 0).a) (ofF _ (s.insA 0 0).b)).le _
      rw[o1,o2,ea,eb,if_neg (by exact Bool.false_ne_true),if_neg (by exact Bool.false_ne_true)]
      exact FactS.le_refl _
     ·obtain⟨k,k1,k3,k4⟩:=ph 1 (by omega)
      have hm0:AcF.say ((s.part 1).inn.getD 1 0) (fun x:SV=>phTo x 1 (prevL bs 1) (s.phi 1 k).args (prevL bs 1).length)∈actsF (loopF n m) bs s 1:=mem_acts.2 (.inl ⟨k,k1,by rw[←k3];rfl⟩)
      rw[(S.uni i 1 _ _ _ hi (by omega) hact hm0 h0).1,P1,k4,show endV s (loopF n m) (0:Nat) 1=(s.insA 0 0).id from v0 1,show endV s (loopF n m) (3:Nat) 1=(s.insA 3 1).id from v3 1]
      show(joinF (joinF noF (ofF _ (s.insA 0 0).id)) (ofF _ (s.insA 3 1).id)).le _
      rw[zof _ i00 lt00,zof _ i31 lt31,if_pos (.inl rfl),if_pos (.inr (.inr rfl))]
      have:joinF (joinF noF ⟨1,n⟩) ⟨1,n⟩=⟨1,n⟩:=by
       rw[joinF_none]
       unfold joinF
       rw[if_neg (show¬(1:Int)=0 by decide),if_pos (.inr rfl)]
      rw[this]
      exact FactS.le_refl _
     ·have hm0:AcF.say (s.insA 3 1).id (fun x:SV=>makeF (s.insA 3 1).op (s.insA 3 1).imm (ofF x.F (s.insA 3 1).a) (ofF x.F (s.insA 3 1).b))∈actsF (loopF n m) bs s 3:=mem_acts.2 (.inr (.inl ⟨1,by omega,rfl⟩))
      rw[(S.uni i 3 _ _ _ hi (by omega) hact hm0 h0).1]
      obtain⟨o1,o2⟩:=h.opX (j:=3) (t:=1) (by omega) (by omega) I31
      obtain⟨ea,eb⟩:=h.aX (j:=3) (t:=1) (by omega) (by omega) I31
      rw[if_pos (by rfl)] at ea eb
      have at1:(atR s (loopF n m) 3 1).getD 1 0=(s.part 1).inn.getD 1 0:=by
       rw[h.atX (d:=2) (by omega) I30 rfl (by omega) i30,if_neg (by decide)]
       exact e3 1 (by omega)
      have ea' :(s.insA 3 1).a=(s.part 1).inn.getD 1 0:=ea.trans at1
      have eb' :(s.insA 3 1).b=(s.part 1).inn.getD 1 0:=eb.trans at1
      show(makeF (s.insA 3 1).op (s.insA 3 1).imm (ofF _ (s.insA 3 1).a) (ofF _ (s.insA 3 1).b)).le _
      rw[o1,o2,ea',eb',zof _ in10 inl2,if_pos (.inr (.inl rfl))]
      show(⟨1,mk 7 n n 0⟩:FactS).le _
      rw[mk_or_self hn]
      exact FactS.le_refl _
    ·exact .inr (.inr rfl)
  ·rw[stF_eq]
   show((parF 1 _).getD v noF).le _
   rw[parF_get]
   split
   ·rename_i hv
    rw[show v=0 by omega]
    show(⟨2,0⟩:FactS).le _
    rw[zget 0 (by omega),if_neg]
    ·exact FactS.le_refl _
    ·have e1:=(h.finP.iAt (i:=0) (t:=0) (by omega) (by omega) i00).1
     have hp1:(loopF n m).params.toNat=1:=rfl
     have e2:=nep 1 (by omega) i31
     obtain⟨k,k1,k3,-⟩:=ph 1 (by omega)
     have e3:=(h.finP.pid 1 k (by omega) k1).1
     omega
   ·exact noF_le _
 have x1:ofF y.F ((s.part 1).inn.getD 1 0)=⟨1,n⟩:=by
  have hl:=up.of ((s.part 1).inn.getD 1 0)
  have in10:0≤(s.part 1).inn.getD 1 0:=(h.finP.innl 1 1 (by omega) (by omega)).1.2 (by rw[A1];exact a3 1 (by omega))
  have lt1:=(h.finP.innl 1 1 (by omega) (by omega)).2.2
  have hz:ofF ((List.range (valN (loopF n m) bs s2 l)).map fun(v:Nat)=>if (v:Int)=(s.insA 0 0).id∨(v:Int)=(s.part 1).inn.getD 1 0∨(v:Int)=(s.insA 3 1).id then(⟨1,n⟩:FactS) else⟨2,0⟩) ((s.part 1).inn.getD 1 0)=⟨1,n⟩:=by
   unfold ofF
   rw[if_neg (by omega),List.getD_eq_getElem?_getD,List.getElem?_map,List.getElem?_range (by omega)]
   show(if _ then _ else _)=_
   rw[if_pos (.inr (.inl (by omega)))]
  rw[show ofF (SV.F ⟨_,_,_,_⟩) _=_ from hz] at hl
  have hj:=xp2 1 (by omega)
  rw[show endV s (loopF n m) (0:Nat) 1=(s.insA 0 0).id from v0 1,x00] at hj
  have lo:=le_join_left (⟨1,n⟩:FactS) (ofF y.F (endV s (loopF n m) (3:Nat) 1))
  rw[←hj] at lo
  unfold FactS.le at hl lo
  have:(ofF y.F ((s.part 1).inn.getD 1 0)).k=1∧(ofF y.F ((s.part 1).inn.getD 1 0)).v=n:=by
   simp only at hl lo
   omega
  exact FactS.eta this.1 this.2
 have fin:∀r,r<4→∃q:Nat,(s.part 1).inn.getD r 0=q∧q<valN (loopF n m) bs s2 l∧ofF y.F ((s.part 1).inn.getD r 0)=y.F.getD q noF:=fun r hr=>by
  obtain⟨q1,q2,q3⟩:=h.finP.innl 1 r (by omega) (by omega)
  have q4:=q1.2 (by rw[A1];exact a3 r hr)
  exact⟨((s.part 1).inn.getD r 0).toNat,by omega,by omega,by unfold ofF;rw[if_neg (by omega)]⟩
 obtain⟨d0,f0,g0,h0⟩:=fin 0 (by omega)
 obtain⟨d1,f1,g1,h1⟩:=fin 1 (by omega)
 obtain⟨d2,f2,g2,h2⟩:=fin 2 (by omega)
 obtain⟨d3,f3,g3,h3⟩:=fin 3 (by omega)
 refine⟨hb,fun i hi=> ?_,d0,d1,d2,d3,f0,f1,f2,f3,g0,g1,g2,g3,by rw[←h1,x1],by rw[←h2,k2],by rw[←h0,k0],by rw[←h3,in3,x02]⟩
 have h4:i=0∨i=1∨i=2∨i=3:=by omega
 rcases h4 with rfl|rfl|rfl|rfl
 ·exact fm.m0
 ·exact M1
 ·exact M2
 ·exact M3
end
theorem SideP.two{n m:Int}{vl:Nat}{s s' :SB}{y:SV}(h:SideP n m vl s y)(e:s.parts=s'.parts):SideP n m vl s' y:=by
 have e1:s.part 3=s'.part 3:=by unfold SB.part;rw[e]
 have e2:s.phi 3=s'.phi 3:=by unfold SB.phi;rw[e1]
 exact⟨h.m0,h.m1,h.m2,h.m3,by rw[←e1];exact h.ph,by rw[←e2];exact h.x⟩
theorem LoopP.two{n:Int}{vl:Nat}{s s' :SB}{y:SV}(h:LoopP n vl s y)(e:s.parts=s'.parts):LoopP n vl s' y:=by
 have e1:s.part 1=s'.part 1:=by unfold SB.part;rw[e]
 exact⟨h.m,by rw[←e1];exact h.x⟩
theorem own_raw{W:World}{g n size:Nat}{t:TypeId}{xs:List Value}(h:W.heap[g]? =some (.cells xs.toArray t (0,0)))(hl:xs.length=n*size)(hn:n≤1000):W.ownsRow 0 t size (.slice (some ⟨g,0,none⟩) n n) n xs:=
 ⟨hl, .inr ⟨g,n,xs.toArray,rfl,Nat.zero_le _,h,Nat.le_refl _,by unfold maxLen;omega,by simpa using hl,by
   show xs.take _=xs
   rw[List.take_of_length_le (by omega)]⟩⟩
theorem one_prog{W:World}{F:Fnc}{gi gf n:Nat}{cs:List Value}(hc:codeCells F.code=cs)(h1:W.heap[gi]? =some (.cells cs.toArray 42 (0,0)))(h2:W.heap[gf]? =some (.cells #[.int .i64 F.params, .int .i64 F.regs, .slice (some ⟨gi,0,none⟩) n n] 36 (0,0)))(hn:F.code.length=n)(hl:n≤1000):ProgAt W (.slice (some ⟨gf,0,none⟩) 1 1) [F]:=
 ⟨0,[.slice (some ⟨gi,0,none⟩) n n],rfl,own_raw (xs:=fnCells [F] [.slice (some ⟨gi,0,none⟩) n n]) h2 rfl (by omega),fun i u f hu hf=>by
   cases i with
   |succ i=>cases hf
   |zero=>
    have e1:Value.slice (some ⟨gi,0,none⟩) n n=u:=Option.some.inj hu
    have e2:F=f:=Option.some.inj hf
    subst e1 e2
    exact⟨0,by rw[hn,hc];exact own_raw h1 (by rw[←hc,codeCells_length,hn]) hl⟩⟩
theorem fact_cell{W:World}{g i:Nat}{L:List FactS}{t:TypeId}(h:W.heap[g]? =some (.cells (factCells L).toArray t (0,0)))(hi:i<L.length):W.cell? ⟨g,i*2,none⟩=some (.int .i64 (L.getD i noF).k)∧W.cell? ⟨g,i*2+1,none⟩=some (.int .i64 (L.getD i noF).v):=by
 constructor
 ·refine(cell_block h _).trans (List.getElem?_toArray.trans ?_)
  exact flat_at (f:=fun i=>(L.getD i noF).cells) (n:=2) (t:=0) (fun _ _=>rfl) hi (by omega)
 ·refine(cell_block h _).trans (List.getElem?_toArray.trans ?_)
  exact flat_at (f:=fun i=>(L.getD i noF).cells) (n:=2) (t:=1) (fun _ _=>rfl) hi (by omega)
theorem met_cell{W:World}{g i:Nat}{L:List Bool}{t:TypeId}(h:W.heap[g]? =some (.cells (L.map Value.bool).toArray t (0,0)))(hi:i<L.length):W.cell? ⟨g,i,none⟩=some (.bool (L.getD i false)):=by
 refine(cell_block h _).trans (List.getElem?_toArray.trans ?_)
 rw[List.getElem?_map,List.getD_eq_getElem?_getD,List.getElem?_eq_getElem hi];rfl
end Go.Proofs.YtappljijljjkiaaDoor
