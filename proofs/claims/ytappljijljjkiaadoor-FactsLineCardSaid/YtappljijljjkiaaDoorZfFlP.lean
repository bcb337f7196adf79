/-
  Plain: code that only reckons: all is known of it, and is what a run makes.
-/
import Derived.Test.YtappljijljjkiaaDoorZfFsP
import Derived.Test.YtappljijljjkiaaDoorZfSlP
import Derived.Test.YtappljijljjkiaaDoorZfTrP
namespace Go.Proofs.YtappljijljjkiaaDoor
open Go.RowKit Tier
def setI(r:Nat):Ins:=⟨1,r,0,0,3*r⟩
def setL(k:Nat):List Ins:=(List.range k).map setI
def okL(x:Ins):Bool:=decide (x.op≤12)&&decide (x.op≠5)
def lineF(d:List Ins):Fnc:=⟨0,12,setL 12++d++[⟨19,0,1,0,0⟩]⟩
structure DOk(d:List Ins):Prop where
 len:d.length≤23
 ins:∀x∈d,x.op≤12∧x.op≠5∧∃regs n funcs:Int,regs≤12∧InsOk x regs n funcs
section
variable {d:List Ins}(hd:DOk d)
theorem setL_len(k:Nat):(setL k).length=k:=by simp[setL]
theorem line_len:(lineF d).code.length=d.length+13:=by
 show(setL 12++d++[_]).length=_
 simp[setL_len];omega
theorem line_get{i:Nat}{x:Ins}(h:(lineF d).code[i]? =some x):(i<12∧x=setI i)∨(12≤i∧i<d.length+12∧x∈d)∨(i=d.length+12∧x=⟨19,0,1,0,0⟩):=by
 have h' :(setL 12++d++[(⟨19,0,1,0,0⟩:Ins)])[i]? =some x:=h
 have hl:=(gI.1 h).1
 rw[line_len] at hl
 by_cases h1:i<12
 ·rw[List.append_assoc,List.getElem?_append_left (by rw[setL_len];exact h1)] at h'
  unfold setL at h'
  rw[List.getElem?_map,List.getElem?_range h1] at h'
  exact .inl ⟨h1,(Option.some.inj h').symm⟩
 ·by_cases h2:i<d.length+12
  ·rw[List.getElem?_append_left (by rw[List.length_append,setL_len];omega),List.getElem?_append_right (by rw[setL_len];omega),setL_len] at h'
   exact .inr (.inl ⟨by omega,h2,gM h'⟩)
  ·rw[List.getElem?_append_right (by rw[List.length_append,setL_len];omega),List.length_append,setL_len,show i-(12+d.length)=0 by omega] at h'
   exact .inr (.inr ⟨by omega,(Option.some.inj h').symm⟩)
theorem line_at{i:Nat}(h:i<d.length+13):(lineF d).code[i]? =some (insAt (lineF d) i):=by
 unfold insAt
 rw[gD,gE (by rw[line_len];exact h)];rfl
include hd
theorem line_ins{i:Nat}{x:Ins}(h:(lineF d).code[i]? =some x):InsOk x 12 (d.length+13:Nat) 1∧((i<d.length+12∧x.op≤12∧x.op≠5)∨(i=d.length+12∧x=⟨19,0,1,0,0⟩)):=by
 rcases line_get h with⟨h1,rfl⟩|⟨h1,h2,h3⟩|⟨h1,rfl⟩
 ·refine⟨⟨by simp[setI],by simp[setI],by simp[setI],by simp[setI];omega,by simp[setI],by simp[setI],by simp[setI],by simp[setI],by simp[setI],by simp[setI],by simp[setI],by simp[setI],by simp[setI],by simp[setI]⟩, .inl ⟨by omega,by simp[setI],by simp[setI]⟩⟩
 ·obtain⟨o1,o2,regs,n,funcs,r1,io⟩:=hd.ins x h3
  have:=io.dst2;have:=io.a2;have:=io.b2
  exact⟨⟨io.op1,io.op2,io.dst1,by omega,io.a1,by omega,io.b1,by omega,fun e=>by omega,fun e=>by omega,io.noImm,io.noDst,io.noA,io.noB⟩, .inl ⟨h2,o1,o2⟩⟩
 ·exact⟨⟨by simp,by simp,by simp,by simp,by simp,by simp,by simp,by simp,by simp,by simp,by simp,by simp,by simp,by simp⟩, .inr ⟨h1,rfl⟩⟩
theorem line_fn:FnOk (lineF d) 1:=by
 have:=hd.len
 refine⟨by simp[lineF],by simp[lineF],by simp[lineF],by simp[lineF],by simp[lineF],by rw[line_len];omega,by rw[line_len];omega,fun x hx=> ?_⟩
 obtain⟨i,hi,e⟩:=List.getElem_of_mem hx
 have h:=(line_ins hd (i:=i) (x:=x) (by rw[gE hi,e])).1
 rw[line_len]
 exact h
theorem line_lin:Lin (lineF d):=fun pc x hx=>by
 have hl:=(gI.1 hx).1
 rw[line_len] at hl⊢
 rcases(line_ins hd hx).2 with⟨h1,h2,-⟩|⟨h1,rfl⟩
 ·exact⟨by omega,by omega,by omega⟩
 ·exact⟨by simp,by simp,by simp;omega⟩
theorem line_ok:checkP [lineF d]=0:=by
 have hf:=line_fn hd
 have hQ:=sure_ind (f:=lineF d) (fun pc m=>pc<(lineF d).code.length∧Sub (low (min pc 12)) m) ⟨by rw[line_len];omega,fun i hi=>by rw[low_bit] at hi;simp at hi⟩ (fun pc m x n hq hx hn=>by
  obtain⟨hpc,hs⟩:=hq
  have hnx:n=pc+1∧n<(lineF d).code.length:=by
   have hL:=line_lin hd pc x hx
   unfold nextL at hn
   by_cases e:x.op=19
   ·rw[if_pos e] at hn;cases hn
   ·rw[if_neg e,if_neg hL.1,if_neg hL.2.1] at hn
    have:¬pc+1=(lineF d).code.length:=fun h=>e (hL.2.2.2 h)
    simp at hn
    omega
  refine⟨hnx.2,fun i hi=> ?_⟩
  rw[hnx.1,low_bit] at hi
  simp at hi
  rw[Nat.testBit_or]
  by_cases hi2:i<min pc 12
  ·rw[hs i (by rw[low_bit];simpa using hi2)];rfl
  ·have hpi:i=pc:=by omega
   rcases line_get hx with⟨h1,rfl⟩|⟨h1,-⟩|⟨h1,-⟩
   ·have h2:setM (setI pc)=2^i:=by
     unfold setM
     rw[if_pos (by simp[setsB,setI]),hpi];rfl
    rw[h2,pow_bit];simp
   ·omega
   ·omega) (fun n a b ha hb=>⟨ha.1,sub_and ha.2 hb.2⟩) (iterS_inv hf.cok hf.p2)
 refine checkP_of ⟨by simp,by simp,fun f h=>by obtain rfl:=List.mem_singleton.1 h;exact hf⟩ (fun f h pc hpc=> ?_) (fun f h=> ?_)
 ·obtain rfl:=List.mem_singleton.1 h
  unfold badAt
  cases hx:(lineF d).code[pc]? with
  |none=>rfl
  |some x=>
   cases h1:(sureF (lineF d))[pc]? with
   |none=>rfl
   |some o=>cases o with
    |none=>rfl
    |some m=>
     have hq:=(hQ _ _ h1).2
     have hsub:Sub (readsM x (parOf [lineF d] x)) m:=by
      rcases line_get hx with⟨h1,rfl⟩|⟨h1,-⟩|⟨h1,-⟩
      ·simp only[readsM,setI,true_or,if_true]
       exact sub_zero _
      ·rw[show min pc 12=12 by omega] at hq
       exact(reads_low (line_ins hd hx).1 _).trans hq
      ·rw[show min pc 12=12 by omega] at hq
       exact(reads_low (line_ins hd hx).1 _).trans hq
     show(readsM x (parOf [lineF d] x)-(readsM x (parOf [lineF d] x)&&&m) !=0)=false
     exact sub_mask hsub.and
 ·obtain rfl:=List.mem_singleton.1 h
  unfold endAt
  cases h1:(sureF (lineF d))[(lineF d).code.length]? with
  |none=>rfl
  |some o=>cases o with
   |none=>rfl
   |some m=>exact absurd (hQ _ _ h1).1 (by omega)
theorem line_heads:hdL (lineF d)=[0]:=by
 have hk:=right_of (line_ok hd)
 have h0:=zero_head hk (.head _)
 have hall:∀n∈hdL (lineF d),n=0:=fun n hn=>by
  have h2:=(hdL_mem.1 hn).2
  unfold hdB at h2
  rcases Bool.or_eq_true_iff.1 h2 with h2|h2
  ·simpa using h2
  ·obtain⟨q,-,hq⟩:=List.any_eq_true.1 h2
   unfold hdOf at hq
   have hq:=(Bool.and_eq_true_iff.1 hq).2
   cases hx:(lineF d).code[q]? with
   |none=>rw[hx] at hq;cases hq
   |some x=>
    rw[hx] at hq
    obtain⟨h3,h4⟩:=Bool.and_eq_true_iff.1 hq
    have h3:=of_decide_eq_true h3
    rcases(line_ins hd hx).2 with⟨-,h5,-⟩|⟨-,rfl⟩
    ·omega
    ·cases h4
 have hs:=hdL_sorted (lineF d)
 match hL:hdL (lineF d),h0 with
 |[x],h0=>rw[←Option.some.inj h0]
 |x::z::_,_=>
  rw[hL] at hs hall
  have h1:=hall x (.head _)
  have h2:=hall z (.tail _ (.head _))
  have h3:=(List.pairwise_cons.1 hs).1 z (.head _)
  omega
end
def runR(F:Fnc):Nat→List Int
 |0=>List.replicate 12 0
 |t+1=>(runR F t).set (insAt F t).dst.toNat (mk (insAt F t).op ((runR F t).getD (insAt F t).a.toNat 0) ((runR F t).getD (insAt F t).b.toNat 0) (insAt F t).imm)
theorem runR_len(F:Fnc):∀t,(runR F t).length=12
 |0=>by simp[runR]
 |t+1=>by simp[runR,runR_len F t]
def stL(F:Fnc)(t:Nat):St:=⟨0,0,[⟨0,t,runR F t⟩],List.replicate 16 0,100-t,[],[]⟩
theorem line_step{d:List Ins}(hd:DOk d){t:Nat}(ht:t<d.length+12):stepSt [lineF d] (stL (lineF d) t)=stL (lineF d) (t+1):=by
 have hl:=hd.len
 have hx:=line_at (d:=d) (i:=t) (by omega)
 obtain⟨hio,ho⟩:=line_ins hd hx
 have ho:(insAt (lineF d) t).op≤12∧(insAt (lineF d) t).op≠5:=by
  rcases ho with ho|ho
  ·exact ho.2
  ·omega
 have e1:insOf [lineF d] ⟨0,t,runR (lineF d) t⟩=insAt (lineF d) t:=rfl
 have e2:mkOk (insAt (lineF d) t).op ((⟨0,t,runR (lineF d) t⟩:Fr).reg (insAt (lineF d) t).b)=true:=by
  have:=hio.op1
  unfold mkOk
  simp[ho.2];omega
 unfold stepSt
 rw[if_neg (by show¬(100-(t:Int))=0;omega)]
 show execSt [lineF d] (stL (lineF d) t) [] ⟨0,t,runR (lineF d) t⟩=_
 unfold execSt
 rw[e1,if_pos e2]
 unfold stL topSt Fr.put Fr.at Fr.reg
 simp only[List.nil_append]
 congr 1
 omega
theorem line_ret{d:List Ins}(hd:DOk d):(stepSt [lineF d] (stL (lineF d) (d.length+12))).status=1∧(stepSt [lineF d] (stL (lineF d) (d.length+12))).value=(runR (lineF d) (d.length+12)).getD 1 0:=by
 have hl:=hd.len
 have hx:=line_at (d:=d) (i:=d.length+12) (by omega)
 have e0:insAt (lineF d) (d.length+12)=⟨19,0,1,0,0⟩:=by
  rcases(line_ins hd hx).2 with h|h
  ·omega
  ·exact h.2
 have e1:insOf [lineF d] ⟨0,(d.length+12:Nat),runR (lineF d) (d.length+12)⟩=⟨19,0,1,0,0⟩:=e0
 have e:stepSt [lineF d] (stL (lineF d) (d.length+12))={stL (lineF d) (d.length+12) with fuel:=100-((d.length+12:Nat):Int)-1,frames:=[],value:=(runR (lineF d) (d.length+12)).getD 1 0,status:=1}:=by
  unfold stepSt
  rw[if_neg (by show¬(100-((d.length+12:Nat):Int))=0;omega)]
  show execSt [lineF d] (stL (lineF d) (d.length+12)) [] ⟨0,(d.length+12:Nat),runR (lineF d) (d.length+12)⟩=_
  unfold execSt
  rw[e1];rfl
 rw[e]
 exact⟨rfl,rfl⟩
theorem walk_add(p:List Fnc):∀(m n:Nat) (s:St),walkSt p (m+n) s=walkSt p n (walkSt p m s)
 |0,n,s=>by rw[Nat.zero_add];rfl
 |m+1,n,s=>by
  rw[Nat.succ_add]
  show(if s.status=0 then walkSt p (m+n) (stepSt p s) else s)=walkSt p n (if s.status=0 then walkSt p m (stepSt p s) else s)
  split
  ·exact walk_add p m n _
  ·rename_i h
   cases n with
   |zero=>rfl
   |succ n=>
    show s=if s.status=0 then _ else s
    rw[if_neg h]
theorem line_run{d:List Ins}(hd:DOk d):(walkSt [lineF d] 10001 (beginSt [] [] 100)).status=1∧(walkSt [lineF d] 10001 (beginSt [] [] 100)).value=(runR (lineF d) (d.length+12)).getD 1 0:=by
 have hl:=hd.len
 have key:∀t,t≤d.length+12→walkSt [lineF d] t (beginSt [] [] 100)=stL (lineF d) t:=fun t=>by
  induction t with
  |zero=>intro _;rfl
  |succ t ih=>
   intro ht
   rw[walk_add,ih (by omega)]
   show(if (0:Int)=0 then walkSt [lineF d] 0 (stepSt [lineF d] (stL (lineF d) t)) else _)=_
   rw[if_pos rfl,line_step hd (by omega)];rfl
 obtain⟨r1,r2⟩:=line_ret hd
 have e:walkSt [lineF d] 10001 (beginSt [] [] 100)=stepSt [lineF d] (stL (lineF d) (d.length+12)):=by
  obtain⟨m,hm⟩:∃m,10001=(d.length+12)+(m+1):=⟨10001-(d.length+12)-1,by omega⟩
  rw[hm,walk_add,key _ (Nat.le_refl _)]
  show(if (0:Int)=0 then walkSt [lineF d] m (stepSt [lineF d] (stL (lineF d) (d.length+12))) else _)=_
  rw[if_pos rfl]
  cases m with
  |zero=>rfl
  |succ m=>
   show(if (stepSt [lineF d] (stL (lineF d) (d.length+12))).status=0 then _ else _)=_
   rw[if_neg (by rw[r1];decide)]
 rw[e]
 exact⟨r1,r2⟩
structure LineP(n vl:Nat)(R:Int)(s:SB)(y:SV):Prop where
 il:(s.part 0).ins.length=n
 cnt:vl+1=n
 all:∀v,v<vl→(y.F.getD v noF).k=1
 back:∃d:Nat,(s.insA 0 (n-1)).a=d∧d<vl∧(y.F.getD d noF).v=R
section
variable {d:List Ins}{O:List Nat}{bs:List BR}{l:List Int}{s s1 s2:SB}{K:Nat}{y:SV}
theorem makeF_known{op imm a b:Int}(h1:op≤12)(h2:op≠5):makeF op imm ⟨1,a⟩ ⟨1,b⟩=⟨1,mk op a b imm⟩:=by
 unfold makeF
 rw[if_neg (by show¬((1:Int)=0∨(1:Int)=0);omega),if_neg (by omega),if_neg (fun h=>h2 h.1),if_neg (by show¬((1:Int)=2∨(1:Int)=2);omega)]
theorem line_law(hd:DOk d)(h:BuiltX [lineF d] (lineF d) O bs K s1 s2 l s)(he:EndF (actsF (lineF d) bs s) bs.length (stF (lineF d).params.toNat (valN (lineF d) bs s2 l) bs.length) y):bs.length=1∧LineP (d.length+13) (valN (lineF d) bs s2 l) ((runR (lineF d) (d.length+12)).getD 1 0) s y:=by
 have hp:=right_of h.hk
 have hl:=hd.len
 have hH:=line_heads hd
 have hb:bs.length=1:=by rw[h.b.bok.len,hH];rfl
 have A0:hdA (lineF d) 0=0:=by unfold hdA;rw[hH];rfl
 have T0:toF (lineF d) 0=d.length+13:=by
  have:=lin_to hp h.hF (line_lin hd) (i:=0) (by rw[hH];decide)
  rw[hH,if_neg (by decide),A0,line_len] at this
  exact this
 have il:(s.part 0).ins.length=d.length+13:=by rw[h.finP.il 0 (by omega),A0,T0];rfl
 have S:=h.sys
 obtain⟨g,-,dn⟩:=S.done h.beg (by rw[stF_eq]) he
 have fm:=h.form he
 have ix:∀t,insAt (lineF d) (hdA (lineF d) 0+t)=insAt (lineF d) t:=fun t=>by rw[A0,Nat.zero_add]
 have iop:∀t,t<d.length+12→InsOk (insAt (lineF d) t) 12 (d.length+13:Nat) 1∧(insAt (lineF d) t).op≤12∧(insAt (lineF d) t).op≠5:=fun t ht=>by
  obtain⟨h1,h2⟩:=line_ins hd (line_at (d:=d) (i:=t) (by omega))
  refine⟨h1,?_⟩
  rcases h2 with h2|h2
  ·exact h2.2
  ·omega
 have sets:∀t,t<d.length+12→setsB (insAt (lineF d) t)=true:=fun t ht=>by
  obtain⟨h1,h2,-⟩:=iop t ht
  unfold setsB
  simp;omega
 have eR:insAt (lineF d) (d.length+12)=⟨19,0,1,0,0⟩:=by
  rcases(line_ins hd (line_at (d:=d) (i:=d.length+12) (by omega))).2 with h|h
  ·omega
  ·exact h.2
 have id0:∀t,t<d.length+12→0≤(s.insA 0 t).id:=fun t ht=>h.set1 (by omega) (by omega) (ix t) (sets t ht)
 have ph0:=(h.finP.lin h.b.bok hp h.hF (line_lin hd)).1 0 (by omega)
 have P0:(lineF d).params.toNat=0:=rfl
 obtain⟨gg,hgg⟩:∃x:Nat→Nat,(fun i=>(allG {s2 with same:=l} i).length)=x:=⟨_,rfl⟩
 obtain⟨cc,hcc⟩:∃x:Nat→Nat→Nat,(fun i t=>(insG {s2 with same:=l} i t).length)=x:=⟨_,rfl⟩
 have hf:=h.finP
 rw[hgg,hcc] at hf
 have c0t:∀t,t≤d.length+12→cc 0 t=t:=fun t=>by
  induction t with
  |zero=>intro _;exact hf.c0 0
  |succ t ih=>
   intro ht
   have:=((hf.iid 0 t (by omega) (by omega)).1 (id0 t (by omega))).2
   rw[this,ih (by omega)]
 have ids:∀t,t<d.length+12→(s.insA 0 t).id=(t:Int):=fun t ht=>by
  have:=((hf.iid 0 t (by omega) (by omega)).1 (id0 t ht)).1
  rw[P0,hf.g0,ph0,c0t t (by omega)] at this
  rw[this];congr 1;omega
 have idR:¬0≤(s.insA 0 (d.length+12)).id:=h.set0 (by omega) (by omega) ((ix _).trans eR) rfl
 have hv:valN (lineF d) bs s2 l=d.length+12:=by
  have h1:=hf.vals
  have h2:=hf.gs 0 (by omega)
  have h3:=(hf.iid 0 (d.length+12) (by omega) (by omega)).2 (by omega)
  rw[ph0,il,show d.length+13=d.length+12+1 from rfl,h3,c0t _ (Nat.le_refl _),hf.g0] at h2
  rw[h1,P0,hb,h2];omega
 have inv:∀t,t≤d.length+12→∀r,r<12→(r<t∨12≤t)→∃v:Nat,(atR s (lineF d) 0 t).getD r 0=v∧v<t∧ofF y.F v=⟨1,(runR (lineF d) t).getD r 0⟩:=fun t=>by
  induction t with
  |zero=>intro _ r _ h;omega
  |succ t ih=>
   intro ht r hr hrt
   obtain⟨io,o1,o2⟩:=iop t (by omega)
   have hdst:(insAt (lineF d) t).dst.toNat<12:=by have:=io.dst1;have:=io.dst2;omega
   have hat:=h.atX (r:=r) (t:=t) (d:=(insAt (lineF d) t).dst.toNat) (by omega) (ix t) rfl hdst (id0 t (by omega))
   have hsay:=h.sayX g dn (j:=0) (t:=t) (by omega) fm.m0 (by omega) (id0 t (by omega)) (ix t)
   obtain⟨ea,eb⟩:=h.aX (j:=0) (t:=t) (by omega) (by omega) (ix t)
   have hmk:ofF y.F (s.insA 0 t).id=⟨1,mk (insAt (lineF d) t).op ((runR (lineF d) t).getD (insAt (lineF d) t).a.toNat 0) ((runR (lineF d) t).getD (insAt (lineF d) t).b.toNat 0) (insAt (lineF d) t).imm⟩:=by
    rw[hsay]
    by_cases e1:(insAt (lineF d) t).op=1
    ·have uA:useA [lineF d] (insAt (lineF d) t)=false:=by unfold useA;rw[e1];rfl
     have uB:useB [lineF d] (insAt (lineF d) t)=false:=by unfold useB;rw[e1];rfl
     rw[ea,eb,uA,uB,e1]
     rfl
    ·have ht12:12≤t:=by
      rcases line_get (line_at (d:=d) (i:=t) (by omega)) with⟨h1,h2⟩|h2|h2
      ·exfalso;rw[h2] at e1;exact e1 rfl
      ·exact h2.1
      ·omega
     have:=io.op1
     have hop:∀(f:Int→Bool),(∀o:Int,2≤o→o≤12→f o=true)→f (insAt (lineF d) t).op=true:=fun f hf=>hf _ (by omega) o1
     have uA:useA [lineF d] (insAt (lineF d) t)=true:=by
      unfold useA
      have c1:=hop takesA (fun o h1 h2=>by
       have:o=2∨o=3∨o=4∨o=5∨o=6∨o=7∨o=8∨o=9∨o=10∨o=11∨o=12:=by omega
       rcases this with rfl|rfl|rfl|rfl|rfl|rfl|rfl|rfl|rfl|rfl|rfl<;>rfl)
      rw[c1]
      have:((insAt (lineF d) t).op !=17)=true:=by simp;omega
      rw[this];rfl
     have uB:useB [lineF d] (insAt (lineF d) t)=true:=by
      unfold useB
      have c1:=hop takesB (fun o h1 h2=>by
       have:o=2∨o=3∨o=4∨o=5∨o=6∨o=7∨o=8∨o=9∨o=10∨o=11∨o=12:=by omega
       rcases this with rfl|rfl|rfl|rfl|rfl|rfl|rfl|rfl|rfl|rfl|rfl<;>rfl)
      rw[c1]
      have:((insAt (lineF d) t).op !=17)=true:=by simp;omega
      rw[this];rfl
     have ha:=io.a1;have:=io.a2;have:=io.b1;have:=io.b2
     obtain⟨va,va1,-,va3⟩:=ih (by omega) (insAt (lineF d) t).a.toNat (by omega) (.inr ht12)
     obtain⟨vb,vb1,-,vb3⟩:=ih (by omega) (insAt (lineF d) t).b.toNat (by omega) (.inr ht12)
     rw[ea,eb,uA,uB,if_pos rfl,if_pos rfl,va1,vb1,va3,vb3,makeF_known o1 o2]
   show∃v:Nat,_∧_∧ofF y.F v=⟨1,((runR (lineF d) t).set _ _).getD r 0⟩
   rw[hat,getD_stf,runR_len]
   by_cases er:r=(insAt (lineF d) t).dst.toNat
   ·rw[if_pos er,if_pos ⟨er,hdst⟩]
    exact⟨t,ids t (by omega),by omega,by rw[←ids t (by omega)];exact hmk⟩
   ·rw[if_neg er,if_neg (fun e=>er e.1)]
    have hr2:r<t∨12≤t:=by
     rcases hrt with h1|h1
     ·by_cases e:t<12
      ·rcases line_get (line_at (d:=d) (i:=t) (by omega)) with⟨-,h2⟩|h2|h2
       ·have:(insAt (lineF d) t).dst.toNat=t:=by rw[h2];rfl
        omega
       ·omega
       ·omega
      ·omega
     ·by_cases e:t<12
      ·rcases line_get (line_at (d:=d) (i:=t) (by omega)) with⟨-,h2⟩|h2|h2
       ·have:(insAt (lineF d) t).dst.toNat=t:=by rw[h2];rfl
        omega
       ·omega
       ·omega
      ·omega
    obtain⟨v,v1,v2,v3⟩:=ih (by omega) r hr hr2
    exact⟨v,v1,by omega,v3⟩
 refine⟨hb,il,by omega,fun v hvl=> ?_,?_⟩
 ·rw[hv] at hvl
  have hio:=iop v hvl
  obtain⟨u,u1,u2,u3⟩:=inv (v+1) (by omega) (insAt (lineF d) v).dst.toNat (by have:=hio.1.dst1;have:=hio.1.dst2;omega) (by
   rcases line_get (line_at (d:=d) (i:=v) (by omega)) with⟨h1,h2⟩|h2|h2
   ·have:(insAt (lineF d) v).dst.toNat=v:=by rw[h2];rfl
    omega
   ·omega
   ·omega)
  have hat:=h.atX (r:=(insAt (lineF d) v).dst.toNat) (t:=v) (d:=(insAt (lineF d) v).dst.toNat) (by omega) (ix v) rfl (by have:=hio.1.dst1;have:=hio.1.dst2;omega) (id0 v hvl)
  rw[if_pos rfl,ids v hvl] at hat
  rw[hat] at u1
  have:u=v:=by omega
  subst this
  unfold ofF at u3
  rw[if_neg (by omega),Int.toNat_natCast] at u3
  rw[u3]
 ·obtain⟨v,v1,v2,v3⟩:=inv (d.length+12) (Nat.le_refl _) 1 (by omega) (.inr (by omega))
  refine⟨v,?_,by omega,?_⟩
  ·show(s.insA 0 (d.length+12)).a=v
   rw[(h.aX (j:=0) (t:=d.length+12) (by omega) (by omega) ((ix _).trans eR)).1,if_pos (by rfl)]
   exact v1
  ·unfold ofF at v3
   rw[if_neg (by omega),Int.toNat_natCast] at v3
   rw[v3]
end
end Go.Proofs.YtappljijljjkiaaDoor
