/-
  Plain: code that only goes on has no phis, and as many values as parameters and what is set.
-/
import Derived.Test.YtappljijljjkiaaDoorZfSsV
namespace Go.Proofs.YtappljijljjkiaaDoor
open Go.RowKit Tier
def Lin(F:Fnc):Prop:=∀pc x,F.code[pc]? =some x→x.op≠15∧x.op≠16∧(x.op=19↔pc+1=F.code.length)
section
variable {p:List Fnc}{F:Fnc}
theorem insAt_get{pc:Nat}(h:pc<F.code.length):F.code[pc]? =some (insAt F pc):=by
 unfold insAt;rw[gD,gE h];rfl
theorem lin_next(h:Lin F){pc:Nat}(hl:pc<F.code.length){n:Nat}:n∈nextL (insAt F pc) pc↔n=pc+1∧pc+1<F.code.length:=by
 obtain⟨h1,h2,h3⟩:=h pc _ (insAt_get hl)
 unfold nextL
 by_cases e:(insAt F pc).op=19
 ·rw[if_pos e]
  have:=h3.1 e
  simp;omega
 ·rw[if_neg e,if_neg h1,if_neg h2]
  have:¬pc+1=F.code.length:=fun h=>e (h3.2 h)
  simp;omega
theorem lin_rch(hp:Right p)(hF:F∈p)(h:Lin F):∀pc,pc<F.code.length→rchB F pc=true
 |0,_=>rch_zero (hp.ok.fn F hF)
 |q+1,hq=>(hp.nextR hF (lin_rch hp hF h q (by omega)) (insAt_get (by omega)) ((lin_next h (by omega)).2 ⟨rfl,hq⟩)).2
theorem lin_nxN(hp:Right p)(hF:F∈p)(h:Lin F){a n:Nat}(ha:a∈hdL F)(hn:n∈nxN F a):n=toF F a:=by
 obtain⟨h1,h2,-⟩:=toF_spec hp hF ha
 unfold nxN at hn
 have:=((lin_next h (by omega)).1 ((nextS_mem _ _ _).1 hn)).1
 omega
theorem hdA_mono{i j:Nat}(hij:i<j)(hj:j<(hdL F).length):hdA F i<hdA F j:=by
 have:=List.pairwise_iff_getElem.1 (hdL_sorted F) i j (by omega) hj hij
 have e1:hdA F i=(hdL F)[i]:=hdA_eq (gE _)
 have e2:hdA F j=(hdL F)[j]:=hdA_eq (gE _)
 rw[e1,e2];exact this
theorem hdA_ex{a:Nat}(ha:a∈hdL F):∃j,j<(hdL F).length∧hdA F j=a:=by
 obtain⟨j,hj,e⟩:=List.getElem_of_mem ha
 exact⟨j,hj,hdA_eq (by rw[gE hj,e])⟩
theorem lin_prev(hp:Right p)(hF:F∈p)(h:Lin F)(i:Nat):(prevF F i).length≤1:=by
 have hd:(prevF F i).Nodup:=(prevF_sorted hp hF i).imp (fun h=>by omega)
 have hz:∀q,q<(hdL F).length→i∈nxI F (hdA F q)→hdA F i=toF F (hdA F q)∧0<toF F (hdA F q):=fun q hq hi=>by
  have ha:=(hdA_mem2 hq).1
  unfold nxI at hi
  obtain⟨n,hn,e⟩:=List.mem_map.1 hi
  have h1:=lin_nxN hp hF h ha hn
  have h2:=nxN_head hp hF ha hn
  have h3:=(toF_spec hp hF ha).1
  rw[←e,hdA_posH2 h2,h1]
  exact⟨rfl,by omega⟩
 have key:∀x∈prevF F i,∀y∈prevF F i,x=y:=fun x hx y hy=>by
  rcases prevF_mem.1 hx with⟨e1,e2⟩|⟨q,hq,hi,e2⟩
  ·rcases prevF_mem.1 hy with⟨g1,g2⟩|⟨q',hq',hi',g2⟩
   ·rw[e2,g2]
   ·have h1:=hz q' hq' hi'
    have h0:hdA F 0=0:=hdA_eq (zero_head hp hF)
    rw[e1,h0] at h1
    omega
  ·rcases prevF_mem.1 hy with⟨g1,g2⟩|⟨q',hq',hi',g2⟩
   ·have h1:=hz q hq hi
    have h0:hdA F 0=0:=hdA_eq (zero_head hp hF)
    rw[g1,h0] at h1
    omega
   ·have h1:=hz q hq hi
    have h2:=hz q' hq' hi'
    have m1:=(hdA_mem2 hq).1
    have m2:=(hdA_mem2 hq').1
    have s1:=(toF_spec hp hF m1).1
    have s2:=(toF_spec hp hF m2).1
    have h3:=cov_one hp hF m1 m2 (pc:=toF F (hdA F q)-1) (by omega) (by omega) (by omega) (by omega)
    have h4:=posH_hdA2 hq
    rw[h3,posH_hdA2 hq'] at h4
    rw[e2,g2,h4]
 match hm:prevF F i with
 |[]=>simp
 |[_]=>simp
 |x::y::l=>
  rw[hm] at key hd
  have e:=key x (by simp) y (by simp)
  rw[e] at hd
  simp at hd
theorem lin_to(hp:Right p)(hF:F∈p)(h:Lin F){i:Nat}(hi:i<(hdL F).length):toF F (hdA F i)=if i+1<(hdL F).length then hdA F (i+1) else F.code.length:=by
 have ha:=(hdA_mem2 hi).1
 obtain⟨t1,t2,-,-,t5⟩:=toF_spec hp hF ha
 have hnext:toF F (hdA F i)<F.code.length→∃j,i<j∧j<(hdL F).length∧hdA F j=toF F (hdA F i):=fun hlt=>by
  obtain⟨a',m,u1,u2⟩:=cov_ex hp hF _ hlt (lin_rch hp hF h _ hlt)
  have e:a' =toF F (hdA F i):=by
   by_cases e:a' <toF F (hdA F i)
   ·have:=cov_one hp hF m ha (pc:=toF F (hdA F i)-1) (by omega) (by omega) (by omega) (by omega)
    rw[this] at u2;omega
   ·omega
  obtain⟨j,hj,ej⟩:=hdA_ex m
  refine⟨j,?_,hj,by rw[ej,e]⟩
  by_cases c:j<i
  ·have:=hdA_mono c hi;omega
  ·by_cases c2:j=i
   ·subst c2;omega
   ·omega
 by_cases c:i+1<(hdL F).length
 ·rw[if_pos c]
  have m2:=(hdA_mem2 c).1
  have hlt:=hdA_mono (show i<i+1 by omega) c
  have hge:toF F (hdA F i)≤hdA F (i+1):=by
   by_cases e:hdA F (i+1)<toF F (hdA F i)
   ·have:=(t5 _ hlt e).1
    unfold stopB at this
    rw[Bool.or_eq_false_iff] at this
    have:=this.2
    simp[m2] at this
   ·omega
  have hM:hdA F (i+1)<F.code.length:=(hdL_mem.1 m2).1
  obtain⟨j,j1,j2,j3⟩:=hnext (by omega)
  by_cases e:j=i+1
  ·rw[←j3,e]
  ·have:=hdA_mono (show i+1<j by omega) j2
   omega
 ·rw[if_neg c]
  by_cases e:toF F (hdA F i)<F.code.length
  ·obtain⟨j,j1,j2,j3⟩:=hnext e
   omega
  ·omega
def cntS(F:Fnc)(n:Nat):Nat:=(F.code.take n).countP setsB
theorem cntS_succ{n:Nat}(h:n<F.code.length):cntS F (n+1)=cntS F n+if setsB (insAt F n)=true then 1 else 0:=by
 unfold cntS
 rw[List.take_succ_eq_append_getElem h,List.countP_append]
 have e:F.code[n]=insAt F n:=by have:=insAt_get h;rw[gE h] at this;exact Option.some.inj this
 rw[e];simp[List.countP_cons]
theorem FinP.lin{O:List Nat}{bs:List BR}{s:SB}{vals:Nat}{g:Nat→Nat}{c:Nat→Nat→Nat}(hf:FinP p F O bs s vals g c)(hb:BlkOk F bs)(hp:Right p)(hF:F∈p)(h:Lin F):(∀i,i<bs.length→(s.part i).phis.length=0)∧vals=F.params.toNat+F.code.countP setsB:=by
 have hph:∀i,i<bs.length→(s.part i).phis.length=0:=fun i hi=>by
  by_cases e:(s.part i).phis.length=0
  ·exact e
  ·have h1:=hf.pjn i hi (by omega)
   rw[prevL_eq hb hi] at h1
   have:=lin_prev hp hF h i
   omega
 refine⟨hph,?_⟩
 have hH:=hb.len
 have hcs:∀i,i<bs.length→∀t,hdA F i+t≤toF F (hdA F i)→cntS F (hdA F i+t)=cntS F (hdA F i)+c i t:=fun i hi t=>by
  have m:=(hdA_mem2 (F:=F) (show i<(hdL F).length by rw[←hH];exact hi)).1
  have hle:=(toF_spec hp hF m).2.1
  induction t with
  |zero=>intro _;rw[hf.c0];rfl
  |succ t ih=>
   intro ht
   have htl:t<(s.part i).ins.length:=by rw[hf.il i hi];omega
   have h1:=hf.iid i t hi htl
   have h2:=hf.iset i t hi htl
   rw[←Nat.add_assoc,cntS_succ (by omega),ih (by omega)]
   by_cases e:setsB (insAt F (hdA F i+t))=true
   ·rw[if_pos e,(h1.1 (h2.2 e)).2];omega
   ·rw[if_neg e,h1.2 (Int.not_le.1 (fun h=>e (h2.1 h)))];omega
 have hg:∀i,i≤bs.length→g i=cntS F (if i<bs.length then hdA F i else F.code.length):=fun i=>by
  induction i with
  |zero=>
   intro _
   have h0:hdA F 0=0:=hdA_eq (zero_head hp hF)
   have hpos:=(gI.1 (zero_head hp hF)).1
   rw[hf.g0,if_pos (by rw[hH];exact hpos),h0];rfl
  |succ i ih=>
   intro hi
   have hi1:i<bs.length:=by omega
   have m:=(hdA_mem2 (F:=F) (show i<(hdL F).length by rw[←hH];exact hi1)).1
   have h1:=(toF_spec hp hF m).1
   have h2:=hcs i hi1 (toF F (hdA F i)-hdA F i) (by omega)
   have h3:=lin_to hp hF h (show i<(hdL F).length by rw[←hH];exact hi1)
   rw[show hdA F i+(toF F (hdA F i)-hdA F i)=toF F (hdA F i) by omega] at h2
   rw[hf.gs i hi1,hph i hi1,ih (by omega),if_pos hi1,hf.il i hi1]
   rw[←hH] at h3
   rw[←h3,h2];omega
 rw[hf.vals,hg bs.length (Nat.le_refl _),if_neg (by omega)]
 unfold cntS
 rw[List.take_length]
end
end Go.Proofs.YtappljijljjkiaaDoor
