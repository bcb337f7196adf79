/-
  Plain: a run followed with its values. No program is in sight.
-/
import Derived.Test.YtedcjapmmnbamaaDoorSv6
import Derived.Test.YtedcjapmmnbamaaDoorFnS
namespace Go.Proofs.YtedcjapmmnbamaaDoor
open Go.RowKit Tier
section
variable {p:List Fnc}{F:Fnc}
theorem nextL_to{x:Ins}{pc:Nat}(h15:x.op≠15)(h19:x.op≠19):pc+1∈nextL x pc:=by
 unfold nextL;rw[if_neg h19,if_neg h15];split<;>simp
theorem bot_regs(hp:Right p){s:St}(hi:StInv p s)(hst:s.status=0)(hst' :(stepSt p s).status=0){f0:Fr}{rest:List Fr}(h0:s.frames=f0::rest):
 ∃f1 rest',(stepSt p s).frames=f1::rest' ∧f1.fn=f0.fn∧((f1=f0∧rest' ≠[]∧(rest=[]→(insOf p f0).op=17))∨(rest' =[]∧0≤f1.pc∧f1.pc.toNat∈nextL (insOf p f0) f0.pc.toNat∧((setsB (insOf p f0)=true∧∃y,f1.regs=f0.regs.set (insOf p f0).dst.toNat y)∨(setsB (insOf p f0)=false∧f1.regs=f0.regs)))):=by
 have hfu:s.fuel≠0:=fun e=>by
  unfold stepSt at hst';rw[if_pos e] at hst';simp at hst'
 obtain⟨fs,f,hf⟩:=hi.running hst
 have hfo:FrOk p f:=hi.fr f (by rw[hf];simp)
 have hio:=hp.ins hfo
 have pc0:=hfo.pc0
 have o1:=hio.op1
 have o2:=hio.op2
 rw[stepSt_exec hf hfu] at hst' ⊢
 have hon:(insOf p f).op≠15→(insOf p f).op≠19→(f.pc+1).toNat∈nextL (insOf p f) f.pc.toNat:=fun h15 h19=>by
  have e:(f.pc+1).toNat=f.pc.toNat+1:=by omega
  rw[e];exact nextL_to h15 h19
 rw[hf] at h0
 have top:∀g:Fr,g.fn=f.fn→0≤g.pc→g.pc.toNat∈nextL (insOf p f) f.pc.toNat→((setsB (insOf p f)=true∧∃y,g.regs=f.regs.set (insOf p f).dst.toNat y)∨(setsB (insOf p f)=false∧g.regs=f.regs))→∃f1 rest',fs++[g]=f1::rest' ∧f1.fn=f0.fn∧((f1=f0∧rest' ≠[]∧(rest=[]→(insOf p f0).op=17))∨(rest' =[]∧0≤f1.pc∧f1.pc.toNat∈nextL (insOf p f0) f0.pc.toNat∧((setsB (insOf p f0)=true∧∃y,f1.regs=f0.regs.set (insOf p f0).dst.toNat y)∨(setsB (insOf p f0)=false∧f1.regs=f0.regs)))):=fun g hg hg0 hn hr=>by
  cases fs with
  |nil=>
   simp at h0
   obtain⟨rfl,-⟩:=h0
   exact⟨g,[],rfl,hg, .inr ⟨rfl,hg0,hn,hr⟩⟩
  |cons f' fs=>
   simp at h0
   obtain⟨rfl,rfl⟩:=h0
   exact⟨f',fs++[g],rfl,rfl, .inl ⟨rfl,by simp,fun e=>by simp at e⟩⟩
 have s1:(insOf p f).op≤13→setsB (insOf p f)=true:=fun h=>by unfold setsB;simp[h]
 have s2:(insOf p f).op=17∨(insOf p f).op=18→setsB (insOf p f)=true:=fun h=>by unfold setsB;rcases h with h|h<;>simp[h]
 have s3:(insOf p f).op=14∨(insOf p f).op=15∨(insOf p f).op=16→setsB (insOf p f)=false:=fun h=>by unfold setsB;rcases h with h|h|h<;>simp[h]
 rcases exec_split (p:=p) fs f with⟨a1,h⟩|⟨a1,h⟩|⟨a1,h⟩|⟨a1,-,-,h⟩|⟨a1,a2,a3,h⟩|⟨a1,h⟩|⟨a1,h⟩|⟨a1,-,h⟩|⟨a1,-,h⟩|⟨a1,h⟩|⟨a1,a2,h⟩|⟨a1,gs,g,a2,h⟩
 case inl=>
  rw[h s]
  have h12:(insOf p f).op≤12:=by simp[mkOk] at a1;omega
  exact top _ rfl (by show 0≤f.pc+1;omega) (hon (by omega) (by omega)) (.inl ⟨s1 (by omega),_,rfl⟩)
 case inr.inl=>rw[h s] at hst';simp at hst'
 case inr.inr.inl=>rw[h s] at hst';simp at hst'
 case inr.inr.inr.inl=>rw[h s];exact top _ rfl (by show 0≤f.pc+1;omega) (hon (by omega) (by omega)) (.inl ⟨s1 (by omega),_,rfl⟩)
 case inr.inr.inr.inr.inl=>rw[h s];exact top (f.at (f.pc+1)) rfl (by show 0≤f.pc+1;omega) (hon (by omega) (by omega)) (.inr ⟨s3 (.inl a1),rfl⟩)
 case inr.inr.inr.inr.inr.inl=>
  rw[h s]
  exact top _ rfl (hio.jump (by omega)).1 (by unfold nextL;rw[if_neg (by omega),if_pos a1];simp[Fr.at]) (.inr ⟨s3 (.inr (.inl a1)),rfl⟩)
 case inr.inr.inr.inr.inr.inr.inl=>
  rw[h s]
  refine top _ rfl ?_ ?_ (.inr ⟨s3 (.inr (.inr a1)),rfl⟩)
  ·show 0≤(if f.reg (insOf p f).a=0 then f.pc+1 else(insOf p f).imm)
   split
   ·omega
   ·exact(hio.jump (by omega)).1
  ·show(if f.reg (insOf p f).a=0 then f.pc+1 else(insOf p f).imm).toNat∈_
   split
   ·exact hon (by omega) (by omega)
   ·unfold nextL;rw[if_neg (by omega),if_neg (by omega),if_pos a1];simp
 case inr.inr.inr.inr.inr.inr.inr.inl=>rw[h s] at hst';simp at hst'
 case inr.inr.inr.inr.inr.inr.inr.inr.inl=>
  rw[h s]
  cases fs with
  |nil=>
   simp at h0
   obtain⟨rfl,-⟩:=h0
   exact⟨f,_,rfl,rfl, .inl ⟨rfl,by simp,fun _=>a1⟩⟩
  |cons f' fs=>
   simp at h0
   obtain⟨rfl,rfl⟩:=h0
   exact⟨f',_,rfl,rfl, .inl ⟨rfl,by simp,fun e=>by simp at e⟩⟩
 case inr.inr.inr.inr.inr.inr.inr.inr.inr.inl=>rw[h s];exact top ((f.put (insOf p f).dst (s.answers.headD 0)).at (f.pc+1)) rfl (by show 0≤f.pc+1;omega) (hon (by omega) (by omega)) (.inl ⟨s2 (.inr a1),_,rfl⟩)
 case inr.inr.inr.inr.inr.inr.inr.inr.inr.inr.inl=>rw[h s] at hst';simp at hst'
 case inr.inr.inr.inr.inr.inr.inr.inr.inr.inr.inr=>
  rw[h s]
  subst a2
  cases gs with
  |nil=>
   simp at h0
   obtain⟨rfl,-⟩:=h0
   have hgo:FrOk p g:=hi.fr g (by rw[hf];simp)
   have hc:=(hi.calls [] [] g f (by rw[hf];simp)).1
   have hpc:=hgo.pc0
   refine⟨retFr p g (f.reg (insOf p f).a),[],rfl,rfl, .inr ⟨rfl,by show 0≤g.pc+1;omega,?_, .inl ⟨by unfold setsB;simp[hc],_,rfl⟩⟩⟩
   have e:(g.pc+1).toNat=g.pc.toNat+1:=by omega
   show(g.pc+1).toNat∈_
   rw[e];exact nextL_to (by omega) (by omega)
  |cons f' gs=>
   simp at h0
   obtain⟨rfl,rfl⟩:=h0
   exact⟨f',_,rfl,rfl, .inl ⟨rfl,by simp,fun e=>by simp at e⟩⟩
end
def OkV(L:Nat→Int)(m:Nat)(E:List Int)(D:List Bool)(R:List Int):Prop:=∀r,r<12→m.testBit r=true→∃v:Nat,L r=v∧v<E.length∧D.getD v false=true∧E.getD v 0=R.getD r 0
def phE(s:SB)(j kk:Nat)(E:List Int):Nat→List Int
 |0=>E
 |m+1=>(phE s j kk E m).set (s.phi j m).id.toNat (E.getD ((s.phi j m).args.getD kk 0).toNat 0)
def phD(s:SB)(j:Nat)(D:List Bool):Nat→List Bool
 |0=>D
 |m+1=>(phD s j D m).set (s.phi j m).id.toNat true
theorem phE_len(s:SB)(j kk:Nat)(E:List Int):∀m,(phE s j kk E m).length=E.length
 |0=>rfl
 |m+1=>by unfold phE;rw[List.length_set];exact phE_len s j kk E m
theorem phD_len(s:SB)(j:Nat)(D:List Bool):∀m,(phD s j D m).length=D.length
 |0=>rfl
 |m+1=>by unfold phD;rw[List.length_set];exact phD_len s j D m
theorem getD_setg{α:Type}(l:List α)(i j:Nat)(x d:α):(l.set i x).getD j d=if j=i∧i<l.length then x else l.getD j d:=by
 rw[gD,List.getElem?_set]
 by_cases e:i=j
 ·subst e
  rw[if_pos rfl]
  by_cases h:i<l.length
  ·rw[if_pos h,if_pos ⟨rfl,h⟩];rfl
  ·rw[if_neg h,if_neg (fun e=>h e.2),gD,List.getElem?_eq_none (by omega)]
 ·rw[if_neg e,if_neg (fun h=>e h.1.symm),gD]
theorem phE_out{s:SB}{j kk:Nat}{E:List Int}{v:Nat}:∀n,(∀m,m<n→(s.phi j m).id.toNat≠v)→(phE s j kk E n).getD v 0=E.getD v 0
 |0,_=>rfl
 |n+1,h=>by
  unfold phE
  rw[getD_setg,if_neg (fun e=>h n (by omega) e.1.symm)]
  exact phE_out n (fun m hm=>h m (by omega))
theorem phE_in{s:SB}{j kk:Nat}{E:List Int}{m:Nat}(hl:(s.phi j m).id.toNat<E.length):∀n,m<n→(∀m' m'',m' <n→m'' <n→(s.phi j m').id.toNat=(s.phi j m'').id.toNat→m' =m'')→(phE s j kk E n).getD (s.phi j m).id.toNat 0=E.getD ((s.phi j m).args.getD kk 0).toNat 0
 |0,h,_=>by omega
 |n+1,h,hi=>by
  unfold phE
  rw[getD_setg]
  by_cases e:m=n
  ·subst e
   rw[if_pos ⟨rfl,by rw[phE_len];exact hl⟩]
  ·rw[if_neg (fun h2=>e (hi m n h (by omega) h2.1))]
   exact phE_in hl n (by omega) (fun a b ha hb=>hi a b (by omega) (by omega))
theorem phD_mono{s:SB}{j:Nat}{D:List Bool}{v:Nat}(h:D.getD v false=true):∀n,(phD s j D n).getD v false=true
 |0=>h
 |n+1=>by
  unfold phD
  rw[getD_setg]
  split
  ·rfl
  ·exact phD_mono h n
theorem phD_in{s:SB}{j:Nat}{D:List Bool}{m:Nat}(hl:(s.phi j m).id.toNat<D.length):∀n,m<n→(phD s j D n).getD (s.phi j m).id.toNat false=true
 |0,h=>by omega
 |n+1,h=>by
  unfold phD
  rw[getD_setg]
  split
  ·rfl
  ·next e=>
   by_cases e2:m=n
   ·subst e2
    exact absurd ⟨rfl,by rw[phD_len];exact hl⟩ e
   ·exact phD_in hl n (by omega)
theorem phD_out{s:SB}{j:Nat}{D:List Bool}{v:Nat}:∀n,(∀m,m<n→(s.phi j m).id.toNat≠v)→(phD s j D n).getD v false=D.getD v false
 |0,_=>rfl
 |n+1,h=>by
  unfold phD
  rw[getD_setg,if_neg (fun e=>h n (by omega) e.1.symm)]
  exact phD_out n (fun m hm=>h m (by omega))
section
variable {p:List Fnc}{F:Fnc}{O:List Nat}{bs:List BR}{l:List Int}{s s1 s2:SB}{K:Nat}
theorem BuiltX.phid(h:BuiltX p F O bs K s1 s2 l s){j m:Nat}(hj:j<bs.length)(hm:m<(s.part j).phis.length):∃v:Nat,(s.phi j m).id=v∧v<valN F bs s2 l∧v=F.params.toNat+(allG {s2 with same:=l} j).length+m:=by
 obtain⟨t,t1,t2,t3⟩:=h.fphi hj hm
 have h1:=(h.finP.pid j m hj hm).1
 have h2:=h.toV_ge (v:=((lowB p F O bs K j+t:Nat):Int)) (by omega) (by have:=(gI.1 t3).1;omega)
 have hid:(s.phi j m).id=toV l (numM F bs s2 l) ((lowB p F O bs K j+t:Nat):Int):=by
  rw[t2]
  show toV l (numM F bs s2 l) (s2.phi j t).id=_
  rw[h.pid hj (by rw[h.phl];exact t1)]
 rw[←hid,h1] at h2
 exact⟨_,h1,by omega,rfl⟩
theorem BuiltX.phinj(h:BuiltX p F O bs K s1 s2 l s){j:Nat}(hj:j<bs.length):∀m m',m<(s.part j).phis.length→m' <(s.part j).phis.length→(s.phi j m).id.toNat=(s.phi j m').id.toNat→m=m' :=fun m m' hm hm' e=>by
 obtain⟨v,h1,-,h3⟩:=h.phid hj hm
 obtain⟨v',h1',-,h3'⟩:=h.phid hj hm'
 rw[h1,h1'] at e
 omega
theorem BuiltX.insid(h:BuiltX p F O bs K s1 s2 l s){j t:Nat}(hj:j<bs.length)(ht:t<(s.part j).ins.length)(h0:0≤(s.insA j t).id):∃v:Nat,(s.insA j t).id=v∧v<valN F bs s2 l:=by
 have ht2:=ht
 rw[h.il hj] at ht2
 have e:(s.insA j t).id=numV F bs s2 l ((s1.part j).ins.getD t noIns).id:=by rw[h.insV hj ht2];rfl
 have h1:=(h.numV_lt (h.idlt hj ht2)).1 (by rw[←e];exact h0)
 have h2:=h.toV_ge h1 (h.idlt hj ht2)
 have e2:numV F bs s2 l ((s1.part j).ins.getD t noIns).id=toV l (numM F bs s2 l) ((s1.part j).ins.getD t noIns).id:=rfl
 rw[e2] at e
 exact⟨(s.insA j t).id.toNat,by omega,by omega⟩
theorem OkV.enter(h:BuiltX p F O bs K s1 s2 l s){j:Nat}(hj:j<bs.length){q:Int}{kk:Nat}(hq:(prevL bs j)[kk]? =some q){E:List Int}{D:List Bool}{R:List Int}(hE:E.length=valN F bs s2 l)(hD:D.length=valN F bs s2 l)(ok:OkV (endV s F q) (O.getD (hdA F j) 0) E D R):
 OkV (fun r=>(atR s F j 0).getD r 0) (O.getD (hdA F j) 0) (phE s j kk E (s.part j).phis.length) (phD s j D (s.part j).phis.length) R:=fun r hr hb=>by
 obtain⟨u,u1,u2,u3,u4⟩:=ok r hr hb
 show∃v:Nat,(s.part j).inn.getD r 0=v∧_
 rw[phE_len]
 rcases h.come hj (gM hq) hr hb with⟨m,m1,m2,m3,m4⟩|⟨m1,m2⟩
 ·obtain⟨v,v1,v2,-⟩:=h.phid hj m1
  have ha:=m4 kk hq
  rw[u1] at ha
  have hl:(s.phi j m).id.toNat<E.length:=by rw[v1,hE];omega
  refine⟨v,by rw[←m3,v1],by omega,?_,?_⟩
  ·have:=phD_in (D:=D) (by rw[v1,hD];omega) _ m1
   rw[v1] at this;exact this
  ·have:=phE_in (kk:=kk) hl _ m1 (h.phinj hj)
   rw[v1,Int.toNat_natCast,gD,gD (l:=(s.phi j m).args),ha] at this
   rw[gD,this]
   exact u4
 ·rw[m1,u1] at *
  refine⟨u,rfl,u2,phD_mono u3 _,?_⟩
  rw[phE_out _ (fun m hm e=> ?_)]
  ·exact u4
  ·obtain⟨v,v1,-⟩:=h.phid hj hm
   exact m2 m hm (by rw[v1] at e⊢;omega)
theorem OkV.step(h:BuiltX p F O bs K s1 s2 l s){j t:Nat}(hj:j<bs.length)(ht:t<(s.part j).ins.length){E:List Int}{D:List Bool}{R R' :List Int}(hE:E.length=valN F bs s2 l)(hD:D.length=valN F bs s2 l)(hR:R.length=12)(ok:OkV (fun r=>(atR s F j t).getD r 0) (O.getD (hdA F j+t) 0) E D R){n:Nat}(hn:n∈nextL (insAt F (hdA F j+t)) (hdA F j+t))
 (hr:(setsB (insAt F (hdA F j+t))=true∧∃y,R' =R.set (insAt F (hdA F j+t)).dst.toNat y)∨(setsB (insAt F (hdA F j+t))=false∧R' =R)):
 OkV (fun r=>(atR s F j (t+1)).getD r 0) (O.getD n 0) (if 0≤(s.insA j t).id then E.set (s.insA j t).id.toNat (R'.getD (insAt F (hdA F j+t)).dst.toNat 0) else E) (if 0≤(s.insA j t).id then D.set (s.insA j t).id.toNat true else D) R' :=fun r hr12 hb=>by
 have hp:=right_of h.hk
 have hjH:j<(hdL F).length:=by rw[←h.b.bok.len];exact hj
 obtain⟨ham,-⟩:=hdA_mem2 hjH
 have hsp:=toF_spec hp h.hF ham
 have hil:=h.finP.il j hj
 have hpl:hdA F j+t<F.code.length:=by omega
 have hx:F.code[hdA F j+t]? =some (insAt F (hdA F j+t)):=by unfold insAt;rw[gD,gE hpl];rfl
 have hio:=(hp.ok.fn F h.hF).ins _ (gM hx)
 have hr2:=(hp.ok.fn F h.hF).r2
 have hpr:rchB F (hdA F j+t)=true:=cov_rch hp h.hF ham (by omega) (by omega)
 obtain⟨hp1,-⟩:=h.b.lok.pre (hdA F j+t) _ hpr hx
 have d1:=hio.dst1
 have d2:=hio.dst2
 have hset:=h.finP.iset j t hj ht
 have hl12:(atR s F j t).length=12:=atR_len (by
  unfold SB.part
  rw[gD,gE (by rw[h.b.len];exact hj)]
  exact h.finP.inn _ (List.getElem_mem _)) t
 show∃v:Nat,(if 0≤(s.insA j t).id then(atR s F j t).set (insAt F (hdA F j+t)).dst.toNat (s.insA j t).id else atR s F j t).getD r 0=v∧_
 rcases hr with⟨hs,y,rfl⟩|⟨hs,rfl⟩
 ·have h0:=hset.2 hs
  rw[if_pos h0,if_pos h0,if_pos h0]
  obtain⟨v,v1,v2⟩:=h.insid hj ht h0
  rw[v1,Int.toNat_natCast,List.length_set,getD_setg,getD_setg,getD_setg]
  have e1:(insAt F (hdA F j+t)).dst.toNat<R.length:=by omega
  have e2:(if (insAt F (hdA F j+t)).dst.toNat=(insAt F (hdA F j+t)).dst.toNat∧(insAt F (hdA F j+t)).dst.toNat<R.length then y else R.getD (insAt F (hdA F j+t)).dst.toNat 0)=y:=if_pos ⟨rfl,e1⟩
  rw[e2]
  by_cases er:r=(insAt F (hdA F j+t)).dst.toNat
  ·rw[if_pos ⟨er,by omega⟩,if_pos ⟨er,e1⟩]
   exact⟨v,rfl,by omega,by rw[getD_setg,if_pos ⟨rfl,by omega⟩],by rw[getD_setg,if_pos ⟨rfl,by omega⟩]⟩
  ·rw[if_neg (fun e=>er e.1),if_neg (fun e=>er e.1)]
   have hlv:(O.getD (hdA F j+t) 0).testBit r=true:=hp1 n hn r hb (by
    unfold setM
    rw[if_pos hs,Nat.testBit_two_pow]
    exact decide_eq_false (fun e=>er e.symm))
   obtain⟨u,u1,u2,u3,u4⟩:=ok r hr12 hlv
   have hne:u≠v:=fun e=>by
    have:=h.newVal hj ht h0 hr12 hlv
    rw[v1] at this
    exact this (by rw[←e];exact u1)
   refine⟨u,u1,u2,?_,?_⟩
   ·rw[getD_setg,if_neg (fun e=>hne e.1)];exact u3
   ·rw[getD_setg,if_neg (fun e=>hne e.1)];exact u4
 ·have h0:¬0≤(s.insA j t).id:=fun e=>by rw[hset.1 e] at hs;cases hs
  rw[if_neg h0,if_neg h0,if_neg h0]
  exact ok r hr12 (hp1 n hn r hb (by
   unfold setM
   rw[hs]
   exact Nat.zero_testBit r))
end
def noFr:Fr:=⟨0,0,[]⟩
structure FoS where
 st:St
 fr:Int
 E:List Int
 D:List Bool
def FoS.f(x:FoS):Fr:=x.st.frames.headD noFr
def blkF(F:Fnc)(pc:Nat):Nat:=((List.range (hdL F).length).find? fun b=>decide (hdA F b≤pc∧pc<toF F (hdA F b))).getD 0
def idA(s:SB)(F:Fnc)(j pc:Nat):Int:=(s.insA j (pc-hdA F j)).id
def watE(F:Fnc)(bs:List BR)(s:SB)(x:FoS):List Int:=if x.f.pc.toNat=hdA F (blkF F x.f.pc.toNat) then phE s (blkF F x.f.pc.toNat) ((prevL bs (blkF F x.f.pc.toNat)).idxOf x.fr) x.E (s.part (blkF F x.f.pc.toNat)).phis.length else x.E
def watD(F:Fnc)(s:SB)(x:FoS):List Bool:=if x.f.pc.toNat=hdA F (blkF F x.f.pc.toNat) then phD s (blkF F x.f.pc.toNat) x.D (s.part (blkF F x.f.pc.toNat)).phis.length else x.D
def made1(p:List Fnc)(F:Fnc)(s:SB)(x:FoS)(j:Nat)(E:List Int)(D:List Bool):FoS:=⟨stepSt p x.st,j,E.set (idA s F j x.f.pc.toNat).toNat (((stepSt p x.st).frames.headD noFr).regs.getD (insAt F x.f.pc.toNat).dst.toNat 0),D.set (idA s F j x.f.pc.toNat).toNat true⟩
def folNext(p:List Fnc)(F:Fnc)(bs:List BR)(s:SB)(x:FoS):FoS:=
 if x.st.frames.length=1 then
  if 0≤idA s F (blkF F x.f.pc.toNat) x.f.pc.toNat∧(stepSt p x.st).status=0∧(stepSt p x.st).frames.length=1 then made1 p F s x (blkF F x.f.pc.toNat) (watE F bs s x) (watD F s x)
  else⟨stepSt p x.st,blkF F x.f.pc.toNat,watE F bs s x,watD F s x⟩
 else if (stepSt p x.st).frames.length=1 then made1 p F s x x.fr.toNat x.E x.D
 else⟨stepSt p x.st,x.fr,x.E,x.D⟩
structure FolI(F:Fnc)(O:List Nat)(bs:List BR)(s:SB)(vl:Nat)(x:FoS):Prop where
 el:x.E.length=vl
 dl:x.D.length=vl
 bot:∃f rest,x.st.frames=f::rest∧f.fn=0∧0≤f.pc∧((rest=[]∧∃j,j<bs.length∧f.pc.toNat=hdA F j∧x.fr∈prevL bs j∧OkV (endV s F x.fr) (O.getD (hdA F j) 0) x.E x.D f.regs)∨
  (∃j t:Nat,x.fr=j∧j<bs.length∧f.pc.toNat=hdA F j+t∧t<(s.part j).ins.length∧(rest=[]→t≠0)∧(rest≠[]→(insAt F (hdA F j+t)).op=17)∧OkV (fun r=>(atR s F j t).getD r 0) (O.getD (hdA F j+t) 0) x.E x.D f.regs))
structure FolW(F:Fnc)(O:List Nat)(bs:List BR)(s:SB)(vl:Nat)(x:FoS)(f:Fr)(j t:Nat):Prop where
 fr:x.st.frames=[f]
 fn:f.fn=0
 pc:f.pc=((hdA F j+t:Nat):Int)
 jl:j<bs.length
 tl:t<(s.part j).ins.length
 blk:blkF F (hdA F j+t)=j
 el:(watE F bs s x).length=vl
 dl:(watD F s x).length=vl
 ok:OkV (fun r=>(atR s F j t).getD r 0) (O.getD (hdA F j+t) 0) (watE F bs s x) (watD F s x) f.regs
 ent:t=0→x.fr∈prevL bs j
 mid:t≠0→x.fr=j
section
variable {p:List Fnc}{F:Fnc}{O:List Nat}{bs:List BR}{l:List Int}{s s1 s2:SB}{K:Nat}
theorem blkF_eq(hp:Right p)(hF:F∈p){j pc:Nat}(hj:j<(hdL F).length)(h1:hdA F j≤pc)(h2:pc<toF F (hdA F j)):blkF F pc=j:=by
 have huni:∀b,b<(hdL F).length→hdA F b≤pc→pc<toF F (hdA F b)→b=j:=fun b hb h3 h4=>by
  have h5:=cov_one hp hF (hdA_mem2 hb).1 (hdA_mem2 hj).1 h3 h4 h1 h2
  rw[←posH_hdA2 (F:=F) hb,←posH_hdA2 (F:=F) hj,h5]
 unfold blkF
 cases hf:(List.range (hdL F).length).find? (fun b=>decide (hdA F b≤pc∧pc<toF F (hdA F b))) with
 |none=>
  have:=List.find?_eq_none.1 hf j (List.mem_range.2 hj)
  simp[h1,h2] at this
 |some b=>
  have h3:=List.find?_some hf
  have h4:=List.mem_of_find?_eq_some hf
  simp only[decide_eq_true_eq] at h3
  show b=j
  exact huni b (List.mem_range.1 h4) h3.1 h3.2
theorem FolI.watch(h:BuiltX p F O bs K s1 s2 l s){x:FoS}(hI:FolI F O bs s (valN F bs s2 l) x)(h1:x.st.frames.length=1):∃f j t,FolW F O bs s (valN F bs s2 l) x f j t:=by
 have hp:=right_of h.hk
 obtain⟨f,rest,e1,e2,e3,e4⟩:=hI.bot
 have hr:rest=[]:=by rw[e1] at h1;exact List.eq_nil_of_length_eq_zero (by simpa using h1)
 subst hr
 have hxf:x.f=f:=by unfold FoS.f;rw[e1];rfl
 rcases e4 with⟨-,j,j1,j2,j3,j4⟩|⟨j,t,j0,j1,j2,j3,j4,-,j5⟩
 ·have hjH:j<(hdL F).length:=by rw[←h.b.bok.len];exact j1
  have hsp:=toF_spec hp h.hF (hdA_mem2 hjH).1
  have hil:=h.finP.il j j1
  have hb:blkF F (hdA F j)=j:=blkF_eq hp h.hF hjH (Nat.le_refl _) hsp.1
  have hwE:watE F bs s x=phE s j ((prevL bs j).idxOf x.fr) x.E (s.part j).phis.length:=by
   unfold watE;rw[hxf,j2,hb,if_pos rfl]
  have hwD:watD F s x=phD s j x.D (s.part j).phis.length:=by
   unfold watD;rw[hxf,j2,hb,if_pos rfl]
  have hkk:(prevL bs j)[(prevL bs j).idxOf x.fr]? =some x.fr:=by
   rw[gE (List.idxOf_lt_length_of_mem j3),List.getElem_idxOf]
  refine⟨f,j,0,e1,e2,by rw[Nat.add_zero];omega,j1,by omega,hb,by rw[hwE,phE_len];exact hI.el,by rw[hwD,phD_len];exact hI.dl,?_,fun _=>j3,fun e=>absurd rfl e⟩
  rw[hwE,hwD]
  exact j4.enter h j1 hkk hI.el hI.dl
 ·have hjH:j<(hdL F).length:=by rw[←h.b.bok.len];exact j1
  have hil:=h.finP.il j j1
  have ht0:=j4 rfl
  have hb:blkF F (hdA F j+t)=j:=blkF_eq hp h.hF hjH (by omega) (by omega)
  have hwE:watE F bs s x=x.E:=by
   unfold watE;rw[hxf,j2,hb,if_neg (by omega)]
  have hwD:watD F s x=x.D:=by
   unfold watD;rw[hxf,j2,hb,if_neg (by omega)]
  exact⟨f,j,t,e1,e2,by omega,j1,j3,hb,by rw[hwE];exact hI.el,by rw[hwD];exact hI.dl,by rw[hwE,hwD];exact j5,fun e=>absurd e ht0,fun _=>j0⟩
theorem fol_behind(h:BuiltX p F O bs K s1 s2 l s){j t n:Nat}(hj:j<bs.length)(ht:t<(s.part j).ins.length)(hn:n∈nextL (insAt F (hdA F j+t)) (hdA F j+t)):(t+1<(s.part j).ins.length∧n=hdA F j+(t+1))∨(t+1=(s.part j).ins.length∧∃j',j' <bs.length∧n=hdA F j' ∧(j:Int)∈prevL bs j'):=by
 have hp:=right_of h.hk
 have hjH:j<(hdL F).length:=by rw[←h.b.bok.len];exact hj
 obtain⟨ham,-⟩:=hdA_mem2 hjH
 have hsp:=toF_spec hp h.hF ham
 have hil:=h.finP.il j hj
 by_cases e:t+1<(s.part j).ins.length
 ·left
  have ho:=cov_end hp h.hF ham (pc:=hdA F j+t) (by omega) (by omega)
  unfold nextL at hn
  rw[if_neg (by omega),if_neg (by omega),if_neg (by omega)] at hn
  have:n=hdA F j+t+1:=by simpa using hn
  exact⟨e,by omega⟩
 ·right
  have et:hdA F j+t=toF F (hdA F j)-1:=by omega
  have hnx:n∈nxN F (hdA F j):=by
   unfold nxN
   rw[nextS_mem,←et];exact hn
  have hh:=nxN_head hp h.hF ham hnx
  have hpos:=(gI.1 (posH_get hh)).1
  refine⟨by omega,posH F n,by rw[h.b.bok.len];exact hpos,(hdA_posH2 hh).symm,?_⟩
  rw[prevL_eq h.b.bok (by rw[h.b.bok.len];exact hpos)]
  exact prevF_mem.2 (.inr ⟨j,hjH,List.mem_map.2 ⟨n,hnx,rfl⟩,rfl⟩)
theorem fol_go(h:BuiltX p F O bs K s1 s2 l s){j t:Nat}(hj:j<bs.length)(ht:t<(s.part j).ins.length){E:List Int}{D:List Bool}{f f1:Fr}(hE:E.length=valN F bs s2 l)(hD:D.length=valN F bs s2 l)(hR:f.regs.length=12)(ok:OkV (fun r=>(atR s F j t).getD r 0) (O.getD (hdA F j+t) 0) E D f.regs){y:St}(hy:y.frames=[f1])(hfn:f1.fn=0)(hpc0:0≤f1.pc)(hn:f1.pc.toNat∈nextL (insAt F (hdA F j+t)) (hdA F j+t))
 (hr:(setsB (insAt F (hdA F j+t))=true∧∃y,f1.regs=f.regs.set (insAt F (hdA F j+t)).dst.toNat y)∨(setsB (insAt F (hdA F j+t))=false∧f1.regs=f.regs)):
 FolI F O bs s (valN F bs s2 l) ⟨y,j,if 0≤(s.insA j t).id then E.set (s.insA j t).id.toNat (f1.regs.getD (insAt F (hdA F j+t)).dst.toNat 0) else E,if 0≤(s.insA j t).id then D.set (s.insA j t).id.toNat true else D⟩:=by
 have hok:=ok.step h hj ht hE hD hR hn hr
 refine⟨?_,?_,f1,[],hy,hfn,hpc0,?_⟩
 ·show(if _ then _ else _:List Int).length=_
  split
  ·rw[List.length_set];exact hE
  ·exact hE
 ·show(if _ then _ else _:List Bool).length=_
  split
  ·rw[List.length_set];exact hD
  ·exact hD
 ·rcases fol_behind h hj ht hn with⟨e1,e2⟩|⟨e1,j',j1,j2,j3⟩
  ·right
   rw[e2] at hok
   exact⟨j,t+1,rfl,hj,e2,e1,fun _=>by omega,fun e=>absurd rfl e,hok⟩
  ·left
   rw[j2] at hok
   refine⟨rfl,j',j1,j2,j3,fun r hr hb=> ?_⟩
   obtain⟨v,v1,v2⟩:=hok r hr hb
   refine⟨v,?_,v2⟩
   show endV s F (j:Int) r=v
   unfold endV
   rw[if_pos (by omega),Int.toNat_natCast,←e1];exact v1
theorem FolW.next(h:BuiltX p F O bs K s1 s2 l s)(h0:p[0]? =some F){x:FoS}{f:Fr}{j t:Nat}(hW:FolW F O bs s (valN F bs s2 l) x f j t)(hi:StInv p x.st)(hst:x.st.status=0)(hst' :(stepSt p x.st).status=0):FolI F O bs s (valN F bs s2 l) (folNext p F bs s x):=by
 have hp:=right_of h.hk
 have hxf:x.f=f:=by unfold FoS.f;rw[hW.fr];rfl
 have hpcn:f.pc.toNat=hdA F j+t:=by rw[hW.pc,Int.toNat_natCast]
 have hins:insOf p f=insAt F (hdA F j+t):=by
  unfold insOf insAt
  rw[←hpcn]
  congr 2
  unfold fnOf
  rw[hW.fn]
  show p.getD 0 _=F
  rw[gD,h0];rfl
 have hid:idA s F j (hdA F j+t)=(s.insA j t).id:=by unfold idA;rw[Nat.add_sub_cancel_left]
 have hfr:FrOk p f:=hi.fr f (by rw[hW.fr];exact .head _)
 obtain⟨f1,rest',g1,g2,g3⟩:=bot_regs hp hi hst hst' hW.fr
 unfold folNext
 rw[if_pos (by rw[hW.fr];rfl),hxf,hpcn,hW.blk,hid]
 rcases g3 with⟨g3,g4,g5⟩|⟨g3,g4,g5,g6⟩
 ·rw[if_neg (fun e=>g4 (by
   have h2:=e.2.2
   rw[g1] at h2
   exact List.eq_nil_of_length_eq_zero (by simpa using h2)))]
  refine⟨hW.el,hW.dl,f1,rest',g1,by rw[g2,hW.fn],by rw[g3,hW.pc];omega, .inr ⟨j,t,rfl,hW.jl,by rw[g3];exact hpcn,hW.tl,fun e=>absurd e g4,fun _=>by rw[←hins];exact g5 rfl,by rw[g3];exact hW.ok⟩⟩
 ·rw[hins,hpcn] at g5
  rw[hins] at g6
  rw[g3] at g1
  have hgo:=fol_go h hW.jl hW.tl hW.el hW.dl hfr.regs hW.ok g1 (by rw[g2,hW.fn]) g4 g5 g6
  by_cases e:0≤(s.insA j t).id
  ·rw[if_pos ⟨e,hst',by rw[g1];rfl⟩]
   rw[if_pos e,if_pos e] at hgo
   unfold made1
   rw[hxf,hpcn,hid,g1]
   exact hgo
  ·rw[if_neg (fun e2=>e e2.1)]
   rw[if_neg e,if_neg e] at hgo
   exact hgo
theorem FolI.deep(h:BuiltX p F O bs K s1 s2 l s)(h0:p[0]? =some F){x:FoS}(hI:FolI F O bs s (valN F bs s2 l) x)(hl:x.st.frames.length≠1)(hi:StInv p x.st)(hst:x.st.status=0):
 ∃(f:Fr) (rest:List Fr) (j t:Nat),x.st.frames=f::rest∧x.fr=(j:Int)∧j<bs.length∧f.fn=0∧f.pc=((hdA F j+t:Nat):Int)∧t<(s.part j).ins.length∧(∃v:Nat,(s.insA j t).id=v∧v<valN F bs s2 l)∧((stepSt p x.st).status=0→FolI F O bs s (valN F bs s2 l) (folNext p F bs s x)):=by
 have hp:=right_of h.hk
 obtain⟨f,rest,e1,e2,e3,e4⟩:=hI.bot
 have hr:rest≠[]:=fun e=>hl (by rw[e1,e];rfl)
 rcases e4 with⟨e,-⟩|⟨j,t,j0,j1,j2,j3,-,j4,j5⟩
 ·exact absurd e hr
 have hxf:x.f=f:=by unfold FoS.f;rw[e1];rfl
 have h17:=j4 hr
 have hset:setsB (insAt F (hdA F j+t))=true:=by unfold setsB;simp[h17]
 have hid0:=(h.finP.iset j t j1 j3).2 hset
 have hins:insOf p f=insAt F (hdA F j+t):=by
  unfold insOf insAt
  rw[←j2]
  congr 2
  unfold fnOf
  rw[e2]
  show p.getD 0 _=F
  rw[gD,h0];rfl
 have hid:idA s F j (hdA F j+t)=(s.insA j t).id:=by unfold idA;rw[Nat.add_sub_cancel_left]
 refine⟨f,rest,j,t,e1,j0,j1,e2,by omega,j3,h.insid j1 j3 hid0,fun hst' => ?_⟩
 have hfr:FrOk p f:=hi.fr f (by rw[e1];exact .head _)
 obtain⟨f1,rest',g1,g2,g3⟩:=bot_regs hp hi hst hst' e1
 unfold folNext
 rw[if_neg hl]
 rcases g3 with⟨g3,g4,g5⟩|⟨g3,g4,g5,g6⟩
 ·rw[if_neg (fun e=>g4 (by
   rw[g1] at e
   exact List.eq_nil_of_length_eq_zero (by simpa using e)))]
  exact⟨hI.el,hI.dl,f1,rest',g1,by rw[g2,e2],by rw[g3];exact e3, .inr ⟨j,t,j0,j1,by rw[g3];exact j2,j3,fun e=>absurd e g4,fun _=>h17,by rw[g3];exact j5⟩⟩
 ·rw[hins,j2] at g5
  rw[hins] at g6
  rw[g3] at g1
  have hgo:=fol_go h j1 j3 hI.el hI.dl hfr.regs j5 g1 (by rw[g2,e2]) g4 g5 g6
  rw[if_pos hid0,if_pos hid0] at hgo
  rw[if_pos (by rw[g1];rfl)]
  unfold made1
  rw[hxf,j2,j0,Int.toNat_natCast,hid,g1]
  exact hgo
theorem FolI.start(h:BuiltX p F O bs K s1 s2 l s){st:St}{f:Fr}(hf:st.frames=[f])(hfn:f.fn=0)(hpc:f.pc=0){E:List Int}{D:List Bool}(hE:E.length=valN F bs s2 l)(hD:D.length=valN F bs s2 l)(hp:∀r,r<F.params.toNat→D.getD r false=true∧E.getD r 0=f.regs.getD r 0):FolI F O bs s (valN F bs s2 l) ⟨st,-1,E,D⟩:=by
 have hpr:=right_of h.hk
 have h0B:0<bs.length:=bs_pos h.hk h.hF h.b.bok
 have h00:hdA F 0=0:=hdA_eq (zero_head hpr h.hF)
 refine⟨hE,hD,f,[],hf,hfn,by omega, .inl ⟨rfl,0,h0B,by rw[hpc,h00];rfl,by rw[prevL_eq h.b.bok h0B];exact prevF_mem.2 (.inl ⟨rfl,rfl⟩),fun r hr hb=> ?_⟩⟩
 rw[h00] at hb
 have hrP:=live_entry h.hk h.hF h.b.lok hb
 obtain⟨q1,q2⟩:=hp r hrP
 refine⟨r,by show endV s F (-1) r=r;unfold endV;rw[if_neg (by omega)],?_,q1,q2⟩
 rw[hE]
 unfold valN
 omega
end
end Go.Proofs.YtedcjapmmnbamaaDoor
