import Derived.Test.YtedcjapmmnbamaaDoorSv5
import Derived.Deep.CutBlock
import Derived.Deep.CutRange
import Derived.Deep.DeepCutAuto
namespace Go.Proofs.YtedcjapmmnbamaaDoor
open Go.RowKit Tier
section
variable {p:List Fnc}{F:Fnc}{O:List Nat}{bs:List BR}{l:List Int}{s s1 s2:SB}{K:Nat}
theorem bod_keep(hp:Right p)(hF:F∈p)(hO:LiveOk p F O){a:Nat}(ha:a∈hdL F){R:List Int}(hR:R.length=12)(S:List Int){r:Nat}(hr:r<12):∀n,a+n≤toF F a→
 (∃t,t<n∧(bodTo p F a R S n).R.getD r 0=((bodTo p F a R S n).I.getD t noIns).id∧0≤(bodTo p F a R S n).R.getD r 0)∨
 ((bodTo p F a R S n).R.getD r 0=R.getD r 0∧∀m,((n=0∧m=a)∨(0<n∧m∈nextL (insAt F (a+n-1)) (a+n-1)))→(O.getD m 0).testBit r=true→(O.getD a 0).testBit r=true)
 |0,_=> .inr ⟨rfl,fun m hm h=>by
  rcases hm with⟨_,rfl⟩|⟨h2,_⟩
  ·exact h
  ·omega⟩
 |n+1,hn=>by
  have h:=bod_keep hp hF hO ha hR S hr n (by omega)
  obtain⟨hl1,hl2,hl3⟩:=bodTo_len p F a hR S n
  rw[bodTo_succ]
  generalize bodTo p F a R S n=y at h hl1 hl2 hl3
  have hpr:rchB F (a+n)=true:=cov_rch hp hF ha (by omega) (by omega)
  have hpl:a+n<F.code.length:=by have:=(toF_spec hp hF ha).2.1;omega
  have hx:F.code[a+n]? =some (insAt F (a+n)):=by unfold insAt;rw[gD,gE hpl];rfl
  have hio:=(hp.ok.fn F hF).ins _ (gM hx)
  have hr12:=(hp.ok.fn F hF).r2
  obtain⟨hp1,-⟩:=hO.pre (a+n) _ hpr hx
  have hat:(n=0∧a+n=a)∨(0<n∧a+n∈nextL (insAt F (a+n-1)) (a+n-1)):=by
   by_cases e:n=0
   ·subst e;exact .inl ⟨rfl,rfl⟩
   ·right
    have ho:=cov_end hp hF ha (pc:=a+n-1) (by omega) (by omega)
    refine⟨by omega,?_⟩
    unfold nextL
    rw[if_neg (by omega),if_neg (by omega),if_neg (by omega),show a+n-1+1=a+n by omega]
    exact .head _
  generalize hxx:insAt F (a+n)=x at hx hio hp1
  have d1:=hio.dst1
  have d2:=hio.dst2
  have hstep:bodStep p F y (a+n)=if setsB x=true then⟨y.R.set x.dst.toNat (y.S.length:Int),y.I++[insV p x y.R (a+n) (y.S.length:Int)],y.S++[(y.S.length:Int)]⟩ else⟨y.R,y.I++[insV p x y.R (a+n) (-1)],y.S⟩:=by
   unfold bodStep
   rw[hxx]
  have hI:∀(z:InsS) (t:Nat),t<n+1→(y.I++[z]).getD t noIns=if t<n then y.I.getD t noIns else z:=fun z t ht=>by
   rw[getD_snoc' _ _ _ (by rw[List.length_append,hl3,List.length_singleton];exact ht),hl3]
  have hnx:∀m,((n+1=0∧m=a)∨(0<n+1∧m∈nextL (insAt F (a+(n+1)-1)) (a+(n+1)-1)))→m∈nextL x (a+n):=fun m hm=>by
   rcases hm with⟨h,_⟩|⟨_,hm⟩
   ·omega
   ·rw[show a+(n+1)-1=a+n by omega,hxx] at hm;exact hm
  rw[hstep]
  cases hs:setsB x with
  |true=>
   rw[if_pos rfl]
   by_cases e:r=x.dst.toNat
   ·left
    refine⟨n,by omega,?_,?_⟩
    ·show(y.R.set x.dst.toNat _).getD r 0=((y.I++[_]).getD n noIns).id
     rw[getD_set _ (by omega),if_pos e,hI _ n (by omega),if_neg (by omega)];rfl
    ·show 0≤(y.R.set x.dst.toNat _).getD r 0
     rw[getD_set _ (by omega),if_pos e];omega
   ·have e1:(y.R.set x.dst.toNat (y.S.length:Int)).getD r 0=y.R.getD r 0:=by rw[getD_set _ (by omega),if_neg e]
    rcases h with⟨t,h1,h2,h3⟩|⟨h1,h2⟩
    ·left
     exact⟨t,by omega,by
      show(y.R.set x.dst.toNat _).getD r 0=((y.I++[_]).getD t noIns).id
      rw[e1,hI _ t (by omega),if_pos h1];exact h2,by
      show 0≤(y.R.set x.dst.toNat _).getD r 0
      rw[e1];exact h3⟩
    ·right
     refine⟨by show(y.R.set x.dst.toNat _).getD r 0=_;rw[e1];exact h1,fun m hm hb=>h2 (a+n) hat (hp1 m (hnx m hm) r hb ?_)⟩
     unfold setM
     rw[if_pos hs,pow_bit]
     simpa using fun e' :x.dst.toNat=r=>e e'.symm
  |false=>
   rw[if_neg (by simp)]
   rcases h with⟨t,h1,h2,h3⟩|⟨h1,h2⟩
   ·left
    exact⟨t,by omega,by
     show y.R.getD r 0=((y.I++[_]).getD t noIns).id
     rw[hI _ t (by omega),if_pos h1];exact h2,h3⟩
   ·right
    refine⟨h1,fun m hm hb=>h2 (a+n) hat (hp1 m (hnx m hm) r hb ?_)⟩
    unfold setM
    rw[if_neg (by rw[hs];decide)];simp
structure SrcOk(F:Fnc)(O:List Nat)(bs:List BR)(j:Nat)(x:PartS)(B E:List Int)(ends:List (List Int)):Prop where
 keep:∀r,r<12→(∃t,t<x.ins.length∧E.getD r 0=(x.ins.getD t noIns).id∧0≤E.getD r 0)∨(E.getD r 0=B.getD r 0∧∀n∈nxI F (hdA F j),(O.getD (hdA F n) 0).testBit r=true→(O.getD (hdA F j) 0).testBit r=true)
 from0:jn bs j=false→j=0→∀r,(O.getD (hdA F j) 0).testBit r=true→B.getD r 0=(r:Int)
 fromq:jn bs j=false→j≠0→∃q:Nat,prevL bs j=[(q:Int)]∧∀r,(O.getD (hdA F j) 0).testBit r=true→B.getD r 0=(ends.getD q []).getD r 0
theorem src_all(hk:checkP p=0)(hF:F∈p)(hO:LiveOk p F O)(hb:BlkOk F bs){l:List Nat}(hl:l.Nodup)(hlm:∀j∈l,j<bs.length)(h00:l.getD 0 0=0)(hbe:Behind (fun i=>nxI F (hdA F i)) l):∀t,t≤l.length→∀u,u<t→∀j,l[u]? =some j→SrcOk F O bs j ((bldTo p F O bs l t).part j) ((bldTo p F O bs l t).began.getD j []) ((bldTo p F O bs l t).ends.getD j []) (bldTo p F O bs l t).ends
 |0,_=>fun u hu=>by omega
 |t+1,ht=>by
  have hp:=right_of hk
  have hi:l[t]? =some (l[t]'(by omega)):=gE _
  generalize l[t]'(by omega)=i at hi
  have hB:=binv hk hF hO hb hl hlm h00 hbe t (by omega)
  have ih:=src_all hk hF hO hb hl hlm h00 hbe t (by omega)
  rw[bldTo_succ p F O bs l hi]
  generalize hs:bldTo p F O bs l t=s at hB ih
  have hiB:=hlm i (gM hi)
  have hiH:i<(hdL F).length:=by rw[←hb.len];exact hiB
  have htl:=(gI.1 hi).1
  have hnt:∀u,u<t→∀j,l[u]? =some j→j≠i:=fun u hu j hj e=>by
   subst e
   have:=(List.getElem_inj (h₀:=(gI.1 hj).1) (h₁:=htl) hl).1 (by rw[(gI.1 hj).2,(gI.1 hi).2])
   omega
  have hin:i<s.parts.length:=by rw[hB.n];exact hiB
  have hpj:∀j,j≠i→(bldStep p F O bs s i).part j=s.part j:=fun j hj=>by
   have h:=part_set s hin ⟨(i:Int),(s.part i).phis++(bldX F O bs s i).P,(s.part i).ins++(bldY p F O bs s i).I,(s.part i).inn⟩ j
   rw[if_neg hj] at h
   exact h
  have hej:∀j,(bldStep p F O bs s i).ends.getD j []=if j=i then(bldY p F O bs s i).R else s.ends.getD j []:=fun j=>getD_set _ (by rw[hB.ne];exact hiB) _ _ j
  have hbj:∀j,(bldStep p F O bs s i).began.getD j []=if j=i then(bldX F O bs s i).R else s.began.getD j []:=fun j=>getD_set _ (by rw[hB.nb];exact hiB) _ _ j
  intro u hu j hj
  by_cases e:u=t
  ·subst e
   obtain rfl:=Option.some.inj (hi.symm.trans hj)
   have hni:i∉l.take u:=fun hm=>by
    obtain⟨v,hv,e⟩:=List.getElem_of_mem hm
    rw[List.length_take] at hv
    rw[List.getElem_take] at e
    exact hnt v (by omega) i (by rw[gE (by omega),e]) rfl
   have hz:=hB.un i hiB hni
   have hpart:(bldStep p F O bs s i).part i=⟨(i:Int),(bldX F O bs s i).P,(bldY p F O bs s i).I,zR⟩:=by
    have h:=part_set s hin ⟨(i:Int),(s.part i).phis++(bldX F O bs s i).P,(s.part i).ins++(bldY p F O bs s i).I,(s.part i).inn⟩ i
    rw[if_pos rfl] at h
    have h2:(bldStep p F O bs s i).part i=⟨(i:Int),(s.part i).phis++(bldX F O bs s i).P,(s.part i).ins++(bldY p F O bs s i).I,(s.part i).inn⟩:=h
    rw[h2,hz];rfl
   obtain⟨ham,-⟩:=hdA_mem2 hiH
   have hX:=ent_facts (jn bs i) i (O.getD (hdA F i) 0) (bldE bs s i) s.same F.regs.toNat (by have:=(hp.ok.fn F hF).r2;omega)
   have hXe:entTo (jn bs i) i (O.getD (hdA F i) 0) (bldE bs s i) s.same F.regs.toNat=bldX F O bs s i:=rfl
   rw[hXe] at hX
   obtain⟨hal,har⟩:=head_rch hp hF ham
   have hlr:∀r,(O.getD (hdA F i) 0).testBit r=true→r<F.regs.toNat:=fun r h=>live_regs hk hF hO har h
   have hsp:=toF_spec hp hF ham
   have hYe:bodTo p F (hdA F i) (bldX F O bs s i).R (bldX F O bs s i).S (toF F (hdA F i)-hdA F i)=bldY p F O bs s i:=rfl
   have hYl:=(bodTo_len p F (hdA F i) hX.rl (bldX F O bs s i).S (toF F (hdA F i)-hdA F i)).2.2
   rw[hYe] at hYl
   rw[hpart,hej,if_pos rfl,hbj,if_pos rfl]
   refine⟨fun r hr=> ?_,fun hj0 h0 r hr=> ?_,fun hj0 h0=> ?_⟩
   ·have h:=bod_keep hp hF hO ham hX.rl (bldX F O bs s i).S hr (toF F (hdA F i)-hdA F i) (by omega)
    rw[hYe] at h
    rcases h with⟨t,h1,h2,h3⟩|⟨h1,h2⟩
    ·exact .inl ⟨t,by show t<(bldY p F O bs s i).I.length;rw[hYl];exact h1,h2,h3⟩
    ·right
     refine⟨h1,fun n hn hbt=> ?_⟩
     unfold nxI at hn
     obtain⟨m,hm,rfl⟩:=List.mem_map.1 hn
     rw[hdA_posH2 (nxN_head hp hF ham hm)] at hbt
     refine h2 m (.inr ⟨by omega,?_⟩) hbt
     rw[show hdA F i+(toF F (hdA F i)-hdA F i)-1=toF F (hdA F i)-1 by omega]
     unfold nxN at hm
     exact(nextS_mem _ _ _).1 hm
   ·rw[hX.val r (hlr r hr) hr hj0,if_pos h0]
   ·obtain⟨q,v,hv,hq,hpl,hn⟩:=hB.single hk hF hb hl hlm h00 hbe hi hj0 h0
    refine⟨q,hpl,fun r hr=> ?_⟩
    rw[hX.val r (hlr r hr) hr hj0,if_neg h0,hej,if_neg (hnt v hv q hq)]
    unfold bldE
    rw[hpl]
    show(s.ends.getD ((q:Int).toNat) []).getD r 0=_
    rw[Int.toNat_natCast]
  ·have hji:=hnt u (by omega) j hj
   have h:=ih u (by omega) j hj
   rw[hpj j hji,hej,if_neg hji,hbj,if_neg hji]
   refine⟨h.keep,h.from0,fun hj0 h0=> ?_⟩
   obtain⟨q,h1,h2⟩:=h.fromq hj0 h0
   obtain⟨q',v,hv,hq',hpl,hn⟩:=(binv hk hF hO hb hl hlm h00 hbe u (by omega)).single hk hF hb hl hlm h00 hbe hj hj0 h0
   rw[hpl] at h1
   have e:q' =q:=by have:=List.cons.inj h1;omega
   subst e
   exact⟨q',hpl,fun r hr=>by rw[hej,if_neg (hnt v (by omega) q' hq')];exact h2 r hr⟩
theorem shr_args(ok:PhisOk s2)(h0:AllR s2.same)(hself:Self s2.same)(hA:∀i k,i<s2.parts.length→k<(s2.part i).phis.length→∀a∈(s2.phi i k).args,0≤a)(hinj:∀i k i' k',i<s2.parts.length→k<(s2.part i).phis.length→i' <s2.parts.length→k' <(s2.part i').phis.length→(s2.phi i k).id=(s2.phi i' k').id→i=i' ∧k=k')(h:Shr s2 l):∀i k,i<s2.parts.length→k<(s2.part i).phis.length→∀e:Nat,(s2.phi i k).id=e→l[e]? ≠some (e:Int)→∀a∈(s2.phi i k).args,rti l a=(rt l e:Nat):=by
 induction h with
 |base=>
  intro i k hi hk e he hne
  exfalso
  obtain⟨d,h1,h2⟩:=ok.id i k hi hk
  rw[he] at h1
  have:=Int.ofNat_inj.1 h1
  subst this
  exact hne (hself e h2)
 | @step l i0 k0 d x hs hi0 hk0 hd hr ht ih=>
  have hal:=hs.all ok h0
  obtain⟨hx1,hx2⟩:=trvP_root ok hal hs.len hi0 hk0 ht
  rw[hd] at hx2
  have hxd:x≠d:=by omega
  have hrt:∀v,v<l.length→rt (l.set d (x:Int)) v=if rt l v=d then x else rt l v:=fun v hv=>rt_set hal hr hx1 hxd hv
  intro i k hi hk e he hne a ha
  have ha0:=hA i k hi hk a ha
  have hal2:=(ok.arg i k hi hk a ha).2
  obtain⟨a',rfl⟩:∃n:Nat,a=n:=⟨a.toNat,by omega⟩
  have hlen:=hs.len
  obtain⟨e',he1,he2⟩:=ok.id i k hi hk
  rw[he] at he1
  have:=Int.ofNat_inj.1 he1
  subst this
  rw[rti_nat,hrt a' (by omega),hrt e (by omega)]
  by_cases hed:e=d
  ·subst hed
   rw[rt_root hr,if_pos rfl]
   have h1:=ht
   unfold trvP at h1
   have h2:=trv_all (s2.phi i0 k0).id ((s2.phi i0 k0).args.map (rti l)) (-1) (fun b hb=>by
    obtain⟨c,hc,rfl⟩:=List.mem_map.1 hb
    have hc0:=hA i0 k0 hi0 hk0 c hc
    obtain⟨c',rfl⟩:∃n:Nat,c=n:=⟨c.toNat,by omega⟩
    rw[rti_nat];omega) (by omega) (by rw[h1];omega)
   obtain⟨rfl,rfl⟩:=hinj i k i0 k0 hi hk hi0 hk0 (he.trans hd.symm)
   have h3:=h2.1 (rti l (a' :Int)) (List.mem_map.2 ⟨_,ha,rfl⟩)
   rw[h1,hd,rti_nat] at h3
   by_cases h4:rt l a' =e
   ·rw[if_pos h4]
   ·rw[if_neg h4];omega
  ·have h1:l[e]? ≠some (e:Int):=by
    rw[List.getElem?_set,if_neg (fun e2=>hed e2.symm)] at hne;exact hne
   have h2:=ih i k hi hk e he h1 _ ha
   rw[rti_nat] at h2
   rw[Int.ofNat_inj.1 h2]
theorem trv_neg(id:Int):∀(l:List Int) (v:Int),(∀a∈l,0≤a)→trv id l v<0→(0≤v→∃a∈l,a≠id∧a≠v)∧(v<0→(∀a∈l,a=id)∨∃a∈l,∃b∈l,a≠id∧b≠id∧a≠b)
 |[],v,_,h=>⟨fun h0=>by unfold trv at h;omega,fun _=> .inl (fun a ha=>by cases ha)⟩
 |a::l,v,hl,h=>by
  have ha:=hl a (.head _)
  have hl' :∀x∈l,0≤x:=fun x hx=>hl x (.tail _ hx)
  unfold trv at h
  by_cases e:a=id∨a=v
  ·rw[if_pos e] at h
   obtain⟨h1,h2⟩:=trv_neg id l v hl' h
   refine⟨fun h0=> ?_,fun h0=> ?_⟩
   ·obtain⟨b,hb,h3⟩:=h1 h0
    exact⟨b, .tail _ hb,h3⟩
   ·have ea:a=id:=by rcases e with e|e;exact e;omega
    rcases h2 h0 with h3|⟨b,hb,c,hc,h3⟩
    ·left
     intro x hx
     rcases List.mem_cons.1 hx with rfl|hx
     ·exact ea
     ·exact h3 x hx
    ·exact .inr ⟨b, .tail _ hb,c, .tail _ hc,h3⟩
  ·rw[if_neg e] at h
   have e1:a≠id:=fun h=>e (.inl h)
   have e2:a≠v:=fun h=>e (.inr h)
   refine⟨fun h0=>⟨a, .head _,e1,e2⟩,fun h0=> ?_⟩
   rw[if_neg (by omega)] at h
   obtain⟨b,hb,h3,h4⟩:=(trv_neg id l a hl' h).1 ha
   exact .inr ⟨a, .head _,b, .tail _ hb,e1,h3,fun e=>h4 e.symm⟩
theorem BuiltX.num_inj(h:BuiltX p F O bs K s1 s2 l s){u v:Nat}(hu:l[u]? =some (u:Int))(hv:l[v]? =some (v:Int))(he:numM F bs s2 l u=numM F bs s2 l v):u=v:=by
 have hn:=(h.nodup (Nat.le_refl _)).1
 have hge:∀v∈allG {s2 with same:=l} bs.length,F.params.toNat≤v:=fun v hv=>by
  obtain⟨i,hi,h1,-⟩:=(h.nodup (Nat.le_refl _)).2 v hv
  have:=h.raw.ge i hi;omega
 have key:∀w,(w∈allG {s2 with same:=l} bs.length∨w<F.params.toNat)→(∃k,∃hk:k<(allG {s2 with same:=l} bs.length).length,(allG {s2 with same:=l} bs.length)[k]=w∧numM F bs s2 l w=((F.params.toNat+k:Nat):Int))∨(w<F.params.toNat∧numM F bs s2 l w=(w:Int)):=fun w hw=>by
  by_cases hm:w∈allG {s2 with same:=l} bs.length
  ·obtain⟨k,hk,e⟩:=List.getElem_of_mem hm
   left
   refine⟨k,hk,e,?_⟩
   have h1:=numF_get F.params.toNat _ hn k hk
   rw[e] at h1;exact h1
  ·right
   have hw2:w<F.params.toNat:=by rcases hw with hw|hw;exact absurd hw hm;exact hw
   refine⟨hw2,?_⟩
   have h1:=numF_out F.params.toNat w _ hm
   rw[if_pos hw2] at h1;exact h1
 rcases key u (h.given hu) with⟨k,hk,e1,e2⟩|⟨e1,e2⟩<;>rcases key v (h.given hv) with⟨k',hk',f1,f2⟩|⟨f1,f2⟩
 ·have:k=k' :=by rw[e2,f2] at he;omega
  subst this
  rw[←e1,←f1]
 ·rw[e2,f2] at he;omega
 ·rw[e2,f2] at he;omega
 ·rw[e2,f2] at he;omega
theorem BuiltX.src(h:BuiltX p F O bs K s1 s2 l s){j:Nat}(hj:j<bs.length):SrcOk F O bs j (s1.part j) (s1.began.getD j []) (s1.ends.getD j []) s1.ends:=by
 obtain⟨h1,h2⟩:=ord_ok h.hk h.hF h.b.bok K
 obtain⟨u,hu,e⟩:=List.getElem_of_mem (ord_all h.hk h.hF h.b.bok h.b.ord j hj)
 have h3:=src_all h.hk h.hF h.b.lok h.b.bok h1.nodup h1.lt h1.fst h1.beh K (by rw[h.b.ord];exact Nat.le_refl _) u (Nat.lt_of_lt_of_eq hu h.b.ord) j (by rw[gE hu,e])
 rw[h.hs] at h3
 exact h3
theorem BuiltX.args(h:BuiltX p F O bs K s1 s2 l s){i k:Nat}(hi:i<bs.length)(hk:k<(s1.part i).phis.length):(s2.phi i k).args=fullA s1.ends (prevL bs i) (s1.phi i k).reg:=by
 have h5:=h.cls.arg i k hk
 rw[if_pos (.inl hi),h.fin.arg] at h5
 show s2.arg i k=_
 rw[h5];rfl
theorem BuiltX.other(h:BuiltX p F O bs K s1 s2 l s){i0 k0:Nat}(hi0:i0<bs.length)(hk0:k0<(s1.part i0).phis.length){d:Nat}(hd:(s2.phi i0 k0).id=d)(hroot:l[d]? =some (d:Int)):¬∀a∈(s2.phi i0 k0).args,rti l a=(d:Int):=by
 intro hall
 have hp:=right_of h.hk
 have hok2:=(h.fin.cls s2 (by rw[h.raw.inv.n];exact h.cls)).1
 have hal2:=(h.fin.cls s2 (by rw[h.raw.inv.n];exact h.cls)).2.1
 have hn2:=h.n2
 have hlen:=h.len
 have hself2:Self s2.same:=by rw[h.cls.same];exact h.raw.inv.self
 have hreg:∀i k,i<bs.length→k<(s1.part i).phis.length→∃r:Nat,(s1.phi i k).reg=r∧r<12∧(O.getD (hdA F i) 0).testBit r=true∧(s1.began.getD i []).getD r 0=(s1.phi i k).id:=fun i k hi hk=>by
  obtain⟨r,r1,r2,r3,r4,r5⟩:=(h.raw.part i hi).preg k hk
  exact⟨r,r1,r2,r4,r5⟩
 have hA:∀i k,i<s2.parts.length→k<(s2.part i).phis.length→∀a∈(s2.phi i k).args,0≤a:=fun i k hi hk a ha=>by
  rw[hn2] at hi
  rw[h.phl] at hk
  rw[h.args hi hk] at ha
  unfold fullA at ha
  obtain⟨q,hq,rfl⟩:=List.mem_map.1 ha
  obtain⟨r,r1,r2,r3,r4⟩:=hreg i k hi hk
  rw[r1]
  exact(comes_ok h.hk h.hF h.b.lok h.b.bok h.b.ord h.hs hi r2 r3 hq).1
 have hinj:∀i k i' k',i<s2.parts.length→k<(s2.part i).phis.length→i' <s2.parts.length→k' <(s2.part i').phis.length→(s2.phi i k).id=(s2.phi i' k').id→i=i' ∧k=k' :=fun i k i' k' hi hk hi' hk' he=>by
  rw[hn2] at hi hi'
  rw[h.pid hi hk,h.pid hi' hk'] at he
  have he:=Int.ofNat_inj.1 he
  rw[h.phl] at hk hk'
  have p1:=(h.raw.part i hi).plo
  have p2:=(h.raw.part i' hi').plo
  by_cases e:i=i'
  ·subst e;exact⟨rfl,by omega⟩
  ·rcases h.raw.ap i i' hi hi' e with h1|h1<;>omega
 have hsa:=shr_args hok2 hal2 hself2 hA hinj h.b.shr
 have hphi:∀i k,i<bs.length→k<(s1.part i).phis.length→rti l (s1.phi i k).id=(d:Int)→∀a∈(s2.phi i k).args,rti l a=(d:Int):=fun i k hi hk hr a ha=>by
  have hk2:k<(s2.part i).phis.length:=by rw[h.phl];exact hk
  have hid:=h.pid hi hk2
  rw[(h.cls.phi i k).2] at hid
  rw[hid,rti_nat] at hr
  have hr:=Int.ofNat_inj.1 hr
  by_cases e:l[lowB p F O bs K i+k]? =some ((lowB p F O bs K i+k:Nat):Int)
  ·rw[rt_root e] at hr
   have h1:=hinj i k i0 k0 (by rw[hn2];exact hi) hk2 (by rw[hn2];exact hi0) (by rw[h.phl];exact hk0) (by rw[(h.cls.phi i k).2,hid,hd,hr])
   obtain⟨rfl,rfl⟩:=h1
   exact hall a ha
  ·rw[hsa i k (by rw[hn2];exact hi) hk2 _ (by rw[(h.cls.phi i k).2,hid]) e a ha,hr]
 have hdlow:F.params.toNat≤d:=by
  have h1:=h.pid hi0 (by rw[h.phl];exact hk0)
  rw[hd] at h1
  have h1:=Int.ofNat_inj.1 h1
  have:=h.raw.ge i0 hi0
  omega
 have hpar:∀r:Nat,r<F.params.toNat→rti l (r:Int)≠(d:Int):=fun r hr e=>by
  have h1:l[r]? =some (r:Int):=by
   rw[h.b.shr.out (v:=r) (fun i k hi hk e2=>by
    rw[hn2] at hi
    rw[h.pid hi hk] at e2
    have:=h.raw.ge i hi
    omega),h.cls.same]
   exact h.raw.inv.self r (by have:=h.raw.inv.ge;omega)
  rw[rti_nat,rt_root h1] at e
  omega
 have hins:∀i t,i<bs.length→t<(s1.part i).ins.length→0≤((s1.part i).ins.getD t noIns).id→rti l ((s1.part i).ins.getD t noIns).id≠(d:Int):=fun i t hi ht h0 e=>by
  obtain⟨v,hv⟩:∃v:Nat,((s1.part i).ins.getD t noIns).id=v:=⟨((s1.part i).ins.getD t noIns).id.toNat,by omega⟩
  obtain⟨r1,r2,r3⟩:=h.iroot hi ht hv
  rw[hv,rti_nat,rt_root r1] at e
  have e:=Int.ofNat_inj.1 e
  have h1:=h.pid hi0 (by rw[h.phl];exact hk0)
  rw[hd] at h1
  have h1:=Int.ofNat_inj.1 h1
  have p1:=(h.raw.part i0 hi0).plo
  by_cases e2:i=i0
  ·subst e2;omega
  ·rcases h.raw.ap i i0 hi hi0 e2 with h3|h3<;>omega
 have hC:=blocks_ind hp h.hF (C:=fun j=>∀r,r<12→(O.getD (hdA F j) 0).testBit r=true→rti l ((s1.began.getD j []).getD r 0)≠(d:Int)) (fun r hr hb he=> ?_) (fun q hq hc n hn r hr hb he=> ?_) i0 (by rw[←h.b.bok.len];exact hi0)
 ·obtain⟨r,r1,r2,r3,r4⟩:=hreg i0 k0 hi0 hk0
  refine hC r r2 r3 ?_
  rw[r4,←(h.cls.phi i0 k0).2,hd,rti_nat,rt_root hroot]
 ·have h0B:0<bs.length:=bs_pos h.hk h.hF h.b.bok
  cases hj:jn bs 0 with
  |true=>
   obtain⟨k,h1,h2,h3⟩:=(h.raw.part 0 h0B).vj hj r hb
   have h2:(s1.phi 0 k).reg=(r:Int):=h2
   have h3:(s1.phi 0 k).id=(s1.began.getD 0 []).getD r 0:=h3
   have h4:=hphi 0 k h0B h1 (by rw[h3];exact he)
   have h00:hdA F 0=0:=hdA_eq (zero_head hp h.hF)
   rw[h00] at hb
   have hrP:=live_entry h.hk h.hF h.b.lok hb
   refine hpar r hrP (h4 (r:Int) ?_)
   rw[h.args h0B h1,h2]
   unfold fullA
   refine List.mem_map.2 ⟨-1,?_,by unfold comes;rw[if_neg (by omega)]⟩
   rw[prevL_eq h.b.bok h0B]
   exact prevF_mem.2 (.inl ⟨rfl,rfl⟩)
  |false=>
   rw[(h.src h0B).from0 hj rfl r hb] at he
   have h00:hdA F 0=0:=hdA_eq (zero_head hp h.hF)
   rw[h00] at hb
   exact hpar r (live_entry h.hk h.hF h.b.lok hb) he
 ·have hqB:q<bs.length:=by rw[h.b.bok.len];exact hq
  have hnB:=nx_lt h.hk h.hF h.b.bok q hqB n hn
  have hqm:(q:Int)∈prevL bs n:=by
   rw[prevL_eq h.b.bok hnB]
   exact prevF_mem.2 (.inr ⟨q,hq,hn,rfl⟩)
  have hE:rti l ((s1.ends.getD q []).getD r 0)=(d:Int):=by
   cases hj:jn bs n with
   |true=>
    obtain⟨k,h1,h2,h3⟩:=(h.raw.part n hnB).vj hj r hb
    have h2:(s1.phi n k).reg=(r:Int):=h2
    have h3:(s1.phi n k).id=(s1.began.getD n []).getD r 0:=h3
    refine hphi n k hnB h1 (by rw[h3];exact he) _ ?_
    rw[h.args hnB h1,h2]
    unfold fullA
    refine List.mem_map.2 ⟨(q:Int),hqm,?_⟩
    unfold comes
    rw[if_pos (by omega),Int.toNat_natCast,Int.toNat_natCast]
   |false=>
    by_cases e:n=0
    ·subst e
     exfalso
     have hm1:(-1:Int)∈prevL bs 0:=by rw[prevL_eq h.b.bok hnB];exact prevF_mem.2 (.inl ⟨rfl,rfl⟩)
     unfold jn at hj
     have hlen:¬((prevL bs 0).length:Int)>1:=of_decide_eq_false hj
     cases hpl:prevL bs 0 with
     |nil=>rw[hpl] at hm1;cases hm1
     |cons a r=>
      rw[hpl] at hlen hm1 hqm
      cases r with
      |nil=>
       have:=List.mem_singleton.1 hm1
       have:=List.mem_singleton.1 hqm
       omega
      |cons b r=>simp at hlen;omega
    ·obtain⟨q',hpl,hb2⟩:=(h.src hnB).fromq hj e
     rw[hpl] at hqm
     have:q' =q:=by have:=List.mem_singleton.1 hqm;omega
     subst this
     rw[←hb2 r hb];exact he
  rcases(h.src hqB).keep r hr with⟨t,h1,h2,h3⟩|⟨h1,h2⟩
  ·rw[h2] at hE h3
   exact hins q t hqB h1 h3 hE
  ·rw[h1] at hE
   exact hc r hr (h2 n hn hb) hE
theorem BuiltX.says(h:BuiltX p F O bs K s1 s2 l s){i k:Nat}(hi:i<bs.length)(hk:k<(s.part i).phis.length):∃a∈(s.phi i k).args,∃b∈(s.phi i k).args,a≠(s.phi i k).id∧b≠(s.phi i k).id∧a≠b:=by
 have hpt:s.part i=⟨(s2.part i).block,(keepF {s2 with same:=l} i).phis.map (toPhi l (numM F bs s2 l)),(s2.part i).ins.map (toIns l (numM F bs s2 l)),(s2.began.getD i []).map (toV l (numM F bs s2 l))⟩:=h.b.part i hi
 have hlen:=h.len
 rw[hpt] at hk
 simp only[List.length_map] at hk
 obtain⟨t,ht,hte⟩:=keepF_phi hk
 have ht1:t<(s1.part i).phis.length:=by rw[←h.phl];exact ht
 have hphi:s.phi i k=toPhi l (numM F bs s2 l) (s2.phi i t):=by
  unfold SB.phi
  rw[hpt]
  dsimp only
  rw[getD_map _ _ noPhi _ hk,hte];rfl
 have hid:=h.pid hi (by rw[h.phl];exact ht1)
 obtain⟨d,hd⟩:∃d,lowB p F O bs K i+t=d:=⟨_,rfl⟩
 rw[hd] at hid
 have hroot:l[d]? =some (d:Int):=by
  have hk2:k<(keptK {s2 with same:=l} i (s2.part i).phis.length).length:=by
   have:(keepF {s2 with same:=l} i).phis.length=(keptK {s2 with same:=l} i (s2.part i).phis.length).length:=by unfold keepF;rw[List.length_map];rfl
   omega
  have hm:=keptK_mem.1 (List.getElem_mem hk2)
  have e1:(keepF {s2 with same:=l} i).phis.getD k noPhi=s2.phi i (keptK {s2 with same:=l} i (s2.part i).phis.length)[k]:=by
   unfold keepF
   show(List.map (SB.phi {s2 with same:=l} i) (keptK {s2 with same:=l} i (s2.part i).phis.length)).getD k noPhi=_
   rw[getD_map _ _ 0 _ hk2,gD,gE hk2];rfl
  have e2:(s2.phi i (keptK {s2 with same:=l} i (s2.part i).phis.length)[k]).id=(d:Int):=by
   rw[←e1,hte];exact hid
  have h2:=hm.2
  have e3:(({s2 with same:=l}:SB).phi i (keptK {s2 with same:=l} i (s2.part i).phis.length)[k]).id=(d:Int):=e2
  rw[e3,Int.toNat_natCast] at h2
  exact h2
 have hdone:=h.b.done i t hi (by rw[h.phl];exact ht1) d hid hroot
 have hpos:∀a∈(s2.phi i t).args,0≤a∧a<(l.length:Int):=fun a ha=>by
  rw[h.args hi ht1] at ha
  unfold fullA at ha
  obtain⟨q,hq,rfl⟩:=List.mem_map.1 ha
  obtain⟨r,r1,r2,-,r4,-⟩:=(h.raw.part i hi).preg t ht1
  have r1:(s1.phi i t).reg=(r:Int):=r1
  rw[r1,hlen]
  exact comes_ok h.hk h.hF h.b.lok h.b.bok h.b.ord h.hs hi r2 r4 hq
 unfold trvP at hdone
 have hrp:∀a∈(s2.phi i t).args.map (rti l),0≤a:=fun a ha=>by
  obtain⟨b,hb,rfl⟩:=List.mem_map.1 ha
  obtain⟨h1,-⟩:=hpos b hb
  obtain⟨b',rfl⟩:∃n:Nat,b=n:=⟨b.toNat,by omega⟩
  rw[rti_nat];omega
 rcases(trv_neg _ _ (-1) hrp hdone).2 (by omega) with h1|⟨a,ha,b,hb,h1,h2,h3⟩
 ·exact absurd (fun a ha=>by rw[h1 _ (List.mem_map.2 ⟨a,ha,rfl⟩),hid]) (h.other hi ht1 hid hroot)
 ·obtain⟨a',ha',rfl⟩:=List.mem_map.1 ha
  obtain⟨b',hb',rfl⟩:=List.mem_map.1 hb
  obtain⟨pa1,pa2⟩:=hpos a' ha'
  obtain⟨pb1,pb2⟩:=hpos b' hb'
  obtain⟨a'',rfl⟩:∃n:Nat,a' =n:=⟨a'.toNat,by omega⟩
  obtain⟨b'',rfl⟩:∃n:Nat,b' =n:=⟨b'.toNat,by omega⟩
  rw[rti_nat,hid] at h1
  rw[rti_nat,hid] at h2
  rw[rti_nat,rti_nat] at h3
  have ra:=h.all.root (v:=a'') (by omega)
  have rb:=h.all.root (v:=b'') (by omega)
  have tv:∀v:Nat,toV l (numM F bs s2 l) (v:Int)=numM F bs s2 l (rt l v):=fun v=>by
   unfold toV
   rw[if_neg (by omega),Int.toNat_natCast]
  have tid:(s.phi i k).id=numM F bs s2 l d:=by
   rw[hphi]
   show toV l (numM F bs s2 l) (s2.phi i t).id=_
   rw[hid,tv,rt_root hroot]
  rw[tid,hphi]
  show∃a∈(s2.phi i t).args.map (toV l (numM F bs s2 l)),∃b∈(s2.phi i t).args.map (toV l (numM F bs s2 l)),_
  refine⟨_,List.mem_map.2 ⟨_,ha',rfl⟩,_,List.mem_map.2 ⟨_,hb',rfl⟩,fun e=> ?_,fun e=> ?_,fun e=> ?_⟩
  ·rw[tv] at e
   exact h1 (by rw[h.num_inj ra hroot e])
  ·rw[tv] at e
   exact h2 (by rw[h.num_inj rb hroot e])
  ·rw[tv,tv] at e
   exact h3 (by rw[h.num_inj ra rb e])
end
def atR(s:SB)(F:Fnc)(i:Nat):Nat→List Int
 |0=>(s.part i).inn
 |t+1=>if 0≤(s.insA i t).id then(atR s F i t).set (insAt F (hdA F i+t)).dst.toNat (s.insA i t).id else atR s F i t
theorem atR_len{s:SB}{F:Fnc}{i:Nat}(h:(s.part i).inn.length=12):∀t,(atR s F i t).length=12
 |0=>h
 |t+1=>by
  unfold atR
  split
  ·rw[List.length_set];exact atR_len h t
  ·exact atR_len h t
def hidR(m:Nat)(R:List Int)(r:Nat):List Int:=(List.range 12).map fun j=>if j<r∧m.testBit j=false then -1 else R.getD j 0
theorem hidR_len(m:Nat)(R:List Int)(r:Nat):(hidR m R r).length=12:=by simp[hidR]
theorem hidR_get(m:Nat)(R:List Int)(r:Nat){j:Nat}(hj:j<12):(hidR m R r)[j]? =some (if j<r∧m.testBit j=false then -1 else R.getD j 0):=by
 unfold hidR
 rw[List.getElem?_map,List.getElem?_range hj];rfl
theorem hidR_zero(m:Nat){R:List Int}(h:R.length=12):hidR m R 0=R:=by
 refine List.ext_getElem? (fun j=> ?_)
 by_cases hj:j<12
 ·rw[hidR_get m R 0 hj,if_neg (by omega),gD,gE (by omega)];rfl
 ·rw[List.getElem?_eq_none (by rw[hidR_len];omega),List.getElem?_eq_none (by omega)]
theorem hidR_live(m:Nat)(R:List Int){r:Nat}(h:m.testBit r=true):hidR m R (r+1)=hidR m R r:=by
 refine List.ext_getElem? (fun j=> ?_)
 by_cases hj:j<12
 ·rw[hidR_get m R _ hj,hidR_get m R _ hj]
  by_cases e:j=r
  ·subst e;simp[h]
  ·have e2:(j<r+1)↔(j<r):=by omega
   simp only[e2]
 ·rw[List.getElem?_eq_none (by rw[hidR_len];omega),List.getElem?_eq_none (by rw[hidR_len];omega)]
theorem hidR_dead(m:Nat)(R:List Int){r:Nat}(_hr:r<12)(h:m.testBit r=false):hidR m R (r+1)=(hidR m R r).set r (-1):=by
 refine List.ext_getElem? (fun j=> ?_)
 by_cases hj:j<12
 ·rw[hidR_get m R _ hj,List.getElem?_set,hidR_get m R _ hj,hidR_len]
  by_cases e:r=j
  ·subst e;rw[if_pos rfl,if_pos hj,if_pos ⟨by omega,h⟩]
  ·have e2:(j<r+1)↔(j<r):=by omega
   rw[if_neg e];simp only[e2]
 ·rw[List.getElem?_eq_none (by rw[hidR_len];omega),List.getElem?_eq_none (by rw[List.length_set,hidR_len];omega)]
theorem box_put{W:World}{L:Nat}{R:List Int}(h:W.heap[L]? =some (boxI R))(j:Nat)(v:Int):(W.setCell ⟨L,j,none⟩ (.int .i64 v)).heap[L]? =some (boxI (R.set j v)):=by
 unfold boxI at h⊢
 rw[block_set h]
 simp[intsV,List.map_set]
theorem box_fill{W:World}{L:Nat}{cs:Array Value}(h:W.heap[L]? =some (.cells cs 40 (0,0)))(R:List Int)(hl:(intsV R).length=cs.size):(W.setCells L 0 (intsV R)).heap[L]? =some (boxI R):=block_full h _ hl
theorem SbAt.innRange{w:World}{b:Nat}{c:SC}{s:SB}{V:SK→Value}(h:SbAt w b c s V)(hs:∀x∈s.parts,x.inn.length=12){g n cap:Nat}(hv:V .parts= .slice (some ⟨g,0,none⟩) n cap){i:Nat}(hi:i<s.parts.length):w.rangeAt g (i*15+3) (intsV (s.part i).inn):=fun j v hj=>by
 have hl:(s.part i).inn.length=12:=by
  unfold SB.part
  rw[gD,gE hi]
  exact hs _ (List.getElem_mem hi)
 have hj2:=(gI.1 hj).1
 have hj3:j<12:=by simpa [intsV,hl] using hj2
 rw[Nat.add_assoc,h.innCell hs hv hi hj3]
 unfold intsV at hj
 rw[List.getElem?_map] at hj
 rw[gD]
 cases e:(s.part i).inn[j]? with
 |none=>rw[e] at hj;cases hj
 |some a=>rw[e] at hj;simpa using hj
def AtRet(p:List Fnc)(F:Fnc)(pc B:Nat)(e:Ending)(w' :World):Prop:=∃(O:List Nat) (bs:List BR) (K:Nat) (s1 s2:SB) (l:List Int) (s:SB) (i ga ca:Nat),BuiltX p F O bs K s1 s2 l s∧i<bs.length∧hdA F i≤pc∧pc<toF F (hdA F i)∧e= .returned (.tuple #[.slice (some ⟨ga,0,none⟩) 12 ca, .int .i64 0])∧B≤ga∧ga<w'.heap.size∧∀r,r<12→w'.cell? ⟨ga,r,none⟩=some (.int .i64 (if (O.getD pc 0).testBit r=true then(atR s F i (pc-hdA F i)).getD r 0 else -1))
set_option maxRecDepth 100000 in
set_option maxHeartbeats 8000000 in
theorem at_any(p:List Fnc)(A:Option Addr)(cap1 k:Nat)(F:Fnc)(pc:Nat)(w1:World)(ht:Tab w1)(hp:ProgAt w1 (.slice A p.length cap1) p)(hk:checkP p=0)(hf:p[k]? =some F)(hpl:pc<F.code.length)(hrc:rchB F pc=true):
 Calls Tryd.prog 10 #[.agg #[.slice A p.length cap1], .int .i64 (k:Int), .int .i64 (pc:Int)] w1 fun e w' =>AtRet p F pc w1.heap.size e w' ∧Below w1.heap.size w1 w' :=by
 have hR:=right_of hk
 have hFm:=gM hf
 have hfo:=hR.ok.fn F hFm
 have hkl:=(gI.1 hf).1
 obtain⟨A0,cap0,hA0,hA⟩:=hp.slice
 simp only[Value.slice.injEq,true_and] at hA0
 obtain⟨g,hAg,hg,hfn⟩:=hA (by omega)
 obtain⟨rfl,rfl⟩:=hA0
 subst hAg
 obtain⟨u,hu,c0,c1,c2⟩:=hfn k F hf
 obtain⟨FA,fcap,rfl,hFA⟩:=hu.slice
 have HBU:=Lib.hid (fun(W:World) (h1:Tab W) (h2:ProgAt W (.slice (some ⟨g,0,none⟩) p.length cap1) p)=>build_all (some ⟨g,0,none⟩) cap1 k W h1 h2 hk hf)
 have HBK:=Lib.hid (fun(W:World) (h1:Tab W) (h2:ProgAt W (.slice (some ⟨g,0,none⟩) p.length cap1) p)=>blocks_any p (some ⟨g,0,none⟩) cap1 k F W h1 h2 hk hf)
 have HLV:=Lib.hid (fun(W:World) (h1:Tab W) (h2:ProgAt W (.slice (some ⟨g,0,none⟩) p.length cap1) p)=>live_any p (some ⟨g,0,none⟩) cap1 k F W h1 h2 hk hf)
 have HT:=Lib.hid ht
 have HCK:=Lib.hid hk
 have HFM:=Lib.hid hFm
 have HRT:=Lib.hid hR
 have HFO:=Lib.hid hfo
 have HFA:=Lib.hid hFA
 have HB1:Hid (Below w1.heap.size w1 w1):=Lib.hid (Below.refl _ _)
 have n1:=hfo.c1
 have n2:=hfo.c2
 obtain⟨M,hM⟩:∃M,F.code.length=M:=⟨_,rfl⟩
 have HM:=Lib.hid hM
 rw[hM] at n1 n2 c2
 have HRC:=Lib.hid hrc
 have HPC:=Lib.hid hpl
 have hpm:pc<M:=by rw[←hM];exact hpl
 have hpm1:(pc:Int)<M:=by omega
 have hpm0:(0:Int)≤pc:=by omega
 have hk0:(0:Int)≤k:=by omega
 obtain⟨N,hN⟩:∃N,p.length=N:=⟨_,rfl⟩
 have hk1:(k:Int)<N:=by omega
 rw[hN] at HBU HBK HLV hp⊢
 have HPA:=Lib.hid hp
 have HXA:=Lib.hid ((Below.refl w1.heap.size w1).alloc (Nat.le_refl _) (.cells #[.slice (some ⟨g,0,none⟩) N cap1] 29))
 clear hA hfn hu hFA hM hR hFm hfo hkl ht hp hk hf hpl hrc hN
 obtain⟨H,hH⟩:∃H,(hdL F).length=H:=⟨_,rfl⟩
 have HH:=Lib.hid hH
 have hHM:H≤40:=by have h1:=hdTo_len F F.code.length;have h2:hdTo F F.code.length=hdL F:=rfl;rw[h2,hH,HM.out] at h1;omega
 have hH1:0<H:=by have:=(gI.1 (zero_head HRT.out HFM.out)).1;omega
 obtain⟨gc,hgc,hgcl,hins⟩:=HFA.out (by rw[HM.out];omega)
 have HGC:=Lib.hid hgcl
 have HINS:=Lib.hid hins
 subst hgc
 obtain⟨P,hP⟩:∃n:Nat,F.params=n:=⟨F.params.toNat,by have:=HFO.out.p1;omega⟩
 have HPP:=Lib.hid hP
 have hP2:P≤2:=by have:=HFO.out.p2;omega
 rw[hP] at c0
 have HC0:=Lib.hid (show w1.cell? ⟨g,k*3,none⟩=some (.int .i64 (P:Int))∧w1.cell? ⟨g,k*3+1,none⟩=some (.int .i64 F.regs)∧w1.cell? ⟨g,k*3+2,none⟩=some (.slice (some ⟨gc,0,none⟩) M fcap) from⟨c0,c1,c2⟩)
 clear hH hins hgcl hP c0 c1 c2
 go_enter Tryd.func10,Tryd.ntmps10
 go_upto_region 2 with((go_at_call 12;go_must (refine(HBU.out _ (HT.out.keeps (HB1.out.alloc HB1.out.size _)) (HPA.out.keeps HXA.out)).mono ?_;rintro e w2 ⟨⟨b,c,s,V,O,bs,K,s2,l,rfl,hbb,hsb,hbl⟩,hb⟩;have HBX:=Lib.hid (BuiltX.mk hbl HCK.out HFM.out rfl:BuiltX p F O bs K _ s2 l s);have HFP:=Lib.hid HBX.out.finP;have hbsl:bs.length=H:=(by rw[hbl.bok.len,HH.out]);have HBL:=Lib.hid hbsl;obtain⟨Ap,cp,hvp,-,hpA⟩:=hsb.rowV .parts (n:=H) (by show s.parts.length=H;rw[HFP.out.len,hbsl]);obtain⟨gp,rfl,-,-⟩:=hpA hH1;have HVP:=Lib.hid hvp;obtain⟨vl,hvl⟩:∃v,valN F bs s2 l=v:=⟨_,rfl⟩;have HVL:=Lib.hid hvl;have HSB:=Lib.hid hsb;have HBB:=Lib.hid hbb;rw[hvp,show((F.params.toNat+(allG {s2 with same:=l} bs.length).length:Nat):Int)=((vl:Nat):Int) from congrArg Int.ofNat hvl,HPP.out];rw[hvl] at HFP;have HB12:=Lib.hid (HXA.out.trans (hb.mono HXA.out.size));have HX2:=Lib.hid ((hb.block w1.heap.size (by simp)).trans (heap_alloc_new w1 _));have q2:=cell_block HX2.out;have z2:=block_lt HX2.out;clear hbb hsb hbl hb hvp hvl hbsl hpA)))
 obtain⟨w3,hw3⟩:∃W,w2.alloc (.cells #[.int .i64 (P:Int), .int .i64 (vl:Int), .slice (some ⟨gp,0,none⟩) H cp] 50)=W:=⟨_,rfl⟩
 have HXS:Hid (w3.heap[w2.heap.size]? =some (.cells #[.int .i64 (P:Int), .int .i64 (vl:Int), .slice (some ⟨gp,0,none⟩) H cp] 50 (0,0))):=Lib.hid (hw3▸heap_alloc_new _ _)
 have HB23:Hid (Below w2.heap.size w2 w3):=Lib.hid (hw3▸(Below.refl _ _).alloc (Nat.le_refl _) _)
 have HB13:Hid (Below w1.heap.size w1 w3):=Lib.hid (HB12.out.trans (HB23.out.mono HB12.out.size))
 have HXP:Hid (w3.heap[w1.heap.size]? =some (.cells #[.slice (some ⟨g,0,none⟩) N cap1] 29 (0,0))):=Lib.hid ((HB23.out.block _ (block_lt HX2.out)).trans HX2.out)
 rw[hw3]
 obtain⟨Lp,hLp⟩:∃n,w1.heap.size=n:=⟨_,rfl⟩
 obtain⟨Ls,hLs⟩:∃n,w2.heap.size=n:=⟨_,rfl⟩
 have HLP:=Lib.hid hLp
 have HLS:=Lib.hid hLs
 rw[hLp,hLs]
 rw[hLp] at HXP
 rw[hLs] at HXS
 have p3:w3.cell? ⟨Lp,0,none⟩=some (.slice (some ⟨g,0,none⟩) N cap1):=cell_block HXP.out 0
 have zp3:=block_lt HXP.out
 clear hw3 q2 z2 hLp hLs
 have d0:w3.cell? ⟨g,k*3,none⟩=some (.int .i64 (P:Int)):=(HB13.out.cell (p:=⟨g,_,none⟩) hg).trans HC0.out.1
 have d1:w3.cell? ⟨g,k*3+1,none⟩=some (.int .i64 F.regs):=(HB13.out.cell (p:=⟨g,_,none⟩) hg).trans HC0.out.2.1
 have d2:w3.cell? ⟨g,k*3+2,none⟩=some (.slice (some ⟨gc,0,none⟩) M fcap):=(HB13.out.cell (p:=⟨g,_,none⟩) hg).trans HC0.out.2.2
 have zg3:=Nat.lt_of_lt_of_le hg HB13.out.size
 go_upto_region 7 with fail
 obtain⟨w5,hw5⟩:∃W,w3.alloc (.cells #[.int .i64 (P:Int), .int .i64 F.regs, .slice (some ⟨gc,0,none⟩) M fcap] 60)=W:=⟨_,rfl⟩
 have HXF:Hid (w5.heap[w3.heap.size]? =some (.cells #[.int .i64 (P:Int), .int .i64 F.regs, .slice (some ⟨gc,0,none⟩) M fcap] 60 (0,0))):=Lib.hid (hw5▸heap_alloc_new _ _)
 have HB35:Hid (Below w3.heap.size w3 w5):=Lib.hid (hw5▸(Below.refl _ _).alloc (Nat.le_refl _) _)
 have HB15:Hid (Below w1.heap.size w1 w5):=Lib.hid (HB13.out.trans (HB35.out.mono HB13.out.size))
 rw[hw5]
 obtain⟨Lf,hLf⟩:∃n,w3.heap.size=n:=⟨_,rfl⟩
 rw[hLf]
 rw[hLf] at HXF
 have p5:w5.cell? ⟨Lp,0,none⟩=some (.slice (some ⟨g,0,none⟩) N cap1):=(HB35.out.cell (p:=⟨Lp,_,none⟩) zp3).trans p3
 have zp5:=Nat.lt_of_lt_of_le zp3 HB35.out.size
 clear hw5 hLf p3 zp3 d0 d1 d2 zg3
 go_wp2_with (first|(go_at_call 24;go_must (refine(HLV.out _ (HT.out.keeps HB15.out) (HPA.out.keeps HB15.out)).mono ?_;rintro e w6 ⟨⟨lb,O2,rfl,hlb,hint,hlok⟩,hb⟩;rw[HM.out];have HB56:=Lib.hid hb;have hOO:O2=O:=hlok.unique HBX.out.b.lok;subst hOO;have HINT:=Lib.hid hint;obtain⟨Lm,hLm⟩:∃x,O2.getD pc 0=x:=⟨_,rfl⟩;have el:=hint.cell (outL_get (liveL_get HPC.out));rw[HRC.out,if_pos rfl,hLm] at el;have HLM:=Lib.hid hLm;have zlb:=hint.lt;have hl0:¬((Lm:Nat):Int)<0:=(by omega);have p6:w6.cell? ⟨Lp,0,none⟩=some (.slice (some ⟨g,0,none⟩) N cap1):=(hb.cell (p:=⟨Lp,_,none⟩) zp5).trans p5;have zp6:=Nat.lt_of_lt_of_le zp5 hb.size;clear hlb hint hlok hb hLm p5 zp5))|(go_at_call 18;go_must (refine(HBK.out _ (HT.out.keeps (HB15.out.trans (HB56.out.mono HB15.out.size))) (HPA.out.keeps (HB15.out.trans (HB56.out.mono HB15.out.size)))).mono ?_;rintro e w4 ⟨⟨gb,Bb,bs2,rfl,hgb,hBK,hOK⟩,hb⟩;rw[HH.out];have HB64:=Lib.hid hb;have HBLK:=Lib.hid hBK;have HOK2:=Lib.hid hOK;have el4:w4.cell? ⟨lb,pc,none⟩=some (.int .i64 (Lm:Int)):=(hb.cell (p:=⟨lb,_,none⟩) zlb).trans el;have zlb4:=Nat.lt_of_lt_of_le zlb hb.size;clear hgb hBK hOK hb p6 zp6 el zlb hl0)))
 have HB34:Hid (Below w3.heap.size w3 w4):=Lib.hid (HB35.out.trans ((HB56.out.trans (HB64.out.mono HB56.out.size)).mono HB35.out.size))
 have HBF:Hid (Below w5.heap.size w5 w4):=Lib.hid (HB56.out.trans (HB64.out.mono HB56.out.size))
 have HB14:Hid (Below w1.heap.size w1 w4):=Lib.hid (HB13.out.trans (HB34.out.mono HB13.out.size))
 have HB24:Hid (Below w2.heap.size w2 w4):=Lib.hid (HB23.out.trans (HB34.out.mono HB23.out.size))
 have HSB4:Hid (SbAt w4 b c s V):=Lib.hid (HSB.out.keeps HB24.out)
 have KS:=Lib.hid (fun(W:World) (hb:Below w4.heap.size w4 W)=>(⟨(hb.cell (p:=⟨Ls,_,none⟩) (Nat.lt_of_lt_of_le (block_lt HXS.out) HB34.out.size)).trans ((HB34.out.cell (p:=⟨Ls,_,none⟩) (block_lt HXS.out)).trans (cell_block HXS.out 0)),(hb.cell (p:=⟨Ls,_,none⟩) (Nat.lt_of_lt_of_le (block_lt HXS.out) HB34.out.size)).trans ((HB34.out.cell (p:=⟨Ls,_,none⟩) (block_lt HXS.out)).trans (cell_block HXS.out 1)),(hb.cell (p:=⟨Ls,_,none⟩) (Nat.lt_of_lt_of_le (block_lt HXS.out) HB34.out.size)).trans ((HB34.out.cell (p:=⟨Ls,_,none⟩) (block_lt HXS.out)).trans (cell_block HXS.out 2)),(hb.cell (p:=⟨Lp,_,none⟩) (Nat.lt_of_lt_of_le (block_lt HXP.out) HB34.out.size)).trans ((HB34.out.cell (p:=⟨Lp,_,none⟩) (block_lt HXP.out)).trans (cell_block HXP.out 0)),(hb.cell (p:=⟨g,_,none⟩) (Nat.lt_of_lt_of_le hg HB14.out.size)).trans ((HB14.out.cell (p:=⟨g,_,none⟩) hg).trans HC0.out.1),(hb.cell (p:=⟨g,_,none⟩) (Nat.lt_of_lt_of_le hg HB14.out.size)).trans ((HB14.out.cell (p:=⟨g,_,none⟩) hg).trans HC0.out.2.2),Nat.lt_of_lt_of_le (Nat.lt_of_lt_of_le (block_lt HXS.out) HB34.out.size) hb.size,Nat.lt_of_lt_of_le (Nat.lt_of_lt_of_le (block_lt HXP.out) HB34.out.size) hb.size,Nat.lt_of_lt_of_le (Nat.lt_of_lt_of_le hg HB14.out.size) hb.size,Nat.lt_of_lt_of_le (HSB4.out.rlt .parts (g:=gp) (by rw[HVP.out];rfl)).2 hb.size⟩:
  W.cell? ⟨Ls,0,none⟩=some (.int .i64 (P:Int))∧W.cell? ⟨Ls,1,none⟩=some (.int .i64 (vl:Int))∧W.cell? ⟨Ls,2,none⟩=some (.slice (some ⟨gp,0,none⟩) H cp)∧W.cell? ⟨Lp,0,none⟩=some (.slice (some ⟨g,0,none⟩) N cap1)∧W.cell? ⟨g,k*3,none⟩=some (.int .i64 (P:Int))∧W.cell? ⟨g,k*3+2,none⟩=some (.slice (some ⟨gc,0,none⟩) M fcap)∧Ls<W.heap.size∧Lp<W.heap.size∧g<W.heap.size∧gp<W.heap.size))
 have KSB:=Lib.hid (fun(W:World) (hb:Below w4.heap.size w4 W)=>(HSB4.out.keeps hb:SbAt W b c s V))
 have KB:=Lib.hid (fun(W:World) (hb:Below w4.heap.size w4 W) (i:Nat) (hi:i<H)=>(by
  obtain⟨r,hr⟩:∃r,bs2[i]? =some r:=⟨_,gE (by rw[HOK2.out.len,HH.out];exact hi)⟩
  obtain⟨e1,e2,-,e4⟩:=HOK2.out.at_ i r hr
  obtain⟨PA,pcap,hpv,-⟩:=own_slice (HBLK.out.rows.own i r true hr)
  have hpv' :r.pv= .slice PA r.pl.length pcap:=hpv
  have zb:=block_lt HBLK.out.blk
  have hpl:prevL bs i=prevF F i:=prevL_eq HBX.out.b.bok (by rw[HBL.out];exact hi)
  obtain⟨NA,ncap,hnv,-⟩:=own_slice (HBLK.out.rows.own i r false hr)
  have hnv' :r.nv= .slice NA r.nl.length ncap:=hnv
  exact⟨PA,pcap,NA,r.nl.length,ncap,(hb.cell (p:=⟨gb,_,none⟩) zb).trans ((HBLK.out.cell hr (j:=0) (by omega)).trans (by show some (Value.int .i64 r.fr)=_;rw[e1])),(hb.cell (p:=⟨gb,_,none⟩) zb).trans ((HBLK.out.cell hr (j:=1) (by omega)).trans (by show some (Value.int .i64 r.to)=_;rw[e2])),(hb.cell (p:=⟨gb,_,none⟩) zb).trans ((HBLK.out.cell hr (j:=2) (by omega)).trans (by show some r.nv=_;rw[hnv'])),(hb.cell (p:=⟨gb,_,none⟩) zb).trans ((HBLK.out.cell hr (j:=3) (by omega)).trans (by show some r.pv=_;rw[hpv',e4,←hpl])),Nat.lt_of_lt_of_le zb hb.size⟩:
  ∃PA pcap NA nn ncap,W.cell? ⟨gb,i*4,none⟩=some (.int .i64 (hdA F i:Int))∧W.cell? ⟨gb,i*4+1,none⟩=some (.int .i64 (toF F (hdA F i):Int))∧W.cell? ⟨gb,i*4+2,none⟩=some (.slice NA nn ncap)∧W.cell? ⟨gb,i*4+3,none⟩=some (.slice PA (prevL bs i).length pcap)∧gb<W.heap.size))
 have KF:=Lib.hid (fun(W:World) (hb:Below w4.heap.size w4 W)=>(⟨(hb.cell (p:=⟨Lf,_,none⟩) (Nat.lt_of_lt_of_le (block_lt HXF.out) HBF.out.size)).trans ((HBF.out.cell (p:=⟨Lf,_,none⟩) (block_lt HXF.out)).trans (cell_block HXF.out 2)),Nat.lt_of_lt_of_le (Nat.lt_of_lt_of_le (block_lt HXF.out) HBF.out.size) hb.size,(hb.cell (p:=⟨lb,_,none⟩) zlb4).trans el4,Nat.lt_of_lt_of_le zlb4 hb.size⟩:
  W.cell? ⟨Lf,2,none⟩=some (.slice (some ⟨gc,0,none⟩) M fcap)∧Lf<W.heap.size∧W.cell? ⟨lb,pc,none⟩=some (.int .i64 (Lm:Int))∧lb<W.heap.size))
 have HB45:Hid (Below w4.heap.size w4 w4):=Lib.hid (Below.refl _ _)
 clear el4 zlb4
 go_loopw [63] (fun v63 wr=>∃i:Nat,i≤H∧v63= .int .i64 (i:Int)∧(∀j,j<i→¬(hdA F j≤pc∧pc<toF F (hdA F j)))∧Below w4.heap.size w4 wr) (fun v63 _=>H-(intOf v63).toNat)
 case atStart=>exact⟨0,by omega,rfl,fun j hj=>by omega,HB45.out⟩
 case round=>
  obtain⟨i,hiH,rfl,hno,hb⟩:=hrel
  have HB:=Lib.hid hb
  have HNO:=Lib.hid hno
  by_cases hi0:i=H
  ·exfalso
   obtain⟨a,ha,h1,h2⟩:=cov_ex HRT.out HFM.out pc HPC.out HRC.out
   obtain⟨j,hj,he⟩:=List.getElem_of_mem ha
   have hja:hdA F j=a:=by unfold hdA;rw[gD,gE hj,he];rfl
   exact hno j (by rw[hi0,←HH.out];exact hj) (by rw[hja];exact⟨h1,h2⟩)
  ·have hi1:i<H:=by omega
   have hi2:(i:Int)<H:=by omega
   have hi3:(0:Int)≤i:=by omega
   obtain⟨PA,pcap,NA,nn,ncap,e0,e1,e2,e3,zgb⟩:=KB.out wr hb i hi1
   obtain⟨a,ha⟩:∃a,hdA F i=a:=⟨_,rfl⟩
   obtain⟨tf,htf⟩:∃t,toF F a=t:=⟨_,rfl⟩
   rw[ha] at e0 e1
   rw[htf] at e1
   have HAE:=Lib.hid ha
   have HTF:=Lib.hid htf
   obtain⟨pn,hpn⟩:∃n,(prevL bs i).length=n:=⟨_,rfl⟩
   rw[hpn] at e3
   clear hb hno hi0 ha htf hpn
   by_cases hin:a≤pc∧pc<tf
   ·have hin1:¬(pc:Int)<a:=by omega
    have hin2:¬(tf:Int)≤pc:=by omega
    have hin3:=hin.1
    have HIN:=Lib.hid hin
    clear hin
    go_upto_region 15 with fail
    obtain⟨wb,hwb⟩:∃W,wr.alloc (.cells #[.int .i64 (a:Int), .int .i64 (tf:Int), .slice NA nn ncap, .slice PA pn pcap] 71)=W:=⟨_,rfl⟩
    have HBb:Hid (Below w4.heap.size w4 wb):=Lib.hid (hwb▸HB.out.alloc HB.out.size _)
    rw[hwb]
    clear hwb e0 e1 e2 e3 zgb
    have hib:i<bs.length:=by rw[HBL.out];exact hi1
    have his:i<s.parts.length:=by rw[HFP.out.len];exact hib
    have hsb:=KSB.out wb HBb.out
    obtain⟨m,hm⟩:∃n,(s.part i).ins.length=n:=⟨_,rfl⟩
    have hmt:m=tf-a:=by rw[←hm,HFP.out.il i hib,HAE.out,HTF.out]
    obtain⟨Ai,ci,hvi,-,hiA⟩:=hsb.rowV (.ins i) (n:=m) hm
    obtain⟨gi,rfl,-,-⟩:=hiA (by have:=HIN.out.2;omega)
    have HVI:=Lib.hid hvi
    have k2:=(hsb.partCell HFP.out.inn HVP.out his).2
    rw[hvi] at k2
    have hR12:(s.part i).inn.length=12:=by
     unfold SB.part
     rw[gD,gE his]
     exact HFP.out.inn _ (List.getElem_mem his)
    have hrg:=hsb.innRange HFP.out.inn HVP.out his
    have HAT0:=Lib.hid (show atR s F i 0=(s.part i).inn from rfl)
    obtain⟨R0,hR0⟩:∃R,(s.part i).inn=R:=⟨_,rfl⟩
    rw[hR0] at hR12 hrg HAT0
    have HRG:=Lib.hid hrg
    have HR12:=Lib.hid hR12
    have HMT:=Lib.hid hmt
    have HIB:=Lib.hid hib
    have HIS:=Lib.hid his
    have HM1:=Lib.hid hm
    obtain⟨s0,s1',s2',s3,s4,s5,z0,z1,z2,z3⟩:=KS.out wb HBb.out
    clear hsb hvi hiA hib his hm hR0 hR12 hrg s0 s1' s3 s4 s5 z1 z2
    obtain⟨Lr,hLr⟩:∃n,wb.heap.size=n:=⟨_,rfl⟩
    have HLR:=Lib.hid (show w4.heap.size≤Lr by rw[←hLr];exact HBb.out.size)
    have HLRE:=Lib.hid hLr
    clear hLr
    go_wp2_with (first|(refine wpList_load_mid (by rfl) 40 _ (by rfl) gp (i*15+3) (by rfl) (intsV R0) _ HRG.out Tryd.underlying40 (by rfl) (boxI_info HR12.out) ?_)|(refine wpList_store_mid (by rfl) 40 _ _ (by rfl) wb.heap.size 0 (intsV R0).toArray (by rfl) (by rfl) (there_block (heap_alloc_new wb _) (by simp[intsV,HR12.out])) (by simpa using boxI_info HR12.out) (boxI_one R0) ?_;obtain⟨wc,hwc⟩:∃W,(wb.alloc (.cells #[.int .i64 0, .int .i64 0, .int .i64 0, .int .i64 0, .int .i64 0, .int .i64 0, .int .i64 0, .int .i64 0, .int .i64 0, .int .i64 0, .int .i64 0, .int .i64 0] 40)).setCells wb.heap.size 0 (intsV R0).toArray.toList=W:=⟨_,rfl⟩;have HXR:Hid (wc.heap[Lr]? =some (boxI R0)):=Lib.hid (hwc▸HLRE.out▸box_fill (heap_alloc_new wb _) R0 (by simp[intsV,HR12.out]));have HBc:Hid (Below w4.heap.size w4 wc):=Lib.hid (hwc▸below_setCells HBb.out.size _ _ _ (HBb.out.alloc HBb.out.size _));have hcell:wc.cell? ⟨gp,i*15+2,none⟩=some (.slice (some ⟨gi,0,none⟩) m ci):=(((KSB.out wc HBc.out).partCell HFP.out.inn HVP.out HIS.out).2).trans (by rw[HVI.out]);rw[hwc,HLRE.out];clear hwc k2 s2' z0 z3;obtain⟨s0,s1',s2',s3,s4,s5,z0,z1,z2,z3⟩:=KS.out wc HBc.out;clear s0 s1' s3 s4 s5 z1 z2))
    clear hcell s2' z0 z3
    go_loopw [91] (fun v91 wr=>∃t:Nat,t≤pc-a∧v91= .int .i64 (t:Int)∧wr.heap[Lr]? =some (boxI (atR s F i t))∧Below w4.heap.size w4 wr) (fun v91 _=>m-(intOf v91).toNat)
    case atStart=>exact⟨0,by omega,rfl,by rw[HAT0.out];exact HXR.out,HBc.out⟩
    case round=>
     obtain⟨t,htp,rfl,hxr,hb⟩:=hrel
     clear HXR
     have HXR:=Lib.hid hxr
     have HBd:=Lib.hid hb
     have htm:t<m:=by have:=HIN.out.2;omega
     have ht1:(t:Int)<m:=by omega
     have ht0:(0:Int)≤t:=by omega
     have htl:t<(s.part i).ins.length:=by rw[HM1.out];exact htm
     obtain⟨q0,q1,q2,q3,q4,q5⟩:=(KSB.out wr hb).insCell (k:=t) HVI.out htl
     have hpx:=(HFP.out.iop i t HIB.out htl).2.2
     rw[HAE.out] at hpx
     rw[hpx] at q5
     have HSET:=Lib.hid (HFP.out.iset i t HIB.out htl)
     have HATS:=Lib.hid (show atR s F i (t+1)=if 0≤(s.insA i t).id then(atR s F i t).set (insAt F (hdA F i+t)).dst.toNat (s.insA i t).id else atR s F i t from rfl)
     rw[HAE.out] at HATS HSET
     obtain⟨jo,hjo⟩:∃x,(s.insA i t).op=x:=⟨_,rfl⟩
     obtain⟨jd,hjd⟩:∃x,(s.insA i t).id=x:=⟨_,rfl⟩
     obtain⟨ja,hja⟩:∃x,(s.insA i t).a=x:=⟨_,rfl⟩
     obtain⟨jb,hjb⟩:∃x,(s.insA i t).b=x:=⟨_,rfl⟩
     obtain⟨jm,hjm⟩:∃x,(s.insA i t).imm=x:=⟨_,rfl⟩
     rw[hjo] at q0
     rw[hjd] at q1 HATS HSET
     rw[hja] at q2
     rw[hjb] at q3
     rw[hjm] at q4
     obtain⟨Rt,hRt⟩:∃R,atR s F i t=R:=⟨_,rfl⟩
     have hRtl:Rt.length=12:=by rw[←hRt];exact atR_len (by
      unfold SB.part
      rw[gD,gE HIS.out]
      exact HFP.out.inn _ (List.getElem_mem HIS.out)) t
     rw[hRt] at HATS HXR
     have HRT2:=Lib.hid hRt
     have HRL:=Lib.hid hRtl
     have zgi:=Nat.lt_of_lt_of_le (HSB4.out.rlt (.ins i) (g:=gi) (by rw[HVI.out];rfl)).2 hb.size
     obtain⟨Lx,hLx⟩:∃n,wr.heap.size=n:=⟨_,rfl⟩
     have HLX:=Lib.hid (show Lr<Lx by rw[←hLx];exact block_lt hxr)
     clear hjo hjd hja hjb hjm hRt hRtl hxr hpx htl
     by_cases hbr:t=pc-a
     ·have hpc:a+t=pc:=by omega
      rw[hpc] at q5
      have HBR:=Lib.hid hbr
      clear hbr hpc
      go_upto_region 19 with fail
      obtain⟨wx,hwx⟩:∃W,wr.alloc (.cells #[.int .i64 jo, .int .i64 jd, .int .i64 ja, .int .i64 jb, .int .i64 jm, .int .i64 (pc:Int)] 77)=W:=⟨_,rfl⟩
      have hbx:Below wr.heap.size wr wx:=hwx▸(Below.refl _ _).alloc (Nat.le_refl _) _
      have HBx:Hid (Below w4.heap.size w4 wx):=Lib.hid (HBd.out.trans (hbx.mono HBd.out.size))
      have HXX:Hid (wx.heap[Lx]? =some (.cells #[.int .i64 jo, .int .i64 jd, .int .i64 ja, .int .i64 jb, .int .i64 jm, .int .i64 (pc:Int)] 77 (0,0))):=Lib.hid (hwx▸hLx▸heap_alloc_new _ _)
      have HXRx:Hid (wx.heap[Lr]? =some (boxI Rt)):=Lib.hid ((hbx.block Lr (block_lt HXR.out)).trans HXR.out)
      rw[hwx]
      clear hwx hbx q0 q1 q2 q3 q4 q5 zgi hLx
      have r5:wx.cell? ⟨Lx,5,none⟩=some (.int .i64 (pc:Int)):=cell_block HXX.out 5
      have r1:wx.cell? ⟨Lx,1,none⟩=some (.int .i64 jd):=cell_block HXX.out 1
      have zLx:=block_lt HXX.out
      clear r1 hb ht1 ht0
      go_wp2_with fail
      clear r5 zLx
      have HRB:=Lib.hid (show atR s F i (pc-a)=Rt by rw[←HBR.out];exact HRT2.out)
      go_loopw [113] (fun v113 wy=>∃r:Nat,r≤12∧v113= .int .i64 (r:Int)∧wy.heap[Lr]? =some (boxI (hidR Lm Rt r))∧Below w4.heap.size w4 wy) (fun v113 _=>12-(intOf v113).toNat)
      case atStart=>exact⟨0,by omega,rfl,by rw[hidR_zero Lm HRL.out];exact HXRx.out,HBx.out⟩
      case round=>
       obtain⟨r,hr12,rfl,hxy,hby⟩:=hrel
       rename World=>wy
       have HXY:=Lib.hid hxy
       have HBY:=Lib.hid hby
       have zLr:=block_lt hxy
       by_cases hr0:r=12
       ·subst hr0
        have HYL:=Lib.hid (hidR_len Lm Rt 12)
        obtain⟨RF,hRF⟩:∃R,hidR Lm Rt 12=R:=⟨_,rfl⟩
        rw[hRF] at HXY HYL
        have HRF:=Lib.hid hRF
        obtain⟨i0,hI0,hz0,hz1,hz2⟩:=info_parts infoInt
        clear hxy hby hRF
        go_wp2_with (at_builtin;go_must (refine wpList_append_own _ rfl _ _ 24 rfl wy.heap.size 3 i0 _ 1 8 Tryd.underlying24 hI0 hz0 hz1 hz2 rfl (by decide) (.slice none 0 0) 0 [] rfl (World.ownsRow_nil _ _ _ _) ⟨Lr,0,none⟩ 12 12 (intsV RF) rfl (by simp[intsV,HYL.out]) (World.news_of_block (cs:=(intsV RF).toArray) (t:=40) (fr:=(0,0)) HXY.out) (by simp[intsV,Value.oneCell']) (by unfold maxLen;omega) (by omega) (Nat.le_refl _) ?_);intro v9 w9 hown9 hg9 _;have HO9:=Lib.hid hown9;have HB9:=Lib.hid (HBY.out.grown hg9 HBY.out.size (fun k hk=>by cases hk));clear hown9 hg9)
        obtain⟨A9,cap9,hv9,hA9⟩:=own_slice HO9.out
        obtain⟨g9,rfl,hg9,hcell⟩:=hA9 (by omega)
        have hlo:=World.ownsRow.lt HO9.out g9 (by rw[hv9];rfl)
        subst hv9
        refine bodyPost_ret (v:= .tuple #[.slice (some ⟨g9,0,none⟩) 12 cap9, .int .i64 0]) (by simp[results,Tryd.results10]) rfl ⟨⟨O2,bs,_,_,s2,l,s,i,g9,cap9,HBX.out,HIB.out,by rw[HAE.out];exact HIN.out.1,by rw[HAE.out,HTF.out];exact HIN.out.2,rfl,by have h1:=HB14.out.size;have h2:=HBY.out.size;omega,hlo.2,fun r hr=> ?_⟩,HB14.out.trans (HB9.out.mono HB14.out.size)⟩
        rw[hcell r (by omega),List.nil_append,←HRF.out]
        unfold intsV
        rw[List.getElem?_map,hidR_get Lm Rt 12 hr,HAE.out,HRB.out,HLM.out]
        show some (Value.int .i64 _)=_
        cases Lm.testBit r with
        |true=>rw[if_neg (fun h=>by cases h.2),if_pos rfl]
        |false=>rw[if_pos ⟨hr,rfl⟩,if_neg (by simp)]
       ·have hr1:(r:Int)<12:=by omega
        have hr2:(0:Int)≤r:=by omega
        have hr3:r<12:=by omega
        have hdv:(Lm:Int) / 2^r=((Lm / 2^r:Nat):Int):=by push_cast;rfl
        have hba:=live_nat3 Lm r
        have htb:Lm.testBit r=decide (Lm / 2^r % 2=1):=Nat.testBit_eq_decide_div_mod_eq
        obtain⟨d,hd⟩:∃d,Lm / 2^r=d:=⟨_,rfl⟩
        rw[hd] at hdv hba htb
        obtain⟨f2,zf,el,zlb⟩:=KF.out wy HBY.out
        clear hd hby f2 zf
        by_cases hbit:d % 2=1
        ·have hba1:bits .and .i64 (d:Int) 1=1:=by rw[hba,hbit];rfl
         have HTB:=Lib.hid (show Lm.testBit r=true by rw[htb,hbit];rfl)
         clear hba htb hbit
         go_wp2_with fail
         go_roundw
         case rel=>exact⟨r+1,by omega,by go_num,by rw[hidR_live Lm Rt HTB.out];exact HXY.out,HBY.out⟩
         case measure=>simp[intOf];omega
        ·have hba1:bits .and .i64 (d:Int) 1=0:=by rw[hba,show d % 2=0 by omega];rfl
         have HTB:=Lib.hid (show Lm.testBit r=false by rw[htb];exact decide_eq_false hbit)
         have cbL:=boxI_cell hxy (j:=r) (by rw[hidR_len];exact hr3)
         have fbL:=frozen_block hxy
         clear hba htb hbit hxy
         go_wp2_with fail
         go_roundw
         case rel=>exact⟨r+1,by omega,by go_num,by rw[hidR_dead Lm Rt hr3 HTB.out];exact box_put HXY.out r (-1),HBY.out.setCell HLR.out _⟩
         case measure=>simp[intOf];omega
     ·have hne:¬((a+t:Nat):Int)=pc:=by omega
      obtain⟨pt,hpt⟩:∃n,a+t=n:=⟨_,rfl⟩
      rw[hpt] at q5 hne HATS HSET
      have e1:(((pt:Nat):Int)==(pc:Int))=false:=beq_eq_false_iff_ne.2 hne
      have e2:decide ((pt:Nat)=pc)=false:=decide_eq_false (by omega)
      have e3:decide (((pt:Nat):Int)=(pc:Int))=false:=decide_eq_false hne
      have hptM:pt<M:=by omega
      have HPT:=Lib.hid hpt
      have HBR:=Lib.hid (show t<pc-a by omega)
      clear hbr hpt
      go_upto_region 19 with fail
      obtain⟨wx,hwx⟩:∃W,wr.alloc (.cells #[.int .i64 jo, .int .i64 jd, .int .i64 ja, .int .i64 jb, .int .i64 jm, .int .i64 (pt:Int)] 77)=W:=⟨_,rfl⟩
      have hbx:Below wr.heap.size wr wx:=hwx▸(Below.refl _ _).alloc (Nat.le_refl _) _
      have HBx:Hid (Below w4.heap.size w4 wx):=Lib.hid (HBd.out.trans (hbx.mono HBd.out.size))
      have HXX:Hid (wx.heap[Lx]? =some (.cells #[.int .i64 jo, .int .i64 jd, .int .i64 ja, .int .i64 jb, .int .i64 jm, .int .i64 (pt:Int)] 77 (0,0))):=Lib.hid (hwx▸hLx▸heap_alloc_new _ _)
      have HXRx:Hid (wx.heap[Lr]? =some (boxI Rt)):=Lib.hid ((hbx.block Lr (block_lt HXR.out)).trans HXR.out)
      rw[hwx]
      clear hwx hbx q0 q1 q2 q3 q4 q5 zgi hLx
      have r5:wx.cell? ⟨Lx,5,none⟩=some (.int .i64 (pt:Int)):=cell_block HXX.out 5
      have r1:wx.cell? ⟨Lx,1,none⟩=some (.int .i64 jd):=cell_block HXX.out 1
      have zLx:=block_lt HXX.out
      by_cases hjd0:0≤jd
      ·have hjd1:decide (jd≥0)=true:=decide_eq_true hjd0
       have hpr:=HINS.out pt (insAt F pt) (by unfold insAt;rw[gD,gE (by rw[HM.out];exact hptM)];rfl)
       have hio:=HFO.out.ins _ (gM (show F.code[pt]? =some (insAt F pt) by unfold insAt;rw[gD,gE (by rw[HM.out];exact hptM)];rfl))
       obtain⟨dd,hdd⟩:∃n:Nat,(insAt F pt).dst=n:=⟨(insAt F pt).dst.toNat,by have:=hio.dst1;omega⟩
       have hdd12:dd<12:=by have h1:=hio.dst2;have h2:=HFO.out.r2;omega
       rw[hdd,if_pos hjd0] at HATS
       have hdd1:(dd:Int)<12:=by omega
       have hdd0:(0:Int)≤dd:=by omega
       have hpt1:(pt:Int)<M:=by omega
       have hpt0:(0:Int)≤pt:=by omega
       have gd:wx.cell? ⟨gc,pt*5+1,none⟩=some (.int .i64 (dd:Int)):=by
        have h1:=hpr.2.1
        rw[hdd] at h1
        exact(HBx.out.cell (p:=⟨gc,_,none⟩) (Nat.lt_of_lt_of_le HGC.out HB14.out.size)).trans ((HB14.out.cell (p:=⟨gc,_,none⟩) HGC.out).trans h1)
       have zgc:gc<wx.heap.size:=Nat.lt_of_lt_of_le (Nat.lt_of_lt_of_le HGC.out HB14.out.size) HBx.out.size
       have HGCN:=Lib.hid (show Lr≠gc by have h1:=HLR.out;have h2:=Nat.lt_of_lt_of_le HGC.out HB14.out.size;omega)
       obtain⟨f2,zf,el,zlb⟩:=KF.out wx HBx.out
       have cbL:=boxI_cell HXRx.out (j:=dd) (by rw[HRL.out];exact hdd12)
       have fbL:=frozen_block HXRx.out
       have zL:=block_lt HXRx.out
       have HKS:Hid ((wx.drew.setCell ⟨Lr,dd,none⟩ (.int .i64 jd)).cell? ⟨Lf,2,none⟩=some (.slice (some ⟨gc,0,none⟩) M fcap)∧(wx.drew.setCell ⟨Lr,dd,none⟩ (.int .i64 jd)).cell? ⟨Lx,5,none⟩=some (.int .i64 (pt:Int))∧(wx.drew.setCell ⟨Lr,dd,none⟩ (.int .i64 jd)).cell? ⟨gc,pt*5+1,none⟩=some (.int .i64 (dd:Int))∧(wx.drew.setCell ⟨Lr,dd,none⟩ (.int .i64 jd)).cell? ⟨Lx,1,none⟩=some (.int .i64 jd)):=Lib.hid (by
        have hB:Below w4.heap.size w4 (wx.drew.setCell ⟨Lr,dd,none⟩ (.int .i64 jd)):=HBx.out.drew.setCell HLR.out _
        have hX:(wx.drew.setCell ⟨Lr,dd,none⟩ (.int .i64 jd)).heap[Lx]? =_:=block_set_ne (b' :=Lr) HXX.out (Nat.ne_of_lt HLX.out) dd (.int .i64 jd)
        refine⟨(KF.out _ hB).1,cell_block hX 5,?_,cell_block hX 1⟩
        have h1:=hpr.2.1
        rw[hdd] at h1
        exact(hB.cell (p:=⟨gc,_,none⟩) (Nat.lt_of_lt_of_le HGC.out HB14.out.size)).trans ((HB14.out.cell (p:=⟨gc,_,none⟩) HGC.out).trans h1))
       clear hpr hio hb el zlb
       go_upto_region 21 with fail
       refine wp_region_held_drew (S:=fun w' =>w'.cell? ⟨Lf,2,none⟩=some (.slice (some ⟨gc,0,none⟩) M fcap)∧w'.cell? ⟨Lx,5,none⟩=some (.int .i64 (pt:Int))∧w'.cell? ⟨gc,pt*5+1,none⟩=some (.int .i64 (dd:Int))∧w'.cell? ⟨Lx,1,none⟩=some (.int .i64 jd)) (by kernel_rfl) ⟨f2,r5,gd,r1⟩ (fun hHeld=> ?_)
       refine wpAnyH_take (i:=0) (v:= .pointer (some ⟨Lf,2,none⟩)) rfl (by kernel_rfl) (by kernel_rfl) (by kernel_rfl) (fun _ _ _ h=>h) (Or.inl ⟨by rfl,?_⟩) hHeld ?_
       ·intro w hSw
        simp only[qg]
        go_simp
       simp only[Act.put,qs]
       refine wpAnyH_take (i:=1) (v:= .slice (some ⟨gc,0,none⟩) M fcap) rfl (by kernel_rfl) (by kernel_rfl) (by kernel_rfl) (fun _ _ _ h=>h) (Or.inl ⟨by rfl,?_⟩) hHeld ?_
       ·intro w hSw
        obtain⟨p0,p1,p2,p3⟩:=hSw
        simp only[qg]
        go_simp
       simp only[Act.put,qs]
       refine wpAnyH_take (i:=2) (v:= .pointer (some ⟨Lx,5,none⟩)) rfl (by kernel_rfl) (by kernel_rfl) (by kernel_rfl) (fun _ _ _ h=>h) (Or.inl ⟨by rfl,?_⟩) hHeld ?_
       ·intro w hSw
        simp only[qg]
        go_simp
       simp only[Act.put,qs]
       refine wpAnyH_take (i:=3) (v:= .int .i64 (pt:Int)) rfl (by kernel_rfl) (by kernel_rfl) (by kernel_rfl) (fun _ _ _ h=>h) (Or.inl ⟨by rfl,?_⟩) hHeld ?_
       ·intro w hSw
        obtain⟨p0,p1,p2,p3⟩:=hSw
        simp only[qg]
        go_simp
       simp only[Act.put,qs]
       refine wpAnyH_take (i:=4) (v:= .pointer (some ⟨gc,pt*5,none⟩)) rfl (by kernel_rfl) (by kernel_rfl) (by kernel_rfl) (fun _ _ _ h=>h) (Or.inl ⟨by rfl,?_⟩) hHeld ?_
       ·intro w hSw
        simp only[qg]
        go_simp
       simp only[Act.put,qs]
       refine wpAnyH_take (i:=5) (v:= .pointer (some ⟨gc,pt*5+1,none⟩)) rfl (by kernel_rfl) (by kernel_rfl) (by kernel_rfl) (fun _ _ _ h=>h) (Or.inl ⟨by rfl,?_⟩) hHeld ?_
       ·intro w hSw
        simp only[qg]
        go_simp
       simp only[Act.put,qs]
       refine wpAnyH_take (i:=6) (v:= .int .i64 (dd:Int)) rfl (by kernel_rfl) (by kernel_rfl) (by kernel_rfl) (fun _ _ _ h=>h) (Or.inl ⟨by rfl,?_⟩) hHeld ?_
       ·intro w hSw
        obtain⟨p0,p1,p2,p3⟩:=hSw
        simp only[qg]
        go_simp
       simp only[Act.put,qs]
       refine wpAnyH_take (i:=7) (v:= .pointer (some ⟨Lx,1,none⟩)) rfl (by kernel_rfl) (by kernel_rfl) (by kernel_rfl) (fun _ _ _ h=>h) (Or.inl ⟨by rfl,?_⟩) hHeld ?_
       ·intro w hSw
        simp only[qg]
        go_simp
       simp only[Act.put,qs]
       refine wpAnyH_take (i:=8) (v:= .int .i64 jd) rfl (by kernel_rfl) (by kernel_rfl) (by kernel_rfl) (fun _ _ _ h=>h) (Or.inl ⟨by rfl,?_⟩) hHeld ?_
       ·intro w hSw
        obtain⟨p0,p1,p2,p3⟩:=hSw
        simp only[qg]
        go_simp
       simp only[Act.put,qs]
       refine wpAnyH_take (i:=9) (v:= .pointer (some ⟨Lr,dd,none⟩)) rfl (by kernel_rfl) (by kernel_rfl) (by kernel_rfl) (fun _ _ _ h=>h) (Or.inl ⟨by rfl,?_⟩) hHeld ?_
       ·intro w hSw
        simp only[qg]
        go_simp
       simp only[Act.put,qs]
       refine wpAnyH_ready (rs:=[10]) (by kernel_rfl) (by simp) ?_
       refine AllReadyH.cons rfl (fun K hK=> ?_) AllReadyH.nil
       simp only[qg]
       go_simp
       refine hK.out _ _ HKS.out (fun hHeld=> ?_)
       clear hK K
       clear hHeld
       refine wpAnyH_done (by kernel_rfl) ?_ _
       go_wp2_with fail
       go_roundw
       case rel=>exact⟨t+1,by have:=HBR.out;omega,by go_num,by rw[HATS.out];exact box_put HXRx.out dd jd,HBx.out.drew.setCell HLR.out _⟩
       case measure=>simp[intOf];omega
      ·have hjd1:decide (jd≥0)=false:=decide_eq_false hjd0
       rw[if_neg hjd0] at HATS
       clear hb
       go_wp2_with fail
       go_roundw
       case rel=>exact⟨t+1,by have:=HBR.out;omega,by go_num,by rw[HATS.out];exact HXRx.out,HBx.out⟩
       case measure=>simp[intOf];omega
   ·by_cases hpa:(pc:Int)<a
    ·have HIN:=Lib.hid hin
     clear hin
     go_wp2_with fail
     go_roundw
     case rel=>exact⟨i+1,by omega,by go_num,fun j hj=>by
      by_cases e:j=i
      ·subst e;rw[HAE.out,HTF.out];exact HIN.out
      ·exact HNO.out j (by omega),HB.out.alloc HB.out.size _⟩
     case measure=>simp[intOf];omega
    ·have hpt:(tf:Int)≤pc:=by omega
     have HIN:=Lib.hid hin
     clear hin
     go_wp2_with fail
     go_roundw
     case rel=>exact⟨i+1,by omega,by go_num,fun j hj=>by
      by_cases e:j=i
      ·subst e;rw[HAE.out,HTF.out];exact HIN.out
      ·exact HNO.out j (by omega),HB.out.alloc HB.out.size _⟩
     case measure=>simp[intOf];omega
def rawL(F:Fnc)(a:Nat)(I:List InsS)(R:List Int):Nat→List Int
 |0=>R
 |t+1=>if 0≤(I.getD t noIns).id then(rawL F a I R t).set (insAt F (a+t)).dst.toNat (I.getD t noIns).id else rawL F a I R t
theorem rawL_len(F:Fnc)(a:Nat)(I:List InsS)(R:List Int):∀t,(rawL F a I R t).length=R.length
 |0=>rfl
 |t+1=>by
  unfold rawL
  split
  ·rw[List.length_set];exact rawL_len F a I R t
  ·exact rawL_len F a I R t
theorem rawL_app(F:Fnc)(a:Nat)(I J:List InsS)(R:List Int):∀t,t≤I.length→rawL F a (I++J) R t=rawL F a I R t
 |0,_=>rfl
 |t+1,h=>by
  have e:(I++J).getD t noIns=I.getD t noIns:=by
   rw[gD,gD,List.getElem?_append_left (by omega)]
  unfold rawL
  rw[e,rawL_app F a I J R t (by omega)]
theorem bod_raw(p:List Fnc)(F:Fnc)(a:Nat){R:List Int}(hR:R.length=12)(S:List Int):∀n,(bodTo p F a R S n).R=rawL F a (bodTo p F a R S n).I R n∧
 ∀t,t<n→((bodTo p F a R S n).I.getD t noIns).a=(if useA p (insAt F (a+t))=true then(rawL F a (bodTo p F a R S n).I R t).getD (insAt F (a+t)).a.toNat 0 else -1)∧((bodTo p F a R S n).I.getD t noIns).b=(if useB p (insAt F (a+t))=true then(rawL F a (bodTo p F a R S n).I R t).getD (insAt F (a+t)).b.toNat 0 else -1)
 |0=>⟨rfl,fun t ht=>by omega⟩
 |n+1=>by
  obtain⟨h1,h2⟩:=bod_raw p F a hR S n
  have hl:=(bodTo_len p F a hR S n).2.2
  rw[bodTo_succ]
  generalize bodTo p F a R S n=y at h1 h2 hl
  have hI:∀(z:InsS) (t:Nat),t<n+1→(y.I++[z]).getD t noIns=if t<n then y.I.getD t noIns else z:=fun z t ht=>by
   rw[getD_snoc' _ _ _ (by rw[List.length_append,hl,List.length_singleton];exact ht),hl]
  have key:∀(id:Int),∀t,t<n+1→((y.I++[insV p (insAt F (a+n)) y.R (a+n) id]).getD t noIns).a=(if useA p (insAt F (a+t))=true then(rawL F a (y.I++[insV p (insAt F (a+n)) y.R (a+n) id]) R t).getD (insAt F (a+t)).a.toNat 0 else -1)∧((y.I++[insV p (insAt F (a+n)) y.R (a+n) id]).getD t noIns).b=(if useB p (insAt F (a+t))=true then(rawL F a (y.I++[insV p (insAt F (a+n)) y.R (a+n) id]) R t).getD (insAt F (a+t)).b.toNat 0 else -1):=fun id t ht=>by
   rw[hI _ t ht,rawL_app F a _ _ R t (by omega)]
   by_cases e:t<n
   ·rw[if_pos e];exact h2 t e
   ·obtain rfl:t=n:=by omega
    rw[if_neg e,←h1]
    exact⟨rfl,rfl⟩
  have hn:∀z:InsS,rawL F a (y.I++[z]) R (n+1)=if 0≤z.id then y.R.set (insAt F (a+n)).dst.toNat z.id else y.R:=fun z=>by
   have e:=hI z n (by omega)
   rw[if_neg (Nat.lt_irrefl n)] at e
   have e2:=rawL_app F a y.I [z] R n (by omega)
   show(if 0≤((y.I++[z]).getD n noIns).id then(rawL F a (y.I++[z]) R n).set _ ((y.I++[z]).getD n noIns).id else rawL F a (y.I++[z]) R n)=_
   rw[e,e2,←h1]
  unfold bodStep
  by_cases hs:setsB (insAt F (a+n))=true
  ·rw[if_pos hs]
   refine⟨?_,key _⟩
   show y.R.set _ _=rawL F a (y.I++[_]) R (n+1)
   rw[hn]
   show _=if (0:Int)≤(y.S.length:Int) then _ else _
   rw[if_pos (by omega)];rfl
  ·rw[if_neg hs]
   refine⟨?_,key _⟩
   show y.R=rawL F a (y.I++[_]) R (n+1)
   rw[hn]
   show _=if (0:Int)≤-1 then _ else _
   rw[if_neg (by omega)]
structure RawOk(p:List Fnc)(F:Fnc)(j:Nat)(x:PartS)(B E:List Int):Prop where
 e:E=rawL F (hdA F j) x.ins B x.ins.length
 ab:∀t,t<x.ins.length→(x.ins.getD t noIns).a=(if useA p (insAt F (hdA F j+t))=true then(rawL F (hdA F j) x.ins B t).getD (insAt F (hdA F j+t)).a.toNat 0 else -1)∧(x.ins.getD t noIns).b=(if useB p (insAt F (hdA F j+t))=true then(rawL F (hdA F j) x.ins B t).getD (insAt F (hdA F j+t)).b.toNat 0 else -1)
section
variable {p:List Fnc}{F:Fnc}{O:List Nat}{bs:List BR}{l:List Int}{s s1 s2:SB}{K:Nat}
theorem raw_all(hk:checkP p=0)(hF:F∈p)(hO:LiveOk p F O)(hb:BlkOk F bs){l:List Nat}(hl:l.Nodup)(hlm:∀j∈l,j<bs.length)(h00:l.getD 0 0=0)(hbe:Behind (fun i=>nxI F (hdA F i)) l):∀t,t≤l.length→∀u,u<t→∀j,l[u]? =some j→RawOk p F j ((bldTo p F O bs l t).part j) ((bldTo p F O bs l t).began.getD j []) ((bldTo p F O bs l t).ends.getD j [])
 |0,_=>fun u hu=>by omega
 |t+1,ht=>by
  have hp:=right_of hk
  have hi:l[t]? =some (l[t]'(by omega)):=gE _
  generalize l[t]'(by omega)=i at hi
  have hB:=binv hk hF hO hb hl hlm h00 hbe t (by omega)
  have ih:=raw_all hk hF hO hb hl hlm h00 hbe t (by omega)
  rw[bldTo_succ p F O bs l hi]
  generalize hs:bldTo p F O bs l t=s at hB ih
  have hiB:=hlm i (gM hi)
  have hiH:i<(hdL F).length:=by rw[←hb.len];exact hiB
  have htl:=(gI.1 hi).1
  have hnt:∀u,u<t→∀j,l[u]? =some j→j≠i:=fun u hu j hj e=>by
   subst e
   have:=(List.getElem_inj (h₀:=(gI.1 hj).1) (h₁:=htl) hl).1 (by rw[(gI.1 hj).2,(gI.1 hi).2])
   omega
  have hin:i<s.parts.length:=by rw[hB.n];exact hiB
  have hpj:∀j,j≠i→(bldStep p F O bs s i).part j=s.part j:=fun j hj=>by
   have h:=part_set s hin ⟨(i:Int),(s.part i).phis++(bldX F O bs s i).P,(s.part i).ins++(bldY p F O bs s i).I,(s.part i).inn⟩ j
   rw[if_neg hj] at h
   exact h
  have hej:∀j,(bldStep p F O bs s i).ends.getD j []=if j=i then(bldY p F O bs s i).R else s.ends.getD j []:=fun j=>getD_set _ (by rw[hB.ne];exact hiB) _ _ j
  have hbj:∀j,(bldStep p F O bs s i).began.getD j []=if j=i then(bldX F O bs s i).R else s.began.getD j []:=fun j=>getD_set _ (by rw[hB.nb];exact hiB) _ _ j
  intro u hu j hj
  by_cases e:u=t
  ·subst e
   obtain rfl:=Option.some.inj (hi.symm.trans hj)
   have hni:i∉l.take u:=fun hm=>by
    obtain⟨v,hv,e⟩:=List.getElem_of_mem hm
    rw[List.length_take] at hv
    rw[List.getElem_take] at e
    exact hnt v (by omega) i (by rw[gE (by omega),e]) rfl
   have hz:=hB.un i hiB hni
   have hpart:(bldStep p F O bs s i).part i=⟨(i:Int),(bldX F O bs s i).P,(bldY p F O bs s i).I,zR⟩:=by
    have h:=part_set s hin ⟨(i:Int),(s.part i).phis++(bldX F O bs s i).P,(s.part i).ins++(bldY p F O bs s i).I,(s.part i).inn⟩ i
    rw[if_pos rfl] at h
    have h2:(bldStep p F O bs s i).part i=⟨(i:Int),(s.part i).phis++(bldX F O bs s i).P,(s.part i).ins++(bldY p F O bs s i).I,(s.part i).inn⟩:=h
    rw[h2,hz];rfl
   have hX:=ent_facts (jn bs i) i (O.getD (hdA F i) 0) (bldE bs s i) s.same F.regs.toNat (by have:=(hp.ok.fn F hF).r2;omega)
   have hXe:entTo (jn bs i) i (O.getD (hdA F i) 0) (bldE bs s i) s.same F.regs.toNat=bldX F O bs s i:=rfl
   rw[hXe] at hX
   have hYe:bodTo p F (hdA F i) (bldX F O bs s i).R (bldX F O bs s i).S (toF F (hdA F i)-hdA F i)=bldY p F O bs s i:=rfl
   have hYl:=(bodTo_len p F (hdA F i) hX.rl (bldX F O bs s i).S (toF F (hdA F i)-hdA F i)).2.2
   have hraw:=bod_raw p F (hdA F i) hX.rl (bldX F O bs s i).S (toF F (hdA F i)-hdA F i)
   rw[hYe] at hYl hraw
   rw[hpart,hej,if_pos rfl,hbj,if_pos rfl]
   refine⟨?_,fun t ht=> ?_⟩
   ·show(bldY p F O bs s i).R=rawL F (hdA F i) (bldY p F O bs s i).I (bldX F O bs s i).R (bldY p F O bs s i).I.length
    rw[hYl];exact hraw.1
   ·exact hraw.2 t (by rw[←hYl];exact ht)
  ·have hji:=hnt u (by omega) j hj
   have h:=ih u (by omega) j hj
   rw[hpj j hji,hej,if_neg hji,hbj,if_neg hji]
   exact h
theorem BuiltX.rawok(h:BuiltX p F O bs K s1 s2 l s){j:Nat}(hj:j<bs.length):RawOk p F j (s1.part j) (s1.began.getD j []) (s1.ends.getD j []):=by
 obtain⟨h1,h2⟩:=ord_ok h.hk h.hF h.b.bok K
 obtain⟨u,hu,e⟩:=List.getElem_of_mem (ord_all h.hk h.hF h.b.bok h.b.ord j hj)
 have h3:=raw_all h.hk h.hF h.b.lok h.b.bok h1.nodup h1.lt h1.fst h1.beh K (by rw[h.b.ord];exact Nat.le_refl _) u (Nat.lt_of_lt_of_eq hu h.b.ord) j (by rw[gE hu,e])
 rw[h.hs] at h3
 exact h3
noncomputable def numV(F:Fnc)(bs:List BR)(s2:SB)(l:List Int)(v:Int):Int:=toV l (numM F bs s2 l) v
theorem BuiltX.numV_lt(h:BuiltX p F O bs K s1 s2 l s){v:Int}(hv:v<l.length):(0≤numV F bs s2 l v↔0≤v):=by
 by_cases h0:0≤v
 ·exact⟨fun _=>h0,fun _=>(h.toV_ge h0 hv).1⟩
 ·unfold numV
  rw[toV_neg (by omega)]
theorem BuiltX.il(h:BuiltX p F O bs K s1 s2 l s){j:Nat}(hj:j<bs.length):(s.part j).ins.length=(s1.part j).ins.length:=by
 rw[h.b.part j hj]
 dsimp only
 rw[List.length_map,h.ins]
theorem BuiltX.insV(h:BuiltX p F O bs K s1 s2 l s){j t:Nat}(hj:j<bs.length)(ht:t<(s1.part j).ins.length):s.insA j t=toIns l (numM F bs s2 l) ((s1.part j).ins.getD t noIns):=by
 unfold SB.insA
 rw[h.b.part j hj]
 dsimp only
 rw[h.ins,getD_map _ _ noIns _ ht];rfl
theorem BuiltX.idlt(h:BuiltX p F O bs K s1 s2 l s){j t:Nat}(hj:j<bs.length)(ht:t<(s1.part j).ins.length):((s1.part j).ins.getD t noIns).id<l.length:=by
 by_cases e:0≤((s1.part j).ins.getD t noIns).id
 ·obtain⟨v,hv⟩:∃v:Nat,((s1.part j).ins.getD t noIns).id=v:=⟨((s1.part j).ins.getD t noIns).id.toNat,by omega⟩
  have h1:=(h.iroot hj ht hv).2.2
  have h2:=h.raw.le j hj
  rw[h.len,hv];omega
 ·omega
theorem BuiltX.at_raw(h:BuiltX p F O bs K s1 s2 l s){j:Nat}(hj:j<bs.length):∀t,t≤(s1.part j).ins.length→atR s F j t=(rawL F (hdA F j) (s1.part j).ins (s1.began.getD j []) t).map (numV F bs s2 l)
 |0,_=>by
  show(s.part j).inn=(s1.began.getD j []).map _
  rw[h.b.part j hj]
  show(s2.began.getD j []).map _=_
  rw[h.cls.began];rfl
 |t+1,ht=>by
  have ih:=BuiltX.at_raw h hj t (by omega)
  have hid:(s.insA j t).id=numV F bs s2 l ((s1.part j).ins.getD t noIns).id:=by rw[h.insV hj (by omega)];rfl
  have h0:=h.numV_lt (h.idlt hj (t:=t) (by omega))
  show(if 0≤(s.insA j t).id then(atR s F j t).set _ (s.insA j t).id else atR s F j t)=_
  unfold rawL
  rw[hid,ih]
  by_cases e:0≤((s1.part j).ins.getD t noIns).id
  ·rw[if_pos e,if_pos (h0.2 e),List.map_set]
  ·rw[if_neg e,if_neg (fun h=>e (h0.1 h))]
theorem BuiltX.keepAt(h:BuiltX p F O bs K s1 s2 l s){j:Nat}(hj:j<bs.length){r:Nat}(hr:r<12):∀t,t≤(s1.part j).ins.length→
 (∃u,u<t∧(rawL F (hdA F j) (s1.part j).ins (s1.began.getD j []) t).getD r 0=((s1.part j).ins.getD u noIns).id∧0≤((s1.part j).ins.getD u noIns).id)∨
 ((rawL F (hdA F j) (s1.part j).ins (s1.began.getD j []) t).getD r 0=(s1.began.getD j []).getD r 0∧(t<(s1.part j).ins.length→(O.getD (hdA F j+t) 0).testBit r=true→(O.getD (hdA F j) 0).testBit r=true))
 |0,_=> .inr ⟨rfl,fun _ h=>h⟩
 |t+1,ht=>by
  have hp:=right_of h.hk
  have hpt:=h.raw.part j hj
  have hB12:=hpt.b12
  have hjH:j<(hdL F).length:=by rw[←h.b.bok.len];exact hj
  obtain⟨ham,-⟩:=hdA_mem2 hjH
  have hsp:=toF_spec hp h.hF ham
  have hil:=hpt.il
  have ih:=h.keepAt hj hr t (by omega)
  have hpl:hdA F j+t<F.code.length:=by omega
  have hx:F.code[hdA F j+t]? =some (insAt F (hdA F j+t)):=by unfold insAt;rw[gD,gE hpl];rfl
  have hio:=(hp.ok.fn F h.hF).ins _ (gM hx)
  have hr12:=(hp.ok.fn F h.hF).r2
  have hpr:rchB F (hdA F j+t)=true:=cov_rch hp h.hF ham (by omega) (by omega)
  obtain⟨hp1,-⟩:=h.b.lok.pre (hdA F j+t) _ hpr hx
  have hlen:=rawL_len F (hdA F j) (s1.part j).ins (s1.began.getD j []) t
  rw[hB12] at hlen
  have d1:=hio.dst1
  have d2:=hio.dst2
  unfold rawL
  by_cases e:0≤((s1.part j).ins.getD t noIns).id
  ·rw[if_pos e,getD_set _ (by omega)]
   by_cases er:r=(insAt F (hdA F j+t)).dst.toNat
   ·rw[if_pos er]
    exact .inl ⟨t,by omega,rfl,e⟩
   ·rw[if_neg er]
    rcases ih with⟨u,h1,h2,h3⟩|⟨h1,h2⟩
    ·exact .inl ⟨u,by omega,h2,h3⟩
    ·refine .inr ⟨h1,fun h3 h4=>h2 (by omega) (hp1 (hdA F j+t+1) ?_ r h4 ?_)⟩
     ·have ho:=cov_end hp h.hF ham (pc:=hdA F j+t) (by omega) (by omega)
      unfold nextL
      rw[if_neg (by omega),if_neg (by omega),if_neg (by omega)]
      exact .head _
     ·unfold setM
      split
      ·rw[Nat.testBit_two_pow]
       exact decide_eq_false (fun e=>er e.symm)
      ·exact Nat.zero_testBit r
  ·rw[if_neg e]
   have hns:setsB (insAt F (hdA F j+t))=false:=by
    cases hs:setsB (insAt F (hdA F j+t)) with
    |false=>rfl
    |true=>
     obtain⟨v,h1,-⟩:=hpt.set t (by omega) hs
     exact absurd (by omega) e
   rcases ih with⟨u,h1,h2,h3⟩|⟨h1,h2⟩
   ·exact .inl ⟨u,by omega,h2,h3⟩
   ·refine .inr ⟨h1,fun h3 h4=>h2 (by omega) (hp1 (hdA F j+t+1) ?_ r h4 ?_)⟩
    ·have ho:=cov_end hp h.hF ham (pc:=hdA F j+t) (by omega) (by omega)
     unfold nextL
     rw[if_neg (by omega),if_neg (by omega),if_neg (by omega)]
     exact .head _
    ·unfold setM
     rw[hns]
     exact Nat.zero_testBit r
theorem BuiltX.struck(h:BuiltX p F O bs K s1 s2 l s){i k:Nat}(hi:i<bs.length)(hk:k<(s1.part i).phis.length){e:Nat}(he:(s1.phi i k).id=e)(hne:l[e]? ≠some (e:Int)):∀a∈(s2.phi i k).args,rti l a=(rt l e:Nat):=by
 have hok2:=(h.fin.cls s2 (by rw[h.raw.inv.n];exact h.cls)).1
 have hal2:=(h.fin.cls s2 (by rw[h.raw.inv.n];exact h.cls)).2.1
 have hn2:=h.n2
 have hself2:Self s2.same:=by rw[h.cls.same];exact h.raw.inv.self
 have hA:∀i k,i<s2.parts.length→k<(s2.part i).phis.length→∀a∈(s2.phi i k).args,0≤a:=fun i k hi hk a ha=>by
  rw[hn2] at hi
  rw[h.phl] at hk
  rw[h.args hi hk] at ha
  unfold fullA at ha
  obtain⟨q,hq,rfl⟩:=List.mem_map.1 ha
  obtain⟨r,r1,r2,r3,r4,r5⟩:=(h.raw.part i hi).preg k hk
  have r1:(s1.phi i k).reg=(r:Int):=r1
  rw[r1]
  exact(comes_ok h.hk h.hF h.b.lok h.b.bok h.b.ord h.hs hi r2 r4 hq).1
 have hinj:∀i k i' k',i<s2.parts.length→k<(s2.part i).phis.length→i' <s2.parts.length→k' <(s2.part i').phis.length→(s2.phi i k).id=(s2.phi i' k').id→i=i' ∧k=k' :=fun i k i' k' hi hk hi' hk' he=>by
  rw[hn2] at hi hi'
  rw[h.pid hi hk,h.pid hi' hk'] at he
  have he:=Int.ofNat_inj.1 he
  rw[h.phl] at hk hk'
  have p1:=(h.raw.part i hi).plo
  have p2:=(h.raw.part i' hi').plo
  by_cases e:i=i'
  ·subst e;exact⟨rfl,by omega⟩
  ·rcases h.raw.ap i i' hi hi' e with h1|h1<;>omega
 exact shr_args hok2 hal2 hself2 hA hinj h.b.shr i k (by rw[hn2];exact hi) (by rw[h.phl];exact hk) e (by rw[(h.cls.phi i k).2];exact he) hne
def LeftPhi(s1:SB)(l:List Int)(i r:Nat):Prop:=∃k v:Nat,k<(s1.part i).phis.length∧(s1.phi i k).reg=(r:Int)∧(s1.phi i k).id=(v:Int)∧(s1.began.getD i []).getD r 0=(v:Int)∧l[v]? =some (v:Int)
theorem BuiltX.enter(h:BuiltX p F O bs K s1 s2 l s){i:Nat}(hi:i<bs.length){r:Nat}(hlv:(O.getD (hdA F i) 0).testBit r=true)(hno:¬LeftPhi s1 l i r){q:Int}(hq:q∈prevL bs i):rti l ((s1.began.getD i []).getD r 0)=rti l (comes s1.ends q r):=by
 cases hj:jn bs i with
 |true=>
  obtain⟨k,h1,h2,h3⟩:=(h.raw.part i hi).vj hj r hlv
  have h2:(s1.phi i k).reg=(r:Int):=h2
  have h3:(s1.phi i k).id=(s1.began.getD i []).getD r 0:=h3
  have hpid:=h.pid hi (by rw[h.phl];exact h1)
  rw[(h.cls.phi i k).2] at hpid
  have hne:l[lowB p F O bs K i+k]? ≠some ((lowB p F O bs K i+k:Nat):Int):=fun e=>hno ⟨k,_,h1,h2,hpid,by rw[←h3];exact hpid,e⟩
  rw[←h3,hpid,rti_nat]
  refine(h.struck hi h1 hpid hne _ ?_).symm
  rw[h.args hi h1,h2]
  exact List.mem_map.2 ⟨q,hq,rfl⟩
 |false=>
  by_cases e:i=0
  ·subst e
   rw[(h.src hi).from0 hj rfl r hlv]
   have hm1:(-1:Int)∈prevL bs 0:=by rw[prevL_eq h.b.bok hi];exact prevF_mem.2 (.inl ⟨rfl,rfl⟩)
   have hl:(prevL bs 0).length≤1:=by
    unfold jn at hj
    have:=of_decide_eq_false hj
    omega
   have hq1:q= -1:=by
    obtain⟨x,hx,rfl⟩:=List.getElem_of_mem hq
    obtain⟨y,hy,ey⟩:=List.getElem_of_mem hm1
    have:x=y:=by omega
    subst this;exact ey
   subst hq1
   unfold comes
   rw[if_neg (by omega)]
  ·obtain⟨q',e1,e2⟩:=(h.src hi).fromq hj e
   rw[e1] at hq
   have hq' :q=(q' :Int):=by simpa using hq
   subst hq'
   rw[e2 r hlv]
   unfold comes
   rw[if_pos (by omega),Int.toNat_natCast,Int.toNat_natCast]
theorem BuiltX.par(h:BuiltX p F O bs K s1 s2 l s){r:Nat}(hr:r<F.params.toNat):l[r]? =some (r:Int)∧numV F bs s2 l r=(r:Int):=by
 have h1:l[r]? =some (r:Int):=by
  rw[h.b.shr.out (v:=r) (fun i k hi hk e2=>by
   rw[h.n2] at hi
   rw[h.pid hi hk] at e2
   have:=h.raw.ge i hi
   omega),h.cls.same]
  exact h.raw.inv.self r (by have:=h.raw.inv.ge;omega)
 refine⟨h1,?_⟩
 unfold numV toV
 rw[if_neg (by omega),Int.toNat_natCast,rt_root h1]
 have hm:r∉allG {s2 with same:=l} bs.length:=fun hv=>by
  obtain⟨i,hi,h1,-⟩:=(h.nodup (Nat.le_refl _)).2 r hv
  have:=h.raw.ge i hi;omega
 have h2:=numF_out F.params.toNat r _ hm
 rw[if_pos hr] at h2
 exact h2
inductive Avd(F:Fnc)(i0:Nat):Nat→Prop where
 |zero:0≠i0→Avd F i0 0
 |step {q n:Nat}:Avd F i0 q→q<(hdL F).length→n∈nxI F (hdA F q)→n≠i0→Avd F i0 n
theorem Avd.ne{i0 n:Nat}(h:Avd F i0 n):n≠i0:=by cases h<;>assumption
section
variable (h:BuiltX p F O bs K s1 s2 l s){i0 d:Nat}(hi0:i0<bs.length)(hlo:lowB p F O bs K i0≤d)(hhi:d<higB p F O bs K i0)
include h hi0 hlo hhi
theorem BuiltX.away{i:Nat}(hi:i<bs.length)(hne:i≠i0){v:Nat}(h1:lowB p F O bs K i≤v)(h2:v<higB p F O bs K i):v≠d:=fun e=>by
 subst e
 rcases h.raw.ap i i0 hi hi0 hne with h3|h3<;>omega
theorem BuiltX.awayPhi{i r:Nat}(hi:i<bs.length)(hne:i≠i0)(hp:LeftPhi s1 l i r):rti l ((s1.began.getD i []).getD r 0)≠(d:Int):=by
 obtain⟨k,v,h1,h2,h3,h4,h5⟩:=hp
 rw[h4,rti_nat,rt_root h5]
 have hpid:=h.pid hi (by rw[h.phl];exact h1)
 rw[(h.cls.phi i k).2,h3] at hpid
 have hpid:=Int.ofNat_inj.1 hpid
 have hplo:=(h.raw.part i hi).plo
 have:=h.away hi0 hlo hhi hi hne (v:=v) (by omega) (by omega)
 omega
theorem BuiltX.awayEnd{q n:Nat}(hq:q<bs.length)(hne:q≠i0)(hn:n∈nxI F (hdA F q))(hst:∀r,r<12→(O.getD (hdA F q) 0).testBit r=true→rti l ((s1.began.getD q []).getD r 0)≠(d:Int)){r:Nat}(hr:r<12)(hb:(O.getD (hdA F n) 0).testBit r=true):rti l (comes s1.ends (q:Int) r)≠(d:Int):=by
 have hc:comes s1.ends (q:Int) r=(s1.ends.getD q []).getD r 0:=by
  unfold comes
  rw[if_pos (by omega),Int.toNat_natCast,Int.toNat_natCast]
 rw[hc]
 rcases(h.src hq).keep r hr with⟨t,h1,h2,h3⟩|⟨h1,h2⟩
 ·obtain⟨v,hv⟩:∃v:Nat,((s1.part q).ins.getD t noIns).id=v:=⟨((s1.part q).ins.getD t noIns).id.toNat,by omega⟩
  obtain⟨r1,r2,r3⟩:=h.iroot hq h1 hv
  rw[h2,hv,rti_nat,rt_root r1]
  have:=h.away hi0 hlo hhi hq hne (v:=v) (by omega) r3
  omega
 ·rw[h1]
  exact hst r hr (h2 n hn hb)
theorem BuiltX.fresh_av{i:Nat}(ha:Avd F i0 i):i<bs.length∧∀r,r<12→(O.getD (hdA F i) 0).testBit r=true→rti l ((s1.began.getD i []).getD r 0)≠(d:Int):=by
 have hp:=right_of h.hk
 have hP:=h.raw.ge i0 hi0
 induction ha with
 |zero hne=>
  have h0B:0<bs.length:=bs_pos h.hk h.hF h.b.bok
  refine⟨h0B,fun r hr hb=> ?_⟩
  by_cases e:LeftPhi s1 l 0 r
  ·exact h.awayPhi hi0 hlo hhi h0B hne e
  ·rw[h.enter h0B hb e (q:= -1) (by rw[prevL_eq h.b.bok h0B];exact prevF_mem.2 (.inl ⟨rfl,rfl⟩))]
   have h00:hdA F 0=0:=hdA_eq (zero_head hp h.hF)
   rw[h00] at hb
   have hrP:=live_entry h.hk h.hF h.b.lok hb
   show rti l (if (0:Int)≤-1 then _ else _)≠_
   rw[if_neg (by omega),rti_nat,rt_root (h.par hrP).1]
   omega
 | @step q n _ hq hn hne ih=>
  have hqB:q<bs.length:=ih.1
  have hnB:=nx_lt h.hk h.hF h.b.bok q hqB n hn
  rename_i hav
  refine⟨hnB,fun r hr hb=> ?_⟩
  by_cases e:LeftPhi s1 l n r
  ·exact h.awayPhi hi0 hlo hhi hnB hne e
  ·rw[h.enter hnB hb e (q:=(q:Int)) (by rw[prevL_eq h.b.bok hnB];exact prevF_mem.2 (.inr ⟨q,hq,hn,rfl⟩))]
   exact h.awayEnd hi0 hlo hhi hqB hav.ne hn ih.2 hr hb
theorem BuiltX.fresh_in:∃q∈prevL bs i0,∀r,r<12→(O.getD (hdA F i0) 0).testBit r=true→rti l (comes s1.ends q r)≠(d:Int):=by
 have hp:=right_of h.hk
 have hP:=h.raw.ge i0 hi0
 by_cases e0:i0=0
 ·subst e0
  refine⟨-1,by rw[prevL_eq h.b.bok hi0];exact prevF_mem.2 (.inl ⟨rfl,rfl⟩),fun r hr hb=> ?_⟩
  have h00:hdA F 0=0:=hdA_eq (zero_head hp h.hF)
  rw[h00] at hb
  have hrP:=live_entry h.hk h.hF h.b.lok hb
  show rti l (if (0:Int)≤-1 then _ else _)≠_
  rw[if_neg (by omega),rti_nat,rt_root (h.par hrP).1]
  omega
 ·have hex:∃q,q<(hdL F).length∧Avd F i0 q∧i0∈nxI F (hdA F q):=by
   refine Classical.byContradiction fun hno=> ?_
   have hC:=blocks_ind hp h.hF (C:=Avd F i0) (.zero (fun e=>e0 e.symm)) (fun q hq hc n hn=> .step hc hq hn (fun e=>hno ⟨q,hq,hc,e▸hn⟩)) i0 (by rw[←h.b.bok.len];exact hi0)
   exact hC.ne rfl
  obtain⟨q,hq,hav,hn⟩:=hex
  obtain⟨hqB,hst⟩:=h.fresh_av hi0 hlo hhi hav
  exact⟨(q:Int),by rw[prevL_eq h.b.bok hi0];exact prevF_mem.2 (.inr ⟨q,hq,hn,rfl⟩),fun r hr hb=>h.awayEnd hi0 hlo hhi hqB hav.ne hn hst hr hb⟩
end
theorem BuiltX.numV_rti(h:BuiltX p F O bs K s1 s2 l s){x:Int}{v:Nat}(hx:x<l.length)(hv:l[v]? =some (v:Int)):numV F bs s2 l x=numV F bs s2 l (v:Int)↔rti l x=(v:Int):=by
 have hvl:=(gI.1 hv).1
 have e1:numV F bs s2 l (v:Int)=numM F bs s2 l v:=by
  unfold numV toV
  rw[if_neg (by omega),Int.toNat_natCast,rt_root hv]
 by_cases h0:x<0
 ·have e2:numV F bs s2 l x=x:=by unfold numV;exact toV_neg h0
  rw[e2,rti_neg h0]
  have:=(h.numV_lt (v:=(v:Int)) (by omega)).2 (by omega)
  exact⟨fun e=>by omega,fun e=>by omega⟩
 ·obtain⟨u,rfl⟩:∃u:Nat,x=u:=⟨x.toNat,by omega⟩
  have hu:=h.all.root (v:=u) (by omega)
  have e2:numV F bs s2 l (u:Int)=numM F bs s2 l (rt l u):=by
   unfold numV toV
   rw[if_neg (by omega),Int.toNat_natCast]
  rw[e1,e2,rti_nat]
  exact⟨fun e=>by rw[h.num_inj hu hv e],fun e=>by rw[Int.ofNat_inj.1 e]⟩
theorem BuiltX.began_lt(h:BuiltX p F O bs K s1 s2 l s){j r:Nat}(hj:j<bs.length)(hr:r<12):(s1.began.getD j []).getD r 0<l.length:=by
 have hp:=h.raw.part j hj
 have h1:=(hp.bv _ (getD_mem12 hp.b12 hr)).2
 have h2:=h.raw.le j hj
 rw[h.len];omega
theorem getD_map12{f:Int→Int}{L:List Int}(hl:L.length=12){r:Nat}(hr:r<12):(L.map f).getD r 0=f (L.getD r 0):=getD_map f L 0 0 (by omega)
theorem BuiltX.newVal(h:BuiltX p F O bs K s1 s2 l s){j t:Nat}(hj:j<bs.length)(ht:t<(s.part j).ins.length)(hid:0≤(s.insA j t).id){r:Nat}(hr:r<12)(hb:(O.getD (hdA F j+t) 0).testBit r=true):(atR s F j t).getD r 0≠(s.insA j t).id:=by
 intro he
 rw[h.il hj] at ht
 have hpt:=h.raw.part j hj
 have hid2:(s.insA j t).id=numV F bs s2 l ((s1.part j).ins.getD t noIns).id:=by rw[h.insV hj ht];rfl
 have h0:=(h.numV_lt (h.idlt hj ht)).1 (by rw[←hid2];exact hid)
 obtain⟨v,hv⟩:∃v:Nat,((s1.part j).ins.getD t noIns).id=v:=⟨((s1.part j).ins.getD t noIns).id.toNat,by omega⟩
 obtain⟨r1,r2,r3⟩:=h.iroot hj ht hv
 have hrl:=rawL_len F (hdA F j) (s1.part j).ins (s1.began.getD j []) t
 rw[hpt.b12] at hrl
 rw[h.at_raw hj t (by omega),getD_map12 hrl hr,hid2,hv] at he
 rcases h.keepAt hj hr t (by omega) with⟨u,h1,h2,h3⟩|⟨h1,h2⟩
 ·obtain⟨v',hv'⟩:∃v:Nat,((s1.part j).ins.getD u noIns).id=v:=⟨((s1.part j).ins.getD u noIns).id.toNat,by omega⟩
  obtain⟨q1,q2,q3⟩:=h.iroot hj (by omega) hv'
  rw[h2,hv'] at he
  have hl:=(gI.1 q1).1
  have e:=(h.numV_rti (x:=(v' :Int)) (by omega) r1).1 he
  rw[rti_nat,rt_root q1] at e
  have:=hpt.inc u t h1 ht h0
  omega
 ·have hlv:=h2 ht hb
  rw[h1] at he
  have e:=(h.numV_rti (h.began_lt hj hr) r1).1 he
  obtain⟨q,hq,hf⟩:=h.fresh_in hj (d:=v) (by omega) r3
  by_cases hp:LeftPhi s1 l j r
  ·obtain⟨k,v',k1,k2,k3,k4,k5⟩:=hp
   rw[k4,rti_nat,rt_root k5] at e
   have hpid:=h.pid hj (by rw[h.phl];exact k1)
   rw[(h.cls.phi j k).2,k3] at hpid
   have hpid:=Int.ofNat_inj.1 hpid
   omega
  ·rw[h.enter hj hlv hp hq] at e
   exact hf r hr hlv e
def endV(s:SB)(F:Fnc)(q:Int)(r:Nat):Int:=if 0≤q then(atR s F q.toNat (s.part q.toNat).ins.length).getD r 0 else(r:Int)
theorem BuiltX.endV_eq(h:BuiltX p F O bs K s1 s2 l s){j:Nat}(hj:j<bs.length){q:Int}(hq:q∈prevL bs j){r:Nat}(hr:r<12)(hlv:(O.getD (hdA F j) 0).testBit r=true):numV F bs s2 l (comes s1.ends q r)=endV s F q r:=by
 have hq' :=hq
 rw[prevL_eq h.b.bok hj] at hq'
 rcases prevF_mem.1 hq' with⟨rfl,rfl⟩|⟨q',h1,h2,rfl⟩
 ·have h00:hdA F 0=0:=hdA_eq (zero_head (right_of h.hk) h.hF)
  rw[h00] at hlv
  have hrP:=live_entry h.hk h.hF h.b.lok hlv
  unfold comes endV
  rw[if_neg (by omega),if_neg (by omega)]
  exact(h.par hrP).2
 ·have hqB:q' <bs.length:=by rw[h.b.bok.len];exact h1
  unfold comes endV
  rw[if_pos (by omega),if_pos (by omega),Int.toNat_natCast,Int.toNat_natCast,h.il hqB,h.at_raw hqB _ (Nat.le_refl _),getD_map12 (by rw[rawL_len];exact(h.raw.part q' hqB).b12) hr,←(h.rawok hqB).e]
theorem BuiltX.fphi(h:BuiltX p F O bs K s1 s2 l s){j m:Nat}(hj:j<bs.length)(hm:m<(s.part j).phis.length):∃t,t<(s1.part j).phis.length∧s.phi j m=toPhi l (numM F bs s2 l) (s2.phi j t)∧l[lowB p F O bs K j+t]? =some ((lowB p F O bs K j+t:Nat):Int):=by
 have hkl:(keepF {s2 with same:=l} j).phis.length=(keptK {s2 with same:=l} j (s2.part j).phis.length).length:=by
  unfold keepF;rw[List.length_map];rfl
 have hpt:=h.b.part j hj
 rw[hpt] at hm
 simp only[List.length_map] at hm
 have hm2:m<(keptK {s2 with same:=l} j (s2.part j).phis.length).length:=by rw[←hkl];exact hm
 have hmm:=keptK_mem.1 (List.getElem_mem hm2)
 refine⟨_,by rw[←h.phl];exact hmm.1,?_,?_⟩
 ·unfold SB.phi
  rw[hpt]
  dsimp only
  rw[getD_map _ _ noPhi _ hm]
  congr 1
  unfold keepF
  show(List.map (SB.phi {s2 with same:=l} j) (keptK {s2 with same:=l} j (s2.part j).phis.length)).getD m noPhi=_
  rw[getD_map _ _ 0 _ hm2,gD,gE hm2];rfl
 ·have h2:=hmm.2
  have e:(({s2 with same:=l}:SB).phi j (keptK {s2 with same:=l} j (s2.part j).phis.length)[m]).id=((lowB p F O bs K j+(keptK {s2 with same:=l} j (s2.part j).phis.length)[m]:Nat):Int):=h.pid hj hmm.1
  rw[e,Int.toNat_natCast] at h2
  exact h2
theorem BuiltX.tophi(h:BuiltX p F O bs K s1 s2 l s){j t:Nat}(hj:j<bs.length)(ht:t<(s1.part j).phis.length){v:Nat}(hid:(s1.phi j t).id=(v:Int))(hr:l[v]? =some (v:Int)):∃m,m<(s.part j).phis.length∧s.phi j m=toPhi l (numM F bs s2 l) (s2.phi j t):=by
 have hkl:(keepF {s2 with same:=l} j).phis.length=(keptK {s2 with same:=l} j (s2.part j).phis.length).length:=by
  unfold keepF;rw[List.length_map];rfl
 have hpt:=h.b.part j hj
 have hmem:t∈keptK {s2 with same:=l} j (s2.part j).phis.length:=by
  refine keptK_mem.2 ⟨by rw[h.phl];exact ht,?_⟩
  have e:(({s2 with same:=l}:SB).phi j t).id=(v:Int):=(h.cls.phi j t).2.trans hid
  rw[e,Int.toNat_natCast];exact hr
 obtain⟨m,hm2,em⟩:=List.getElem_of_mem hmem
 have hm:m<(keepF {s2 with same:=l} j).phis.length:=by rw[hkl];exact hm2
 refine⟨m,by rw[hpt];simp only[List.length_map];exact hm,?_⟩
 unfold SB.phi
 rw[hpt]
 dsimp only
 rw[getD_map _ _ noPhi _ hm]
 congr 1
 unfold keepF
 show(List.map (SB.phi {s2 with same:=l} j) (keptK {s2 with same:=l} j (s2.part j).phis.length)).getD m noPhi=_
 rw[getD_map _ _ 0 _ hm2,gD,gE hm2]
 show SB.phi {s2 with same:=l} j (keptK {s2 with same:=l} j (s2.part j).phis.length)[m]=_
 rw[em];rfl
theorem BuiltX.come(h:BuiltX p F O bs K s1 s2 l s){j:Nat}(hj:j<bs.length){q:Int}(hq:q∈prevL bs j){r:Nat}(hr:r<12)(hlv:(O.getD (hdA F j) 0).testBit r=true):
 (∃m,m<(s.part j).phis.length∧(s.phi j m).reg=(r:Int)∧(s.phi j m).id=(s.part j).inn.getD r 0∧∀kk:Nat,(prevL bs j)[kk]? =some q→(s.phi j m).args[kk]? =some (endV s F q r))∨
 ((s.part j).inn.getD r 0=endV s F q r∧∀m,m<(s.part j).phis.length→(s.phi j m).id≠(s.part j).inn.getD r 0):=by
 have hpt:=h.raw.part j hj
 have hin:(s.part j).inn.getD r 0=numV F bs s2 l ((s1.began.getD j []).getD r 0):=by
  have e:=h.at_raw hj 0 (by omega)
  have e2:atR s F j 0=(s.part j).inn:=rfl
  rw[e2] at e
  rw[e,getD_map12 (show(rawL F (hdA F j) (s1.part j).ins (s1.began.getD j []) 0).length=12 from hpt.b12) hr];rfl
 by_cases hp:LeftPhi s1 l j r
 ·left
  obtain⟨k,v,k1,k2,k3,k4,k5⟩:=hp
  obtain⟨m,hm,em⟩:=h.tophi hj k1 k3 k5
  refine⟨m,hm,?_,?_,fun kk hkk=> ?_⟩
  ·rw[em]
   show(s2.phi j k).reg=_
   rw[(h.cls.phi j k).1];exact k2
  ·rw[em,hin,k4,←k3,←(h.cls.phi j k).2];rfl
  ·rw[em]
   show((s2.phi j k).args.map (toV l (numM F bs s2 l)))[kk]? =_
   rw[List.getElem?_map,h.args hj k1,k2]
   unfold fullA
   rw[List.getElem?_map,hkk,←h.endV_eq hj hq hr hlv];rfl
 ·right
  have hen:=fun q' (hq' :q' ∈prevL bs j)=>h.enter hj hlv hp hq'
  have hc:=comes_ok h.hk h.hF h.b.lok h.b.bok h.b.ord h.hs hj hr hlv hq
  rw[←h.len] at hc
  obtain⟨u,hu⟩:∃u:Nat,comes s1.ends q r=u:=⟨(comes s1.ends q r).toNat,by omega⟩
  have hbl:=h.began_lt hj hr
  have hroot:=h.all.root (v:=u) (by omega)
  have hru:rti l (comes s1.ends q r)=((rt l u:Nat):Int):=by rw[hu,rti_nat]
  have e1:=(h.numV_rti hbl hroot).2 (by rw[hen q hq,hru])
  have e2:=(h.numV_rti (x:=comes s1.ends q r) hc.2 hroot).2 hru
  refine⟨?_,fun m hm e=> ?_⟩
  ·rw[hin,e1,←e2];exact h.endV_eq hj hq hr hlv
  ·obtain⟨t,t1,t2,t3⟩:=h.fphi hj hm
   have hid:(s.phi j m).id=numV F bs s2 l ((lowB p F O bs K j+t:Nat):Int):=by
    rw[t2]
    show toV l (numM F bs s2 l) (s2.phi j t).id=_
    rw[h.pid hj (by rw[h.phl];exact t1)];rfl
   rw[hid,hin] at e
   have e3:=(h.numV_rti hbl t3).1 e.symm
   have hplo:=hpt.plo
   obtain⟨q0,hq0,hf⟩:=h.fresh_in hj (d:=lowB p F O bs K j+t) (by omega) (by omega)
   rw[hen q0 hq0] at e3
   exact hf r hr hlv e3
end
end Go.Proofs.YtedcjapmmnbamaaDoor
