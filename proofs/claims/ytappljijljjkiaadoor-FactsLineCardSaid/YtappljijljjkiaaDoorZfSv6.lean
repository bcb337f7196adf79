import Derived.Test.YtappljijljjkiaaDoorZfSv5
import Derived.Deep.CutBlock
import Derived.Deep.CutRange
import Derived.Deep.DeepCutAuto
namespace Go.Proofs.YtappljijljjkiaaDoor
open Go.RowKit Tier
def atR(s:SB)(F:Fnc)(i:Nat):Nat→List Int
 |0=>(s.part i).inn
 |t+1=>if 0≤(s.insA i t).id then(atR s F i t).set (insAt F (hdA F i+t)).dst.toNat (s.insA i t).id else atR s F i t
theorem atR_len{s:SB}{F:Fnc}{i:Nat}(h:(s.part i).inn.length=12):∀t,(atR s F i t).length=12
 |0=>h
 |t+1=>by
  unfold atR
  split
  ·rw[List.length_set];exact atR_len h t
  ·exact atR_len h t
def rawL(F:Fnc)(a:Nat)(I:List InsS)(R:List Int):Nat→List Int
 |0=>R
 |t+1=>if 0≤(I.getD t noIns).id then(rawL F a I R t).set (insAt F (a+t)).dst.toNat (I.getD t noIns).id else rawL F a I R t
theorem rawL_len(F:Fnc)(a:Nat)(I:List InsS)(R:List Int):∀t,(rawL F a I R t).length=R.length
 |0=>rfl
 |t+1=>by
  unfold rawL
  split
  ·rw[List.length_set];exact rawL_len F a I R t
  ·exact rawL_len F a I R t
theorem rawL_app(F:Fnc)(a:Nat)(I J:List InsS)(R:List Int):∀t,t≤I.length→rawL F a (I++J) R t=rawL F a I R t
 |0,_=>rfl
 |t+1,h=>by
  have e:(I++J).getD t noIns=I.getD t noIns:=by
   rw[gD,gD,List.getElem?_append_left (by omega)]
  unfold rawL
  rw[e,rawL_app F a I J R t (by omega)]
theorem bod_raw(p:List Fnc)(F:Fnc)(a:Nat){R:List Int}(hR:R.length=12)(S:List Int):∀n,(bodTo p F a R S n).R=rawL F a (bodTo p F a R S n).I R n∧
 ∀t,t<n→((bodTo p F a R S n).I.getD t noIns).a=(if useA p (insAt F (a+t))=true then(rawL F a (bodTo p F a R S n).I R t).getD (insAt F (a+t)).a.toNat 0 else -1)∧((bodTo p F a R S n).I.getD t noIns).b=(if useB p (insAt F (a+t))=true then(rawL F a (bodTo p F a R S n).I R t).getD (insAt F (a+t)).b.toNat 0 else -1)
 |0=>⟨rfl,fun t ht=>by omega⟩
 |n+1=>by
  obtain⟨h1,h2⟩:=bod_raw p F a hR S n
  have hl:=(bodTo_len p F a hR S n).2.2
  rw[bodTo_succ]
  generalize bodTo p F a R S n=y at h1 h2 hl
  have hI:∀(z:InsS) (t:Nat),t<n+1→(y.I++[z]).getD t noIns=if t<n then y.I.getD t noIns else z:=fun z t ht=>by
   rw[getD_snoc' _ _ _ (by rw[List.length_append,hl,List.length_singleton];exact ht),hl]
  have key:∀(id:Int),∀t,t<n+1→((y.I++[insV p (insAt F (a+n)) y.R (a+n) id]).getD t noIns).a=(if useA p (insAt F (a+t))=true then(rawL F a (y.I++[insV p (insAt F (a+n)) y.R (a+n) id]) R t).getD (insAt F (a+t)).a.toNat 0 else -1)∧((y.I++[insV p (insAt F (a+n)) y.R (a+n) id]).getD t noIns).b=(if useB p (insAt F (a+t))=true then(rawL F a (y.I++[insV p (insAt F (a+n)) y.R (a+n) id]) R t).getD (insAt F (a+t)).b.toNat 0 else -1):=fun id t ht=>by
   rw[hI _ t ht,rawL_app F a _ _ R t (by omega)]
   by_cases e:t<n
   ·rw[if_pos e];exact h2 t e
   ·obtain rfl:t=n:=by omega
    rw[if_neg e,←h1]
    exact⟨rfl,rfl⟩
  have hn:∀z:InsS,rawL F a (y.I++[z]) R (n+1)=if 0≤z.id then y.R.set (insAt F (a+n)).dst.toNat z.id else y.R:=fun z=>by
   have e:=hI z n (by omega)
   rw[if_neg (Nat.lt_irrefl n)] at e
   have e2:=rawL_app F a y.I [z] R n (by omega)
   show(if 0≤((y.I++[z]).getD n noIns).id then(rawL F a (y.I++[z]) R n).set _ ((y.I++[z]).getD n noIns).id else rawL F a (y.I++[z]) R n)=_
   rw[e,e2,←h1]
  unfold bodStep
  by_cases hs:setsB (insAt F (a+n))=true
  ·rw[if_pos hs]
   refine⟨?_,key _⟩
   show y.R.set _ _=rawL F a (y.I++[_]) R (n+1)
   rw[hn]
   show _=if (0:Int)≤(y.S.length:Int) then _ else _
   rw[if_pos (by omega)];rfl
  ·rw[if_neg hs]
   refine⟨?_,key _⟩
   show y.R=rawL F a (y.I++[_]) R (n+1)
   rw[hn]
   show _=if (0:Int)≤-1 then _ else _
   rw[if_neg (by omega)]
structure RawOk(p:List Fnc)(F:Fnc)(j:Nat)(x:PartS)(B E:List Int):Prop where
 e:E=rawL F (hdA F j) x.ins B x.ins.length
 ab:∀t,t<x.ins.length→(x.ins.getD t noIns).a=(if useA p (insAt F (hdA F j+t))=true then(rawL F (hdA F j) x.ins B t).getD (insAt F (hdA F j+t)).a.toNat 0 else -1)∧(x.ins.getD t noIns).b=(if useB p (insAt F (hdA F j+t))=true then(rawL F (hdA F j) x.ins B t).getD (insAt F (hdA F j+t)).b.toNat 0 else -1)
section
variable {p:List Fnc}{F:Fnc}{O:List Nat}{bs:List BR}{l:List Int}{s s1 s2:SB}{K:Nat}
theorem raw_all(hk:checkP p=0)(hF:F∈p)(hO:LiveOk p F O)(hb:BlkOk F bs){l:List Nat}(hl:l.Nodup)(hlm:∀j∈l,j<bs.length)(h00:l.getD 0 0=0)(hbe:Behind (fun i=>nxI F (hdA F i)) l):∀t,t≤l.length→∀u,u<t→∀j,l[u]? =some j→RawOk p F j ((bldTo p F O bs l t).part j) ((bldTo p F O bs l t).began.getD j []) ((bldTo p F O bs l t).ends.getD j [])
 |0,_=>fun u hu=>by omega
 |t+1,ht=>by
  have hp:=right_of hk
  have hi:l[t]? =some (l[t]'(by omega)):=gE _
  generalize l[t]'(by omega)=i at hi
  have hB:=binv hk hF hO hb hl hlm h00 hbe t (by omega)
  have ih:=raw_all hk hF hO hb hl hlm h00 hbe t (by omega)
  rw[bldTo_succ p F O bs l hi]
  generalize hs:bldTo p F O bs l t=s at hB ih
  have hiB:=hlm i (gM hi)
  have hiH:i<(hdL F).length:=by rw[←hb.len];exact hiB
  have htl:=(gI.1 hi).1
  have hnt:∀u,u<t→∀j,l[u]? =some j→j≠i:=fun u hu j hj e=>by
   subst e
   have:=(List.getElem_inj (h₀:=(gI.1 hj).1) (h₁:=htl) hl).1 (by rw[(gI.1 hj).2,(gI.1 hi).2])
   omega
  have hin:i<s.parts.length:=by rw[hB.n];exact hiB
  have hpj:∀j,j≠i→(bldStep p F O bs s i).part j=s.part j:=fun j hj=>by
   have h:=part_set s hin ⟨(i:Int),(s.part i).phis++(bldX F O bs s i).P,(s.part i).ins++(bldY p F O bs s i).I,(s.part i).inn⟩ j
   rw[if_neg hj] at h
   exact h
  have hej:∀j,(bldStep p F O bs s i).ends.getD j []=if j=i then(bldY p F O bs s i).R else s.ends.getD j []:=fun j=>getD_set _ (by rw[hB.ne];exact hiB) _ _ j
  have hbj:∀j,(bldStep p F O bs s i).began.getD j []=if j=i then(bldX F O bs s i).R else s.began.getD j []:=fun j=>getD_set _ (by rw[hB.nb];exact hiB) _ _ j
  intro u hu j hj
  by_cases e:u=t
  ·subst e
   obtain rfl:=Option.some.inj (hi.symm.trans hj)
   have hni:i∉l.take u:=fun hm=>by
    obtain⟨v,hv,e⟩:=List.getElem_of_mem hm
    rw[List.length_take] at hv
    rw[List.getElem_take] at e
    exact hnt v (by omega) i (by rw[gE (by omega),e]) rfl
   have hz:=hB.un i hiB hni
   have hpart:(bldStep p F O bs s i).part i=⟨(i:Int),(bldX F O bs s i).P,(bldY p F O bs s i).I,zR⟩:=by
    have h:=part_set s hin ⟨(i:Int),(s.part i).phis++(bldX F O bs s i).P,(s.part i).ins++(bldY p F O bs s i).I,(s.part i).inn⟩ i
    rw[if_pos rfl] at h
    have h2:(bldStep p F O bs s i).part i=⟨(i:Int),(s.part i).phis++(bldX F O bs s i).P,(s.part i).ins++(bldY p F O bs s i).I,(s.part i).inn⟩:=h
    rw[h2,hz];rfl
   have hX:=ent_facts (jn bs i) i (O.getD (hdA F i) 0) (bldE bs s i) s.same F.regs.toNat (by have:=(hp.ok.fn F hF).r2;omega)
   have hXe:entTo (jn bs i) i (O.getD (hdA F i) 0) (bldE bs s i) s.same F.regs.toNat=bldX F O bs s i:=rfl
   rw[hXe] at hX
   have hYe:bodTo p F (hdA F i) (bldX F O bs s i).R (bldX F O bs s i).S (toF F (hdA F i)-hdA F i)=bldY p F O bs s i:=rfl
   have hYl:=(bodTo_len p F (hdA F i) hX.rl (bldX F O bs s i).S (toF F (hdA F i)-hdA F i)).2.2
   have hraw:=bod_raw p F (hdA F i) hX.rl (bldX F O bs s i).S (toF F (hdA F i)-hdA F i)
   rw[hYe] at hYl hraw
   rw[hpart,hej,if_pos rfl,hbj,if_pos rfl]
   refine⟨?_,fun t ht=> ?_⟩
   ·show(bldY p F O bs s i).R=rawL F (hdA F i) (bldY p F O bs s i).I (bldX F O bs s i).R (bldY p F O bs s i).I.length
    rw[hYl];exact hraw.1
   ·exact hraw.2 t (by rw[←hYl];exact ht)
  ·have hji:=hnt u (by omega) j hj
   have h:=ih u (by omega) j hj
   rw[hpj j hji,hej,if_neg hji,hbj,if_neg hji]
   exact h
theorem BuiltX.rawok(h:BuiltX p F O bs K s1 s2 l s){j:Nat}(hj:j<bs.length):RawOk p F j (s1.part j) (s1.began.getD j []) (s1.ends.getD j []):=by
 obtain⟨h1,h2⟩:=ord_ok h.hk h.hF h.b.bok K
 obtain⟨u,hu,e⟩:=List.getElem_of_mem (ord_all h.hk h.hF h.b.bok h.b.ord j hj)
 have h3:=raw_all h.hk h.hF h.b.lok h.b.bok h1.nodup h1.lt h1.fst h1.beh K (by rw[h.b.ord];exact Nat.le_refl _) u (Nat.lt_of_lt_of_eq hu h.b.ord) j (by rw[gE hu,e])
 rw[h.hs] at h3
 exact h3
noncomputable def numV(F:Fnc)(bs:List BR)(s2:SB)(l:List Int)(v:Int):Int:=toV l (numM F bs s2 l) v
theorem BuiltX.numV_lt(h:BuiltX p F O bs K s1 s2 l s){v:Int}(hv:v<l.length):(0≤numV F bs s2 l v↔0≤v):=by
 by_cases h0:0≤v
 ·exact⟨fun _=>h0,fun _=>(h.toV_ge h0 hv).1⟩
 ·unfold numV
  rw[toV_neg (by omega)]
theorem BuiltX.il(h:BuiltX p F O bs K s1 s2 l s){j:Nat}(hj:j<bs.length):(s.part j).ins.length=(s1.part j).ins.length:=by
 rw[h.b.part j hj]
 dsimp only
 rw[List.length_map,h.ins]
theorem BuiltX.insV(h:BuiltX p F O bs K s1 s2 l s){j t:Nat}(hj:j<bs.length)(ht:t<(s1.part j).ins.length):s.insA j t=toIns l (numM F bs s2 l) ((s1.part j).ins.getD t noIns):=by
 unfold SB.insA
 rw[h.b.part j hj]
 dsimp only
 rw[h.ins,getD_map _ _ noIns _ ht];rfl
theorem BuiltX.idlt(h:BuiltX p F O bs K s1 s2 l s){j t:Nat}(hj:j<bs.length)(ht:t<(s1.part j).ins.length):((s1.part j).ins.getD t noIns).id<l.length:=by
 by_cases e:0≤((s1.part j).ins.getD t noIns).id
 ·obtain⟨v,hv⟩:∃v:Nat,((s1.part j).ins.getD t noIns).id=v:=⟨((s1.part j).ins.getD t noIns).id.toNat,by omega⟩
  have h1:=(h.iroot hj ht hv).2.2
  have h2:=h.raw.le j hj
  rw[h.len,hv];omega
 ·omega
theorem BuiltX.at_raw(h:BuiltX p F O bs K s1 s2 l s){j:Nat}(hj:j<bs.length):∀t,t≤(s1.part j).ins.length→atR s F j t=(rawL F (hdA F j) (s1.part j).ins (s1.began.getD j []) t).map (numV F bs s2 l)
 |0,_=>by
  show(s.part j).inn=(s1.began.getD j []).map _
  rw[h.b.part j hj]
  show(s2.began.getD j []).map _=_
  rw[h.cls.began];rfl
 |t+1,ht=>by
  have ih:=BuiltX.at_raw h hj t (by omega)
  have hid:(s.insA j t).id=numV F bs s2 l ((s1.part j).ins.getD t noIns).id:=by rw[h.insV hj (by omega)];rfl
  have h0:=h.numV_lt (h.idlt hj (t:=t) (by omega))
  show(if 0≤(s.insA j t).id then(atR s F j t).set _ (s.insA j t).id else atR s F j t)=_
  unfold rawL
  rw[hid,ih]
  by_cases e:0≤((s1.part j).ins.getD t noIns).id
  ·rw[if_pos e,if_pos (h0.2 e),List.map_set]
  ·rw[if_neg e,if_neg (fun h=>e (h0.1 h))]
theorem getD_map12{f:Int→Int}{L:List Int}(hl:L.length=12){r:Nat}(hr:r<12):(L.map f).getD r 0=f (L.getD r 0):=getD_map f L 0 0 (by omega)
end
end Go.Proofs.YtappljijljjkiaaDoor
