/-
  Plain: what is known of the values of two small functions: one with a way that is never gone, one with a loop.
-/
import Derived.Test.YtappljijljjkiaaDoorZfFdF
import Derived.Test.YtappljijljjkiaaDoorZfSv6
namespace Go.Proofs.YtappljijljjkiaaDoor
open Go.RowKit Tier
theorem getD_stf{α:Type}(l:List α)(i j:Nat)(x d:α):(l.set i x).getD j d=if j=i∧i<l.length then x else l.getD j d:=by
 rw[gD,List.getElem?_set]
 by_cases e:i=j
 ·subst e
  rw[if_pos rfl]
  by_cases h:i<l.length
  ·rw[if_pos h,if_pos ⟨rfl,h⟩];rfl
  ·rw[if_neg h,if_neg (fun e=>h e.2),gD,List.getElem?_eq_none (by omega)]
 ·rw[if_neg e,if_neg (fun h=>e h.1.symm),gD]
section
variable {p:List Fnc}{F:Fnc}{O:List Nat}{bs:List BR}{l:List Int}{s s1 s2:SB}{K:Nat}{y:SV}
theorem BuiltX.inn12(h:BuiltX p F O bs K s1 s2 l s){j:Nat}(hj:j<bs.length):(s.part j).inn.length=12:=by
 unfold SB.part
 rw[gD,gE (by rw[h.b.len];exact hj)]
 exact h.finP.inn _ (List.getElem_mem _)
theorem BuiltX.aV(h:BuiltX p F O bs K s1 s2 l s){j t:Nat}(hj:j<bs.length)(ht:t<(s.part j).ins.length):(s.insA j t).a=(if useA p (insAt F (hdA F j+t))=true then(atR s F j t).getD (insAt F (hdA F j+t)).a.toNat 0 else -1)∧(s.insA j t).b=if useB p (insAt F (hdA F j+t))=true then(atR s F j t).getD (insAt F (hdA F j+t)).b.toNat 0 else -1:=by
 have hp:=right_of h.hk
 have ht1:t<(s1.part j).ins.length:=by rw[←h.il hj];exact ht
 have hjH:j<(hdL F).length:=by rw[←h.b.bok.len];exact hj
 have hsp:=toF_spec hp h.hF (hdA_mem2 hjH).1
 have hil:=h.finP.il j hj
 have hx:F.code[hdA F j+t]? =some (insAt F (hdA F j+t)):=by unfold insAt;rw[gD,gE (by omega)];rfl
 have hio:=(hp.ok.fn F h.hF).ins _ (gM hx)
 have hr2:=(hp.ok.fn F h.hF).r2
 have:=hio.a1;have:=hio.a2;have:=hio.b1;have:=hio.b2
 obtain⟨ea,eb⟩:=(h.rawok hj).ab t ht1
 have er:=h.at_raw hj t (by omega)
 have hl12:(rawL F (hdA F j) (s1.part j).ins (s1.began.getD j []) t).length=12:=by rw[rawL_len];exact(h.raw.part j hj).b12
 rw[h.insV hj ht1,er]
 refine⟨?_,?_⟩
 ·show toV l (numM F bs s2 l) ((s1.part j).ins.getD t noIns).a=_
  rw[ea]
  split
  ·rw[getD_map12 hl12 (by omega)];rfl
  ·exact toV_neg (by omega)
 ·show toV l (numM F bs s2 l) ((s1.part j).ins.getD t noIns).b=_
  rw[eb]
  split
  ·rw[getD_map12 hl12 (by omega)];rfl
  ·exact toV_neg (by omega)
theorem BuiltX.atS(h:BuiltX p F O bs K s1 s2 l s){j t:Nat}(hj:j<bs.length){r:Nat}(hd:(insAt F (hdA F j+t)).dst.toNat<12)(h0:0≤(s.insA j t).id):(atR s F j (t+1)).getD r 0=if r=(insAt F (hdA F j+t)).dst.toNat then(s.insA j t).id else(atR s F j t).getD r 0:=by
 have e:atR s F j (t+1)=(atR s F j t).set (insAt F (hdA F j+t)).dst.toNat (s.insA j t).id:=if_pos h0
 rw[e,getD_stf]
 by_cases er:r=(insAt F (hdA F j+t)).dst.toNat
 ·rw[if_pos ⟨er,by rw[atR_len (h.inn12 hj)];exact hd⟩,if_pos er]
 ·rw[if_neg (fun e=>er e.1),if_neg er]
theorem BuiltX.fsay(h:BuiltX p F O bs K s1 s2 l s)(g:GoodF (valN F bs s2 l) bs.length (actsF F bs s) y)(d:DoneF (actsF F bs s) bs.length y){j t:Nat}(hj:j<bs.length)(hm:y.met.getD j false=true)(ht:t<(s.part j).ins.length)(h0:0≤(s.insA j t).id):ofF y.F (s.insA j t).id=makeF (insAt F (hdA F j+t)).op (insAt F (hdA F j+t)).imm (ofF y.F (s.insA j t).a) (ofF y.F (s.insA j t).b):=by
 obtain⟨e1,e2,-⟩:=h.finP.iop j t hj ht
 rw[←e1,←e2]
 exact d.say h.sys g hj hm (mem_acts.2 (.inr (.inl ⟨t,ht,rfl⟩))) h0
theorem BuiltX.set1(h:BuiltX p F O bs K s1 s2 l s){j t:Nat}(hj:j<bs.length)(ht:t<(s.part j).ins.length){x:Ins}(hx:insAt F (hdA F j+t)=x)(hs:setsB x=true):0≤(s.insA j t).id:=(h.finP.iset j t hj ht).2 (by rw[hx];exact hs)
theorem BuiltX.set0(h:BuiltX p F O bs K s1 s2 l s){j t:Nat}(hj:j<bs.length)(ht:t<(s.part j).ins.length){x:Ins}(hx:insAt F (hdA F j+t)=x)(hs:setsB x=false):¬0≤(s.insA j t).id:=fun e=>by
 have:=(h.finP.iset j t hj ht).1 e
 rw[hx,hs] at this
 cases this
theorem BuiltX.aX(h:BuiltX p F O bs K s1 s2 l s){j t:Nat}(hj:j<bs.length)(ht:t<(s.part j).ins.length){x:Ins}(hx:insAt F (hdA F j+t)=x):(s.insA j t).a=(if useA p x=true then(atR s F j t).getD x.a.toNat 0 else -1)∧(s.insA j t).b=if useB p x=true then(atR s F j t).getD x.b.toNat 0 else -1:=by
 subst hx
 exact h.aV hj ht
theorem BuiltX.atX(h:BuiltX p F O bs K s1 s2 l s){j t:Nat}(hj:j<bs.length){r:Nat}{x:Ins}(hx:insAt F (hdA F j+t)=x){d:Nat}(hd:x.dst.toNat=d)(hd12:d<12)(h0:0≤(s.insA j t).id):(atR s F j (t+1)).getD r 0=if r=d then(s.insA j t).id else(atR s F j t).getD r 0:=by
 subst hx hd
 exact h.atS hj hd12 h0
theorem BuiltX.sayX(h:BuiltX p F O bs K s1 s2 l s)(g:GoodF (valN F bs s2 l) bs.length (actsF F bs s) y)(d:DoneF (actsF F bs s) bs.length y){j t:Nat}(hj:j<bs.length)(hm:y.met.getD j false=true)(ht:t<(s.part j).ins.length)(h0:0≤(s.insA j t).id){x:Ins}(hx:insAt F (hdA F j+t)=x):ofF y.F (s.insA j t).id=makeF x.op x.imm (ofF y.F (s.insA j t).a) (ofF y.F (s.insA j t).b):=by
 subst hx
 exact h.fsay g d hj hm ht h0
end
theorem own_raw{W:World}{g n size:Nat}{t:TypeId}{xs:List Value}(h:W.heap[g]? =some (.cells xs.toArray t (0,0)))(hl:xs.length=n*size)(hn:n≤1000):W.ownsRow 0 t size (.slice (some ⟨g,0,none⟩) n n) n xs:=
 ⟨hl, .inr ⟨g,n,xs.toArray,rfl,Nat.zero_le _,h,Nat.le_refl _,by unfold maxLen;omega,by simpa using hl,by
   show xs.take _=xs
   rw[List.take_of_length_le (by omega)]⟩⟩
theorem fact_cell{W:World}{g i:Nat}{L:List FactS}{t:TypeId}(h:W.heap[g]? =some (.cells (factCells L).toArray t (0,0)))(hi:i<L.length):W.cell? ⟨g,i*2,none⟩=some (.int .i64 (L.getD i noF).k)∧W.cell? ⟨g,i*2+1,none⟩=some (.int .i64 (L.getD i noF).v):=by
 constructor
 ·refine(cell_block h _).trans (List.getElem?_toArray.trans ?_)
  exact flat_at (f:=fun i=>(L.getD i noF).cells) (n:=2) (t:=0) (fun _ _=>rfl) hi (by omega)
 ·refine(cell_block h _).trans (List.getElem?_toArray.trans ?_)
  exact flat_at (f:=fun i=>(L.getD i noF).cells) (n:=2) (t:=1) (fun _ _=>rfl) hi (by omega)
end Go.Proofs.YtappljijljjkiaaDoor
