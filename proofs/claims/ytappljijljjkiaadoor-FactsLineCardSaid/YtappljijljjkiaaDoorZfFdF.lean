/-
  Plain: the law of FactsForm.
-/
import Derived.Test.YtappljijljjkiaaDoorZfFdC
namespace Go.Proofs.YtappljijljjkiaaDoor
open Go.RowKit Tier
structure FormP(P vl H:Nat)(s:SB)(y:SV):Prop where
 n:y.F.length=vl
 m:y.met.length=H
 m0:y.met.getD 0 false=true
 par:∀v,v<P→(y.F.getD v noF).k=2
 val:∀v,(y.F.getD v noF).k≠1→(y.F.getD v noF).v=0
 set:∀i t,i<H→t<(s.part i).ins.length→(s.insA i t).op=1→∃d:Nat,(s.insA i t).id=d∧d<vl∧(y.met.getD i false=true→y.F.getD d noF=⟨1,(s.insA i t).imm⟩)∧(y.met.getD i false=false→(y.F.getD d noF).k=0)
theorem insA_two{s s' :SB}(h:s.parts=s'.parts)(i:Nat):s.part i=s'.part i∧s.insA i=s'.insA i:=by
 unfold SB.insA SB.part
 rw[h]
 exact⟨rfl,rfl⟩
section
variable {p:List Fnc}{F:Fnc}{O:List Nat}{bs:List BR}{K:Nat}{s1 s2 s:SB}{l:List Int}{y:SV}
theorem BuiltX.beg0(h:BuiltX p F O bs K s1 s2 l s){i:Nat}{id:Int}{f:SV→FactS}(hi:i<bs.length)(ha:AcF.say id f∈actsF F bs s i)(h0:0≤id):(ofF (stF F.params.toNat (valN F bs s2 l) bs.length).F id).k=0:=by
 obtain⟨x,hx,-,-,-⟩:=say_at h.finP hi ha h0
 rw[stF_eq]
 show(ofF (parF _ _) id).k=0
 unfold ofF
 rw[if_neg (by omega),parF_get,if_neg (by omega)];rfl
theorem BuiltX.form(h:BuiltX p F O bs K s1 s2 l s)(he:EndF (actsF F bs s) bs.length (stF F.params.toNat (valN F bs s2 l) bs.length) y):FormP F.params.toNat (valN F bs s2 l) bs.length s y:=by
 have S:=h.sys
 have g:=h.beg
 have hd:(stF F.params.toNat (valN F bs s2 l) bs.length).dirty=true:=by rw[stF_eq]
 have hf:=h.finP
 have hH0:0<bs.length:=by
  rw[h.b.bok.len]
  exact(gI.1 (zero_head (right_of h.hk) h.hF)).1
 obtain⟨gy,ly,dy⟩:=S.done g hd he
 refine⟨gy.n,gy.m,(gy.mt 0 hH0).2 ⟨-1,ly.e (-1) 0 (by rw[stF_eq];simp)⟩,fun v hv=> ?_,fun v hv=> ?_,fun i t hi ht ho=> ?_⟩
 ·have h1:=ly.f v
  rw[stF_eq] at h1
  have h2:((parF F.params.toNat (valN F bs s2 l)).getD v noF).le (y.F.getD v noF):=h1
  rw[parF_get,if_pos ⟨hv,by have:=hf.vals;omega⟩] at h2
  rcases h2 with h3|h3|h3
  ·exact absurd h3 (by decide)
  ·exact h3.1.symm
  ·exact h3
 ·have:=gy.ok v
  unfold FactS.ok at this
  omega
 ·have hop:=(hf.iop i t hi ht).1
  rw[ho] at hop
  have h0:0≤(s.insA i t).id:=(hf.iset i t hi ht).2 (by unfold setsB;rw[←hop];rfl)
  have hmem:inA s i t∈actsF F bs s i:=mem_acts.2 (.inr (.inl ⟨t,ht,rfl⟩))
  have hlt:=hf.iLt hi ht
  have ha:(s.insA i t).a<0:=by
   refine Int.not_le.1 fun hc=> ?_
   have:=(hf.ia i t hi ht).1.1 hc
   unfold useA at this
   rw[←hop] at this
   exact absurd this (by simp[takesA])
  have hb:(s.insA i t).b<0:=by
   refine Int.not_le.1 fun hc=> ?_
   have:=(hf.ib i t hi ht).1.1 hc
   unfold useB at this
   rw[←hop] at this
   exact absurd this (by simp[takesB])
  have hfv:∀z:SV,makeF (s.insA i t).op (s.insA i t).imm (ofF z.F (s.insA i t).a) (ofF z.F (s.insA i t).b)=⟨1,(s.insA i t).imm⟩:=fun z=>by
   unfold ofF
   rw[if_pos ha,if_pos hb,ho]
   simp[makeF,Tier.mk]
  have hof:ofF y.F (s.insA i t).id=y.F.getD (s.insA i t).id.toNat noF:=by unfold ofF;rw[if_neg (by omega)]
  refine⟨(s.insA i t).id.toNat,by omega,by omega,fun hm=> ?_,fun hm=> ?_⟩
  ·have:=dy.say S gy hi hm hmem h0
   rw[←hof,this]
   exact hfv y
  ·have:=S.unmet g hd (fun i' id' f' hi' ha' h0' =>h.beg0 hi' ha' h0') he hi (by rw[hm];simp) hmem h0
   rw[←hof];exact this
end
end Go.Proofs.YtappljijljjkiaaDoor
