/-
  A run that is followed: what its operands are, what phis are in memory.
-/
import Derived.Test.YtedcjapmmnbamaaDoorFoM
import Derived.Test.YtedcjapmmnbamaaDoorFoN
namespace Go.Proofs.YtedcjapmmnbamaaDoor
open Go.RowKit Tier
theorem info_ins6:(Tryd.prog.info? 77).map (·.size)=some 6:=by kernel_rfl
section
variable {p:List Fnc}{F:Fnc}{O:List Nat}{bs:List BR}{l:List Int}{s s1 s2:SB}{K:Nat}{x:FoS}{f:Fr}{j t:Nat}
theorem getD_map13{g:Int→Int}{l:List Int}(hl:l.length=12){r:Nat}(hr:r<12):(l.map g).getD r 0=g (l.getD r 0):=by
 rw[gD,gD,List.getElem?_map,gE (by omega)];rfl
theorem BuiltX.aW(h:BuiltX p F O bs K s1 s2 l s)(hj:j<bs.length)(ht:t<(s.part j).ins.length):(s.insA j t).a=(if useA p (insAt F (hdA F j+t))=true then(atR s F j t).getD (insAt F (hdA F j+t)).a.toNat 0 else -1)∧(s.insA j t).b=if useB p (insAt F (hdA F j+t))=true then(atR s F j t).getD (insAt F (hdA F j+t)).b.toNat 0 else -1:=by
 have hp:=right_of h.hk
 have ht1:t<(s1.part j).ins.length:=by rw[←h.il hj];exact ht
 have hjH:j<(hdL F).length:=by rw[←h.b.bok.len];exact hj
 have hsp:=toF_spec hp h.hF (hdA_mem2 hjH).1
 have hil:=h.finP.il j hj
 have hx:F.code[hdA F j+t]? =some (insAt F (hdA F j+t)):=by unfold insAt;rw[gD,gE (by omega)];rfl
 have hio:=(hp.ok.fn F h.hF).ins _ (gM hx)
 have hr2:=(hp.ok.fn F h.hF).r2
 have:=hio.a1;have:=hio.a2;have:=hio.b1;have:=hio.b2
 obtain⟨ea,eb⟩:=(h.rawok hj).ab t ht1
 have er:=h.at_raw hj t (by omega)
 have hl12:(rawL F (hdA F j) (s1.part j).ins (s1.began.getD j []) t).length=12:=by rw[rawL_len];exact(h.raw.part j hj).b12
 rw[h.insV hj ht1,er]
 refine⟨?_,?_⟩
 ·show toV l (numM F bs s2 l) ((s1.part j).ins.getD t noIns).a=_
  rw[ea]
  split
  ·rw[getD_map13 hl12 (by omega)];rfl
  ·exact toV_neg (by omega)
 ·show toV l (numM F bs s2 l) ((s1.part j).ins.getD t noIns).b=_
  rw[eb]
  split
  ·rw[getD_map13 hl12 (by omega)];rfl
  ·exact toV_neg (by omega)
theorem FolW.use(h:BuiltX p F O bs K s1 s2 l s)(hW:FolW F O bs s (valN F bs s2 l) x f j t):
 ((s.insA j t).a<0∨∃v r:Nat,(s.insA j t).a=v∧(insAt F (hdA F j+t)).a=r∧r<12∧v<valN F bs s2 l∧(watD F s x).getD v false=true∧(watE F bs s x).getD v 0=f.regs.getD r 0)∧
 ((s.insA j t).b<0∨∃v r:Nat,(s.insA j t).b=v∧(insAt F (hdA F j+t)).b=r∧r<12∧v<valN F bs s2 l∧(watD F s x).getD v false=true∧(watE F bs s x).getD v 0=f.regs.getD r 0):=by
 have hp:=right_of h.hk
 have hj:=hW.jl
 have ht:=hW.tl
 have hjH:j<(hdL F).length:=by rw[←h.b.bok.len];exact hj
 obtain⟨ham,-⟩:=hdA_mem2 hjH
 have hsp:=toF_spec hp h.hF ham
 have hil:=h.finP.il j hj
 have hx:F.code[hdA F j+t]? =some (insAt F (hdA F j+t)):=by unfold insAt;rw[gD,gE (by omega)];rfl
 have hio:=(hp.ok.fn F h.hF).ins _ (gM hx)
 have hr2:=(hp.ok.fn F h.hF).r2
 have a1:=hio.a1;have a2:=hio.a2;have b1:=hio.b1;have b2:=hio.b2
 have hpr:rchB F (hdA F j+t)=true:=cov_rch hp h.hF ham (by omega) (by omega)
 obtain⟨-,hp2⟩:=h.b.lok.pre (hdA F j+t) _ hpr hx
 obtain⟨ea,eb⟩:=h.aW hj ht
 have key:∀r:Nat,r<12→(O.getD (hdA F j+t) 0).testBit r=true→∃v:Nat,(atR s F j t).getD r 0=v∧v<valN F bs s2 l∧(watD F s x).getD v false=true∧(watE F bs s x).getD v 0=f.regs.getD r 0:=fun r hr hb=>by
  obtain⟨v,v1,v2,v3,v4⟩:=hW.ok r hr hb
  rw[hW.el] at v2
  exact⟨v,v1,v2,v3,v4⟩
 refine⟨?_,?_⟩
 ·by_cases u:useA p (insAt F (hdA F j+t))=true
  ·rw[if_pos u] at ea
   obtain⟨v,v1,v2,v3,v4⟩:=key (insAt F (hdA F j+t)).a.toNat (by omega) (hp2 _ (useA_reads u))
   exact .inr ⟨v,(insAt F (hdA F j+t)).a.toNat,by rw[ea,v1],by omega,by omega,v2,v3,v4⟩
  ·rw[if_neg u] at ea
   exact .inl (by omega)
 ·by_cases u:useB p (insAt F (hdA F j+t))=true
  ·rw[if_pos u] at eb
   obtain⟨v,v1,v2,v3,v4⟩:=key (insAt F (hdA F j+t)).b.toNat (by omega) (hp2 _ (useB_reads u))
   exact .inr ⟨v,(insAt F (hdA F j+t)).b.toNat,by rw[eb,v1],by omega,by omega,v2,v3,v4⟩
  ·rw[if_neg u] at eb
   exact .inl (by omega)
theorem FolW.inn(h:BuiltX p F O bs K s1 s2 l s)(hW:FolW F O bs s (valN F bs s2 l) x f j 0){r:Nat}(hr:r<12):(s.part j).inn.getD r 0<0∨∃v:Nat,(s.part j).inn.getD r 0=v∧v<valN F bs s2 l∧(watD F s x).getD v false=true∧(watE F bs s x).getD v 0=f.regs.getD r 0:=by
 by_cases e:0≤(s.part j).inn.getD r 0
 ·obtain⟨v,v1,v2,v3,v4⟩:=hW.ok r hr (by have:=((h.finP.innl j r hW.jl hr).1).1 e;rw[Nat.add_zero];exact this)
  rw[hW.el] at v2
  exact .inr ⟨v,v1,v2,v3,v4⟩
 ·exact .inl (by omega)
theorem getD_repf(n v:Nat):(List.replicate n false).getD v false=false:=by
 rw[gD,List.getElem?_replicate]
 split<;>rfl
theorem row_lt{w:World}{b:Nat}{c:SC}{s:SB}{V:SK→Value}(h:SbAt w b c s V){k:SK}{A:Option Addr}{n cap g:Nat}(hv:V k= .slice A n cap)(e:A=some ⟨g,0,none⟩):b<g∧g<w.heap.size:=h.rlt k (by rw[hv,e];rfl)
def cameL(s:SB)(j kk:Nat)(E:List Int)(n:Nat):List Int:=(List.range n).map fun m=>E.getD ((s.phi j m).args.getD kk 0).toNat 0
theorem cameL_len(s:SB)(j kk:Nat)(E:List Int)(n:Nat):(cameL s j kk E n).length=n:=by unfold cameL;simp
theorem cameL_succ(s:SB)(j kk:Nat)(E:List Int)(n:Nat):cameL s j kk E (n+1)=cameL s j kk E n++[E.getD ((s.phi j n).args.getD kk 0).toNat 0]:=by unfold cameL;simp[List.range_succ]
theorem cameL_at(s:SB)(j kk:Nat)(E:List Int){n m:Nat}(h:m<n):(cameL s j kk E n)[m]? =some (E.getD ((s.phi j m).args.getD kk 0).toNat 0):=by unfold cameL;simp[List.getElem?_map,List.getElem?_range h]
theorem came_nil(w:World)(B:Nat)(s:SB)(j kk:Nat)(E:List Int):w.ownsRow B 3 1 (.slice none 0 0) 0 (intsV (cameL s j kk E 0)):=World.ownsRow_nil _ _ _ _
theorem fol_phi(h:BuiltX p F O bs K s1 s2 l s){W:World}{b:Nat}{c:SC}{V:SK→Value}(hz:SbAt W b c s V){gp n cp:Nat}(hv:V .parts= .slice (some ⟨gp,0,none⟩) n cp)(hj:j<bs.length):
 ∃Ah ch,V (.phis j)= .slice Ah (s.part j).phis.length ch∧W.cell? ⟨gp,j*15+1,none⟩=some (.slice Ah (s.part j).phis.length ch)∧gp<W.heap.size∧∀m,m<(s.part j).phis.length→∃(gh gq cq v:Nat),Ah=some ⟨gh,0,none⟩∧gh<W.heap.size∧W.cell? ⟨gh,m*3+1,none⟩=some (.int .i64 (v:Int))∧(s.phi j m).id=v∧v<valN F bs s2 l∧W.cell? ⟨gh,m*3+2,none⟩=some (.slice (some ⟨gq,0,none⟩) (prevL bs j).length cq)∧gq<W.heap.size∧
  ∀kk,kk<(prevL bs j).length→∃u:Nat,(s.phi j m).args.getD kk 0=u∧u<valN F bs s2 l∧W.cell? ⟨gq,kk,none⟩=some (.int .i64 (u:Int)):=by
 have hf:=h.finP
 have c1:=(hz.partCell hf.inn hv (i:=j) (by rw[h.b.len];exact hj)).1
 obtain⟨Ah,ch,hvh,-,hA⟩:=hz.rowV (.phis j) (n:=(s.part j).phis.length) rfl
 rw[hvh] at c1
 refine⟨Ah,ch,hvh,c1,(hz.rlt .parts (g:=gp) (by rw[hv];rfl)).2,fun m hm=> ?_⟩
 obtain⟨gh,rfl,-,hgh⟩:=hA (Nat.lt_of_le_of_lt (Nat.zero_le _) hm)
 obtain⟨-,e1,e2⟩:=hz.phiCell hvh hm
 obtain⟨v,v1,v2,-⟩:=h.phid hj hm
 rw[v1] at e1
 obtain⟨-,hal⟩:=hf.pid j m hj hm
 obtain⟨Aq,cq,hvq,hAq⟩:=hz.argCells j m (n:=(prevL bs j).length) hal
 have h1:=hf.pjn j hj (Nat.lt_of_le_of_lt (Nat.zero_le _) hm)
 obtain⟨gq,rfl,hgq,hcq⟩:=hAq (by omega)
 rw[hvq] at e2
 refine⟨gh,gq,cq,v,rfl,hgh,e1,v1,v2,e2,hgq,fun kk hk=> ?_⟩
 have hkl:kk<(s.phi j m).args.length:=by rw[hal];exact hk
 have ha:=hf.parg j m hj hm _ (List.getElem_mem hkl)
 have hc:=hcq kk _ (gE hkl)
 have hg:(s.phi j m).args.getD kk 0=(s.phi j m).args[kk]:=by rw[gD,gE hkl];rfl
 refine⟨((s.phi j m).args[kk]).toNat,by rw[hg];omega,by omega,?_⟩
 rw[show((((s.phi j m).args[kk]).toNat:Nat):Int)=(s.phi j m).args[kk] by omega]
 exact hc
theorem fol_prev{W:World}{gb Bb:Nat}{bs2:List BR}(hB:BlkB W gb Bb bs2){r:BR}(hr:bs2[j]? =some r){P:List Int}(hP:r.pl=P):
 ∃PA pcap,W.cell? ⟨gb,j*4+3,none⟩=some (.slice PA P.length pcap)∧gb<W.heap.size∧∀(q:Nat) (z:Int),P[q]? =some z→∃g,PA=some ⟨g,0,none⟩∧g<W.heap.size∧W.cell? ⟨g,q,none⟩=some (.int .i64 z):=by
 obtain⟨PA,pcap,hpv,hpc⟩:=own_slice (hB.rows.own j r true hr)
 have hpv' :r.pv= .slice PA r.pl.length pcap:=hpv
 subst hP
 refine⟨PA,pcap,?_,block_lt hB.blk,fun q z hq=> ?_⟩
 ·exact(hB.cell hr (j:=3) (by omega)).trans (by show some r.pv=_;rw[hpv'])
 ·have hql:=(gI.1 hq).1
  obtain⟨g,e1,e2,e3⟩:=hpc (by have e:(r.lst true).length=r.pl.length:=rfl;omega)
  exact⟨g,e1,e2,(e3 q (by have e:(r.lst true).length=r.pl.length:=rfl;omega)).trans (by have:(r.lst true)[q]? =some z:=hq;rw[List.getElem?_map,this];rfl)⟩
end
end Go.Proofs.YtedcjapmmnbamaaDoor
