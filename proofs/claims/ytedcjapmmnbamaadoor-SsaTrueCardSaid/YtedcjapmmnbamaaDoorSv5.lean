/-
  Plain: Build makes one thing only: two Builds of a function agree.
-/
import Derived.Test.YtedcjapmmnbamaaDoorSsV
namespace Go.Proofs.YtedcjapmmnbamaaDoor
open Go.RowKit Tier
section
variable {p:List Fnc}{F:Fnc}{O O' :List Nat}{bs bs' :List BR}{l l' :List Int}{s s1 s2 s' s1' s2' :SB}{K K' :Nat}
theorem BuiltX.K_eq(h:BuiltX p F O bs K s1 s2 l s):K=bs.length:=by
 have h1:=(ord_ok h.hk h.hF h.b.bok K).1
 have h2:=ord_all h.hk h.hF h.b.bok h.b.ord
 have h3:=(List.perm_ext_iff_of_nodup h1.nodup (List.nodup_range (n:=bs.length))).2 (fun a=>⟨fun ha=>List.mem_range.2 (h1.lt a ha),fun ha=>h2 a (List.mem_range.1 ha)⟩)
 have h4:=h3.length_eq
 rw[h.b.ord,List.length_range] at h4
 exact h4
theorem prevL_two(hb:BlkOk F bs)(hb' :BlkOk F bs'):prevL bs=prevL bs' :=by
 have hl:bs.length=bs'.length:=by rw[hb.len,hb'.len]
 funext i
 by_cases hi:i<bs.length
 ·rw[prevL_eq hb hi,prevL_eq hb' (by rw[←hl];exact hi)]
 ·rw[prevL_none hi,prevL_none (by rw[←hl];exact hi)]
theorem bldStep_two(hp:prevL bs=prevL bs'):bldStep p F O bs=bldStep p F O bs' :=by
 funext s i
 unfold bldStep bldY bldX bldE jn
 rw[hp]
theorem part_ext{s s' :SB}(hl:s.parts.length=s'.parts.length)(h:∀i,i<s.parts.length→s.part i=s'.part i):s.parts=s'.parts:=by
 refine List.ext_getElem hl (fun i h1 h2=> ?_)
 have:=h i h1
 unfold SB.part at this
 rw[gD,gD,gE h1,gE h2] at this
 exact this
theorem ClsR.unique{s a b:SB}{P:Nat→List Int}{n:Nat}(h:ClsR s a P n 0 0)(h' :ClsR s b P n 0 0):a=b:=by
 have hp:a.parts=b.parts:=part_ext (by rw[h.len,h'.len]) (fun i _=>by
  obtain⟨e1,e2,e3,e4⟩:=h.part i
  obtain⟨g1,g2,g3,g4⟩:=h'.part i
  have hph:(a.part i).phis=(b.part i).phis:=by
   refine List.ext_getElem (by rw[e4,g4]) (fun k h1 h2=> ?_)
   have f1:=h.phi i k
   have f2:=h'.phi i k
   have f3:=h.arg i k (by rw[←e4];exact h1)
   have f4:=h'.arg i k (by rw[←e4];exact h1)
   unfold SB.arg at f3 f4
   rw[←f4] at f3
   have k1:a.phi i k=(a.part i).phis[k]:=by unfold SB.phi;rw[gD,gE h1];rfl
   have k2:b.phi i k=(b.part i).phis[k]:=by unfold SB.phi;rw[gD,gE h2];rfl
   have f5:(a.phi i k).args=(b.phi i k).args:=f3
   rw[←k1,←k2]
   have r1:=f1.1.trans f2.1.symm
   have r2:=f1.2.trans f2.2.symm
   generalize a.phi i k=x at r1 r2 f5
   generalize b.phi i k=y at r1 r2 f5
   cases x;cases y
   dsimp only at r1 r2 f5
   subst r1 r2 f5
   rfl
  have q1:=e1.trans g1.symm
  have q2:=e2.trans g2.symm
  have q3:=e3.trans g3.symm
  generalize a.part i=x at q1 q2 q3 hph
  generalize b.part i=y at q1 q2 q3 hph
  cases x;cases y
  dsimp only at q1 q2 q3 hph
  subst q1 q2 q3 hph
  rfl)
 have q1:=h.same.trans h'.same.symm
 have q2:=h.ends.trans h'.ends.symm
 have q3:=h.began.trans h'.began.symm
 cases a;cases b
 dsimp only at q1 q2 q3 hp
 subst q1 q2 q3 hp
 rfl
theorem itS_fix{s:SB}{n:Nat}(h:swP s (itS s n) s.parts.length=itS s n):∀j,itS s (n+j)=itS s n
 |0=>rfl
 |j+1=>by
  show swP s (itS s (n+j)) s.parts.length=_
  rw[itS_fix h j,h]
theorem sweep_unique{s:SB}{l l' :List Int}(h:(∃n,l=itS s n)∧swP s l s.parts.length=l)(h' :(∃n,l' =itS s n)∧swP s l' s.parts.length=l'):l=l' :=by
 obtain⟨⟨n,rfl⟩,h1⟩:=h
 obtain⟨⟨m,rfl⟩,h2⟩:=h'
 by_cases e:n≤m
 ·have:=itS_fix h1 (m-n)
  rw[show n+(m-n)=m by omega] at this
  exact this.symm
 ·have:=itS_fix h2 (n-m)
  rw[show m+(n-m)=n by omega] at this
  exact this
theorem BuiltX.unique(h:BuiltX p F O bs K s1 s2 l s)(h' :BuiltX p F O' bs' K' s1' s2' l' s'):s.parts=s'.parts∧bs.length=bs'.length∧valN F bs s2 l=valN F bs' s2' l' ∧O=O' ∧prevL bs=prevL bs' :=by
 have hO:O=O' :=h.b.lok.unique h'.b.lok
 subst hO
 have hl:bs.length=bs'.length:=by rw[h.b.bok.len,h'.b.bok.len]
 have hp:=prevL_two h.b.bok h'.b.bok
 have hK:K=K' :=by rw[h.K_eq,h'.K_eq,hl]
 subst hK
 have hord:ordL F bs K=ordL F bs' K:=by unfold ordL;rw[hl]
 have h1:s1=s1' :=by
  rw[←h.hs,←h'.hs,←hord]
  unfold bldTo
  rw[bldStep_two hp,hl]
 subst h1
 have h2:s2=s2' :=by
  have c1:=h.cls
  have c2:=h'.cls
  rw[←hp,←hl] at c2
  exact c1.unique c2
 subst h2
 have h3:l=l' :=sweep_unique h.b.sw h'.b.sw
 subst h3
 refine⟨part_ext (by rw[h.b.len,h'.b.len,hl]) (fun i hi=> ?_),hl,by unfold valN;rw[hl],rfl,hp⟩
 rw[h.b.len] at hi
 rw[h.b.part i hi,h'.b.part i (by rw[←hl];exact hi),hl]
end
end Go.Proofs.YtedcjapmmnbamaaDoor
