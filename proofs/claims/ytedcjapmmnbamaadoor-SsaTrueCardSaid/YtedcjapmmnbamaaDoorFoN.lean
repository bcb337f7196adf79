/-
  A block's predecessors are told once.
-/
import Derived.Test.YtedcjapmmnbamaaDoorTwP
namespace Go.Proofs.YtedcjapmmnbamaaDoor
open Go.RowKit Tier
theorem nextS_nodup(x:Ins)(pc:Nat):(nextS x pc).Nodup:=by
 unfold nextS
 repeat' split
 all_goals simp_all
 all_goals omega
theorem filter_one{l:List Nat}(h:l.Nodup)(k:Nat):(l.filter (· ==k)).length≤1:=by
 induction l with
 |nil=>simp
 |cons a l ih=>
  rw[List.nodup_cons] at h
  rw[List.filter_cons]
  by_cases e:a=k
  ·subst e
   have:l.filter (· ==a)=[]:=List.filter_eq_nil_iff.2 (fun b hb hk=>h.1 (by have:=eq_of_beq hk;rw[←this];exact hb))
   simp[this]
  ·rw[if_neg (by simpa using e)]
   exact ih h.2
theorem nodup_le_one{α:Type}{l:List α}(h:l.length≤1):l.Nodup:=by
 match l,h with
 |[],_=>exact List.nodup_nil
 |[a],_=>simp
theorem nxI_nodup{p:List Fnc}{F:Fnc}(hp:Right p)(hF:F∈p){a:Nat}(ha:a∈hdL F):(nxI F a).Nodup:=by
 unfold nxI List.Nodup
 rw[List.pairwise_map]
 refine List.Pairwise.imp_of_mem ?_ (nextS_nodup (insAt F (toF F a-1)) (toF F a-1))
 intro x y hx hy hne e
 have h1:=posH_get (nxN_head hp hF ha hx)
 have h2:=posH_get (nxN_head hp hF ha hy)
 rw[e,h2] at h1
 exact hne (Option.some.inj h1).symm
theorem pickP_mem{F:Fnc}{l:List Nat}{q k:Nat}{v:Int}(h:v∈pickP F l q k):v=(q:Int):=by
 unfold pickP at h
 obtain⟨_,-,h⟩:=List.mem_map.1 h
 exact h.symm
theorem prevF_nodup{p:List Fnc}{F:Fnc}(hp:Right p)(hF:F∈p)(j:Nat):(prevF F j).Nodup:=by
 unfold prevF
 rw[List.nodup_append]
 refine⟨by split<;>simp,?_,?_⟩
 ·unfold List.Nodup
  rw[List.pairwise_flatMap]
  refine⟨fun q hq=> ?_,?_⟩
  ·exact nodup_le_one (by unfold pickP;rw[List.length_map];exact filter_one (nxI_nodup hp hF (hdA_mem2 (List.mem_range.1 hq)).1) j)
  ·refine List.nodup_range.imp ?_
   intro a b hab x hx y hy e
   have h1:=pickP_mem hx
   have h2:=pickP_mem hy
   omega
 ·intro x hx y hy e
  have h1:x= -1:=by
   split at hx
   ·simpa using hx
   ·simp at hx
  obtain⟨q,-,h2⟩:=List.mem_flatMap.1 hy
  have h3:=pickP_mem h2
  omega
theorem prevL_at{p:List Fnc}{F:Fnc}{bs:List BR}(hp:Right p)(hF:F∈p)(hb:BlkOk F bs){j:Nat}(hj:j<bs.length){v:Int}(hv:v∈prevL bs j){k:Nat}(hk:k<(prevL bs j).length):(prevL bs j)[k]? =some v↔k=(prevL bs j).idxOf v:=by
 have hn:(prevL bs j).Nodup:=by rw[prevL_eq hb hj];exact prevF_nodup hp hF j
 have hl:=List.idxOf_lt_length_of_mem hv
 have h0:(prevL bs j)[(prevL bs j).idxOf v]? =some v:=by rw[gE hl,List.getElem_idxOf]
 refine⟨fun h=> ?_,fun h=>by rw[h];exact h0⟩
 have h1:=(gI.1 h).2
 have h2:=(gI.1 h0).2
 rcases Nat.lt_trichotomy k ((prevL bs j).idxOf v) with e|e|e
 ·exact absurd (h1.trans h2.symm) (List.pairwise_iff_getElem.1 hn _ _ hk hl e)
 ·exact e
 ·exact absurd (h2.trans h1.symm) (List.pairwise_iff_getElem.1 hn _ _ hl hk e)
end Go.Proofs.YtedcjapmmnbamaaDoor
