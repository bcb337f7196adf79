/-
  The solver of facts: join, of, say, goTo.
-/
import Derived.Test.YtappljijljjkiaaDoorZfFdM
namespace Go.Proofs.YtappljijljjkiaaDoor
open Go.RowKit Tier
set_option maxRecDepth 100000 in
theorem fieldsFact:(Tryd.prog.fieldsOf 58).toList=[{name:= "Kind",type:=3,offset:=0,embedded:=false,tag:= "",pkgPath:= "",byteOffset:=0},{name:= "Value",type:=3,offset:=1,embedded:=false,tag:= "",pkgPath:= "",byteOffset:=8}]:=by kernel_rfl
set_option maxRecDepth 100000 in
theorem eq_fact(a b c d:Int)(w:World):(Op.equalIn 10000 58 (.agg #[.int .i64 a, .int .i64 b]) (.agg #[.int .i64 c, .int .i64 d])).run Tryd.prog w= .ok (decide (a=c∧b=d)) w:=by
 rw[run_equalIn_agg (P:=Tryd.prog) w 9999 58 _ _ (by kernel_rfl) (by kernel_rfl),fieldsFact]
 by_cases h1:a=c
 ·by_cases h2:b=d
  ·rw[decide_eq_true ⟨h1,h2⟩]
   subst h1 h2
   go_simp
  ·have e2:(b==d)=false:=by simpa using h2
   rw[decide_eq_false (fun h=>h2 h.2)]
   subst h1
   go_simp
 ·have e1:(a==c)=false:=by simpa using h1
  rw[decide_eq_false (fun h=>h1 h.1)]
  go_simp
def FactS.val(f:FactS):Value:= .agg #[.int .i64 f.k, .int .i64 f.v]
theorem ret_fact{fn:Func}{q:Tmp}(h:fn.results= #[.cell q 58])(tmps:Array Value)(w:World)(g:Nat)(k v:Int)(hp:tmps.getD q undef= .pointer (some ⟨g,0,none⟩))(hg:w.heap[g]? =some (.cells #[.int .i64 k, .int .i64 v] 58 (0,0))):(results fn tmps).run Tryd.prog w= .ok (.agg #[.int .i64 k, .int .i64 v]) w:=
 results_cell_row h tmps w g _ _ _ _ hp hg Tryd.underlying58 rfl (by kernel_rfl)
set_option maxRecDepth 100000 in
set_option maxHeartbeats 4000000 in
theorem join_any(a b:FactS)(w:World):Calls Tryd.prog 81 #[FactS.val a,FactS.val b] w fun e w' =>e= .returned (FactS.val (joinF a b))∧Below w.heap.size w w' :=by
 obtain⟨ak,av⟩:=a
 obtain⟨bk,bv⟩:=b
 show Calls _ _ #[.agg #[.int .i64 ak, .int .i64 av], .agg #[.int .i64 bk, .int .i64 bv]] w _
 have HJ:=Lib.hid (show joinF ⟨ak,av⟩ ⟨bk,bv⟩=if ak=0 then⟨bk,bv⟩ else if bk=0∨(⟨ak,av⟩:FactS)=⟨bk,bv⟩ then⟨ak,av⟩ else⟨2,0⟩ from rfl)
 have HB:=Lib.hid (fun(k v:Int)=>(((Below.refl w.heap.size w).alloc (Nat.le_refl _) (.cells #[.int .i64 ak, .int .i64 av] 58)).alloc (by simp) (.cells #[.int .i64 bk, .int .i64 bv] 58)).alloc (by simp;omega) (.cells #[.int .i64 k, .int .i64 v] 58))
 have HN:=Lib.hid (fun(k v:Int)=>(by
  have h:=heap_alloc_new ((w.alloc (.cells #[.int .i64 ak, .int .i64 av] 58)).alloc (.cells #[.int .i64 bk, .int .i64 bv] 58)) (.cells #[.int .i64 k, .int .i64 v] 58)
  simpa using h:(((w.alloc (.cells #[.int .i64 ak, .int .i64 av] 58)).alloc (.cells #[.int .i64 bk, .int .i64 bv] 58)).alloc (.cells #[.int .i64 k, .int .i64 v] 58)).heap[w.heap.size+1+1]? =some (.cells #[.int .i64 k, .int .i64 v] 58 (0,0))))
 have heq:=eq_fact ak av bk bv
 by_cases h1:ak=0
 ·subst h1
  rw[if_pos rfl] at HJ
  clear heq
  go_enter Tryd.func81,Tryd.ntmps81
  go_wp2_with fail
  exact bodyPost_ret (ret_fact Tryd.results81 _ _ _ bk bv rfl (HN.out bk bv)) rfl ⟨by rw[HJ.out];rfl,HB.out bk bv⟩
 ·have e1:decide (ak=0)=false:=decide_eq_false h1
  have e1' :(ak==0)=false:=by simpa using h1
  rw[if_neg h1] at HJ
  by_cases h2:bk=0
  ·subst h2
   rw[if_pos (.inl rfl)] at HJ
   clear heq h1
   go_enter Tryd.func81,Tryd.ntmps81
   go_wp2_with fail
   exact bodyPost_ret (ret_fact Tryd.results81 _ _ _ ak av rfl (HN.out ak av)) rfl ⟨by rw[HJ.out];rfl,HB.out ak av⟩
  ·have e2:decide (bk=0)=false:=decide_eq_false h2
   have e2' :(bk==0)=false:=by simpa using h2
   by_cases h3:ak=bk∧av=bv
   ·rw[decide_eq_true h3] at heq
    rw[if_pos (.inr (by rw[h3.1,h3.2]))] at HJ
    clear h1 h2 h3
    go_enter Tryd.func81,Tryd.ntmps81
    go_wp2_with fail
    exact bodyPost_ret (ret_fact Tryd.results81 _ _ _ ak av rfl (HN.out ak av)) rfl ⟨by rw[HJ.out];rfl,HB.out ak av⟩
   ·rw[decide_eq_false h3] at heq
    rw[if_neg (fun h=>by
     rcases h with h|h
     ·exact h2 h
     ·simp only[FactS.mk.injEq] at h;exact h3 h)] at HJ
    clear h1 h2 h3
    go_enter Tryd.func81,Tryd.ntmps81
    go_wp2_with fail
    exact bodyPost_ret (ret_fact Tryd.results81 _ _ _ 2 0 rfl (HN.out 2 0)) rfl ⟨by rw[HJ.out];rfl,HB.out 2 0⟩
set_option maxRecDepth 100000 in
set_option maxHeartbeats 4000000 in
theorem of_any(b:Nat)(h:SH)(ne:Nat)(x:SV)(id:Int)(w:World)(hs:SolAt w b h ne x)(hid:id<h.n):Calls Tryd.prog 82 #[.pointer (some ⟨b,0,none⟩), .int .i64 id] w fun e w' =>e= .returned (FactS.val (ofF x.F id))∧Below w.heap.size w w' :=by
 have HB:=Lib.hid (fun(k v:Int)=>(Below.refl w.heap.size w).alloc (Nat.le_refl _) (.cells #[.int .i64 k, .int .i64 v] 58))
 have HN:=Lib.hid (fun(k v:Int)=>heap_alloc_new w (.cells #[.int .i64 k, .int .i64 v] 58))
 by_cases h0:id<0
 ·have HF:=Lib.hid (show ofF x.F id=⟨1,0⟩ from if_pos h0)
  clear hs
  go_enter Tryd.func82,Tryd.ntmps82
  go_wp2_with fail
  exact bodyPost_ret (ret_fact Tryd.results82 _ _ _ 1 0 rfl (HN.out 1 0)) rfl ⟨by rw[HF.out];rfl,HB.out 1 0⟩
 ·obtain⟨i,rfl⟩:∃i:Nat,id=i:=⟨id.toNat,by omega⟩
  have hi:i<h.n:=by omega
  have HF:=Lib.hid (show ofF x.F (i:Int)=x.F.getD i noF by unfold ofF;rw[if_neg h0,Int.toNat_natCast])
  obtain⟨f0,f1⟩:=hs.fact hi
  have c4:=hs.cell 4
  have cc:(h.cells x.dirty)[4]? =some (.slice (some ⟨h.gf,0,none⟩) h.n h.n):=rfl
  rw[cc] at c4
  obtain⟨l1,l2,l3,l4⟩:=hs.lt
  obtain⟨⟨fk,fv⟩,hf⟩:∃f,x.F.getD i noF=f:=⟨_,rfl⟩
  rw[hf] at f0 f1 HF
  simp only at f0 f1
  obtain⟨gf,hgf⟩:∃g,h.gf=g:=⟨_,rfl⟩
  obtain⟨N,hN⟩:∃n,h.n=n:=⟨_,rfl⟩
  rw[hgf] at f0 f1 c4 l2
  rw[hN] at c4 hi hid
  have hi2:(0:Int)≤i:=by omega
  clear hs cc hf hgf hN h0 l3 l4
  go_enter Tryd.func82,Tryd.ntmps82
  go_wp2_with fail
  exact bodyPost_ret (ret_fact Tryd.results82 _ _ _ fk fv rfl (HN.out fk fv)) rfl ⟨by rw[HF.out];rfl,HB.out fk fv⟩
end Go.Proofs.YtappljijljjkiaaDoor
