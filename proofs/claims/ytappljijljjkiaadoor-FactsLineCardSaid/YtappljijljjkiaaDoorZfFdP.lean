/-
  Plain: the ways that the solver counts; its contracts, with so many ways as there are.
-/
import Derived.Test.YtappljijljjkiaaDoorZfFd3
namespace Tier
open Go Go.RowKit
def prs(H:Nat):List (Nat×Nat):=(List.range (H+1)).flatMap fun c=>(List.range H).map fun d=>(c,d)
theorem prs_mem{H:Nat}{c d:Nat}:(c,d)∈prs H↔c<H+1∧d<H:=by
 unfold prs
 simp
theorem prs_nodup(H:Nat):(prs H).Nodup:=by
 unfold prs List.Nodup
 rw[List.pairwise_flatMap]
 refine⟨fun c _=> ?_,?_⟩
 ·rw[List.pairwise_map]
  exact List.Pairwise.imp (fun h e=>by simp at e;omega) (List.pairwise_lt_range (n:=H))
 ·refine List.Pairwise.imp (fun{a b} hab x hx y hy e=> ?_) (List.pairwise_lt_range (n:=H+1))
  obtain⟨d,_,rfl⟩:=List.mem_map.1 hx
  obtain⟨d',_,rfl⟩:=List.mem_map.1 hy
  simp at e;omega
theorem prs_len(H:Nat):(prs H).length=(H+1)*H:=by
 unfold prs
 rw[List.length_flatMap]
 have key:∀n,(List.map (fun _:Nat=>H) (List.range n)).sum=n*H:=fun n=>by
  induction n with
  |zero=>simp
  |succ n ih=>rw[List.range_succ,List.map_append,List.sum_append,ih];simp[Nat.succ_mul]
 have e:(fun c=>((List.range H).map fun d=>(c,d)).length)=fun _:Nat=>H:=funext fun c=>by simp
 rw[e];exact key _
def ecnt(H:Nat)(ed:Int→Int→Bool):Nat:=(prs H).countP fun x=>ed ((x.1:Int)-1) x.2
theorem ecnt_le(H:Nat)(ed:Int→Int→Bool):ecnt H ed≤(H+1)*H:=by
 unfold ecnt
 rw[←prs_len]
 exact List.countP_le_length
theorem countP_one{α:Type}{p q:α→Bool}{x:α}:∀{l:List α},l.Nodup→x∈l→p x=false→q x=true→(∀y∈l,y≠x→q y=p y)→l.countP q=l.countP p+1
 |[],_,h,_,_,_=>by cases h
 |y::l,hn,hx,hp,hq,he=>by
  obtain⟨h1,h2⟩:=List.nodup_cons.1 hn
  rw[List.countP_cons,List.countP_cons]
  by_cases e:y=x
  ·subst e
   have:l.countP q=l.countP p:=List.countP_congr (fun z hz=>by
    have hzy:z≠y:=fun e=>h1 (e▸hz)
    rw[he z (.tail _ hz) hzy])
   rw[this,hp,hq];simp
  ·have hx' :x∈l:=by
    rcases List.mem_cons.1 hx with h|h
    ·exact absurd h.symm e
    ·exact h
   rw[countP_one h2 hx' hp hq (fun z hz hne=>he z (.tail _ hz) hne),he y (.head _) e]
   omega
theorem ecnt_go{H:Nat}{x:SV}{a:Int}{e:Nat}(ha: -1≤a∧a<H)(he:e<H)(hx:x.ed a e=false):ecnt H (goF x a e).ed=ecnt H x.ed+1:=by
 unfold goF
 rw[if_neg (by rw[hx];simp)]
 unfold ecnt
 refine countP_one (x:=((a+1).toNat,e)) (prs_nodup H) (prs_mem.2 ⟨by omega,he⟩) ?_ ?_ (fun y _ hne=> ?_)
 ·show x.ed (((a+1).toNat:Int)-1) e=false
  rw[show(((a+1).toNat:Int)-1)=a by omega];exact hx
 ·show(x.ed (((a+1).toNat:Int)-1) e||decide ((((a+1).toNat:Int)-1)=a∧(e:Int)=e))=true
  rw[decide_eq_true ⟨by omega,rfl⟩];simp
 ·show(x.ed ((y.1:Int)-1) y.2||decide (((y.1:Int)-1)=a∧(y.2:Int)=e))=x.ed ((y.1:Int)-1) y.2
  rw[decide_eq_false (fun h=>hne (by
   have h1:=h.1
   have h2:=h.2
   exact Prod.ext (by show y.1=(a+1).toNat;omega) (by show y.2=e;omega)))];simp
theorem goF_same{x:SV}{a b:Int}(h:x.ed a b=true):goF x a b=x:=if_pos h
theorem sayF_ed(x:SV)(id:Int)(f:FactS):(sayF x id f).ed=x.ed:=by unfold sayF;split<;>rfl
end Tier
namespace Go.Proofs.YtappljijljjkiaaDoor
open Go.RowKit Tier
def SolX(w:World)(b:Nat)(h:SH)(x:SV):Prop:=SolAt w b h (ecnt h.H x.ed) x
section
variable {w w1 w' :World}{b ne:Nat}{h:SH}{x:SV}
theorem SolX.keeps(s:SolX w b h x)(hb:Below w.heap.size w w'):SolX w' b h x:=SolAt.keeps s hb
theorem FrV.blk{gb Bb:Nat}{bs:List BR}(f:FrV w b h w')(s:SolAt w b h ne x)(hb:BlkB w gb Bb bs):BlkB w' gb Bb bs:=by
 refine⟨f.block s hb.blk (by decide) (by decide) (by decide),⟨fun q r c hq=>own_of (hb.rows.own q r c hq) (fun g he=> ?_),hb.rows.ap⟩,hb.lt⟩
 rcases(hb.rows.own q r c hq).2 with⟨h1,-⟩|⟨g',cap,cur,hv,hg,hh,-⟩
 ·rw[h1] at he;simp[Value.ownBlock] at he
 ·rw[hv] at he
  have e' :g' =g:=by simpa [Value.ownBlock] using he
  subst e'
  exact(f.block s hh (by decide) (by decide) (by decide)).trans hh.symm
theorem FrV.sb{c0:SC}{sb:Nat}{s0:SB}{V:SK→Value}(f:FrV w b h w')(s:SolAt w b h ne x)(hb:SbAt w sb c0 s0 V):SbAt w' sb c0 s0 V:=by
 refine⟨f.block s hb.box (by decide) (by decide) (by decide),⟨fun k=>own_of (hb.own.own k) (fun g he=> ?_),hb.own.ap⟩⟩
 rcases(hb.own.own k).2 with⟨h1,-⟩|⟨g',cap,cur,hv,hg,hh,-⟩
 ·rw[h1] at he;simp[Value.ownBlock] at he
 ·rw[hv] at he
  have e' :g' =g:=by simpa [Value.ownBlock] using he
  subst e'
  refine(f.block s hh ?_ ?_ ?_).trans hh.symm
  ·cases k<;>simp[rowsOf]
  ·cases k<;>simp[rowsOf]
  ·cases k<;>simp[rowsOf]
end
theorem goX_any(b:Nat)(h:SH)(x:SV)(a:Int)(e:Nat)(w:World)(hs:SolX w b h x)(ha: -1≤a∧a<h.H)(he:e<h.H)(hH:h.H≤40):Calls Tryd.prog 43 #[.pointer (some ⟨b,0,none⟩), .int .i64 a, .int .i64 (e:Int)] w fun e' w' =>e' = .returned (.tuple #[])∧SolX w' b h (goF x a e)∧FrV w b h w' :=by
 have hle:=ecnt_le h.H x.ed
 have hm:(h.H+1)*h.H≤41*40:=Nat.mul_le_mul (by omega) hH
 refine(goTo_any b h _ x a e w hs ⟨ha.1,by omega⟩ he (by omega) (by omega)).mono ?_
 rintro e' w' ⟨h1,h2,h3⟩
 refine⟨h1,?_,h3⟩
 unfold SolX
 cases hx:x.ed a e with
 |true=>
  rw[goF_same hx] at h2⊢
  simpa [hx] using h2
 |false=>
  rw[ecnt_go ha he hx]
  simpa [hx] using h2
theorem sayX_any(b:Nat)(h:SH)(x:SV)(id:Int)(f:FactS)(w:World)(hs:SolX w b h x)(hid:id<h.n):Calls Tryd.prog 83 #[.pointer (some ⟨b,0,none⟩), .int .i64 id,FactS.val f] w fun e w' =>e= .returned (.tuple #[])∧SolX w' b h (sayF x id f)∧FrV w b h w' :=by
 refine(say_any b h _ x id f w hs hid).mono ?_
 rintro e' w' ⟨h1,h2,h3⟩
 refine⟨h1,?_,h3⟩
 unfold SolX
 rw[sayF_ed];exact h2
end Go.Proofs.YtappljijljjkiaaDoor
