/-
  Plain law of trimming: what is come to, in its order; a trimmed program is right; what was trimmed once is trimmed. No program is in sight.
-/
import Derived.Test.YtappljijljjkiaaDoorZfFnS
namespace Tier
open Go Go.RowKit
theorem insE_of{x:Ins}{regs n funcs:Int}(h:InsOk x regs n funcs):insE x regs n funcs=0:=by
 obtain⟨h1,h2,d1,d2,a1,a2,b1,b2,j,cl,n0,nd,na,nb⟩:=h
 obtain⟨op,dst,a,b,imm⟩:=x
 dsimp only at *
 have hop:op=1∨op=2∨op=3∨op=4∨op=5∨op=6∨op=7∨op=8∨op=9∨op=10∨op=11∨op=12∨op=13∨op=14∨op=15∨op=16∨op=17∨op=18∨op=19:=by omega
 rw[insE_op (by exact h1) (by exact h2)]
 rcases hop with rfl|rfl|rfl|rfl|rfl|rfl|rfl|rfl|rfl|rfl|rfl|rfl|rfl|rfl|rfl|rfl|rfl|rfl|rfl<;>
 ·refine insH_ok ?_ ?_ ?_ ?_<;>dsimp only
  ·first|exact regB_one (by decide+kernel) d1 d2|(have e:=nd (by simp);subst e;exact regB_zero (by decide+kernel))
  ·first|exact regB_one (by decide+kernel) a1 a2|(have e:=na (by simp);subst e;exact regB_zero (by decide+kernel))
  ·first|exact regB_one (by decide+kernel) b1 b2|(have e:=nb (by simp);subst e;exact regB_zero (by decide+kernel))
  ·first|exact .inl (by decide+kernel)|exact .inr (.inl ⟨by decide+kernel,j (by simp)⟩)|exact .inr (.inr (.inl ⟨by decide+kernel,cl (by simp)⟩))|exact .inr (.inr (.inr ⟨by decide+kernel,n0 (by simp) (by simp) (by simp) (by simp)⟩))
theorem fnE_of{f:Fnc}{funcs:Int}(h:FnOk f funcs):fnE f funcs=0:=by
 obtain⟨r1,r2,p1,p2,p3,c1,c2,hi⟩:=h
 rw[fnE_code (by simp[wi];omega) (by simp[wi];split<;>omega) (by omega) (by omega)]
 apply firstE_none
 intro y hy
 obtain⟨x,hx,rfl⟩:=List.mem_map.1 hy
 exact insE_of (hi x hx)
theorem progE_of{p:List Fnc}(h:ProgOk p):progE p=0:=by
 have h1:=h.l1
 have h2:=h.l2
 unfold progE
 rw[if_neg (by omega)]
 apply firstE_none
 intro y hy
 obtain⟨f,hf,rfl⟩:=List.mem_map.1 hy
 exact fnE_of (h.fn f hf)
theorem checkP_of{p:List Fnc}(h:ProgOk p)(hb:∀f∈p,∀pc,pc<f.code.length→badAt p f pc=false)(he:∀f∈p,endAt f=false):checkP p=0:=by
 unfold checkP
 rw[if_neg (by simp[progE_of h])]
 apply firstE_none
 intro y hy
 obtain⟨f,hf,rfl⟩:=List.mem_map.1 hy
 unfold fnP
 rw[if_neg,if_neg (by rw[he f hf];simp)]
 simp only[List.any_eq_true,List.mem_range,not_exists,not_and]
 intro pc hpc
 rw[hb f hf pc hpc];simp
end Tier
