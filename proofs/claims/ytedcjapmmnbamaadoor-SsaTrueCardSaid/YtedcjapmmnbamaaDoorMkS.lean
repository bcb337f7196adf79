/-
  What step.Make (and step.pure under it) computes, for every op and all numbers. No condition.
-/
import Derived.Test.YtedcjapmmnbamaaDoorRows
import Derived.WalkKit
import Derived.Deep.Light
import Derived.Test.YtedcjapmmnbamaaDoorLib
namespace Tier
open Go Go.RowKit
def flagI(c:Bool):Int:=if c then 1 else 0
def mk(op a b imm:Int):Int:=
 if op=1 then imm else if op=2 then wrap64 (a+b) else if op=3 then wrap64 (a-b) else if op=4 then wrap64 (a*b)
 else if op=5 then(if b=0 then 0 else wrap64 (a.tdiv b)) else if op=6 then bits .and .i64 a b else if op=7 then bits .or .i64 a b else if op=8 then bits .xor .i64 a b
 else if op=9 then wrap64 (a*2^(b % 64).toNat) else if op=10 then a / 2^(b % 64).toNat else if op=11 then flagI (decide (a<b)) else if op=12 then flagI (a==b) else 0
def mkOk(op b:Int):Bool:=decide (1≤op)&&decide (op≤12)&& !(op==5&&b==0)
def mkErr(op b:Int):Int:=if 1≤op∧op≤12 then(if op=5∧b=0 then 9 else 0) else 3
theorem wrap64_zero:wrap64 0=0:=by unfold wrap64;omega
end Tier
namespace Go.Proofs.YtedcjapmmnbamaaDoor
open Go.RowKit Tier
theorem sflag_any(c:Bool)(w:World):Calls Tryd.prog 93 #[.bool c] w fun e w' =>e= .returned (.int .i64 (flagI c))∧w=w' :=by
 cases c
 ·go_enter Tryd.func93,Tryd.ntmps93
  go_wp2
  go_ret
  exact⟨rfl,rfl⟩
 ·go_enter Tryd.func93,Tryd.ntmps93
  go_wp2
  go_ret
  exact⟨rfl,rfl⟩
theorem spure_any(op a b imm:Int)(w:World):
 Calls Tryd.prog 79 #[.int .i64 op, .int .i64 a, .int .i64 b, .int .i64 imm] w fun e w' =>e= .returned (.tuple #[.int .i64 (mk op a b imm), .bool (mkOk op b)])∧w=w' :=by
 have h63:=and63 b
 have h0:0≤b % 64:=by omega
 have h1:b % 64<64:=by omega
 by_cases hb:b=0
 ·subst hb
  go_enter Tryd.func79,Tryd.ntmps79
  go_wp2_with (go_at_call 93;refine(sflag_any _ _).mono ?_;rintro e w' ⟨rfl,rfl⟩)
  all_goals go_ret2
  all_goals (refine⟨?_,rfl⟩;go_light;simp_all [mk,mkOk,wrap64_zero];try omega)
 ·have hb' :(b==0)=false:=by simpa using hb
  go_enter Tryd.func79,Tryd.ntmps79
  go_wp2_with (go_at_call 93;refine(sflag_any _ _).mono ?_;rintro e w' ⟨rfl,rfl⟩)
  all_goals go_ret2
  all_goals (refine⟨?_,rfl⟩;go_light;simp_all [mk,mkOk];try omega)
end Go.Proofs.YtedcjapmmnbamaaDoor
