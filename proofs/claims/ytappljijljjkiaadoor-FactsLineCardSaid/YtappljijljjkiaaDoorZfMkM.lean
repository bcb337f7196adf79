/-
  What step.Make computes, for every op and all numbers. No condition.
-/
import Derived.Test.YtappljijljjkiaaDoorZfMkS
namespace Go.Proofs.YtappljijljjkiaaDoor
open Go.RowKit Tier
theorem smake_any(op a b imm:Int)(w:World):
 Calls Tryd.prog 124 #[.int .i64 op, .int .i64 a, .int .i64 b, .int .i64 imm] w fun e w' =>e= .returned (.tuple #[.int .i64 (mk op a b imm), .int .i64 (mkErr op b)])∧w=w' :=by
 by_cases h1:1≤op
 ·by_cases h2:op≤12
  ·by_cases h3:mkOk op b=true
   ·go_enter Tryd.func124,Tryd.ntmps124
    go_wp2_with (go_at_call 129;refine(spure_any _ _ _ _ _).mono ?_;rintro e w' ⟨rfl,rfl⟩)
    go_ret2
    refine⟨?_,rfl⟩
    go_light
    simp[mkErr,h1,h2]
    simp[mkOk,h1,h2] at h3
    omega
   ·have h3' :mkOk op b=false:=by simpa using h3
    have h4:op=5∧b=0:=by simp[mkOk,h1,h2] at h3;omega
    obtain⟨rfl,rfl⟩:=h4
    clear h3
    go_enter Tryd.func124,Tryd.ntmps124
    go_wp2_with (go_at_call 129;refine(spure_any _ _ _ _ _).mono ?_;rintro e w' ⟨rfl,rfl⟩)
    go_ret2
    refine⟨?_,rfl⟩
    simp[mkErr,mk]
  ·go_enter Tryd.func124,Tryd.ntmps124
   go_wp2_with fail
   go_ret2
   refine⟨?_,rfl⟩
   go_light
   simp[mkErr,mk,show¬op=1 by omega,show¬op=2 by omega,show¬op=3 by omega,show¬op=4 by omega,show¬op=5 by omega,show¬op=6 by omega,show¬op=7 by omega,show¬op=8 by omega,show¬op=9 by omega,show¬op=10 by omega,show¬op=11 by omega,show¬op=12 by omega,h2]
 ·go_enter Tryd.func124,Tryd.ntmps124
  go_wp2_with fail
  go_ret2
  refine⟨?_,rfl⟩
  go_light
  simp[mkErr,mk,show¬op=1 by omega,show¬op=2 by omega,show¬op=3 by omega,show¬op=4 by omega,show¬op=5 by omega,show¬op=6 by omega,show¬op=7 by omega,show¬op=8 by omega,show¬op=9 by omega,show¬op=10 by omega,show¬op=11 by omega,show¬op=12 by omega]
  omega
end Go.Proofs.YtappljijljjkiaaDoor
