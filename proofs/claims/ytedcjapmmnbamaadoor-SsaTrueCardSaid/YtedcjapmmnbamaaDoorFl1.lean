import Derived.Test.YtedcjapmmnbamaaDoorSu3
import Derived.Test.YtedcjapmmnbamaaDoorCl
import Derived.Deep.QuietTactic
import Derived.BigQuiet
import Derived.Test.YtedcjapmmnbamaaDoorFnS
import Derived.Test.YtedcjapmmnbamaaDoorSu1
namespace Tier
open Go Go.RowKit
def nextS(x:Ins)(pc:Nat):List Nat:=
 if x.op=19 then[] else if x.op=15 then[x.imm.toNat] else if x.op=16 then(if x.imm.toNat=pc+1 then[pc+1] else if pc+1<x.imm.toNat then[pc+1,x.imm.toNat] else[x.imm.toNat,pc+1]) else[pc+1]
theorem nextS_mem(x:Ins)(pc n:Nat):n∈nextS x pc↔n∈nextL x pc:=by
 unfold nextS nextL
 by_cases h1:x.op=19
 ·rw[if_pos h1,if_pos h1]
 rw[if_neg h1,if_neg h1]
 by_cases h2:x.op=15
 ·rw[if_pos h2,if_pos h2]
 rw[if_neg h2,if_neg h2]
 by_cases h3:x.op=16
 ·rw[if_pos h3,if_pos h3]
  split
  ·next h=>simp[h]
  ·split
   ·rfl
   ·simp[or_comm]
 ·rw[if_neg h3,if_neg h3]
theorem nextS_length(x:Ins)(pc:Nat):(nextS x pc).length≤2:=by
 unfold nextS
 repeat' split
 all_goals simp
end Tier
namespace Go.Proofs.YtedcjapmmnbamaaDoor
open Go.RowKit Tier
theorem less_any(a b:Int)(w:World):Calls Tryd.prog 71 #[.int .i64 a, .int .i64 b] w fun e w' =>e= .returned (.bool (decide (a<b)))∧w' =w:=by
 go_enter Tryd.func71,Tryd.ntmps71
 go_wp2
 all_goals (go_ret;refine⟨?_,rfl⟩;simp)
def Srt(b:Nat)(lo hi:Int)(w:World)(e:Ending)(w' :World):Prop:=e= .returned (.tuple #[])∧w'.heap[b]? =some (.cells #[.int .i64 lo, .int .i64 hi] 3 (0,0))∧Below b w w'
set_option maxRecDepth 100000 in
set_option maxHeartbeats 4000000 in
theorem insort_swap(b:Nat)(x y:Int)(w:World)(hw:w.heap[b]? =some (.cells #[.int .i64 x, .int .i64 y] 3 (0,0)))(h:y<x):
 Calls Tryd.prog 96 #[.slice (some ⟨b,0,none⟩) 2 2, .int .i64 0, .int .i64 2] w (Srt b y x w):=by
 have HW:=Lib.hid hw
 have hl:decide (y<x)=true:=by simpa using h
 clear hw h
 go_enter Tryd.func96,Tryd.ntmps96
 go_wp2_with fail
 go_loopw [6] (fun v wr=>(v= .int .i64 1∧wr=w)∨(v= .int .i64 2∧Srt b y x w (.returned (.tuple #[])) wr)) (fun v _=>2-(intOf v).toNat)
 case atStart=>exact .inl ⟨rfl,rfl⟩
 case round=>
  rcases hrel with⟨rfl,rfl⟩|⟨rfl,hS⟩
  ·go_wp2_with fail
   go_loopw [7] (fun v wr' =>(v= .int .i64 1∧wr' =wr)∨(v= .int .i64 0∧Srt b y x wr (.returned (.tuple #[])) wr')) (fun v _=>(intOf v).toNat)
   case atStart=>exact .inl ⟨rfl,rfl⟩
   case round=>
    rcases hrel with⟨rfl,rfl⟩|⟨rfl,hS⟩
    ·have c0:=(cell_block HW.out 0).trans rfl
     have c1:=(cell_block HW.out 1).trans rfl
     have f0:=frozen_block HW.out 0
     have f1:=frozen_block HW.out 1
     have hz:=block_lt HW.out
     go_wp2_with fail
     go_quiet ((go_at_call 71;exact Calls.quiet_of_same (less_any _ _ _)))
     clear c0 c1 f0 f1 hz
     have HD:=Lib.hid (below_drewN (Below.refl b wr) nq)
     have HWN:Hid ((wr.drewN nq).heap[b]? =some (.cells #[.int .i64 x, .int .i64 y] 3 (0,0))):=Lib.hid HW.out
     obtain⟨wd,hwd⟩:∃W,wr.drewN nq=W:=⟨_,rfl⟩
     rw[hwd] at HD HWN
     rw[hwd]
     clear hwd
     have c0:=(cell_block HWN.out 0).trans rfl
     have c1:=(cell_block HWN.out 1).trans rfl
     have f0:=frozen_block HWN.out 0
     have f1:=frozen_block HWN.out 1
     have hz:=block_lt HWN.out
     go_wp2_with fail
     refine wp_region_held_drew (S:=fun w' =>True) (by kernel_rfl) trivial (fun hHeld=> ?_)
     refine wpAnyH_take (i:=0) (v:= .slice (some ⟨b,0,none⟩) 2 2) rfl (by kernel_rfl) (by kernel_rfl) (by kernel_rfl) (fun _ _ _ h=>h) (Or.inl ⟨by rfl,?_⟩) hHeld ?_
     ·intro w hSw
      simp only[qg]
      go_simp
     simp only[Act.put,qs]
     refine wpAnyH_take (i:=1) (v:= .int .i64 1) rfl (by kernel_rfl) (by kernel_rfl) (by kernel_rfl) (fun _ _ _ h=>h) (Or.inl ⟨by rfl,?_⟩) hHeld ?_
     ·intro w hSw
      simp only[qg]
      go_simp
     simp only[Act.put,qs]
     refine wpAnyH_take (i:=2) (v:= .slice (some ⟨b,0,none⟩) 2 2) rfl (by kernel_rfl) (by kernel_rfl) (by kernel_rfl) (fun _ _ _ h=>h) (Or.inl ⟨by rfl,?_⟩) hHeld ?_
     ·intro w hSw
      simp only[qg]
      go_simp
     simp only[Act.put,qs]
     refine wpAnyH_take (i:=3) (v:= .int .i64 1) rfl (by kernel_rfl) (by kernel_rfl) (by kernel_rfl) (fun _ _ _ h=>h) (Or.inl ⟨by rfl,?_⟩) hHeld ?_
     ·intro w hSw
      simp only[qg]
      go_simp
     simp only[Act.put,qs]
     refine wpAnyH_take (i:=4) (v:= .int .i64 0) rfl (by kernel_rfl) (by kernel_rfl) (by kernel_rfl) (fun _ _ _ h=>h) (Or.inl ⟨by rfl,?_⟩) hHeld ?_
     ·intro w hSw
      simp only[qg]
      (go_simp;decide)
     simp only[Act.put,qs]
     refine wpAnyH_take (i:=5) (v:= .slice (some ⟨b,0,none⟩) 2 2) rfl (by kernel_rfl) (by kernel_rfl) (by kernel_rfl) (fun _ _ _ h=>h) (Or.inl ⟨by rfl,?_⟩) hHeld ?_
     ·intro w hSw
      simp only[qg]
      go_simp
     simp only[Act.put,qs]
     refine wpAnyH_take (i:=6) (v:= .int .i64 1) rfl (by kernel_rfl) (by kernel_rfl) (by kernel_rfl) (fun _ _ _ h=>h) (Or.inl ⟨by rfl,?_⟩) hHeld ?_
     ·intro w hSw
      simp only[qg]
      go_simp
     simp only[Act.put,qs]
     refine wpAnyH_take (i:=7) (v:= .int .i64 0) rfl (by kernel_rfl) (by kernel_rfl) (by kernel_rfl) (fun _ _ _ h=>h) (Or.inl ⟨by rfl,?_⟩) hHeld ?_
     ·intro w hSw
      simp only[qg]
      (go_simp;decide)
     simp only[Act.put,qs]
     refine wpAnyH_take (i:=8) (v:= .pointer (some ⟨b,0,none⟩)) rfl (by kernel_rfl) (by kernel_rfl) (by kernel_rfl) (fun _ _ _ h=>h) (Or.inl ⟨by rfl,?_⟩) hHeld ?_
     ·intro w hSw
      simp only[qg]
      go_simp
     simp only[Act.put,qs]
     refine wpAnyH_take (i:=10) (v:= .slice (some ⟨b,0,none⟩) 2 2) rfl (by kernel_rfl) (by kernel_rfl) (by kernel_rfl) (fun _ _ _ h=>h) (Or.inl ⟨by rfl,?_⟩) hHeld ?_
     ·intro w hSw
      simp only[qg]
      go_simp
     simp only[Act.put,qs]
     refine wpAnyH_take (i:=11) (v:= .int .i64 1) rfl (by kernel_rfl) (by kernel_rfl) (by kernel_rfl) (fun _ _ _ h=>h) (Or.inl ⟨by rfl,?_⟩) hHeld ?_
     ·intro w hSw
      simp only[qg]
      go_simp
     simp only[Act.put,qs]
     refine wpAnyH_take (i:=12) (v:= .pointer (some ⟨b,1,none⟩)) rfl (by kernel_rfl) (by kernel_rfl) (by kernel_rfl) (fun _ _ _ h=>h) (Or.inl ⟨by rfl,?_⟩) hHeld ?_
     ·intro w hSw
      simp only[qg]
      go_simp
     simp only[Act.put,qs]
     refine wpAnyH_ready (rs:=[9,13]) (by kernel_rfl) (by simp) ?_
     refine AllReadyH.cons rfl (fun K hK=> ?_) (AllReadyH.cons rfl (fun K hK=> ?_) (AllReadyH.nil))
     ·simp only[qg]
      go_simp
      refine hK.out _ _ hHeld (fun hHeld=> ?_)
      clear hK K
      refine wpAnyH_ready (rs:=[13]) (by kernel_rfl) (by simp) ?_
      refine AllReadyH.cons rfl (fun K hK=> ?_) AllReadyH.nil
      simp only[qg]
      go_simp
      refine hK.out _ _ hHeld (fun hHeld=> ?_)
      clear hK K
      refine wpAnyH_take (i:=14) (v:= .pointer (some ⟨b,1,none⟩)) rfl (by kernel_rfl) (by kernel_rfl) (by kernel_rfl) (fun _ _ _ h=>h) (Or.inl ⟨by rfl,?_⟩) hHeld ?_
      ·intro w hSw
       simp only[qg]
       go_simp
      simp only[Act.put,qs]
      refine wpAnyH_ready (rs:=[15]) (by kernel_rfl) (by simp) ?_
      refine AllReadyH.cons rfl (fun K hK=> ?_) AllReadyH.nil
      simp only[qg]
      go_simp
      refine hK.out _ _ trivial (fun hHeld=> ?_)
      clear hK K
      refine wpAnyH_take (i:=16) (v:= .pointer (some ⟨b,0,none⟩)) rfl (by kernel_rfl) (by kernel_rfl) (by kernel_rfl) (fun _ _ _ h=>h) (Or.inl ⟨by rfl,?_⟩) hHeld ?_
      ·intro w hSw
       simp only[qg]
       go_simp
      simp only[Act.put,qs]
      refine wpAnyH_ready (rs:=[17]) (by kernel_rfl) (by simp) ?_
      refine AllReadyH.cons rfl (fun K hK=> ?_) AllReadyH.nil
      simp only[qg]
      go_simp
      refine hK.out _ _ trivial (fun hHeld=> ?_)
      clear hK K
      clear hHeld
      refine wpAnyH_done (by kernel_rfl) ?_ _
      go_wp2_with fail
      go_roundw
      case rel=>
       refine .inr ⟨rfl,rfl,?_,?_⟩
       ·simp[World.setCell,Array.getElem?_modify,HWN.out,World.drew]
       ·have hb:=HD.out
        exact Bq
      case measure=>simp[intOf]
     ·simp only[qg]
      go_simp
      refine hK.out _ _ hHeld (fun hHeld=> ?_)
      clear hK K
      refine wpAnyH_ready (rs:=[9]) (by kernel_rfl) (by simp) ?_
      refine AllReadyH.cons rfl (fun K hK=> ?_) AllReadyH.nil
      simp only[qg]
      go_simp
      refine hK.out _ _ hHeld (fun hHeld=> ?_)
      clear hK K
      refine wpAnyH_take (i:=14) (v:= .pointer (some ⟨b,1,none⟩)) rfl (by kernel_rfl) (by kernel_rfl) (by kernel_rfl) (fun _ _ _ h=>h) (Or.inl ⟨by rfl,?_⟩) hHeld ?_
      ·intro w hSw
       simp only[qg]
       go_simp
      simp only[Act.put,qs]
      refine wpAnyH_ready (rs:=[15]) (by kernel_rfl) (by simp) ?_
      refine AllReadyH.cons rfl (fun K hK=> ?_) AllReadyH.nil
      simp only[qg]
      go_simp
      refine hK.out _ _ trivial (fun hHeld=> ?_)
      clear hK K
      refine wpAnyH_take (i:=16) (v:= .pointer (some ⟨b,0,none⟩)) rfl (by kernel_rfl) (by kernel_rfl) (by kernel_rfl) (fun _ _ _ h=>h) (Or.inl ⟨by rfl,?_⟩) hHeld ?_
      ·intro w hSw
       simp only[qg]
       go_simp
      simp only[Act.put,qs]
      refine wpAnyH_ready (rs:=[17]) (by kernel_rfl) (by simp) ?_
      refine AllReadyH.cons rfl (fun K hK=> ?_) AllReadyH.nil
      simp only[qg]
      go_simp
      refine hK.out _ _ trivial (fun hHeld=> ?_)
      clear hK K
      clear hHeld
      refine wpAnyH_done (by kernel_rfl) ?_ _
      go_wp2_with fail
      go_roundw
      case rel=>
       refine .inr ⟨rfl,rfl,?_,?_⟩
       ·simp[World.setCell,Array.getElem?_modify,HWN.out,World.drew]
       ·have hb:=HD.out
        exact Bq
      case measure=>simp[intOf]
    ·have HS:=Lib.hid hS
     clear hS
     go_wp2_with fail
     go_quiet (fail)
     go_wp2_with fail
     go_roundw
     case rel=>exact .inr ⟨rfl,rfl,HS.out.2.1,by have hb:=HS.out.2.2;exact Bq⟩
     case measure=>simp[intOf]
  ·have HS:=Lib.hid hS
   clear hS
   go_wp2_with fail
   exact bodyPost_end (v:= .tuple #[]) (by simp[results,Tryd.results96,go_sem]) rfl ⟨rfl,HS.out.2⟩
set_option maxRecDepth 100000 in
set_option maxHeartbeats 4000000 in
theorem insort_keep(b:Nat)(x y:Int)(w:World)(hw:w.heap[b]? =some (.cells #[.int .i64 x, .int .i64 y] 3 (0,0)))(h:x≤y):
 Calls Tryd.prog 96 #[.slice (some ⟨b,0,none⟩) 2 2, .int .i64 0, .int .i64 2] w (Srt b x y w):=by
 have HW:=Lib.hid hw
 have hl:decide (y<x)=false:=by simpa using h
 clear hw h
 go_enter Tryd.func96,Tryd.ntmps96
 go_wp2_with fail
 go_loopw [6] (fun v wr=>(v= .int .i64 1∧wr=w)∨(v= .int .i64 2∧Srt b x y w (.returned (.tuple #[])) wr)) (fun v _=>2-(intOf v).toNat)
 case atStart=>exact .inl ⟨rfl,rfl⟩
 case round=>
  rcases hrel with⟨rfl,rfl⟩|⟨rfl,hS⟩
  ·go_wp2_with fail
   go_loopw [7] (fun v wr' =>v= .int .i64 1∧wr' =wr) (fun v _=>(intOf v).toNat)
   case atStart=>exact⟨rfl,rfl⟩
   case round=>
    obtain⟨rfl,rfl⟩:=hrel
    have c0:=(cell_block HW.out 0).trans rfl
    have c1:=(cell_block HW.out 1).trans rfl
    have hz:=block_lt HW.out
    go_wp2_with fail
    go_quiet ((go_at_call 71;exact Calls.quiet_of_same (less_any _ _ _)))
    go_wp2_with fail
    go_roundw
    case rel=>exact .inr ⟨rfl,rfl,HW.out,below_drewN (Below.refl _ _) _⟩
    case measure=>simp[intOf]
  ·have HS:=Lib.hid hS
   clear hS
   go_wp2_with fail
   exact bodyPost_end (v:= .tuple #[]) (by simp[results,Tryd.results96,go_sem]) rfl ⟨rfl,HS.out.2⟩
set_option maxRecDepth 100000 in
set_option maxHeartbeats 4000000 in
theorem pdq2_any(b:Nat)(lim:Value)(w:World)(Q:Ending→World→Prop)(h:Calls Tryd.prog 96 #[.slice (some ⟨b,0,none⟩) 2 2, .int .i64 0, .int .i64 2] w fun e w' =>e= .returned (.tuple #[])∧Q e w'):
 Calls Tryd.prog 90 #[.slice (some ⟨b,0,none⟩) 2 2, .int .i64 0, .int .i64 2,lim] w fun e w' =>e= .returned (.tuple #[])∧Q e w' :=by
 have HI:=Lib.hid h
 clear h
 go_enter Tryd.func90,Tryd.ntmps90
 go_wp2_with fail
 go_loopw [1,2] (fun va vb wr=>va= .int .i64 0∧vb= .int .i64 2∧wr=w) (fun _ _ _=>0)
 case atStart=>exact⟨rfl,rfl,rfl⟩
 case round=>
  obtain⟨rfl,rfl,rfl⟩:=hrel
  go_wp2_with (go_at_call 96;go_must (refine HI.out.mono ?_;rintro e w' ⟨rfl,hq⟩;have HQ:=Lib.hid hq;clear hq))
  exact bodyPost_ret (v:= .tuple #[]) (by simp[results,Tryd.results90,go_sem]) rfl ⟨rfl,HQ.out⟩
set_option maxRecDepth 100000 in
set_option maxHeartbeats 4000000 in
theorem sort2_any(b:Nat)(w:World)(Q:Ending→World→Prop)(h:Calls Tryd.prog 96 #[.slice (some ⟨b,0,none⟩) 2 2, .int .i64 0, .int .i64 2] w fun e w' =>e= .returned (.tuple #[])∧Q e w'):
 Calls Tryd.prog 70 #[.slice (some ⟨b,0,none⟩) 2 2] w fun e w' =>e= .returned (.tuple #[])∧Q e w' :=by
 have HI:=Lib.hid h
 clear h
 go_enter Tryd.func70,Tryd.ntmps70
 go_wp2_with (first|(go_at_call 90;go_must (refine(pdq2_any b _ _ Q HI.out).mono ?_;rintro e w' ⟨rfl,hq⟩;have HQ:=Lib.hid hq;clear hq))|go_in)
 exact bodyPost_end (v:= .tuple #[]) (by simp[results,Tryd.results70,go_sem]) rfl ⟨rfl,HQ.out⟩
theorem sort_two(b:Nat)(x y:Int)(w:World)(hw:w.heap[b]? =some (.cells #[.int .i64 x, .int .i64 y] 3 (0,0))):
 Calls Tryd.prog 70 #[.slice (some ⟨b,0,none⟩) 2 2] w (Srt b (if x≤y then x else y) (if x≤y then y else x) w):=by
 by_cases h:x≤y
 ·rw[if_pos h,if_pos h]
  exact sort2_any b w (fun _ w' =>w'.heap[b]? =some (.cells #[.int .i64 x, .int .i64 y] 3 (0,0))∧Below b w w') (insort_keep b x y w hw h)
 ·rw[if_neg h,if_neg h]
  exact sort2_any b w (fun _ w' =>w'.heap[b]? =some (.cells #[.int .i64 y, .int .i64 x] 3 (0,0))∧Below b w w') (insort_swap b x y w hw (by omega))
set_option maxRecDepth 100000 in
set_option maxHeartbeats 4000000 in
theorem fnext_any(f:Fnc)(A:Option Addr)(cap pc:Nat)(x:Ins)(w:World)(hx:f.code[pc]? =some x)(hc:CodeAt w (.slice A f.code.length cap) f.code)(hl:f.code.length≤40)(hi:x.op=15∨x.op=16→0≤x.imm∧x.imm<40):
 Calls Tryd.prog 40 #[.agg #[.int .i64 f.params, .int .i64 f.regs, .slice A f.code.length cap], .int .i64 pc] w fun e w' =>
  (∃v,e= .returned v∧OwnI w' w.heap.size v (natI (nextS x pc)))∧Below w.heap.size w w' :=by
 obtain⟨A0,cap0,hA0,hA⟩:=hc.slice
 simp only[Value.slice.injEq,true_and] at hA0
 have hpc:pc<f.code.length:=(gI.1 hx).1
 obtain⟨g,hAg,hg,hfn⟩:=hA (by omega)
 obtain⟨rfl,rfl⟩:=hA0
 obtain⟨c0,c1,c2,c3,c4⟩:=hfn pc x hx
 subst hAg
 have hp0:(0:Int)≤pc:=by omega
 have hp1:(pc:Int)<f.code.length:=by omega
 have hp2:(pc:Int)≤40:=by omega
 obtain⟨fp,fr,fc⟩:=f
 dsimp only at *
 generalize fc.length=M at *
 have HX:=Lib.hid hx
 clear hfn hA hc hx
 obtain⟨op,dst,a,b,imm⟩:=x
 dsimp only at *
 have hcase:op=19∨op=15∨op=16∨(op≠19∧op≠15∧op≠16):=by omega
 rcases hcase with rfl|rfl|rfl|⟨h1,h2,h3⟩
 ·go_enter Tryd.func40,Tryd.ntmps40
  go_wp2_with fail
  go_ret
  refine⟨⟨_,rfl,?_⟩,?_⟩
  ·simp only[nextS,if_true,natI,List.map_nil];exact OwnI.nil _ _
  ·exact Bq
 ·have hi' :=(hi (.inl rfl)).1
  obtain⟨m,rfl⟩:=Int.eq_ofNat_of_zero_le hi'
  clear hi hi'
  go_enter Tryd.func40,Tryd.ntmps40
  go_wp2_with fail
  go_ret
  refine⟨⟨_,rfl,?_⟩,?_⟩
  ·have:=OwnI.made (((w.alloc (.cells #[.int .i64 fp, .int .i64 fr, .slice (some ⟨g,0,none⟩) M cap] 60)).alloc (.cells #[.int .i64 15, .int .i64 dst, .int .i64 a, .int .i64 b, .int .i64 m] 58))) w.heap.size [(m:Int)] (by simp;omega) (by simp)
   simpa [nextS,natI] using this
  ·exact Bq
 ·obtain⟨hi',hi2⟩:=hi (.inr rfl)
  obtain⟨m,rfl⟩:=Int.eq_ofNat_of_zero_le hi'
  clear hi hi'
  by_cases hm:m=pc+1
  ·have hq:((m:Int)==(pc:Int)+1)=true:=beq_iff_eq.2 (by omega)
   have HNS:=Lib.hid (show nextS ⟨16,dst,a,b,(m:Int)⟩ pc=[pc+1] by simp[nextS,hm])
   clear hm
   go_enter Tryd.func40,Tryd.ntmps40
   go_wp2_with fail
   go_ret
   refine⟨⟨_,rfl,?_⟩,?_⟩
   ·have:=OwnI.made (((w.alloc (.cells #[.int .i64 fp, .int .i64 fr, .slice (some ⟨g,0,none⟩) M cap] 60)).alloc (.cells #[.int .i64 16, .int .i64 dst, .int .i64 a, .int .i64 b, .int .i64 m] 58))) w.heap.size [(pc:Int)+1] (by simp;omega) (by simp)
    rw[HNS.out]
    simpa [natI] using this
   ·exact Bq
  ·have hq:((m:Int)==(pc:Int)+1)=false:=beq_eq_false_iff_ne.2 (by omega)
   have HNS:=Lib.hid (show natI (nextS ⟨16,dst,a,b,(m:Int)⟩ pc)=[if (pc:Int)+1≤m then(pc:Int)+1 else m,if (pc:Int)+1≤m then(m:Int) else(pc:Int)+1] by
    by_cases h:pc+1<m
    ·have h2:(pc:Int)+1≤m:=by omega
     rw[if_pos h2,if_pos h2]
     simp[nextS,hm,h,natI]
    ·have h2:¬(pc:Int)+1≤m:=by omega
     rw[if_neg h2,if_neg h2]
     simp[nextS,hm,h,natI])
   have hlo:(if (pc:Int)+1≤m then(pc:Int)+1 else m)≤41:=by split<;>omega
   clear hm
   have HB1:=Lib.hid (((Below.refl w.heap.size w).alloc (Nat.le_refl _) (.cells #[.int .i64 fp, .int .i64 fr, .slice (some ⟨g,0,none⟩) M cap] 60)).alloc (by simp) (.cells #[.int .i64 16, .int .i64 dst, .int .i64 a, .int .i64 b, .int .i64 m] 58))
   obtain⟨lo,hloe⟩:∃z,(if (pc:Int)+1≤m then(pc:Int)+1 else m)=z:=⟨_,rfl⟩
   obtain⟨hi3,hhie⟩:∃z,(if (pc:Int)+1≤m then(m:Int) else(pc:Int)+1)=z:=⟨_,rfl⟩
   have HSO:=Lib.hid (fun(bb:Nat) (W:World) (h:W.heap[bb]? =some (.cells #[.int .i64 ((pc:Int)+1), .int .i64 (m:Int)] 3 (0,0)))=>sort_two bb ((pc:Int)+1) m W h)
   rw[hloe,hhie] at HNS HSO
   clear hloe hhie hlo
   go_enter Tryd.func40,Tryd.ntmps40
   go_wp2_with (go_at_call 70;go_must (refine(HSO.out (w.heap.size+1+1) _ (by simpa using heap_alloc_new ((w.alloc (.cells #[.int .i64 fp, .int .i64 fr, .slice (some ⟨g,0,none⟩) M cap] 60)).alloc (.cells #[.int .i64 16, .int .i64 dst, .int .i64 a, .int .i64 b, .int .i64 m] 58)) (.cells #[.int .i64 ((pc:Int)+1), .int .i64 (m:Int)] 3))).mono ?_;rintro e w' ⟨rfl,hk,hb⟩;have HK:=Lib.hid hk;have HB:=Lib.hid hb;clear hk hb))
   go_ret
   refine⟨⟨_,rfl,?_⟩,?_⟩
   ·rw[HNS.out]
    exact⟨by simp, .inr ⟨w.heap.size+1+1,2,_,rfl,by omega,HK.out,Nat.le_refl _,by unfold maxLen;omega,by simp,by simp⟩⟩
   ·have h2:=(HB1.out.alloc (by simp;omega) (.cells #[.int .i64 ((pc:Int)+1), .int .i64 (m:Int)] 3))
    exact h2.trans (HB.out.mono (by omega))
 ·have h4:(op==19)=false:=by simpa using h1
  have h5:(op==15)=false:=by simpa using h2
  have h6:(op==16)=false:=by simpa using h3
  have HNL:=Lib.hid (show nextS ⟨op,dst,a,b,imm⟩ pc=[pc+1] by simp[nextS,h1,h2,h3])
  clear hi h1 h2 h3
  go_enter Tryd.func40,Tryd.ntmps40
  go_wp2_with fail
  go_ret
  refine⟨⟨_,rfl,?_⟩,?_⟩
  ·have:=OwnI.made (((w.alloc (.cells #[.int .i64 fp, .int .i64 fr, .slice (some ⟨g,0,none⟩) M cap] 60)).alloc (.cells #[.int .i64 op, .int .i64 dst, .int .i64 a, .int .i64 b, .int .i64 imm] 58))) w.heap.size [(pc:Int)+1] (by simp;omega) (by simp)
   rw[HNL.out]
   simpa [natI] using this
  ·exact Bq
end Go.Proofs.YtedcjapmmnbamaaDoor
namespace Tier
open Go Go.RowKit
theorem andnot_bit:∀(i a b:Nat),(a-(a&&&b)).testBit i=(a.testBit i&& !b.testBit i)
 |0,a,b=>by
  have h1:(a&&&b) % 2=(a % 2)&&&(b % 2):=Nat.and_mod_two_pow (n:=1)
  have h2:=Nat.and_le_left (n:=a) (m:=b)
  simp only[Nat.testBit_zero]
  generalize a&&&b=c at *
  rcases Nat.mod_two_eq_zero_or_one a with ha|ha<;>rcases Nat.mod_two_eq_zero_or_one b with hb|hb<;>rw[ha,hb] at h1
  ·have h3:(a-c) % 2=0:=by simp at h1;omega
   rw[ha,hb,h3];rfl
  ·have h3:(a-c) % 2=0:=by simp at h1;omega
   rw[ha,hb,h3];rfl
  ·have h3:(a-c) % 2=1:=by simp at h1;omega
   rw[ha,hb,h3];rfl
  ·have h3:(a-c) % 2=0:=by simp at h1;omega
   rw[ha,hb,h3];rfl
 |i+1,a,b=>by
  have h1:(a&&&b) % 2=(a % 2)&&&(b % 2):=Nat.and_mod_two_pow (n:=1)
  have h2:=Nat.and_le_left (n:=a) (m:=b)
  have h3:(a&&&b) / 2=(a / 2)&&&(b / 2):=Nat.and_div_two_pow (n:=1)
  have h4:=Nat.and_le_left (n:=a % 2) (m:=b % 2)
  have h5:(a-(a&&&b)) / 2=a / 2-((a / 2)&&&(b / 2)):=by
   rw[←h3]
   rw[←h1] at h4
   generalize a&&&b=c at *
   clear h1 h3
   omega
  rw[Nat.testBit_succ,h5,andnot_bit i (a / 2) (b / 2),Nat.testBit_succ,Nat.testBit_succ]
def orN(O:List Nat)(l:List Nat):Nat:=l.foldl (fun acc n=>acc|||O.getD n 0) 0
theorem orN_go(O:List Nat)(i:Nat):∀(l:List Nat) (acc:Nat),(l.foldl (fun acc n=>acc|||O.getD n 0) acc).testBit i=(acc.testBit i||l.any fun n=>(O.getD n 0).testBit i)
 |[],acc=>by simp
 |n::l,acc=>by
  simp only[List.foldl_cons,List.any_cons]
  rw[orN_go O i l,Nat.testBit_or,Bool.or_assoc]
theorem orN_bit(O l:List Nat)(i:Nat):(orN O l).testBit i=l.any fun n=>(O.getD n 0).testBit i:=by
 unfold orN;rw[orN_go];simp
theorem orN_succ(O l:List Nat)(k n:Nat)(h:l[k]? =some n):orN O (l.take (k+1))=orN O (l.take k)|||O.getD n 0:=by
 unfold orN;rw[List.take_add_one,h];simp[List.foldl_append]
def liveV(p:List Fnc)(O:List Nat)(x:Ins)(pc:Nat):Nat:=(orN O (nextS x pc)-(orN O (nextS x pc)&&&setM x))|||readsM x (parOf p x)
theorem liveV_bit(p:List Fnc)(O:List Nat)(x:Ins)(pc i:Nat):(liveV p O x pc).testBit i=true↔((∃n∈nextL x pc,(O.getD n 0).testBit i=true)∧(setM x).testBit i=false)∨(readsM x (parOf p x)).testBit i=true:=by
 unfold liveV
 rw[Nat.testBit_or,andnot_bit,orN_bit]
 simp only[Bool.or_eq_true,Bool.and_eq_true,Bool.not_eq_true',List.any_eq_true,nextS_mem]
def PreL(p:List Fnc)(F:Fnc)(S:Nat→Nat):Prop:=
 ∀(pc:Nat) (x:Ins),rchB F pc=true→F.code[pc]? =some x→(∀n∈nextL x pc,∀i,(S n).testBit i=true→(setM x).testBit i=false→(S pc).testBit i=true)∧Sub (readsM x (parOf p x)) (S pc)
structure LInv(p:List Fnc)(F:Fnc)(O:List Nat):Prop where
 len:O.length=F.code.length
 lt:∀m∈O,m<4096
 un:∀pc,rchB F pc=false→O.getD pc 0=0
 post:∀(pc:Nat) (x:Ins),rchB F pc=true→F.code[pc]? =some x→Sub (O.getD pc 0) (liveV p O x pc)
 low:∀S,PreL p F S→∀pc,Sub (O.getD pc 0) (S pc)
def FixL(p:List Fnc)(F:Fnc)(O:List Nat):Prop:=∀(pc:Nat) (x:Ins),rchB F pc=true→F.code[pc]? =some x→O.getD pc 0=liveV p O x pc
theorem sum_set:∀(l:List Nat) (k a v:Nat),l[k]? =some a→(l.set k v).sum+a=l.sum+v
 |[],k,a,v,h=>by simp at h
 |b::l,0,a,v,h=>by simp at h;subst h;simp;omega
 |b::l,k+1,a,v,h=>by
  have:=sum_set l k a v (by simpa using h)
  simp;omega
theorem sum_le(l:List Nat)(h:∀m∈l,m<4096):l.sum≤4096*l.length:=by
 induction l with
 |nil=>simp
 |cons a l ih=>
  have h1:=h a (by simp)
  have h2:=ih fun m hm=>h m (by simp[hm])
  simp;omega
def muL(O:List Nat):Nat:=4096*O.length-O.sum
theorem getD_set{O:List Nat}{k v:Nat}(hk:k<O.length)(i:Nat):(O.set k v).getD i 0=if i=k then v else O.getD i 0:=by
 rw[gD,gD,List.getElem?_set]
 by_cases h:k=i
 ·subst h;simp[hk]
 ·rw[if_neg h,if_neg (fun e=>h e.symm)]
theorem getD_lt{O:List Nat}(h:∀m∈O,m<4096)(i:Nat):O.getD i 0<4096:=by
 rw[gD]
 cases hh:O[i]? with
 |none=>simp
 |some m=>exact h m (gM hh)
theorem orN_lt{O:List Nat}(h:∀m∈O,m<4096):∀(l:List Nat),orN O l<4096:=by
 have key:∀(l:List Nat) (acc:Nat),acc<4096→l.foldl (fun acc n=>acc|||O.getD n 0) acc<4096:=by
  intro l
  induction l with
  |nil=>intro acc ha;exact ha
  |cons n l ih=>intro acc ha;exact ih _ (or_lt ha (getD_lt h n))
 exact fun l=>key l 0 (by omega)
section
variable {p:List Fnc}{F:Fnc}{O:List Nat}
theorem reads_lt(x:Ins){regs n funcs:Int}(h:InsOk x regs n funcs)(hr:regs≤12)(k:Int):readsM x k<4096:=by
 have ha:2^x.a.toNat<4096:=pow_lt (by have:=h.a1;have:=h.a2;omega)
 have hb:2^x.b.toNat<4096:=pow_lt (by have:=h.b1;have:=h.b2;omega)
 unfold readsM
 repeat' split
 all_goals first|omega|exact or_lt ha hb
theorem liveV_lt(h:LInv p F O){pc:Nat}{x:Ins}{regs n funcs:Int}(hx:InsOk x regs n funcs)(hr:regs≤12):liveV p O x pc<4096:=by
 unfold liveV
 have h1:=orN_lt h.lt (nextS x pc)
 exact or_lt (by omega) (reads_lt x hx hr _)
theorem liveV_mono{O O' :List Nat}(h:∀n,Sub (O.getD n 0) (O'.getD n 0))(x:Ins)(pc:Nat):Sub (liveV p O x pc) (liveV p O' x pc):=by
 intro i hi
 rw[liveV_bit] at hi⊢
 rcases hi with⟨⟨n,hn,h1⟩,h2⟩|h1
 ·exact .inl ⟨⟨n,hn,h n i h1⟩,h2⟩
 ·exact .inr h1
theorem LInv.start(hp:Right p)(hF:F∈p):LInv p F (List.replicate F.code.length 0):=by
 have h0:∀pc,(List.replicate F.code.length 0).getD pc 0=0:=fun pc=>by
  rw[gD,List.getElem?_replicate];split<;>rfl
 have _:=hp.ok.fn F hF
 exact⟨by simp,fun m hm=>by rw[(List.mem_replicate.1 hm).2];omega,fun pc _=>h0 pc,fun pc x _ _=>by rw[h0];exact sub_zero _,fun S _ pc=>by rw[h0];exact sub_zero _⟩
theorem LInv.step(hp:Right p)(hF:F∈p)(h:LInv p F O){pc:Nat}{x:Ins}(hr:rchB F pc=true)(hx:F.code[pc]? =some x):LInv p F (O.set pc (liveV p O x pc))∧(liveV p O x pc≠O.getD pc 0→muL (O.set pc (liveV p O x pc))<muL O):=by
 have hfo:=hp.ok.fn F hF
 have hio:=hfo.ins x (gM hx)
 have hpc:pc<O.length:=by rw[h.len];exact(gI.1 hx).1
 have hv:=liveV_lt (pc:=pc) h hio hfo.r2
 have hup:∀n,Sub (O.getD n 0) ((O.set pc (liveV p O x pc)).getD n 0):=fun n=>by
  rw[getD_set hpc]
  split
  ·next e=>rw[e];exact h.post pc x hr hx
  ·exact fun i hi=>hi
 refine⟨⟨by simp[h.len],fun m hm=> ?_,fun k hk=> ?_,fun k y hk hy=> ?_,fun S hS k=> ?_⟩,fun hne=> ?_⟩
 ·rcases List.mem_or_eq_of_mem_set hm with hm|rfl
  ·exact h.lt m hm
  ·exact hv
 ·rw[getD_set hpc,if_neg (fun e=>by rw[e,hr] at hk;cases hk)];exact h.un k hk
 ·rw[getD_set hpc]
  split
  ·next e=>
   subst e
   rw[hx] at hy
   obtain rfl:=Option.some.inj hy
   exact liveV_mono hup _ _
  ·exact(h.post k y hk hy).trans (liveV_mono hup _ _)
 ·rw[getD_set hpc]
  split
  ·next e=>
   subst e
   intro i hi
   rw[liveV_bit] at hi
   obtain⟨h1,h2⟩:=hS k x hr hx
   rcases hi with⟨⟨n,hn,h3⟩,h4⟩|h3
   ·exact h1 n hn i (h.low S hS n i h3) h4
   ·exact h2 i h3
  ·exact h.low S hS k
 ·have hget:O[pc]? =some (O.getD pc 0):=by rw[gD,gE hpc];rfl
  have hs:=sum_set O pc _ (liveV p O x pc) hget
  have hle:O.getD pc 0≤liveV p O x pc:=by
   have h1:=(h.post pc x hr hx).and
   have h2:=Nat.and_le_right (n:=O.getD pc 0) (m:=liveV p O x pc)
   omega
  have hsum:=sum_le (O.set pc (liveV p O x pc)) (fun m hm=>by
   rcases List.mem_or_eq_of_mem_set hm with hm|rfl
   ·exact h.lt m hm
   ·exact hv)
  have hl:(O.set pc (liveV p O x pc)).length=O.length:=by simp
  rw[hl] at hsum
  unfold muL
  rw[hl]
  omega
structure LiveOk(p:List Fnc)(F:Fnc)(O:List Nat):Prop where
 inv:LInv p F O
 fix:FixL p F O
theorem LiveOk.pre(h:LiveOk p F O):PreL p F (fun n=>O.getD n 0):=fun pc x hr hx=>by
 have hf:=h.fix pc x hr hx
 refine⟨fun n hn i hi hs=> ?_,fun i hi=> ?_⟩
 ·show(O.getD pc 0).testBit i=true
  rw[hf,liveV_bit];exact .inl ⟨⟨n,hn,hi⟩,hs⟩
 ·show(O.getD pc 0).testBit i=true
  rw[hf,liveV_bit];exact .inr hi
theorem LiveOk.unique{O' :List Nat}(h:LiveOk p F O)(h' :LiveOk p F O'):O=O' :=by
 have key:∀n,O.getD n 0=O'.getD n 0:=fun n=>by
  have h1:=h.inv.low _ h'.pre n
  have h2:=h'.inv.low _ h.pre n
  apply Nat.eq_of_testBit_eq
  intro i
  cases ha:(O.getD n 0).testBit i with
  |true=>rw[h1 i ha]
  |false=>
   cases hb:(O'.getD n 0).testBit i with
   |false=>rfl
   |true=>rw[h2 i hb] at ha;cases ha
 apply List.ext_getElem
 ·rw[h.inv.len,h'.inv.len]
 ·intro n h1 h2
  have:=key n
  rw[gD,gD,gE h1,gE h2] at this
  exact this
def liveL(F:Fnc)(O:List Nat):List (Option Nat):=(List.range F.code.length).map fun pc=>if rchB F pc=true then some (O.getD pc 0) else none
theorem liveL_length:(liveL F O).length=F.code.length:=by simp[liveL]
theorem liveL_get{pc:Nat}(h:pc<F.code.length):(liveL F O)[pc]? =some (if rchB F pc=true then some (O.getD pc 0) else none):=by
 unfold liveL;rw[List.getElem?_map,List.getElem?_range h];rfl
theorem LiveOk.sure(hk:checkP p=0)(hF:F∈p)(h:LiveOk p F O){pc m:Nat}(hm:(sureF F)[pc]? =some (some m)):Sub (O.getD pc 0) m:=by
 have hp:=right_of hk
 have hfo:=hp.ok.fn F hF
 let S:Nat→Nat:=fun n=>(((sureF F)[n]?).getD none).getD 0
 have hS:∀{n m:Nat},(sureF F)[n]? =some (some m)→S n=m:=fun h=>by show(((sureF F)[_]?).getD none).getD 0=_;rw[h];rfl
 have hpre:PreL p F S:=fun q x hr hx=>by
  obtain⟨m1,h1⟩:=rch_of hr
  have hb:=not_bad hk hF (gI.1 hx).1
  unfold badAt at hb
  rw[hx,h1] at hb
  dsimp only at hb
  refine⟨fun n hn i hi hs=> ?_,?_⟩
  ·obtain⟨-,m2,h3,h4⟩:=hp.next hF h1 hx hn
   rw[hS h3] at hi
   rw[hS h1]
   have:=Sub.of_and h4 i hi
   rw[Nat.testBit_or,hs] at this
   simpa using this
  ·rw[hS h1];exact Sub.of_and (mask_of hb)
 have:=h.inv.low S hpre pc
 rw[hS hm] at this
 exact this
end
end Tier
namespace Go.Proofs.YtedcjapmmnbamaaDoor
open Go.RowKit Tier
structure LW(w2 wr:World)(fp fr:Int)(fv:Value)(l:List Int):Prop where
 box:wr.heap[w2.heap.size]? =some (.cells #[.int .i64 fp, .int .i64 fr,fv] 60 (0,0))
 out:IntsB wr (w2.heap.size+1) l
 below:Below w2.heap.size w2 wr
section
variable {w2 wr w' :World}{fp fr:Int}{fv:Value}{l:List Int}
theorem LW.keeps(h:LW w2 wr fp fr fv l)(hb:Below wr.heap.size wr w'):LW w2 w' fp fr fv l:=
 ⟨(hb.block _ (block_lt h.box)).trans h.box,h.out.keeps hb,h.below.trans (hb.mono h.below.size)⟩
theorem LW.set(h:LW w2 wr fp fr fv l)(i:Nat)(x:Int):LW w2 (wr.setCell ⟨w2.heap.size+1,i,none⟩ (.int .i64 x)) fp fr fv (l.set i x):=
 ⟨(Below.heap_setCell _ _ _ _ (by simp)).trans h.box,h.out.set i x,h.below.setCell (by simp) _⟩
theorem LW.start(w:World)(fp fr:Int)(fv:Value)(n:Nat):LW w ((w.alloc (.cells #[.int .i64 fp, .int .i64 fr,fv] 60)).alloc (.cells (madeCells #[.int .i64 0] n) 3)) fp fr fv (List.replicate n 0):=by
 refine⟨?_,?_,?_⟩
 ·rw[Below.heap_alloc _ _ _ (by simp)];exact heap_alloc_new _ _
 ·have:=made_ints (w.alloc (.cells #[.int .i64 fp, .int .i64 fr,fv] 60)) n
  simpa using this
 ·exact Bq
end
theorem natI_set(O:List Nat)(k v:Nat):(natI O).set k (v:Int)=natI (O.set k v):=by simp[natI,List.map_set]
theorem natI_get{O:List Nat}{k:Nat}(h:k<O.length):(natI O)[k]? =some ((O.getD k 0:Nat):Int):=by
 rw[gD,natI,List.getElem?_map,gE h];rfl
theorem natI_rep(n:Nat):natI (List.replicate n 0)=List.replicate n 0:=by simp[natI]
def LiveRet(p:List Fnc)(F:Fnc)(B:Nat)(e:Ending)(w' :World):Prop:=∃b O,e= .returned (.tuple #[.slice (some ⟨b,0,none⟩) F.code.length F.code.length, .int .i64 0])∧B≤b∧IntsB w' b (outL (liveL F O))∧LiveOk p F O
set_option maxRecDepth 100000 in
set_option maxHeartbeats 8000000 in
theorem live_any(p:List Fnc)(A:Option Addr)(cap k:Nat)(F:Fnc)(w:World)(ht:Tab w)(hp:ProgAt w (.slice A p.length cap) p)(hk:checkP p=0)(hf:p[k]? =some F):
 Calls Tryd.prog 24 #[.agg #[.slice A p.length cap], .int .i64 (k:Int)] w fun e w' =>LiveRet p F w.heap.size e w' ∧Below w.heap.size w w' :=by
 have hR:=right_of hk
 have hE:progE p=0:=by
  unfold checkP at hk
  by_cases hE:progE p=0
  ·exact hE
  ·rw[if_pos hE] at hk;exact absurd hk hE
 have l2:=hR.ok.l2
 have hFm:=gM hf
 have hfo:=hR.ok.fn F hFm
 have hkl:=(gI.1 hf).1
 obtain⟨A0,cap0,hA0,hA⟩:=hp.slice
 simp only[Value.slice.injEq,true_and] at hA0
 obtain⟨g,hAg,hg,hfn⟩:=hA (by omega)
 obtain⟨rfl,rfl⟩:=hA0
 subst hAg
 obtain⟨u,hu,d0,d1,d2⟩:=hfn k F hf
 have HU:=Lib.hid hu
 obtain⟨FA,fcap,rfl,hFA⟩:=hu.slice
 have HPC:=Lib.hid (fun(W:World) (h1:Tab W) (h2:ProgAt W (.slice (some ⟨g,0,none⟩) p.length cap) p)=>pcheck_any p (some ⟨g,0,none⟩) cap W h1 h2 (by omega) (fun f hf=>by have:=(hR.ok.fn f hf).c2;omega))
 rw[hk] at HPC
 have HSU:=Lib.hid (fun(W:World) (h1:Tab W) (h2:ProgAt W (.slice (some ⟨g,0,none⟩) p.length cap) p)=>psure_any p (some ⟨g,0,none⟩) cap k F W h1 h2 hE hf)
 have HRD:=Lib.hid (fun(W:World) (h1:Tab W) (h2:ProgAt W (.slice (some ⟨g,0,none⟩) p.length cap) p) (pc:Nat) (x:Ins) (hx:F.code[pc]? =some x)=>preadsx_any p (some ⟨g,0,none⟩) cap k pc F x W h1 h2 hE hf hx)
 have HNX:=Lib.hid (fun(W:World) (pc:Nat) (x:Ins) (hx:F.code[pc]? =some x) (hc:CodeAt W (.slice FA F.code.length fcap) F.code)=>fnext_any F FA fcap pc x W hx hc hfo.c2 (fun h=>by have h1:=(hfo.ins x (gM hx)).jump h;have h2:=hfo.c2;omega))
 have HT:=Lib.hid ht
 have HP:=Lib.hid hp
 have HR:=Lib.hid hR
 have HFM:=Lib.hid hFm
 have HFO:=Lib.hid hfo
 have HSL:=Lib.hid (sureF_length hfo.cok hfo.p2)
 have n2:=hfo.c2
 have hst:=LInv.start hR hFm
 have HST:=Lib.hid hst
 obtain⟨M,hM⟩:∃M,F.code.length=M:=⟨_,rfl⟩
 have HM:=Lib.hid hM
 obtain⟨N,hN⟩:∃N,p.length=N:=⟨_,rfl⟩
 have hk1:(k:Int)<N:=by omega
 have hk0:(0:Int)≤k:=by omega
 have hmk:=make_intsN M (by omega)
 rw[hN] at HPC HSU HRD HP l2⊢
 rw[hM] at HSU HNX HU d2 n2 HST HSL
 clear hA hfn hp ht hR hE hk hf hu hFA hfo hFm hM hN hst hkl
 go_enter Tryd.func24,Tryd.ntmps24
 go_wp2_with (first|(go_at_call 21;go_must (refine(HPC.out _ (HT.out.alloc _) (HP.out.keeps ((Below.refl _ _).alloc (Nat.le_refl _) _))).mono ?_;rintro e w1 ⟨rfl,hb⟩;have HB1:=Lib.hid (((Below.refl w.heap.size w).alloc (Nat.le_refl _) (.cells #[.slice (some ⟨g,0,none⟩) N cap] 29)).trans (hb.mono (by simp)));have HBX:=Lib.hid ((hb.block w.heap.size (by simp)).trans (heap_alloc_new w _));have q0:=cell_block HBX.out;have z0:=block_lt HBX.out;clear hb))|(go_at_call 36;go_must (refine(HSU.out _ (HT.out.keeps HB1.out) (HP.out.keeps HB1.out)).mono ?_;rintro e w2 ⟨⟨b,rfl,hgb,hIB⟩,hb⟩;have HIB:=Lib.hid hIB;have HB2:=Lib.hid (HB1.out.trans (hb.mono HB1.out.size));have HBX2:=Lib.hid ((hb.block _ (block_lt HBX.out)).trans HBX.out);have q2:=cell_block HBX2.out;have z2:=block_lt HBX2.out;have g2:=Nat.lt_of_lt_of_le hg HB2.out.size;have e0:=(HB2.out.cell (p:=⟨g,_,none⟩) hg).trans d0;have e1:=(HB2.out.cell (p:=⟨g,_,none⟩) hg).trans d1;have e2:=(HB2.out.cell (p:=⟨g,_,none⟩) hg).trans d2;clear hb hgb hIB q0 z0)))
 have HW0:=Lib.hid (LW.start w2 F.params F.regs (.slice FA M fcap) M)
 rw[←natI_rep] at HW0
 clear hmk q2 z2 g2 e0 e1 e2 d0 d1 d2
 have hbl:=HIB.out.lt
 have HBL:=Lib.hid hbl
 clear hbl
 go_loopg [11] (2*muL (List.replicate M 0)+1) (fun q v wr=>∃(O:List Nat) (ch:Bool),LInv p F O∧(ch=false→FixL p F O)∧q=2*muL O+(if ch=true then 1 else 0)∧v= .bool ch∧LW w2 wr F.params F.regs (.slice FA M fcap) (natI O))
 case atStart=>exact⟨_,true,HST.out,fun h=>by simp at h,rfl,rfl,HW0.out⟩
 case round=>
  obtain⟨O,ch,hI,hF,rfl,rfl,hW⟩:=hrel
  clear HW0 HST
  have HI:=Lib.hid hI
  have HW:=Lib.hid hW
  have HFX:=Lib.hid hF
  cases ch with
  |false=>
   have HOK:=Lib.hid (show LiveOk p F O from⟨hI,hF rfl⟩)
   clear hI hF hW
   have z1:=HW.out.out.lt
   go_wp2_with fail
   clear z1
   go_loopw [97] (fun v wr=>∃j:Nat,j≤M∧v= .int .i64 (j:Int)∧LW w2 wr F.params F.regs (.slice FA M fcap) (outL ((liveL F O).take j)++(natI O).drop j)) (fun v _=>M-(intOf v).toNat)
   case atStart=>exact⟨0,by omega,rfl,by simpa [outL] using HW.out⟩
   case round=>
    obtain⟨j,hj,rfl,hWj⟩:=hrel
    have HWJ:=Lib.hid hWj
    have HLL:=Lib.hid (show(liveL F O).length=M by rw[liveL_length,HM.out])
    have HOL:=Lib.hid (show O.length=M by rw[HI.out.len,HM.out])
    by_cases hjM:j=M
    ·obtain rfl:M=j:=hjM.symm
     clear hWj
     go_wp2_with fail
     go_ret2
     refine⟨⟨w2.heap.size+1,O,by rw[HM.out];rfl,by have:=HB2.out.size;omega,?_,HOK.out⟩,HB2.out.trans (HWJ.out.below.mono HB2.out.size)⟩
     have h:=HWJ.out.out
     rw[List.take_of_length_le (by rw[HLL.out];exact Nat.le_refl _),List.drop_eq_nil_of_le (by rw[natI_length,HOL.out];exact Nat.le_refl _),List.append_nil] at h
     exact h
    ·have hj1:(j:Int)<M:=by omega
     have hj2:(0:Int)≤j:=by omega
     have z1:=hWj.out.lt
     have zb:b<wr.heap.size:=Nat.lt_of_lt_of_le HBL.out hWj.below.size
     obtain⟨o,ho⟩:∃o,(sureF F)[j]? =some o:=⟨_,gE (by rw[HSL.out];omega)⟩
     have cb:=(hWj.below.cell (p:=⟨b,j,none⟩) HBL.out).trans (HIB.out.cell (outL_get ho))
     have hlg:=liveL_get (F:=F) (O:=O) (pc:=j) (by rw[HM.out];omega)
     have hdr:(natI O).drop j=((O.getD j 0:Nat):Int)::(natI O).drop (j+1):=by
      rw[List.drop_eq_getElem_cons (by rw[natI_length,HOL.out];omega)]
      congr 1
      have h:=natI_get (O:=O) (k:=j) (by rw[HOL.out];omega)
      rw[gE (by rw[natI_length,HOL.out];omega)] at h
      exact Option.some.inj h
     have htk:((outL ((liveL F O).take j)).length)=j:=by rw[outL_length,List.length_take,HLL.out];omega
     have cj:wr.cell? ⟨w2.heap.size+1,j,none⟩=some (.int .i64 ((O.getD j 0:Nat):Int)):=hWj.out.cell (by rw[List.getElem?_append_right (by omega),htk,Nat.sub_self,hdr];rfl)
     have fj:=hWj.out.frozen j
     have hts:∀v:Int,(outL ((liveL F O).take j)++(natI O).drop j).set j v=(outL ((liveL F O).take j)++[v])++(natI O).drop (j+1):=fun v=>by
      rw[List.set_append_right _ _ (by omega),htk,Nat.sub_self,hdr];simp
     have htn:outL ((liveL F O).take (j+1))=outL ((liveL F O).take j)++[oI (if rchB F j=true then some (O.getD j 0) else none)]:=by
      rw[List.take_add_one,hlg];simp[outL]
     cases ho2:o with
     |none=>
      have hr:rchB F j=false:=by unfold rchB;rw[ho,ho2];rfl
      rw[ho2] at cb
      have hoi:oI none= -1:=rfl
      rw[hoi] at cb
      rw[hr] at htn
      have HTN:=Lib.hid htn
      have HST:=Lib.hid (hWj.set j (-1))
      have HTS:=Lib.hid (hts (-1))
      clear htn hts hdr htk hlg hWj ho ho2 hr hoi
      go_wp2_with fail
      go_roundw
      case rel=>exact⟨j+1,by omega,by go_num,by have h:=HST.out;rw[HTS.out] at h;rw[HTN.out];exact h⟩
      case measure=>simp[intOf];omega
     |some m=>
      have hr:rchB F j=true:=by unfold rchB;rw[ho,ho2];rfl
      rw[ho2] at cb
      have hoi:oI (some m)=(m:Int):=rfl
      rw[hoi] at cb
      rw[hr] at htn
      have HTN:=Lib.hid (show outL ((liveL F O).take (j+1))++(natI O).drop (j+1)=outL ((liveL F O).take j)++(natI O).drop j by rw[htn,hdr];simp[oI])
      have hm0:¬((m:Int)<0):=by omega
      clear htn hts hdr htk hlg hWj ho ho2 hr hoi
      go_wp2_with fail
      go_roundw
      case rel=>exact⟨j+1,by omega,by go_num,by rw[HTN.out];exact HWJ.out⟩
      case measure=>simp[intOf];omega
  |true=>
   clear hI hF hW HFX
   have q1:=cell_block HW.out.box
   have z1:=HW.out.out.lt
   have z0:w2.heap.size<wr.heap.size:=by omega
   go_wp2_with fail
   clear q1 z1 z0
   go_loopw [11,12] (fun vc vp wr=>∃(kk:Nat) (O' :List Nat) (ch:Bool),kk≤M∧vp= .int .i64 ((kk:Int)-1)∧vc= .bool ch∧LInv p F O' ∧(ch=true→muL O' <muL O)∧(ch=false→O' =O∧∀(pc:Nat) (x:Ins),kk≤pc→rchB F pc=true→F.code[pc]? =some x→O.getD pc 0=liveV p O x pc)∧LW w2 wr F.params F.regs (.slice FA M fcap) (natI O')) (fun _ vp _=>(intOf vp+1).toNat)
   case atStart=>exact⟨M,O,false,Nat.le_refl _,rfl,rfl,HI.out,fun h=>by simp at h,fun _=>⟨rfl,fun pc x h1 _ h3=>by have h4:=(gI.1 h3).1;rw[HM.out] at h4;omega⟩,HW.out⟩
   case round=>
    obtain⟨kk,O',ch,hkk,rfl,rfl,hI',hmu,hfx,hW'⟩:=hrel
    have HI' :=Lib.hid hI'
    have HMU:=Lib.hid hmu
    have HFX:=Lib.hid hfx
    have HW' :=Lib.hid hW'
    clear hI' hmu hfx
    by_cases hk0' :kk=0
    ·subst hk0'
     clear hW'
     have hm1:((0:Nat):Int)-1= -1:=rfl
     rw[hm1]
     clear hm1
     cases ch with
     |false=>
      have HFX2:=Lib.hid (HFX.out rfl)
      clear HFX HMU
      go_wp2_with fail
      go_roundg (2*muL O')
      case rel=>exact⟨O',false,HI'.out,fun _=>by obtain⟨h1,h2⟩:=HFX2.out;rw[h1];exact fun pc x h3 h4=>h2 pc x (by omega) h3 h4,rfl,rfl,HW'.out⟩
      case measure=>have h:=HFX2.out.1;rw[h];simp
     |true=>
      have HMU2:=Lib.hid (HMU.out rfl)
      clear HFX HMU
      go_wp2_with fail
      go_roundg (2*muL O' +1)
      case rel=>exact⟨O',true,HI'.out,fun h=>by simp at h,rfl,rfl,HW'.out⟩
      case measure=>have h:=HMU2.out;simp;omega
    ·obtain⟨j,hj⟩:∃j,kk=j+1:=⟨kk-1,by omega⟩
     subst hj
     have hjj:((j+1:Nat):Int)-1=(j:Int):=by omega
     rw[hjj]
     clear hk0'
     have hj1:(j:Int)<M:=by omega
     have hj2:(0:Int)≤j:=by omega
     have z1:=hW'.out.lt
     have z0:w2.heap.size<wr.heap.size:=by omega
     have q1:=cell_block hW'.box
     have zb:b<wr.heap.size:=Nat.lt_of_lt_of_le HBL.out hW'.below.size
     obtain⟨o,ho⟩:∃o,(sureF F)[j]? =some o:=⟨_,gE (by rw[HSL.out];omega)⟩
     have cb:=(hW'.below.cell (p:=⟨b,j,none⟩) HBL.out).trans (HIB.out.cell (outL_get ho))
     have hjw:(j:Int)=((j:Nat):Int):=rfl
     clear hjj hjw
     cases ho2:o with
     |none=>
      have hr:rchB F j=false:=by unfold rchB;rw[ho,ho2];rfl
      rw[ho2] at cb
      have hoi:oI none= -1:=rfl
      rw[hoi] at cb
      have HRC:=Lib.hid hr
      clear hW' ho ho2 hr hoi
      go_wp2_with fail
      go_roundw
      case rel=>exact⟨j,O',ch,by omega,rfl,rfl,HI'.out,HMU.out,fun h=>⟨(HFX.out h).1,fun pc x h1 h2 h3=>by
       by_cases h4:pc=j
       ·rw[h4,HRC.out] at h2;cases h2
       ·exact(HFX.out h).2 pc x (by omega) h2 h3⟩,HW'.out⟩
      case measure=>simp[intOf]
     |some m=>
      have hr:rchB F j=true:=by unfold rchB;rw[ho,ho2];rfl
      rw[ho2] at cb
      have hoi:oI (some m)=(m:Int):=rfl
      rw[hoi] at cb
      have hm0:¬((m:Int)<0):=by omega
      have HRC:=Lib.hid hr
      obtain⟨x,hx⟩:∃x,F.code[j]? =some x:=⟨_,gE (by rw[HM.out];omega)⟩
      have hio:=HFO.out.ins x (gM hx)
      have HXX:=Lib.hid hx
      have HN1:=Lib.hid (fun W hc=>HNX.out W j x hx hc)
      have HR1:=Lib.hid (fun W h1 h2=>HRD.out W h1 h2 j x hx)
      have HLT:=Lib.hid (liveV_lt (pc:=j) HI'.out hio HFO.out.r2)
      have hsm:=setM_lt hio HFO.out.r2
      have hrd:=reads_lt x hio HFO.out.r2 (parOf p x)
      have HNL:=Lib.hid (fun(n:Nat) (hn:n∈nextS x j)=>(HR.out.nextR HFM.out hr hx ((nextS_mem x j n).1 hn)).1)
      have HSTP:=Lib.hid (HI'.out.step HR.out HFM.out hr hx)
      have HLV:=Lib.hid (show liveV p O' x j=(orN O' (nextS x j)-(orN O' (nextS x j)&&&setM x))|||readsM x (parOf p x) from rfl)
      have hln2:=nextS_length x j
      obtain⟨L,hL⟩:∃L,nextS x j=L:=⟨_,rfl⟩
      rw[hL] at HN1 HNL HLV hln2
      obtain⟨v,hv⟩:∃v,liveV p O' x j=v:=⟨_,rfl⟩
      have HV:=Lib.hid hv
      rw[hv] at HLT HSTP HLV
      obtain⟨sm,hsme⟩:∃v,setM x=v:=⟨_,rfl⟩
      obtain⟨rd,hrde⟩:∃v,readsM x (parOf p x)=v:=⟨_,rfl⟩
      rw[hsme,hrde] at HR1
      rw[hsme] at hsm
      rw[hrde] at hrd
      rw[hsme,hrde] at HLV
      have HBW:=Lib.hid (HB2.out.trans (hW'.below.mono HB2.out.size))
      clear hW' ho ho2 hr hoi hx hio hL hv hsme hrde
      go_wp2_with (first|(go_at_call 40;go_must (refine(HN1.out _ (HU.out.keeps HBW.out)).mono ?_;rintro e w7 ⟨⟨vv,rfl,hov⟩,hb7⟩;obtain⟨Av,capv,hvv,hcv⟩:=own_slice hov;rw[natI_length] at hvv hcv;subst hvv;have HB7:=Lib.hid hb7;have HW7:=Lib.hid (HW'.out.keeps hb7);have HCV:=Lib.hid hcv;clear hov hb7 hcv)))
      have z7:=HW7.out.out.lt
      have z6:w2.heap.size<w7.heap.size:=by omega
      obtain⟨ln,hln⟩:∃n,L.length=n:=⟨_,rfl⟩
      have HLN:=Lib.hid hln
      rw[hln] at HCV hln2⊢
      clear hln q1 z1 z0 zb cb
      go_loop [13,61] (fun vb vi=>∃i:Nat,i≤ln∧vi= .int .i64 (i:Int)∧vb= .int .i64 ((orN O' (L.take i):Nat):Int)) (fun _ vi=>ln-(intOf vi).toNat)
      case atStart=>exact⟨0,by omega,rfl,rfl⟩
      case round=>
       obtain⟨i,hi,rfl,rfl⟩:=hrel
       by_cases hil:i=ln
       ·obtain rfl:ln=i:=hil.symm
        have htl:L.take ln=L:=List.take_of_length_le (by rw[HLN.out];exact Nat.le_refl _)
        rw[htl]
        clear htl
        have hol:=orN_lt HI'.out.lt L
        obtain⟨ov,hov⟩:∃v,orN O' L=v:=⟨_,rfl⟩
        have HLV2:=Lib.hid (show v=(ov-(ov&&&sm))|||rd by rw[←hov];exact HLV.out)
        rw[hov] at hol
        rw[hov]
        clear hov
        have hand:=andNot_nat ov sm (by omega) (by omega)
        have hle:ov-(ov&&&sm)<4096:=by omega
        have hor:=or_nat (ov-(ov&&&sm)) rd (by omega) (by omega)
        rw[←HLV2.out] at hor
        obtain⟨an,han⟩:∃a,ov-(ov&&&sm)=a:=⟨_,rfl⟩
        rw[han] at hand hor
        clear han hle
        have HB7W:=Lib.hid (HBW.out.trans (HB7.out.mono HBW.out.size))
        have HBX7:=Lib.hid ((HW7.out.below.block _ (block_lt HBX2.out)).trans HBX2.out)
        have q7:=cell_block HBX7.out
        have zz7:=block_lt HBX7.out
        by_cases hvq:v=O'.getD j 0
        ·have HVQ:=Lib.hid hvq
         have hne:((v:Int) !=(v:Int))=false:=by simp
         go_wp2_with (first|(go_at_call 49;go_must (refine(HR1.out _ (HT.out.keeps HB7W.out) (HP.out.keeps HB7W.out)).mono ?_;rintro e w8 ⟨rfl,hb8⟩;have HW8:=Lib.hid (HW7.out.keeps hb8);have z8:=HW8.out.out.lt;have c8:w8.cell? ⟨w2.heap.size+1,j,none⟩=some (.int .i64 (v:Int)):=(by rw[HVQ.out];exact HW8.out.out.cell (natI_get (by rw[HI'.out.len,HM.out];omega)));clear hb8 z7 z6 q7 zz7)))
         go_roundw
         case rel=>exact⟨j,O',ch,by omega,rfl,rfl,HI'.out,HMU.out,fun h=>⟨(HFX.out h).1,fun pc y h1 h2 h3=>by
          by_cases h4:pc=j
          ·subst h4
           rw[HXX.out] at h3
           obtain rfl:=Option.some.inj h3
           have h5:=(HFX.out h).1
           rw[←h5,HV.out];exact HVQ.out.symm
          ·exact(HFX.out h).2 pc y (by omega) h2 h3⟩,HW8.out⟩
         case measure=>simp[intOf]
        ·have HVQ:=Lib.hid hvq
         obtain⟨oj,hoj⟩:∃a,O'.getD j 0=a:=⟨_,rfl⟩
         have HOJ:=Lib.hid hoj
         rw[hoj] at hvq
         have hne:((v:Int) !=(oj:Int))=true:=bne_iff_ne.2 (by omega)
         clear hvq hoj
         go_wp2_with (first|(go_at_call 49;go_must (refine(HR1.out _ (HT.out.keeps HB7W.out) (HP.out.keeps HB7W.out)).mono ?_;rintro e w8 ⟨rfl,hb8⟩;have HW8:=Lib.hid (HW7.out.keeps hb8);have z8:=HW8.out.out.lt;have f8:=HW8.out.out.frozen j;have c8:w8.cell? ⟨w2.heap.size+1,j,none⟩=some (.int .i64 (oj:Int)):=(by rw[←HOJ.out];exact HW8.out.out.cell (natI_get (by rw[HI'.out.len,HM.out];omega)));have HST8:=Lib.hid (HW8.out.set j (v:Int));clear hb8 z7 z6 q7 zz7)))
         go_roundw
         case rel=>exact⟨j,O'.set j v,true,by omega,rfl,rfl,HSTP.out.1,fun _=>by
          have h1:=HSTP.out.2 HVQ.out
          cases ch with
          |true=>have h2:=HMU.out rfl;omega
          |false=>have h2:=(HFX.out rfl).1;rw[←h2];exact h1,fun h=>by simp at h,by rw[←natI_set];exact HST8.out⟩
         case measure=>simp[intOf]
       ·have hi1:(i:Int)<ln:=by omega
        have hi2:(0:Int)≤i:=by omega
        obtain⟨n,hn⟩:∃n,L[i]? =some n:=⟨L[i]'(by rw[HLN.out];omega),gE _⟩
        obtain⟨gv,hgv,hgl,hcc⟩:=HCV.out (by omega)
        have cn:=hcc i (by omega)|>.trans (show _=some (Value.int .i64 (n:Int)) by simp[natI,hn])
        have hnM:=HNL.out n (gM hn)
        rw[HM.out] at hnM
        have co:=HW7.out.out.cell (natI_get (O:=O') (k:=n) (by rw[HI'.out.len,HM.out];exact hnM))
        have hor:=or_nat (orN O' (L.take i)) (O'.getD n 0) (by have:=orN_lt HI'.out.lt (L.take i);omega) (by have:=getD_lt HI'.out.lt n;omega)
        rw[←orN_succ O' L i n hn] at hor
        obtain⟨on,hon⟩:∃a,O'.getD n 0=a:=⟨_,rfl⟩
        rw[hon] at hor co
        clear hon
        have hn1:(n:Int)<M:=by omega
        have hn0:(0:Int)≤n:=by omega
        subst hgv
        clear hcc hn hil
        go_wp2_with fail
        go_round
        case rel=>exact⟨i+1,by omega,by go_num,rfl⟩
        case measure=>simp[intOf];omega
structure BR where
 fr:Int
 to:Int
 nv:Value
 nl:List Int
 pv:Value
 pl:List Int
def BR.cells(r:BR):List Value:=[.int .i64 r.fr, .int .i64 r.to,r.nv,r.pv]
def brCells(l:List BR):List Value:=l.flatMap BR.cells
def BR.val(r:BR)(c:Bool):Value:=if c=true then r.pv else r.nv
def BR.lst(r:BR)(c:Bool):List Int:=if c=true then r.pl else r.nl
def BR.upd(r:BR)(c:Bool)(v:Value)(l:List Int):BR:=if c=true then{r with pv:=v,pl:=l} else{r with nv:=v,nl:=l}
theorem BR.upd_val(r:BR)(c:Bool)(v:Value)(l:List Int):(r.upd c v l).val c=v:=by cases c<;>rfl
theorem BR.upd_lst(r:BR)(c:Bool)(v:Value)(l:List Int):(r.upd c v l).lst c=l:=by cases c<;>rfl
theorem BR.upd_val'(r:BR){c d:Bool}(h:d≠c)(v:Value)(l:List Int):(r.upd c v l).val d=r.val d:=by cases c<;>cases d<;>first|rfl|exact absurd rfl h
theorem BR.upd_lst'(r:BR){c d:Bool}(h:d≠c)(v:Value)(l:List Int):(r.upd c v l).lst d=r.lst d:=by cases c<;>cases d<;>first|rfl|exact absurd rfl h
theorem brCells_length(l:List BR):(brCells l).length=l.length*4:=by
 induction l with
 |nil=>rfl
 |cons x l ih=>simp only[brCells,List.flatMap_cons,List.length_append,List.length_cons] at *;rw[ih];simp[BR.cells];omega
theorem brCells_get{l:List BR}{q:Nat}{r:BR}(h:l[q]? =some r){j:Nat}(hj:j<4):(brCells l)[q*4+j]? =r.cells[j]? :=by
 rw[brCells,flat_get BR.cells 4 l (fun _ _=>rfl) q j hj,h];rfl
theorem brCells_set:∀(l:List BR) (q:Nat) (r r' :BR) (j:Nat) (v:Value),l[q]? =some r→j<4→r'.cells=r.cells.set j v→(brCells l).set (q*4+j) v=brCells (l.set q r')
 |[],q,r,r',j,v,h,_,_=>by simp at h
 |x::l,0,r,r',j,v,h,hj,he=>by
  simp at h;subst h
  show(x.cells++brCells l).set (0*4+j) v=r'.cells++brCells l
  rw[List.set_append_left _ _ (by simp[BR.cells];omega),he];simp
 |x::l,q+1,r,r',j,v,h,hj,he=>by
  have ih:=brCells_set l q r r' j v (by simpa using h) hj he
  show(x.cells++brCells l).set ((q+1)*4+j) v=x.cells++brCells (l.set q r')
  rw[List.set_append_right _ _ (by simp[BR.cells];omega),←ih]
  congr 2
  simp[BR.cells];omega
structure RowsF(w:World)(B:Nat)(bs:List BR):Prop where
 own:∀(q:Nat) (r:BR) (c:Bool),bs[q]? =some r→w.ownsRow B 3 1 (r.val c) (r.lst c).length ((r.lst c).map (Value.int .i64))
 ap:∀(q q' :Nat) (r r' :BR) (c c' :Bool) (b:Nat),bs[q]? =some r→bs[q']? =some r' →(q≠q' ∨c≠c')→(r.val c).ownBlock=some b→(r'.val c').ownBlock≠some b
theorem RowsF.keeps{w w' :World}{B:Nat}{bs:List BR}(h:RowsF w B bs)(hb:Below w.heap.size w w'):RowsF w' B bs:=⟨fun q r c hq=>own_below (h.own q r c hq) hb,h.ap⟩
theorem RowsF.lt{w:World}{B:Nat}{bs:List BR}(h:RowsF w B bs){q:Nat}{r:BR}(hq:bs[q]? =some r)(c:Bool)(b:Nat)(hb:(r.val c).ownBlock=some b):B≤b∧b<w.heap.size:=World.ownsRow.lt (h.own q r c hq) b hb
theorem own_grown{w w' :World}{B:Nat}{v:Value}{l:List Int}{row:Option Nat}(h:w.ownsRow B 3 1 v l.length (l.map (Value.int .i64)))(hg:w.grownBy w' row)(hne:∀b,v.ownBlock=some b→row≠some b):w'.ownsRow B 3 1 v l.length (l.map (Value.int .i64)):=by
 obtain⟨h1,h2⟩:=h
 refine⟨h1,?_⟩
 rcases h2 with h2|⟨g,cap,cur,rfl,hg1,hh,r⟩
 ·exact .inl h2
 ·exact .inr ⟨g,cap,cur,rfl,hg1,(hg.block g (block_lt hh) (fun e=>hne g rfl e.symm)).trans hh,r⟩
theorem RowsF.app{w w' :World}{B:Nat}{bs:List BR}(h:RowsF w B bs){q:Nat}{r:BR}(hq:bs[q]? =some r)(c:Bool){v:Value}{x:Int}(hg:w.grownBy w' (r.val c).ownBlock)
 (ho:w'.ownsRow B 3 1 v ((r.lst c).length+1) ((r.lst c).map (Value.int .i64)++[.int .i64 x])) (hat:v.ownBlock=(r.val c).ownBlock∨∃H,w.heap.size≤H∧v.ownBlock=some H):RowsF w' B (bs.set q (r.upd c v (r.lst c++[x]))):=by
 have hql:=(gI.1 hq).1
 have hset:∀i,(bs.set q (r.upd c v (r.lst c++[x])))[i]? =if i=q then some (r.upd c v (r.lst c++[x])) else bs[i]? :=fun i=>by
  rw[List.getElem?_set]
  by_cases e:q=i
  ·subst e;simp[hql]
  ·rw[if_neg e,if_neg (fun e' =>e e'.symm)]
 have key:∀(i:Nat) (s:BR) (d:Bool),(bs.set q (r.upd c v (r.lst c++[x])))[i]? =some s→(i≠q∨d≠c)→∃s0,bs[i]? =some s0∧s.val d=s0.val d∧s.lst d=s0.lst d:=fun i s d hs hne=>by
  rw[hset] at hs
  by_cases e:i=q
  ·subst e
   rw[if_pos rfl] at hs
   obtain rfl:=Option.some.inj hs
   have hd:d≠c:=by rcases hne with h|h;exact absurd rfl h;exact h
   exact⟨r,hq,BR.upd_val' r hd _ _,BR.upd_lst' r hd _ _⟩
  ·rw[if_neg e] at hs;exact⟨s,hs,rfl,rfl⟩
 have self:∀(s:BR),(bs.set q (r.upd c v (r.lst c++[x])))[q]? =some s→s.val c=v∧s.lst c=r.lst c++[x]:=fun s hs=>by
  rw[hset,if_pos rfl] at hs
  obtain rfl:=Option.some.inj hs
  exact⟨BR.upd_val _ _ _ _,BR.upd_lst _ _ _ _⟩
 have old:∀(i:Nat) (s0:BR) (d:Bool) (b:Nat),bs[i]? =some s0→(i≠q∨d≠c)→(s0.val d).ownBlock=some b→v.ownBlock≠some b:=fun i s0 d b hs hne hb e=>by
  rcases hat with h1|⟨H,h1,h2⟩
  ·rw[h1] at e
   exact h.ap q i r s0 c d b hq hs (by rcases hne with h|h;exact .inl (Ne.symm h);exact .inr (Ne.symm h)) e hb
  ·have h3:=(h.lt hs d b hb).2
   rw[h2] at e
   have:=Option.some.inj e;omega
 refine⟨fun i s d hs=> ?_,fun i i' s s' d d' b hs hs' hne hb=> ?_⟩
 ·by_cases hid:i=q∧d=c
  ·obtain⟨rfl,rfl⟩:=hid
   obtain⟨h1,h2⟩:=self s hs
   rw[h1,h2]
   simpa using ho
  ·have hne:i≠q∨d≠c:=by
    by_cases h:i=q
    ·exact .inr fun h2=>hid ⟨h,h2⟩
    ·exact .inl h
   obtain⟨s0,h1,h2,h3⟩:=key i s d hs hne
   rw[h2,h3]
   exact own_grown (h.own i s0 d h1) hg fun b hb=>h.ap i q s0 r d c b h1 hq hne hb
 ·by_cases hid:i=q∧d=c
  ·obtain⟨rfl,rfl⟩:=hid
   obtain⟨h1,-⟩:=self s hs
   have hne' :i' ≠i∨d' ≠d:=by rcases hne with h|h;exact .inl (Ne.symm h);exact .inr (Ne.symm h)
   obtain⟨s0,h2,h3,-⟩:=key i' s' d' hs' hne'
   rw[h1] at hb
   rw[h3]
   intro e
   exact old i' s0 d' b h2 hne' e hb
  ·have hne1:i≠q∨d≠c:=by
    by_cases h:i=q
    ·exact .inr fun h2=>hid ⟨h,h2⟩
    ·exact .inl h
   obtain⟨s0,h1,h2,-⟩:=key i s d hs hne1
   rw[h2] at hb
   by_cases hid' :i' =q∧d' =c
   ·obtain⟨rfl,rfl⟩:=hid'
    obtain⟨h3,-⟩:=self s' hs'
    rw[h3]
    exact old i s0 d b h1 hne1 hb
   ·have hne2:i' ≠q∨d' ≠c:=by
     by_cases h:i' =q
     ·exact .inr fun h2=>hid' ⟨h,h2⟩
     ·exact .inl h
    obtain⟨s1,h3,h4,-⟩:=key i' s' d' hs' hne2
    rw[h4]
    exact h.ap i i' s0 s1 d d' b h1 h3 hne hb
theorem RowsF.setCell{w:World}{B:Nat}{bs:List BR}(h:RowsF w B bs){a:Addr}(ha:a.block<B)(u:Value):RowsF (w.setCell a u) B bs:=⟨fun q r c hq=>own_setCell (h.own q r c hq) ha u,h.ap⟩
structure BlkB(w:World)(g B:Nat)(bs:List BR):Prop where
 blk:w.heap[g]? =some (.cells (brCells bs).toArray 71 (0,0))
 rows:RowsF w B bs
 lt:g<B
section
variable {w w' :World}{g B:Nat}{bs:List BR}
theorem BlkB.keeps(h:BlkB w g B bs)(hb:Below w.heap.size w w'):BlkB w' g B bs:=⟨(hb.block _ (block_lt h.blk)).trans h.blk,h.rows.keeps hb,h.lt⟩
theorem BlkB.cell(h:BlkB w g B bs){q:Nat}{r:BR}(hq:bs[q]? =some r){j:Nat}(hj:j<4):w.cell? ⟨g,q*4+j,none⟩=r.cells[j]? :=by
 rw[cell_block h.blk,List.getElem?_toArray,brCells_get hq hj]
theorem BlkB.frozen(h:BlkB w g B bs)(i:Nat):w.frozen? ⟨g,i,none⟩=false:=frozen_block h.blk i
theorem set_same{bs:List BR}{q:Nat}{r r' :BR}(hq:bs[q]? =some r)(hv:∀c,r'.val c=r.val c)(hl:∀c,r'.lst c=r.lst c)(i:Nat)(s:BR)(hs:(bs.set q r')[i]? =some s):∃s0,bs[i]? =some s0∧(∀c,s.val c=s0.val c)∧(∀c,s.lst c=s0.lst c):=by
 rw[List.getElem?_set] at hs
 by_cases e:q=i
 ·subst e
  rw[if_pos rfl,if_pos (gI.1 hq).1] at hs
  obtain rfl:=Option.some.inj hs
  exact⟨r,hq,hv,hl⟩
 ·rw[if_neg e] at hs;exact⟨s,hs,fun _=>rfl,fun _=>rfl⟩
theorem BlkB.set0(h:BlkB w g B bs){q:Nat}{r:BR}(hq:bs[q]? =some r)(x:Int):BlkB (w.setCell ⟨g,q*4,none⟩ (.int .i64 x)) g B (bs.set q {r with fr:=x}):=by
 have hql:=(gI.1 hq).1
 have hs:=brCells_set bs q r {r with fr:=x} 0 (.int .i64 x) hq (by omega) rfl
 refine⟨?_,⟨fun i s c hi=> ?_,fun i i' s s' c c' b hi hi' => ?_⟩,h.lt⟩
 ·simp only[World.setCell,Array.getElem?_modify,if_true,h.blk,Option.map_some]
  rw[←hs];simp
 ·obtain⟨s0,h0,h1,h2⟩:=set_same hq (r' :={r with fr:=x}) (fun c=>rfl) (fun c=>rfl) i s hi
  rw[h1 c,h2 c];exact own_setCell (h.rows.own i s0 c h0) h.lt _
 ·obtain⟨s0,h0,h1,-⟩:=set_same hq (r' :={r with fr:=x}) (fun c=>rfl) (fun c=>rfl) i s hi
  obtain⟨s1,h3,h4,-⟩:=set_same hq (r' :={r with fr:=x}) (fun c=>rfl) (fun c=>rfl) i' s' hi'
  rw[h1 c,h4 c'];exact h.rows.ap i i' s0 s1 c c' b h0 h3
theorem BlkB.set1(h:BlkB w g B bs){q:Nat}{r:BR}(hq:bs[q]? =some r)(x:Int):BlkB (w.setCell ⟨g,q*4+1,none⟩ (.int .i64 x)) g B (bs.set q {r with to:=x}):=by
 have hs:=brCells_set bs q r {r with to:=x} 1 (.int .i64 x) hq (by omega) rfl
 refine⟨?_,⟨fun i s c hi=> ?_,fun i i' s s' c c' b hi hi' => ?_⟩,h.lt⟩
 ·simp only[World.setCell,Array.getElem?_modify,if_true,h.blk,Option.map_some]
  rw[←hs];simp
 ·obtain⟨s0,h0,h1,h2⟩:=set_same hq (r' :={r with to:=x}) (fun c=>rfl) (fun c=>rfl) i s hi
  rw[h1 c,h2 c];exact own_setCell (h.rows.own i s0 c h0) h.lt _
 ·obtain⟨s0,h0,h1,-⟩:=set_same hq (r' :={r with to:=x}) (fun c=>rfl) (fun c=>rfl) i s hi
  obtain⟨s1,h3,h4,-⟩:=set_same hq (r' :={r with to:=x}) (fun c=>rfl) (fun c=>rfl) i' s' hi'
  rw[h1 c,h4 c'];exact h.rows.ap i i' s0 s1 c c' b h0 h3
theorem BlkB.app(h:BlkB w g B bs){q:Nat}{r:BR}(hq:bs[q]? =some r)(c:Bool){v:Value}{x:Int}(o:Obj)(hg:(w.alloc o).grownBy w' (r.val c).ownBlock)
 (ho:w'.ownsRow B 3 1 v ((r.lst c).length+1) ((r.lst c).map (Value.int .i64)++[.int .i64 x])) (hat:v.ownBlock=(r.val c).ownBlock∨v.ownBlock=some (w.alloc o).heap.size):
 BlkB (w'.setCell ⟨g,q*4+(if c=true then 3 else 2),none⟩ v) g B (bs.set q (r.upd c v (r.lst c++[x])))∧w'.heap[g]? =w.heap[g]? :=by
 have hA:Below w.heap.size w (w.alloc o):=(Below.refl _ _).alloc (Nat.le_refl _) _
 have hk:=h.keeps hA
 have hr:=hk.rows.app hq c hg ho (by rcases hat with h1|h1;exact .inl h1;exact .inr ⟨_,Nat.le_refl _,h1⟩)
 have hgb:w'.heap[g]? =(w.alloc o).heap[g]? :=hg.block g (block_lt hk.blk) (fun e=>by have:=(hk.rows.lt hq c g e.symm).1;have:=h.lt;omega)
 have hs:=brCells_set bs q r (r.upd c v (r.lst c++[x])) (if c=true then 3 else 2) v hq (by split<;>omega) (by cases c<;>rfl)
 refine⟨⟨?_,hr.setCell h.lt _,h.lt⟩,hgb.trans (hA.block _ (block_lt h.blk))⟩
 have h2:=hgb.trans hk.blk
 simp only[World.setCell,Array.getElem?_modify,if_true,h2,Option.map_some]
 rw[←hs];simp
end
end Go.Proofs.YtedcjapmmnbamaaDoor
