/-
  Contracts of proof.sets, proof.next, proof.reads.
-/
import Derived.Test.YtedcjapmmnbamaaDoorFnS
import Derived.Deep.QuietTactic
import Derived.BigQuiet
import Derived.Test.YtedcjapmmnbamaaDoorLib
import Derived.Test.YtedcjapmmnbamaaDoorRw
namespace Tier
open Go Go.RowKit
theorem shl_one(d:Int)(h0:0≤d)(h1:d<12):IntKind.i64.wrap (2^d.toNat)=((2^d.toNat:Nat):Int):=by
 have hp:2^d.toNat<4096:=pow_lt (by omega)
 have:((2:Int)^d.toNat)=((2^d.toNat:Nat):Int):=by push_cast;rfl
 rw[this,IntKind.wrap_i64]
 generalize 2^d.toNat=k at *
 omega
theorem or_pow(a b:Int)(h0:0≤a)(h1:a<12)(g0:0≤b)(g1:b<12):bits .or .i64 ((2:Int)^a.toNat) ((2:Int)^b.toNat)=((2^a.toNat|||2^b.toNat:Nat):Int):=by
 have ha:2^a.toNat<4096:=pow_lt (by omega)
 have hb:2^b.toNat<4096:=pow_lt (by omega)
 have h:=or_nat (2^a.toNat) (2^b.toNat) (by omega) (by omega)
 push_cast at h
 rw[h]
end Tier
namespace Go.Proofs.YtedcjapmmnbamaaDoor
open Go.RowKit Tier
theorem sets_any(x:Ins)(w:World):
 Calls Tryd.prog 83 #[.agg #[.int .i64 x.op, .int .i64 x.dst, .int .i64 x.a, .int .i64 x.b, .int .i64 x.imm]] w fun e w' =>e= .returned (.bool (setsB x))∧Below w.heap.size w w' :=by
 obtain⟨op,dst,a,b,imm⟩:=x
 dsimp only
 have hc:op≤13∨op=17∨op=18∨(¬op≤13∧op≠17∧op≠18):=by omega
 rcases hc with h|rfl|rfl|⟨h1,h2,h3⟩
 ·have X:=Lib.hid (show setsB ⟨op,dst,a,b,imm⟩=true by simp[setsB,h])
  go_enter Tryd.func83,Tryd.ntmps83
  go_wp2_with fail
  go_ret
  refine⟨by rw[X.out];simp[],?_⟩
  exact Bq
 ·go_enter Tryd.func83,Tryd.ntmps83
  go_wp2_with fail
  go_ret
  refine⟨by simp[setsB],?_⟩
  exact Bq
 ·go_enter Tryd.func83,Tryd.ntmps83
  go_wp2_with fail
  go_ret
  refine⟨by simp[setsB],?_⟩
  exact Bq
 ·have X:=Lib.hid (show setsB ⟨op,dst,a,b,imm⟩=false by simp[setsB,h1,h2,h3])
  have h4:(op==17)=false:=by simpa using h2
  have h5:(op==18)=false:=by simpa using h3
  clear h2 h3
  go_enter Tryd.func83,Tryd.ntmps83
  go_wp2_with fail
  go_ret
  refine⟨by rw[X.out];simp[],?_⟩
  exact Bq
def OwnI(w:World)(B:Nat)(v:Value)(l:List Int):Prop:=w.ownsRow B 3 1 v l.length (l.map (Value.int .i64))
theorem OwnI.keeps{w w' :World}{B:Nat}{v:Value}{l:List Int}(h:OwnI w B v l)(hb:Below w.heap.size w w'):OwnI w' B v l:=own_below h hb
theorem OwnI.nil(w:World)(B:Nat):OwnI w B (.slice none 0 0) []:=World.ownsRow_nil _ _ _ _
theorem OwnI.made(w:World)(B:Nat)(l:List Int)(hB:B≤w.heap.size)(hl:l.length≤100000000):OwnI (w.alloc (.cells (l.map (Value.int .i64)).toArray 3)) B (.slice (some ⟨w.heap.size,0,none⟩) l.length l.length) l:=
 ⟨by simp, .inr ⟨w.heap.size,l.length,_,rfl,hB,heap_alloc_new _ _,Nat.le_refl _,by unfold maxLen;omega,by simp,List.take_of_length_le (by simp)⟩⟩
theorem next_any(f:Fnc)(A:Option Addr)(cap pc:Nat)(x:Ins)(w:World)(hx:f.code[pc]? =some x)(hc:CodeAt w (.slice A f.code.length cap) f.code)(hl:f.code.length≤40)(hi:x.op=15∨x.op=16→0≤x.imm):
 Calls Tryd.prog 89 #[.agg #[.int .i64 f.params, .int .i64 f.regs, .slice A f.code.length cap], .int .i64 pc] w fun e w' =>
  (∃v,e= .returned v∧OwnI w' w.heap.size v ((nextL x pc).map fun(n:Nat)=>(n:Int)))∧Below w.heap.size w w' :=by
 obtain⟨A0,cap0,hA0,hA⟩:=hc.slice
 simp only[Value.slice.injEq,true_and] at hA0
 have hpc:pc<f.code.length:=(gI.1 hx).1
 obtain⟨g,hAg,hg,hfn⟩:=hA (by omega)
 obtain⟨rfl,rfl⟩:=hA0
 obtain⟨c0,c1,c2,c3,c4⟩:=hfn pc x hx
 subst hAg
 have hp0:(0:Int)≤pc:=by omega
 have hp1:(pc:Int)<f.code.length:=by omega
 have hp2:(pc:Int)≤40:=by omega
 obtain⟨fp,fr,fc⟩:=f
 dsimp only at *
 generalize fc.length=M at *
 have HX:=Lib.hid hx
 clear hfn hA hc hx
 obtain⟨op,dst,a,b,imm⟩:=x
 dsimp only at *
 have hcase:op=19∨op=15∨op=16∨(op≠19∧op≠15∧op≠16):=by omega
 rcases hcase with rfl|rfl|rfl|⟨h1,h2,h3⟩
 ·go_enter Tryd.func89,Tryd.ntmps89
  go_wp2_with fail
  go_ret
  refine⟨⟨_,rfl,?_⟩,?_⟩
  ·simp only[nextL,if_true,List.map_nil];exact OwnI.nil _ _
  ·exact Bq
 ·have hi' :=hi (.inl rfl)
  obtain⟨m,rfl⟩:=Int.eq_ofNat_of_zero_le hi'
  clear hi hi'
  go_enter Tryd.func89,Tryd.ntmps89
  go_wp2_with fail
  go_ret
  refine⟨⟨_,rfl,?_⟩,?_⟩
  ·have:=OwnI.made (((w.alloc (.cells #[.int .i64 fp, .int .i64 fr, .slice (some ⟨g,0,none⟩) M cap] 60)).alloc (.cells #[.int .i64 15, .int .i64 dst, .int .i64 a, .int .i64 b, .int .i64 m] 58))) w.heap.size [(m:Int)] (by simp;omega) (by simp)
   simpa [nextL] using this
  ·exact Bq
 ·have hi' :=hi (.inr rfl)
  obtain⟨m,rfl⟩:=Int.eq_ofNat_of_zero_le hi'
  clear hi hi'
  go_enter Tryd.func89,Tryd.ntmps89
  go_wp2_with fail
  go_ret
  refine⟨⟨_,rfl,?_⟩,?_⟩
  ·have:=OwnI.made (((w.alloc (.cells #[.int .i64 fp, .int .i64 fr, .slice (some ⟨g,0,none⟩) M cap] 60)).alloc (.cells #[.int .i64 16, .int .i64 dst, .int .i64 a, .int .i64 b, .int .i64 m] 58))) w.heap.size [(pc:Int)+1,(m:Int)] (by simp;omega) (by simp)
   simpa [nextL] using this
  ·exact Bq
 ·have h4:(op==19)=false:=by simpa using h1
  have h5:(op==15)=false:=by simpa using h2
  have h6:(op==16)=false:=by simpa using h3
  have HNL:=Lib.hid (show nextL ⟨op,dst,a,b,imm⟩ pc=[pc+1] by simp[nextL,h1,h2,h3])
  clear hi h1 h2 h3
  go_enter Tryd.func89,Tryd.ntmps89
  go_wp2_with fail
  go_ret
  refine⟨⟨_,rfl,?_⟩,?_⟩
  ·have:=OwnI.made (((w.alloc (.cells #[.int .i64 fp, .int .i64 fr, .slice (some ⟨g,0,none⟩) M cap] 60)).alloc (.cells #[.int .i64 op, .int .i64 dst, .int .i64 a, .int .i64 b, .int .i64 imm] 58))) w.heap.size [(pc:Int)+1] (by simp;omega) (by simp)
   rw[HNL.out]
   simpa using this
  ·exact Bq
set_option maxRecDepth 100000 in
set_option maxHeartbeats 4000000 in
theorem preads_any(p:List Fnc)(A:Option Addr)(cap:Nat)(x:Ins)(regs n:Int)(w:World)(hp:ProgAt w (.slice A p.length cap) p)(hx:InsOk x regs n p.length)(hr:regs≤12)(hpar:∀f∈p,0≤f.params∧f.params≤2):
 Calls Tryd.prog 75 #[.agg #[.slice A p.length cap], .agg #[.int .i64 x.op, .int .i64 x.dst, .int .i64 x.a, .int .i64 x.b, .int .i64 x.imm]] w fun e w' =>
  e= .returned (.int .i64 (readsM x (parOf p x):Nat))∧Below w.heap.size w w' :=by
 have a0:=hx.a1
 have b0:=hx.b1
 have a1:x.a≤11:=by have:=hx.a2;omega
 have b1:x.b≤11:=by have:=hx.b2;omega
 have sa:=shl_one x.a a0 (by omega)
 have sb:=shl_one x.b b0 (by omega)
 have sab:=or_pow x.a x.b a0 (by omega) b0 (by omega)
 have HX:=Lib.hid hx
 obtain⟨op,dst,a,b,imm⟩:=x
 dsimp only at *
 have hcase:op=1∨op=15∨op=13∨op=16∨op=18∨op=19∨op=17∨(op≠1∧op≠15∧op≠13∧op≠16∧op≠18∧op≠19∧op≠17):=by omega
 have HP:=Lib.hid hp
 have HPAR:=Lib.hid hpar
 clear hx hp hpar
 rcases hcase with rfl|rfl|rfl|rfl|rfl|rfl|rfl|⟨n1,n2,n3,n4,n5,n6,n7⟩
 ·go_enter Tryd.func75,Tryd.ntmps75
  go_wp2_with fail
  go_quiet (fail)
  go_wp2_with fail
  go_ret
  refine⟨by simp[readsM],?_⟩
  exact Bq
 ·go_enter Tryd.func75,Tryd.ntmps75
  go_wp2_with fail
  go_quiet (fail)
  go_wp2_with fail
  go_ret
  refine⟨by simp[readsM],?_⟩
  exact Bq
 ·go_enter Tryd.func75,Tryd.ntmps75
  go_wp2_with fail
  go_quiet (fail)
  go_wp2_with fail
  go_ret
  refine⟨by simp[readsM],?_⟩
  exact Bq
 ·go_enter Tryd.func75,Tryd.ntmps75
  go_wp2_with fail
  go_quiet (fail)
  go_wp2_with fail
  go_ret
  refine⟨by simp[readsM],?_⟩
  exact Bq
 ·go_enter Tryd.func75,Tryd.ntmps75
  go_wp2_with fail
  go_quiet (fail)
  go_wp2_with fail
  go_ret
  refine⟨by simp[readsM],?_⟩
  exact Bq
 ·go_enter Tryd.func75,Tryd.ntmps75
  go_wp2_with fail
  go_quiet (fail)
  go_wp2_with fail
  go_ret
  refine⟨by simp[readsM],?_⟩
  exact Bq
 ·have hi:=HX.out.call rfl
  dsimp only at hi
  obtain⟨m,rfl⟩:=Int.eq_ofNat_of_zero_le hi.1
  have hm:m<p.length:=by omega
  obtain⟨f,hf⟩:∃f,p[m]? =some f:=⟨p[m],gE hm⟩
  obtain⟨A0,cap0,hA0,hA⟩:=HP.out.slice
  simp only[Value.slice.injEq,true_and] at hA0
  obtain⟨g,hAg,hg,hfn⟩:=hA (by omega)
  obtain⟨rfl,rfl⟩:=hA0
  obtain⟨u,-,c0,-,-⟩:=hfn m f hf
  have hpp:=HPAR.out f (gM hf)
  have HPO:=Lib.hid (show parOf p ⟨17,dst,a,b,(m:Int)⟩=f.params by simp[parOf,hf])
  subst hAg
  have hm0:(0:Int)≤m:=by omega
  have hm1:(m:Int)<p.length:=by omega
  clear hfn hA hf hm hi
  obtain⟨fp,fr,fc⟩:=f
  dsimp only at *
  have hfp:fp=0∨fp=1∨fp=2:=by omega
  generalize p.length=N at *
  have j0:∀(x0 x1 x2:Value) (w:World),(Instr.index 171 (.agg #[x0,x1,x2]) (.int .i64 0)).run Tryd.prog w= .ok x0 w:=fun _ _ _ _=>by kernel_rfl
  have j1:∀(x0 x1 x2:Value) (w:World),(Instr.index 171 (.agg #[x0,x1,x2]) (.int .i64 1)).run Tryd.prog w= .ok x1 w:=fun _ _ _ _=>by kernel_rfl
  have j2:∀(x0 x1 x2:Value) (w:World),(Instr.index 171 (.agg #[x0,x1,x2]) (.int .i64 2)).run Tryd.prog w= .ok x2 w:=fun _ _ _ _=>by kernel_rfl
  rcases hfp with rfl|rfl|rfl<;>
  ·go_enter Tryd.func75,Tryd.ntmps75
   go_wp2_with fail
   go_quiet (fail)
   go_wp2_with fail
   go_ret
   refine⟨by rw[HPO.out];simp[readsM],?_⟩
   exact Bq
 ·have m1:(op==1)=false:=by simpa using n1
  have m2:(op==15)=false:=by simpa using n2
  have m3:(op==13)=false:=by simpa using n3
  have m4:(op==16)=false:=by simpa using n4
  have m5:(op==18)=false:=by simpa using n5
  have m6:(op==19)=false:=by simpa using n6
  have m7:(op==17)=false:=by simpa using n7
  have X:=Lib.hid (show readsM ⟨op,dst,a,b,imm⟩ (parOf p ⟨op,dst,a,b,imm⟩)=2^a.toNat|||2^b.toNat by simp[readsM,n1,n2,n3,n4,n5,n6,n7])
  clear n1 n2 n3 n4 n5 n6 n7
  go_enter Tryd.func75,Tryd.ntmps75
  go_wp2_with fail
  go_quiet (fail)
  go_wp2_with fail
  go_ret
  refine⟨by rw[X.out];rfl,?_⟩
  exact Bq
end Go.Proofs.YtedcjapmmnbamaaDoor
namespace Tier
open Go Go.RowKit
def oI:Option Nat→Int
 |none=> -1
 |some m=>(m:Int)
def outL(l:List (Option Nat)):List Int:=l.map oI
def natI(l:List Nat):List Int:=l.map fun(n:Nat)=>(n:Int)
theorem outL_length(l:List (Option Nat)):(outL l).length=l.length:=by simp[outL]
theorem natI_length(l:List Nat):(natI l).length=l.length:=by simp[natI]
theorem outL_get{l:List (Option Nat)}{i:Nat}{o:Option Nat}(h:l[i]? =some o):(outL l)[i]? =some (oI o):=by simp[outL,h]
theorem sumW_none(k:Nat):sumW (List.replicate k none)=4096*k:=by
 induction k with
 |zero=>rfl
 |succ k ih=>rw[List.replicate_succ];simp only[sumW,List.map_cons,List.sum_cons,wt] at *;omega
theorem muS_start(f:Fnc)(h:f.code.length≤40)(hp:f.params≤2):muS (startS f)≤340000:=by
 have h1:=sumW_set (List.replicate (f.code.length+1) none) 0 none (some (2^f.params.toNat-1)) (by simp)
 rw[sumW_none] at h1
 have h2:2^f.params.toNat<4096:=pow_lt (by omega)
 simp only[wt] at h1
 simp only[muS,startS,List.length_cons,List.length_nil]
 omega
theorem iterS_todo{f:Fnc}(hc:COk f.code)(hp:f.params≤2)(hl:f.code.length≤40)(k:Nat):(iterS f.code k (startS f)).todo.length≤340000:=by
 rcases iterS_mu hc hp k with h|h
 ·rw[h];simp
 ·have:=muS_start f hl hp
  simp only[muS] at *;omega
theorem last_split{l:List Nat}(h:l≠[]):∃m pc,l.length=m+1∧l[m]? =some pc∧l.getLast? =some pc∧l.dropLast=l.take m∧pc∈l:=by
 have hp:=List.length_pos_iff.2 h
 refine⟨l.length-1,l.getLast h,by omega,?_,List.getLast?_eq_some_getLast h,List.dropLast_eq_take,List.getLast_mem h⟩
 rw[←List.getLast?_eq_getElem?,List.getLast?_eq_some_getLast h]
theorem outL_set(l:List (Option Nat))(i:Nat)(o:Option Nat):(outL l).set i (oI o)=outL (l.set i o):=by simp[outL,List.map_set]
end Tier
namespace Go.Proofs.YtedcjapmmnbamaaDoor
open Go.RowKit Tier
def IntsB(w:World)(b:Nat)(l:List Int):Prop:=w.heap[b]? =some (.cells (l.map (Value.int .i64)).toArray 3 (0,0))
theorem IntsB.lt{w:World}{b:Nat}{l:List Int}(h:IntsB w b l):b<w.heap.size:=(Array.getElem?_eq_some_iff.1 h).1
theorem IntsB.cell{w:World}{b:Nat}{l:List Int}(h:IntsB w b l){i:Nat}{x:Int}(hx:l[i]? =some x):w.cell? ⟨b,i,none⟩=some (.int .i64 x):=by
 rw[cell_block h]
 simp[hx]
theorem IntsB.frozen{w:World}{b:Nat}{l:List Int}(h:IntsB w b l)(i:Nat):w.frozen? ⟨b,i,none⟩=false:=frozen_block h i
theorem IntsB.keeps{w w' :World}{b:Nat}{l:List Int}(h:IntsB w b l)(hb:Below w.heap.size w w'):IntsB w' b l:=(hb.block _ h.lt).trans h
theorem IntsB.set{w:World}{b:Nat}{l:List Int}(h:IntsB w b l)(i:Nat)(x:Int):IntsB (w.setCell ⟨b,i,none⟩ (.int .i64 x)) b (l.set i x):=by
 unfold IntsB at *
 simp[World.setCell,Array.getElem?_modify,h,List.map_set]
theorem own_pop{w:World}{B:Nat}{e:TypeId}{A:Option Addr}{cap n:Nat}{xs:List Value}(h:w.ownsRow B e 1 (.slice A (n+1) cap) (n+1) xs):w.ownsRow B e 1 (.slice A n cap) n (xs.take n):=by
 obtain⟨h1,h2⟩:=h
 refine⟨by simp;omega,?_⟩
 rcases h2 with⟨h2,-⟩|⟨g,cap',cur,hv,hg,hh,hn,hc,hs,ht⟩
 ·simp at h2
 ·simp only[Value.slice.injEq] at hv
  obtain⟨rfl,-,rfl⟩:=hv
  exact .inr ⟨g,cap,cur,rfl,hg,hh,by omega,hc,hs,by rw[←ht,List.take_take];congr 1;omega⟩
structure SW(w wr:World)(fp fr:Int)(fv:Value)(A:Option Addr)(cap:Nat)(s:SS):Prop where
 box:wr.heap[w.heap.size]? =some (.cells #[.int .i64 fp, .int .i64 fr,fv] 60 (0,0))
 out:IntsB wr (w.heap.size+1) (outL s.out)
 todo:wr.ownsRow (w.heap.size+2) 3 1 (.slice A s.todo.length cap) s.todo.length ((natI s.todo).map (Value.int .i64))
 below:Below w.heap.size w wr
section
variable {w wr:World}{fp fr:Int}{fv:Value}{A:Option Addr}{cap:Nat}{s:SS}
theorem SW.size(h:SW w wr fp fr fv A cap s):w.heap.size+1<wr.heap.size:=h.out.lt
theorem SW.keeps{w' :World}(h:SW w wr fp fr fv A cap s)(hb:Below wr.heap.size wr w'):SW w w' fp fr fv A cap s:=
 ⟨(hb.block _ (by have:=h.size;omega)).trans h.box,h.out.keeps hb,own_below h.todo hb,h.below.trans (hb.mono h.below.size)⟩
theorem SW.pop(h:SW w wr fp fr fv A cap s)(hne:s.todo≠[]):SW w wr fp fr fv A cap (popS s):=by
 obtain⟨m,pc,h1,-,-,h2,-⟩:=last_split hne
 refine⟨h.box,h.out,?_,h.below⟩
 have:=h.todo
 rw[h1] at this
 have:=own_pop this
 simp only[popS,h2,List.length_take]
 rw[show min m s.todo.length=m by omega]
 simpa [natI,List.map_take] using this
theorem SW.room(h:SW w wr fp fr fv A cap s)(hne:s.todo≠[]):s.todo.length≤cap:=by
 have h2:=h.todo.2
 rcases h2 with⟨h2,-⟩|⟨g,cap',cur,hv,hg,hh,hn,hc,hs,ht⟩
 ·simp only[Value.slice.injEq] at h2;exact absurd (List.eq_nil_of_length_eq_zero h2.2.1) hne
 ·simp only[Value.slice.injEq] at hv
  obtain⟨-,-,rfl⟩:=hv
  exact hn
theorem SW.at(h:SW w wr fp fr fv A cap s){m pc:Nat}(hl:s.todo.length=m+1)(hm:s.todo[m]? =some pc):∃ga,A=some ⟨ga,0,none⟩∧ga<wr.heap.size∧wr.cell? ⟨ga,m,none⟩=some (.int .i64 pc):=by
 obtain⟨A0,cap0,hA0,hA⟩:=own_slice h.todo
 simp only[Value.slice.injEq,true_and] at hA0
 obtain⟨ga,h1,h2,h3⟩:=hA (by omega)
 refine⟨ga,by rw[hA0.1,h1],h2,?_⟩
 rw[h3 m (by omega)]
 simp[natI,hm]
theorem SW.push(h:SW w wr fp fr fv A cap s)(n v:Nat){w1:World}{A' :Option Addr}{cap' :Nat}
 (hg:((wr.setCell ⟨w.heap.size+1,n,none⟩ (.int .i64 (v:Int))).alloc (.cells #[.int .i64 (n:Int)] 3)).grownBy w1 (Value.slice A s.todo.length cap).ownBlock)
 (ho:w1.ownsRow (w.heap.size+2) 3 1 (.slice A' (s.todo.length+1) cap') (s.todo.length+1) ((natI s.todo).map (Value.int .i64)++[.int .i64 (n:Int)])):
 SW w w1 fp fr fv A' cap' ⟨s.out.set n (some v),s.todo++[n]⟩:=by
 have hs:=h.size
 have hrow:∀k,(Value.slice A s.todo.length cap).ownBlock=some k→w.heap.size+2≤k:=fun k hk=>(World.ownsRow.lt h.todo k hk).1
 have hblk:∀k,k≤w.heap.size+1→w1.heap[k]? =(wr.setCell ⟨w.heap.size+1,n,none⟩ (.int .i64 (v:Int))).heap[k]? :=fun k hk=>by
  rw[hg.block k (by simp;omega) (fun e=>by have:=hrow k e.symm;omega)]
  exact Below.heap_alloc _ _ _ (by simp;omega)
 refine⟨?_,?_,?_,?_⟩
 ·rw[hblk _ (by omega),Below.heap_setCell _ _ _ _ (by simp)];exact h.box
 ·have:=h.out.set n (v:Int)
  unfold IntsB at *
  rw[hblk _ (Nat.le_refl _),this]
  rw[show outL (s.out.set n (some v))=(outL s.out).set n (v:Int) from(outL_set s.out n (some v)).symm]
 ·simpa [natI] using ho
 ·have hb1:Below w.heap.size w (wr.setCell ⟨w.heap.size+1,n,none⟩ (.int .i64 (v:Int))):=h.below.setCell (by simp) _
  refine(hb1.alloc (by simp;omega) _).grown hg (by simp;omega) (fun k hk=>by have:=hrow k hk;omega)
structure SX(w wr:World)(fp fr:Int)(fv:Value)(A:Option Addr)(cap:Nat)(s:SS)(gv:Nat)(l:List Nat):Prop where
 sw:SW w wr fp fr fv A cap s
 row:∀(j n:Nat),l[j]? =some n→wr.cell? ⟨gv,j,none⟩=some (.int .i64 (n:Int))
 hi:w.heap.size+1<gv
 ne:(Value.slice A s.todo.length cap).ownBlock≠some gv
theorem SW.old(h:SW w wr fp fr fv A cap s):∀k,(Value.slice A s.todo.length cap).ownBlock=some k→k<wr.heap.size:=fun k hk=>(World.ownsRow.lt h.todo k hk).2
theorem SX.start{wy:World}(h:SW w wr fp fr fv A cap s)(hb:Below wr.heap.size wr wy){B:Nat}(hB:wr.heap.size≤B){v:Value}{l:List Nat}(ho:OwnI wy B v (natI l)):
 ∃Av capv gv,v= .slice Av l.length capv∧SX w wy fp fr fv A cap s gv l∧(0<l.length→Av=some ⟨gv,0,none⟩):=by
 obtain⟨Av,capv,hv,hc⟩:=own_slice ho
 rw[natI_length] at hv hc
 by_cases hl:0<l.length
 ·obtain⟨gv,h1,h2,h3⟩:=hc hl
  have hge:B≤gv:=(World.ownsRow.lt ho gv (by rw[hv,h1];rfl)).1
  refine⟨Av,capv,gv,hv,⟨h.keeps hb,fun j n hj=> ?_,by have:=h.size;omega,fun e=> ?_⟩,fun _=>h1⟩
  ·have hjl:j<l.length:=(gI.1 hj).1
   rw[h3 j (by omega)]
   simp[natI,hj]
  ·have:=h.old _ e;omega
 ·have hl0:l=[]:=List.eq_nil_of_length_eq_zero (by omega)
  refine⟨Av,capv,wr.heap.size,hv,⟨h.keeps hb,fun j n hj=>by rw[hl0] at hj;simp at hj,h.size,fun e=> ?_⟩,fun h=>absurd h hl⟩
  have:=h.old _ e;omega
theorem SX.mid{gv:Nat}{l:List Nat}(h:SX w wr fp fr fv A cap s gv l)(n:Nat)(u:Value)(o:Obj):
 ((wr.setCell ⟨w.heap.size+1,n,none⟩ u).alloc o).ownsRow (w.heap.size+2) 3 1 (.slice A s.todo.length cap) s.todo.length ((natI s.todo).map (Value.int .i64)):=
 own_below (own_setCell h.sw.todo (by simp) u) ((Below.refl _ _).alloc (Nat.le_refl _) _)
theorem SX.push{gv:Nat}{l:List Nat}(h:SX w wr fp fr fv A cap s gv l){j0 n0:Nat}(hj0:l[j0]? =some n0)(n v:Nat){w1:World}{A' :Option Addr}{cap' :Nat}
 (hg:((wr.setCell ⟨w.heap.size+1,n,none⟩ (.int .i64 (v:Int))).alloc (.cells #[.int .i64 (n:Int)] 3)).grownBy w1 (Value.slice A s.todo.length cap).ownBlock)
 (ho:w1.ownsRow (w.heap.size+2) 3 1 (.slice A' (s.todo.length+1) cap') (s.todo.length+1) ((natI s.todo).map (Value.int .i64)++[.int .i64 (n:Int)]))
 (hat:(Value.slice A' (s.todo.length+1) cap').ownBlock=(Value.slice A s.todo.length cap).ownBlock∨(Value.slice A' (s.todo.length+1) cap').ownBlock=some ((wr.setCell ⟨w.heap.size+1,n,none⟩ (.int .i64 (v:Int))).alloc (.cells #[.int .i64 (n:Int)] 3)).heap.size):
 SX w w1 fp fr fv A' cap' ⟨s.out.set n (some v),s.todo++[n]⟩ gv l:=by
 have hgv:gv<wr.heap.size:=World.block_lt_of_cell? _ _ (h.row j0 n0 hj0)
 have hhi:=h.hi
 refine⟨h.sw.push n v hg ho,fun j m hj=> ?_,h.hi,?_⟩
 ·rw[←h.row j m hj]
  have e:w1.heap[gv]? =wr.heap[gv]? :=by
   rw[hg.block gv (by simp;omega) (fun e=>h.ne e.symm),Below.heap_alloc _ _ _ (by simpa using hgv),Below.heap_setCell _ _ _ _ (by simp;omega)]
  simp only[World.cell?,e]
 ·have hlen:(s.todo++[n]).length=s.todo.length+1:=by simp
  show(Value.slice A' (s.todo++[n]).length cap').ownBlock≠some gv
  rw[hlen]
  rcases hat with hat|hat
  ·rw[hat];exact h.ne
  ·rw[hat];simp;omega
end
set_option maxRecDepth 100000 in
set_option maxHeartbeats 8000000 in
theorem preadsx_any(p:List Fnc)(A:Option Addr)(cap k pc:Nat)(f:Fnc)(x:Ins)(w:World)(ht:Tab w)(hp:ProgAt w (.slice A p.length cap) p)(hE:progE p=0)(hf:p[k]? =some f)(hx:f.code[pc]? =some x):
 Calls Tryd.prog 49 #[.agg #[.slice A p.length cap], .int .i64 (k:Int), .int .i64 (pc:Int)] w fun e w' =>
  e= .returned (.tuple #[.int .i64 (readsM x (parOf p x):Nat), .int .i64 (setM x:Nat), .int .i64 0])∧Below w.heap.size w w' :=by
 have hok:=prog_ok hE
 have hfo:=hok.fn f (gM hf)
 have hio:=hfo.ins x (gM hx)
 have HCK:=Lib.hid (fun(W:World) (h1:Tab W) (h2:ProgAt W (.slice A p.length cap) p)=>check_any p (.slice A p.length cap) W h1 h2 (by have:=hok.l2;omega) (fun f hf=>by have:=(hok.fn f hf).c2;omega))
 rw[hE] at HCK
 have HT:=Lib.hid ht
 have HP:=Lib.hid hp
 have hk:=(gI.1 hf).1
 have hpc:=(gI.1 hx).1
 have l2:=hok.l2
 have n2:=hfo.c2
 obtain⟨A0,cap0,hA0,hA⟩:=hp.slice
 simp only[Value.slice.injEq,true_and] at hA0
 obtain⟨g,hAg,hg,hfn⟩:=hA (by omega)
 obtain⟨rfl,rfl⟩:=hA0
 obtain⟨u,hu,c0,c1,c2⟩:=hfn k f hf
 obtain⟨FA,fcap,rfl,hFA⟩:=hu.slice
 obtain⟨gc,hgc,hgl,hin⟩:=hFA (by omega)
 obtain⟨i0,i1,i2,i3,i4⟩:=hin pc x hx
 have HRD:=Lib.hid (fun(W:World) (hW:ProgAt W (.slice A p.length cap) p)=>preads_any p A cap x f.regs f.code.length W hW hio hfo.r2 (fun f hf=>⟨(hok.fn f hf).p1,(hok.fn f hf).p2⟩))
 have HSM:=Lib.hid (setM_lt hio hfo.r2)
 have hd0:=hio.dst1
 have hd1:x.dst≤11:=by have:=hio.dst2;have:=hfo.r2;omega
 subst hAg
 subst hgc
 have hk1:(k:Int)<p.length:=by omega
 have hk0:(0:Int)≤k:=by omega
 have hp0:(0:Int)≤pc:=by omega
 have hp1:(pc:Int)<f.code.length:=by omega
 clear hA hfn hp ht hfo hok hf hE hu hk hFA hin hx hio
 generalize p.length=N at *
 obtain⟨fp,fr,fc⟩:=f
 obtain⟨op,dst,a,b,imm⟩:=x
 dsimp only at *
 generalize fc.length=M at *
 obtain⟨r,hr⟩:∃r,readsM ⟨op,dst,a,b,imm⟩ (parOf p ⟨op,dst,a,b,imm⟩)=r:=⟨_,rfl⟩
 rw[hr] at HRD
 rw[hr]
 clear hr
 have hlt0:((k:Int)<0)=False:=by simp
 have hlt1:((N:Int)≤k)=False:=by simp;omega
 have hlt2:((pc:Int)<0)=False:=by simp
 have hlt3:((M:Int)≤pc)=False:=by simp;omega
 have hlt4:(N≤k)=False:=by simp;omega
 have hlt5:(M≤pc)=False:=by simp;omega
 cases hsb:setsB ⟨op,dst,a,b,imm⟩
 case' false=>
  have HS:=Lib.hid (show setM ⟨op,dst,a,b,imm⟩=0 by unfold setM;rw[if_neg (by simp[hsb])])
  have s0:bits .and .i64 0 4095=0:=by decide+kernel
 case' true=>
  have HS:=Lib.hid (show setM ⟨op,dst,a,b,imm⟩=2^dst.toNat by unfold setM;rw[if_pos hsb])
  have sdst:=shl_one dst hd0 (by omega)
  have san:bits .and .i64 ((2:Int)^dst.toNat) 4095=((2^dst.toNat:Nat):Int):=by
   have h2:2^dst.toNat<4096:=pow_lt (by omega)
   have h:=and_mask ((2:Int)^dst.toNat) 12 (by omega)
   have h3:((2:Int)^dst.toNat)=((2^dst.toNat:Nat):Int):=by push_cast;rfl
   simp only[Int.reducePow,Int.reduceSub] at h
   rw[h,h3]
   generalize 2^dst.toNat=q at *
   omega
 all_goals (
  have HSB:=Lib.hid hsb
  clear hsb
  go_enter Tryd.func49,Tryd.ntmps49
  go_wp2_with (first|(go_at_call 43;go_must (refine(HCK.out _ (HT.out.alloc _) (HP.out.keeps ((Below.refl _ _).alloc (Nat.le_refl _) _))).mono ?_;rintro e wx ⟨rfl,hbx⟩;have hbx' :Below w.heap.size w wx:=((Below.refl _ _).alloc (Nat.le_refl _) _).trans (hbx.mono (by simp));have HBX:=Lib.hid hbx';have hq:=(hbx.block w.heap.size (by simp)).trans (heap_alloc_new w _);have HQ:=Lib.hid hq;have q0:=cell_block hq;have zx:w.heap.size<wx.heap.size:=(Array.getElem?_eq_some_iff.1 hq).1;have gx:g<wx.heap.size:=Nat.lt_of_lt_of_le hg hbx'.size;have gcx:gc<wx.heap.size:=Nat.lt_of_lt_of_le hgl hbx'.size;have d0:=(hbx'.cell (p:=⟨g,_,none⟩) hg).trans c0;have d1:=(hbx'.cell (p:=⟨g,_,none⟩) hg).trans c1;have d2:=(hbx'.cell (p:=⟨g,_,none⟩) hg).trans c2;have e0:=(hbx'.cell (p:=⟨gc,_,none⟩) hgl).trans i0;have e1:=(hbx'.cell (p:=⟨gc,_,none⟩) hgl).trans i1;have e2:=(hbx'.cell (p:=⟨gc,_,none⟩) hgl).trans i2;have e3:=(hbx'.cell (p:=⟨gc,_,none⟩) hgl).trans i3;have e4:=(hbx'.cell (p:=⟨gc,_,none⟩) hgl).trans i4;clear hbx hbx' hq))|(go_at_call 83;go_must (refine(sets_any ⟨op,dst,a,b,imm⟩ _).mono ?_;rintro e wy ⟨he,hby⟩;rw[HSB.out] at he;subst he;have hxb:=(hby.block wx.heap.size (by simp)).trans (heap_alloc_new wx _);have xb:=cell_block hxb;have zxb:wx.heap.size<wy.heap.size:=(Array.getElem?_eq_some_iff.1 hxb).1;have hby' :Below wx.heap.size wx wy:=(by refine Below.trans ?_ (hby.mono (by simp));have hb:=Below.refl wx.heap.size wx;exact Bq);have HBY:=Lib.hid (HBX.out.trans (hby'.mono HBX.out.size));have hyq:=(hby'.block w.heap.size zx).trans HQ.out;have yq:=cell_block hyq;have zy:w.heap.size<wy.heap.size:=(Array.getElem?_eq_some_iff.1 hyq).1;clear hxb hby hby' hyq))|(go_at_call 75;go_must (refine(HRD.out _ (HP.out.keeps HBY.out)).mono ?_;rintro e wz ⟨rfl,hbz⟩;have HBZ:=Lib.hid (HBY.out.trans (hbz.mono HBY.out.size));clear hbz)))
  refine bodyPost_ret (v:= .tuple #[.int .i64 (r:Nat), .int .i64 (setM ⟨op,dst,a,b,imm⟩:Nat), .int .i64 0]) (by rw[HS.out];simp[results,Tryd.results49,go_sem]) rfl ⟨rfl,HBZ.out⟩)
end Go.Proofs.YtedcjapmmnbamaaDoor
