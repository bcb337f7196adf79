/-
  Arguments, opened: an input of a run in raw numbers; a slice of whole numbers.
-/
import Derived.Test.YtedcjapmmnbamaaDoorOp0
import Derived.Test.YtedcjapmmnbamaaDoorOpn
import Derived.Test.YtedcjapmmnbamaaDoorStS
import Derived.Test.YtedcjapmmnbamaaDoorFnS
import Derived.Test.YtedcjapmmnbamaaDoorSu3
import Derived.Laws.AppendOwn
import Derived.Deep.Upon
namespace Go.Proofs.YtedcjapmmnbamaaDoor
open Go Go.ChangeShapes Go.WideShapes Go.ChangeAt Go.RowKit Tier
theorem cArr2:Tryd.prog.cellsOf 23=2:=by kernel_rfl
theorem cInts:Tryd.prog.cellsOf 24=1:=by kernel_rfl
set_option maxRecDepth 100000 in
theorem cInput:Tryd.prog.cellsOf 26=4:=by kernel_rfl
set_option maxRecDepth 100000 in
theorem open_n{H:Type}{enc:TypeId×Value→H}{w:World}{base:Nat}{spare:Nat→Bool}{held:Bool}{r:Reach}{b0:Nat}{v:Value}{d:DataW H}{p:List MemPlace}
 (hv:Value.okWide Tryd.prog w r b0 24 v) (h:DataW.Trod enc Tryd.prog w base spare held 24 v d p):
 ∃A cap l,v= .slice A (List.length l) cap∧IntRow w A l∧(l.length:Int)≤9223372036854775807:=
 open_intsW Tryd.underlying24 Tryd.underlying3 cInt hv h
theorem open_cap{H:Type}{enc:TypeId×Value→H}{P:Program}{w:World}{base:Nat}{spare:Nat→Bool}{held:Bool}{fuel:Nat}{t e:TypeId}{A:Option Addr}{n cap:Nat}{x:DataW H×List MemPlace}(ht:P.underlying t=some (.slice e))(h:DataW.trod enc P w base spare held fuel t [.slice A n cap]=some x):n≤cap:=by
 rcases Go.Deep.open_slice ht h with⟨h0,-⟩|⟨a,len,cap',m,n',D,Pl,hcs,hb,hl,-⟩
 ·simp at h0;omega
 ·simp at hcs;omega
structure InOk(w:World)(a0 a1:Int)(YA:Option Addr)(ans:List Int)(ycap:Nat)(fuel:Int):Prop where
 a0:In a0
 a1:In a1
 fuel:In fuel
 row:IntsAt w YA ans
 len:(ans.length:Int)≤9223372036854775807
 cap:ans.length≤ycap
theorem ints_of_row{w:World}{A:Option Addr}{l:List Int}(h:IntRow w A l):IntsAt w A l:=fun hl=>by
 obtain⟨b,o,h1,h2,h3⟩:=h hl
 exact⟨b,o,h1,h2,fun i x hx=>(h3 i x hx).2⟩
set_option maxRecDepth 100000 in
theorem open_in{H:Type}{enc:TypeId×Value→H}{w:World}{base:Nat}{spare:Nat→Bool}{held:Bool}{r:Reach}{b0:Nat}{v:Value}{d:DataW H}{p:List MemPlace}
 (hv:Value.okWide Tryd.prog w r b0 26 v) (h:DataW.Trod enc Tryd.prog w base spare held 26 v d p):
 ∃(a0 a1:Int) (A:Option Addr) (cap:Nat) (l:List Int) (fuel:Int),v= .agg #[.int .i64 a0, .int .i64 a1, .slice A (List.length l) cap, .int .i64 fuel]∧InOk w a0 a1 A l cap fuel:=by
 obtain⟨cs,rfl,hsz⟩:=okWide_struct Tryd.underlying26 hv
 obtain⟨l⟩:=cs
 obtain⟨fuel,hfu⟩:=h
 obtain⟨xs,n,-,-,-,hlen,hg⟩:=DataW.trod_struct Tryd.underlying26 hfu
 have hl:l.length=4:=by simpa using hsz.trans cInput
 match l,hl with
 |[c0,c1,c2,c3],_=>
  have g0:=hg 0 _ rfl
  have g1:=hg 1 _ rfl
  have g2:=hg 2 _ rfl
  have hx:xs.length=3:=hlen
  rw[gE (by omega)] at g0 g1 g2
  obtain⟨ys,k,-,hy,-,hn,hel⟩:=DataW.trod_array Tryd.underlying23 g0
  have h0:=hel 0 (by omega)
  have h1:=hel 1 (by omega)
  rw[gE (by omega)] at h0 h1
  obtain⟨a0,q0,-,w0⟩:=DataW.trod_int Tryd.underlying3 h0
  obtain⟨a1,q1,-,w1⟩:=DataW.trod_int Tryd.underlying3 h1
  obtain⟨A,cap,l,q2,hr,hll⟩:=open_ints0 (v:=c2) Tryd.underlying24 Tryd.underlying3 cInt g1
  obtain⟨a3,q3,-,w3⟩:=DataW.trod_int Tryd.underlying3 g2
  have hcap:l.length≤cap:=open_cap Tryd.underlying24 (by rw[←q2];exact g1)
  refine⟨a0,a1,A,cap,l,a3,?_,in_of_wf w0,in_of_wf w1,in_of_wf w3,ints_of_row hr,hll,hcap⟩
  simp[cArr2,cInt,Value.cells] at q0 q1 q3
  rw[q2,q0,q1,q3]
end Go.Proofs.YtedcjapmmnbamaaDoor
namespace Tier
open Go Go.RowKit
section
variable {p:List Fnc}
theorem nxt_stop{s:St}(h:s.status≠0):nextSt p s=s:=by unfold nextSt;rw[if_neg h]
theorem nxt_run{s:St}(h:s.status=0):nextSt p s=stepSt p s:=by unfold nextSt;rw[if_pos h]
theorem nxt_falls{s:St}(h:StInv p s)(hst:s.status=0):
 ((nextSt p s).fuel=s.fuel-1∧((nextSt p s).status=0∨(nextSt p s).status=1∨(nextSt p s).status=5))∨((nextSt p s).status=2∧(nextSt p s).fuel=0∧s.fuel=0)∨((nextSt p s).fuel=s.fuel∧((nextSt p s).status=3∨(nextSt p s).status=4)):=by
 rw[nxt_run hst]
 rcases step_fuel h hst with⟨h1,-,h3⟩|⟨h1,-,h3⟩|⟨h1,h2,h3⟩
 ·exact .inl ⟨h1,h3⟩
 ·exact .inr (.inr ⟨h1,h3⟩)
 ·exact .inr (.inl ⟨h3,h1,h2⟩)
theorem nxt_mem{s:St}{fs:List Fr}{f:Fr}(hf:s.frames=fs++[f])(hm:s.mem.length=16)(i:Nat):
 (nextSt p s).mem.getD i 0=s.mem.getD i 0∨((insOf p f).op=14∧f.reg (insOf p f).a=i∧(nextSt p s).mem.getD i 0=f.reg (insOf p f).b):=by
 by_cases hst:s.status=0
 ·rw[nxt_run hst]
  by_cases hfu:s.fuel=0
  ·left;unfold stepSt;rw[if_pos hfu]
  ·rw[stepSt_exec hf hfu]
   rcases exec_mem (p:=p) s fs f with h|⟨h1,h2,h3,h4⟩
   ·left;rw[h]
   ·rw[h4]
    by_cases hi:(f.reg (insOf p f).a).toNat=i
    ·right
     refine⟨h1,by omega,?_⟩
     rw[gD,hi,List.getElem?_set_self (by omega)];rfl
    ·left
     rw[gD,gD,List.getElem?_set_ne hi]
 ·left;rw[nxt_stop hst]
theorem nxt_frames{s:St}{fs:List Fr}{f:Fr}(hf:s.frames=fs++[f])(hfu:s.fuel≠0∨(nextSt p s).status≠2)(hst:s.status=0)(hr:1≤(insOf p f).op∧(insOf p f).op≤19)(hk:(nextSt p s).status≠5):
 ((insOf p f).op≠17∧(insOf p f).op≠19∧(nextSt p s).frames.length=s.frames.length)∨
 ((insOf p f).op=17∧(nextSt p s).frames=s.frames++[newFr (insOf p f).imm (fnOf p (insOf p f).imm).params (f.reg (insOf p f).a) (f.reg (insOf p f).b)])∨
 ((insOf p f).op=19∧fs=[]∧(nextSt p s).frames=[]∧(nextSt p s).value=f.reg (insOf p f).a)∨
 ((insOf p f).op=19∧∃gs g,fs=gs++[g]∧(nextSt p s).frames=gs++[retFr p g (f.reg (insOf p f).a)]):=by
 have hfu' :s.fuel≠0:=by
  rcases hfu with h|h
  ·exact h
  ·intro e
   refine h ?_
   rw[nxt_run hst];unfold stepSt;rw[if_pos e]
 rw[nxt_run hst,stepSt_exec hf hfu'] at *
 rcases exec_split (p:=p) fs f with⟨a1,h⟩|⟨a1,h⟩|⟨a1,h⟩|⟨a1,-,-,h⟩|⟨a1,a2,a3,h⟩|⟨a1,h⟩|⟨a1,h⟩|⟨a1,-,h⟩|⟨a1,-,h⟩|⟨a1,h⟩|⟨a1,a2,h⟩|⟨a1,gs,g,a2,h⟩
 case inl=>left;simp[mkOk] at a1;rw[h];exact⟨by omega,by omega,by simp[topSt,hf]⟩
 case inr.inr.inr.inr.inr.inr.inr.inl=>rw[h] at hk;exact absurd rfl hk
 case inr.inr.inr.inr.inr.inr.inr.inr.inl=>right;left;rw[h];exact⟨a1,by simp[hf]⟩
 case inr.inr.inr.inr.inr.inr.inr.inr.inr.inr.inl=>right;right;left;rw[h];exact⟨by omega,a2,rfl,rfl⟩
 case inr.inr.inr.inr.inr.inr.inr.inr.inr.inr.inr=>right;right;right;rw[h];exact⟨by omega,gs,g,a2,rfl⟩
 all_goals (left;rw[h];exact⟨by omega,by omega,by simp[topSt,hf]⟩)
theorem nxt_frames_len{s:St}(h:StInv p s)(h' :s.status≠0∨((nextSt p s).status≠0∧(nextSt p s).status≠1)):(nextSt p s).frames.length=s.frames.length:=by
 by_cases hst:s.status=0
 ·rw[nxt_run hst] at h' ⊢
  by_cases hfu:s.fuel=0
  ·unfold stepSt;rw[if_pos hfu]
  ·obtain⟨fs,f,hf⟩:=h.running hst
   rw[stepSt_exec hf hfu] at h' ⊢
   rcases exec_split (p:=p) fs f with⟨a1,h⟩|⟨a1,h⟩|⟨a1,h⟩|⟨a1,-,-,h⟩|⟨a1,a2,a3,h⟩|⟨a1,h⟩|⟨a1,h⟩|⟨a1,-,h⟩|⟨a1,-,h⟩|⟨a1,h⟩|⟨a1,a2,h⟩|⟨a1,gs,g,a2,h⟩<;>rw[h] at h' ⊢<;>simp[topSt,hf] at h' ⊢<;>omega
 ·rw[nxt_stop hst]
theorem nxt_pure{s:St}(h:StInv p s){fs:List Fr}{f:Fr}(hf:s.frames=fs++[f])(hst:s.status=0)(ht:(nextSt p s).status=0)(h1:1≤(insOf p f).op)(h12:(insOf p f).op≤12):
 mkOk (insOf p f).op (f.reg (insOf p f).b)=true∧nextSt p s=topSt s fs ((f.put (insOf p f).dst (mk (insOf p f).op (f.reg (insOf p f).a) (f.reg (insOf p f).b) (insOf p f).imm)).at (f.pc+1)):=by
 have:=h.fuel0
 rw[nxt_run hst] at ht⊢
 by_cases hfu:s.fuel=0
 ·unfold stepSt at ht;rw[if_pos hfu] at ht;simp at ht
 ·rw[stepSt_exec hf hfu] at ht⊢
  rcases exec_split (p:=p) fs f with⟨a1,h⟩|⟨a1,h⟩|⟨a1,h⟩|⟨a1,-,-,h⟩|⟨a1,a2,a3,h⟩|⟨a1,h⟩|⟨a1,h⟩|⟨a1,-,h⟩|⟨a1,-,h⟩|⟨a1,h⟩|⟨a1,a2,h⟩|⟨a1,gs,g,a2,h⟩
  case inl=>exact⟨a1,h s⟩
  case inr.inl=>rw[h] at ht;simp at ht
  all_goals omega
theorem grew_len{s t:St}(h:Grew s t)(h0:s.events=[]):t.answers.length=s.answers.length-t.events.length:=by
 obtain⟨e,h1,h2⟩:=h
 rw[h1,h2,h0];simp
end
end Tier
namespace Go.Proofs.YtedcjapmmnbamaaDoor
open Go.RowKit Tier
def CutAt(R:Act→World→Prop):Exit→Act→World→Prop
 | .normal,a,w=>R a w
 |_,_,_=>False
theorem CutAt.mono{R:Act→World→Prop}{Q:Exit→Act→World→Prop}(h:∀a w,R a w→Q .normal a w):∀(e:Exit) (a:Act) (w:World),CutAt R e a w→Q e a w:=fun e a w hh=>by
 cases e<;>first|exact h a w hh|exact(hh:False).elim
theorem region_cut1{α:Type}{P:Program}{id:Nat}{ops:Array Oper}{Q:Exit→Act→World→Prop}{a:Act}{w:World}(f:α→Act)(R:α→World→Prop)(h1:(Code.region id ops true).wp P (CutAt fun a' w' =>∃x,a' =f x∧R x w') a w)(h2:∀x w',R x w' →Q .normal (f x) w'):(Code.region id ops true).wp P Q a w:=
 Code.wp_mono (CutAt.mono fun a' w' h=>by obtain⟨x,rfl,h⟩:=h;exact h2 x w' h) h1
theorem region_cut2{α β:Type}{P:Program}{id:Nat}{ops:Array Oper}{Q:Exit→Act→World→Prop}{a:Act}{w:World}(f:α→β→Act)(R:α→β→World→Prop)(h1:(Code.region id ops true).wp P (CutAt fun a' w' =>∃x y,a' =f x y∧R x y w') a w)(h2:∀x y w',R x y w' →Q .normal (f x y) w'):(Code.region id ops true).wp P Q a w:=
 Code.wp_mono (CutAt.mono fun a' w' h=>by obtain⟨x,y,rfl,h⟩:=h;exact h2 x y w' h) h1
theorem Sx.cin{wP w:World}{pb:Nat}{pv:Value}{l:List (Nat×List Value×St)}(h:Sx wP pb pv w l){b:Nat}{C:List Value}{s:St}(hx:(b,C,s)∈l){p:List Fnc}(hi:StInv p s):∃FA fcap EA ecap AA acap,CellsIn C w s FA fcap EA ecap AA acap:=
 (h.sts _ hx).2.cin hi.mem (fun f hf=>(hi.fr f hf).regs)
theorem walk_end_eq{p:List Fnc}{k n:Nat}{s:St}(hk:k≤n)(h:(walkSt p k s).status≠0):walkSt p n s=walkSt p k s:=by
 obtain⟨d,rfl⟩:=Nat.exists_eq_add_of_le hk
 rw[walkSt_add,walkSt_stop h]
theorem params_cell{p:List Fnc}(hp:Right p){w:World}{A:Option Addr}{cap:Nat}(hP:ProgAt w (.slice A p.length cap) p)(a0 a1:Int):
 ∃g,A=some ⟨g,0,none⟩∧g<w.heap.size∧w.cell? ⟨g,0,none⟩=some (.int .i64 ((inArgs p a0 a1).length:Nat)):=by
 have l1:=hp.ok.l1
 have hla:=inArgs_len hp a0 a1
 obtain⟨F,hF,hF0,hF1,hF2⟩:=first_params hp
 obtain⟨A0,cap0,hA0,hA⟩:=hP.slice
 simp only[Value.slice.injEq,true_and] at hA0
 obtain⟨g,hAg,hg,hfn⟩:=hA (by omega)
 obtain⟨rfl,rfl⟩:=hA0
 obtain⟨-,-,c0,-,-⟩:=hfn 0 F hF
 rw[hF0] at hla
 rw[Nat.zero_mul,hla] at c0
 exact⟨g,hAg,hg,c0⟩
theorem args_at{w:World}{ib:Nat}{a0 a1:Int}{V:Value}{fuel:Int}(p:List Fnc)(h:w.heap[ib]? =some (.cells #[.int .i64 a0, .int .i64 a1,V, .int .i64 fuel] 26 (0,0))):IntsAt w (some ⟨ib,0,none⟩) (inArgs p a0 a1):=fun _=>⟨ib,0,rfl,block_lt h,fun i x hx=>by
 rw[Nat.zero_add,cell_block h]
 unfold inArgs at hx
 rw[List.getElem?_take] at hx
 split at hx
 ·match i,hx with
  |0,hx=>simp at hx;subst hx;rfl
  |1,hx=>simp at hx;subst hx;rfl
  |i+2,hx=>simp at hx
 ·cases hx⟩
theorem Sx.swap{wP w:World}{pb:Nat}{pv:Value}{x y:Nat×List Value×St}{l:List (Nat×List Value×St)}(h:Sx wP pb pv w (x::y::l)):Sx wP pb pv w (y::x::l):=
 ⟨h.below,h.pblk,fun z hz=>h.sts z (by simp only[List.mem_cons] at hz⊢;rcases hz with h|h|h<;>simp[h])⟩
theorem range_below{w W:World}{b o:Nat}{cs:List Value}(h:w.rangeAt b o cs)(hb:b<w.heap.size)(hB:Below w.heap.size w W):W.rangeAt b o cs:=fun j v hv=>(hB.cell (p:=⟨b,_,none⟩) hb).trans (h j v hv)
theorem fr_range{C:List Value}{w:World}{s:St}{FA:Option Addr}{fcap:Nat}{EA:Option Addr}{ecap:Nat}{AA:Option Addr}{acap:Nat}(h:CellsIn C w s FA fcap EA ecap AA acap){i:Nat}{f:Fr}(hf:s.frames[i]? =some f)(hr:f.regs.length=12):
 ∃g,FA=some ⟨g,0,none⟩∧g<w.heap.size∧w.rangeAt g (i*14) (frCell f):=by
 obtain⟨g,h1,h2,h3⟩:=h.fr (by have:=(gI.1 hf).1;omega)
 refine⟨g,h1,h2,fun j v hj=> ?_⟩
 have hl:j<14:=by
  have:=(gI.1 hj).1
  rwa [frCell_length hr] at this
 rw[h3 i f j hf hl]
 exact hj
theorem top_range{C:List Value}{w:World}{s:St}{FA:Option Addr}{fcap:Nat}{EA:Option Addr}{ecap:Nat}{AA:Option Addr}{acap:Nat}(h:CellsIn C w s FA fcap EA ecap AA acap){fs:List Fr}{f:Fr}(hf:s.frames=fs++[f])(hr:f.regs.length=12):
 ∃g,FA=some ⟨g,0,none⟩∧g<w.heap.size∧w.rangeAt g (fs.length*14) (frCell f):=by
 obtain⟨g,h1,h2,h3⟩:=h.fr (by rw[hf];simp)
 refine⟨g,h1,h2,fun j v hj=> ?_⟩
 have hl:j<14:=by
  have:=(gI.1 hj).1
  rwa [frCell_length hr] at this
 rw[h3 fs.length f j (by rw[hf];simp) hl]
 exact hj
set_option maxRecDepth 100000 in
theorem info_fr:(Tryd.prog.info? 42).map (·.size)=some 14:=by kernel_rfl
theorem CellsSt.fuel{C:List Value}{w:World}{B:Nat}{s:St}(h:CellsSt C w B s)(hm:s.mem.length=16)(n:Int):CellsSt (C.set 19 (.int .i64 n)) w B {s with fuel:=n}:=by
 obtain⟨FS,ES,AS,rfl,hr⟩:=h
 exact⟨FS,ES,AS,stS_19 FS ES AS hm n,hr.fr,hr.ev,hr.an,hr.ne⟩
theorem CellsSt.status{C:List Value}{w:World}{B:Nat}{s:St}(h:CellsSt C w B s)(n:Int):CellsSt (C.set 0 (.int .i64 n)) w B {s with status:=n}:=by
 obtain⟨FS,ES,AS,rfl,hr⟩:=h
 exact⟨FS,ES,AS,stS_0 FS ES AS n,hr.fr,hr.ev,hr.an,hr.ne⟩
theorem Sx.setc{wP w:World}{pb:Nat}{pv:Value}{l l' :List (Nat×List Value×St)}(h:Sx wP pb pv w l){b:Nat}{C:List Value}{s:St}(hx:(b,C,s)∈l)(hB:wP.heap.size≤b){i:Nat}{v:Value}{C' :List Value}(hC' :C.set i v=C'){s' :St}(hs:CellsSt C' w wP.heap.size s')(hn:∀x∈l',x∈l∧x.1≠b):
 Sx wP pb pv (w.setCell ⟨b,i,none⟩ v) ((b,C',s')::l'):=by
 have hb:=(h.sts _ hx).1
 have hne:pb≠b:=fun e=>by
  have:=h.pblk
  rw[e,hb] at this
  simp at this
 have key:∀{C1:List Value} {s1:St},CellsSt C1 w wP.heap.size s1→CellsSt C1 (w.setCell ⟨b,i,none⟩ v) wP.heap.size s1:=fun hC1=>by
  obtain⟨FS,ES,AS,h1,h2⟩:=hC1
  exact⟨FS,ES,AS,h1,h2.set hb (by decide) (by decide) i v⟩
 refine⟨h.below.setCell hB _,block_set_ne h.pblk (fun e=>hne e.symm) _ _,fun x hx=> ?_⟩
 rcases List.mem_cons.1 hx with rfl|hx
 ·exact⟨block_put hb hC',key hs⟩
 ·obtain⟨h1,h2⟩:=hn x hx
  exact⟨block_set_ne (h.sts x h1).1 (fun e=>h2 e.symm) _ _,key (h.sts x h1).2⟩
theorem Sx.frozen{wP w:World}{pb:Nat}{pv:Value}{l:List (Nat×List Value×St)}(h:Sx wP pb pv w l){b:Nat}{C:List Value}{s:St}(hx:(b,C,s)∈l)(i:Nat):w.frozen? ⟨b,i,none⟩=false:=frozen_block (h.sts _ hx).1 i
theorem addF_inv{p:List Fnc}{s:St}(h:StInv p s){k:Int}(h0:0≤k)(h1:s.fuel+k≤10000)(he:s.events=[]):StInv p (addF s k):=
 ⟨h.mem,by have:=h.fuel0;show 0≤s.fuel+k;omega,h1,h.stat0,h.stat1,h.val,h.done,h.deep,h.ans,by show(s.events.length:Int)+(s.fuel+k)≤1000000;rw[he];simp;omega,h.fr,h.calls⟩
end Go.Proofs.YtedcjapmmnbamaaDoor
namespace Go.Proofs.YtedcjapmmnbamaaDoor
open Go Go.ChangeShapes Go.WideShapes Go.ChangeAt Go.RowKit Tier
set_option maxRecDepth 100000 in
theorem open_m{H:Type}{enc:TypeId×Value→H}{w:World}{base:Nat}{spare:Nat→Bool}{held:Bool}{r:Reach}{b0:Nat}{v:Value}{d:DataW H}{p:List MemPlace}
 (hv:Value.okWide Tryd.prog w r b0 24 v) (h:DataW.Trod enc Tryd.prog w base spare held 24 v d p):
 ∃A cap l,v= .slice A (List.length l) cap∧IntRow w A l∧((l.length:Int)≤9223372036854775807∧l.length≤cap):=by
 obtain⟨A,cap,l,rfl,hr,hl⟩:=open_n hv h
 obtain⟨fuel,hfu⟩:=h
 exact⟨A,cap,l,rfl,hr,hl,open_cap Tryd.underlying24 hfu⟩
theorem wp_append_ints{w:World}{o:Oper}{a:Act}{K:Act→World→Prop}{Q:Exit→Act→World→Prop}(s x:Operand)
 (ho:o.op= .call {callee:= .builtin .append,args:= #[s,x],argTypes:= #[24,24]}) (base:Nat) (v:Value) (n:Nat) (xs:List Value) (hs:a.eval s=v) (hown:w.ownsRow base 3 1 v n xs)
 (A:Option Addr) (l:List Int) (m c:Nat) (hm:l.length=m) (hx:a.eval x= .slice A m c) (hl:IntsAt w A l) (hn:n+m≤1000000) (hbase:base≤w.heap.size)
 (h:∀v' w',w'.ownsRow base 3 1 v' (n+m) (xs++intsV l)→w.grownBy w' v.ownBlock→K (a.put o.dst v') w'):o.wp Tryd.prog a w K Q:=by
 obtain⟨i0,hi,hz0,hz1,hz2⟩:=info_parts infoIn
 subst hm
 cases A with
 |none=>
  have h0:l=[]:=by
   cases l with
   |nil=>rfl
   |cons y l=>obtain⟨b,o,h1,-⟩:=hl (by simp);cases h1
  subst h0
  have hle:∃A' c',v= .slice A' n c' ∧n≤c' :=by
   rcases hown.2 with⟨rfl,rfl⟩|⟨g,cap,cur,rfl,-,-,hc,-⟩
   ·exact⟨_,_,rfl,Nat.le_refl _⟩
   ·exact⟨_,_,rfl,hc⟩
  obtain⟨A',c',rfl,hc⟩:=hle
  have hr:=run_append_nothing (P:=Tryd.prog) w 24 24 o.type 3 i0 Tryd.underlying24 hi A' n c' hc (.slice none 0 c) (Src.ofNil w Tryd.underlying24 c)
  unfold Oper.wp execOp
  simp only[ho,resolve,invoke,builtin,Sem.run_bind,Sem.run_pure,Result.andThen_ok,List.map_toArray,List.map_cons,List.map_nil,hs,hx,hr,List.length_nil]
  exact h _ w (by simpa [intsV] using hown) ⟨rfl,rfl,rfl,Nat.le_refl _,fun _ _ _=>rfl⟩
 |some ad=>
  refine wp_append_own w s x 24 ho base 3 i0 _ 1 8 Tryd.underlying24 hi hz0 hz1 hz2 rfl (by decide) v n xs hs hown ad l.length c (intsV l) hx (by simp[intsV]) (fun j u hj=> ?_) (fun u hu=>by obtain⟨y,_,rfl⟩:=List.mem_map.1 hu;rfl) (by unfold maxLen;omega) (by omega) hbase fun v' w' h1 h2 _=>h v' w' h1 h2
  have hjl:j<l.length:=by
   have:=(gI.1 hj).1
   simpa [intsV] using this
  obtain⟨b,oo,h1,h2,h3⟩:=hl (by omega)
  obtain rfl:=Option.some.inj h1
  simp only[intsV,List.getElem?_map,gE hjl,Option.map_some,Option.some.injEq] at hj
  subst hj
  rw[Addr.add_lit]
  exact h3 j _ (gE hjl)
theorem own_ints{w:World}{B:Nat}{v:Value}{n:Nat}{l:List Int}(h:w.ownsRow B 3 1 v n (intsV l)):∃A cap,v= .slice A l.length cap∧IntsAt w A l:=by
 have hn:l.length=n:=by have:=h.1;simpa [intsV] using this
 subst hn
 rcases h.2 with⟨rfl,h0⟩|⟨g,cap,cur,rfl,hb,hg,hc,-,hs,ht⟩
 ·exact⟨none,0,by rw[h0],fun hl=>by omega⟩
 ·refine⟨some ⟨g,0,none⟩,cap,rfl,fun _=>⟨g,0,rfl,block_lt hg,fun i x hx=> ?_⟩⟩
  rw[Nat.zero_add,cell_block hg]
  have e:(intsV l)[i]? =some (.int .i64 x):=by simp[intsV,hx]
  rw[←ht,List.getElem?_take] at e
  split at e
  ·rw[←Array.getElem?_toList];exact e
  ·cases e
theorem inSt_more{p:List Fnc}(a0 a1:Int)(ans:List Int)(fuel:Int)(l:List Int):beginSt (inArgs p a0 a1) (ans.take 10++l) (pickedI fuel 300)=addA (inSt p a0 a1 ans fuel) l:=rfl
end Go.Proofs.YtedcjapmmnbamaaDoor
