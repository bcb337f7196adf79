import Derived.Test.YtedcjapmmnbamaaDoorRows
import Derived.WalkKit
import Derived.Deep.Light
import Derived.Lib.Hide
import Derived.Test.YtedcjapmmnbamaaDoorLib
namespace Go.Proofs.YtedcjapmmnbamaaDoor
open Go.RowKit Tier
theorem picked_any(n many:Int)(w:World)(hn:In n)(hm:1≤many)(hm2:many≤9223372036854775807):
 Calls Tryd.prog 14 #[.int .i64 n, .int .i64 many] w fun e w' =>e= .returned (.int .i64 (pickedI n many))∧w=w' :=by
 unfold In at hn
 by_cases h:n<0
 ·go_enter Tryd.func14,Tryd.ntmps14
  go_wp2_with fail
  go_ret
  refine⟨ret_int ?_,rfl⟩
  unfold pickedI
  rw[if_pos h,←Int.tmod_eq_emod_of_nonneg (by omega),Int.neg_tmod]
 ·go_enter Tryd.func14,Tryd.ntmps14
  go_wp2_with fail
  go_ret
  refine⟨ret_int ?_,rfl⟩
  unfold pickedI
  rw[if_neg (by omega)]
def InI(x:Ins):Prop:=In x.op∧In x.dst∧In x.a∧In x.b∧In x.imm
set_option maxRecDepth 100000 in
set_option maxHeartbeats 2000000 in
theorem raw_any(x:Ins)(regs places funcs:Int)(w:World)(hx:InI x)(h1:1≤regs)(h2:regs≤9223372036854775807)(h3:1≤places)(h4:places≤9223372036854775807)(h5:1≤funcs)(h6:funcs≤9223372036854775807):
 Calls Tryd.prog 42 #[.agg #[.int .i64 x.op, .int .i64 x.dst, .int .i64 x.a, .int .i64 x.b, .int .i64 x.imm], .int .i64 regs, .int .i64 places, .int .i64 funcs] w
  fun e w' =>(∃y:Ins,y=rawIns x regs places funcs∧e= .returned (.agg #[.int .i64 y.op, .int .i64 y.dst, .int .i64 y.a, .int .i64 y.b, .int .i64 y.imm]))∧Below w.heap.size w w' :=by
 obtain⟨op,dst,a,b,imm⟩:=x
 obtain⟨x0,x1,x2,x3,x4⟩:=hx
 dsimp only at *
 have p0:=picked_in op 19 (by omega)
 have p1:=picked_in dst regs h1
 have p2:=picked_in a regs h1
 have p3:=picked_in b regs h1
 have p4:=picked_in imm places h3
 have p5:=picked_in imm funcs h5
 have hcase:1+pickedI op 19=1∨(2≤1+pickedI op 19∧1+pickedI op 19≤12)∨1+pickedI op 19=13∨1+pickedI op 19=18∨1+pickedI op 19=14∨1+pickedI op 19=15∨1+pickedI op 19=16∨1+pickedI op 19=17∨1+pickedI op 19=19:=by omega
 obtain⟨k,hk⟩:∃k,pickedI op 19=k:=⟨_,rfl⟩
 have X:∀y,rawIns ⟨op,dst,a,b,imm⟩ regs places funcs=y→rawIns ⟨op,dst,a,b,imm⟩ regs places funcs=y:=fun _ h=>h
 have HX:=Lib.hid (show∀y:Ins,y=(if 1+k=1 then⟨1+k,pickedI dst regs,0,0,imm⟩
  else if 1+k≤12 then⟨1+k,pickedI dst regs,pickedI a regs,pickedI b regs,0⟩
  else if 1+k=13∨1+k=18 then⟨1+k,pickedI dst regs,pickedI a regs,0,0⟩
  else if 1+k=14 then⟨1+k,0,pickedI a regs,pickedI b regs,0⟩
  else if 1+k=15 then⟨1+k,0,0,0,pickedI imm places⟩
  else if 1+k=16 then⟨1+k,0,pickedI a regs,0,pickedI imm places⟩
  else if 1+k=17 then⟨1+k,pickedI dst regs,pickedI a regs,pickedI b regs,pickedI imm funcs⟩
  else⟨1+k,0,pickedI a regs,0,0⟩)→y=rawIns ⟨op,dst,a,b,imm⟩ regs places funcs from fun y h=>by rw[h,←hk];rfl)
 clear X
 rw[hk] at p0 hcase
 rcases hcase with g|g|g|g|g|g|g|g|g
 ·obtain rfl:k=0:=by omega
  go_enter Tryd.func42,Tryd.ntmps42
  go_wp2_with (go_at_call 14;refine(picked_any _ _ _ (by assumption) (by omega) (by omega)).mono ?_;rintro e w' ⟨rfl,rfl⟩)
  refine bodyPost_ret (v:= .agg #[.int .i64 1, .int .i64 (pickedI dst regs), .int .i64 0, .int .i64 0, .int .i64 imm]) (by simp[results,Tryd.results42,go_sem]) rfl ⟨⟨⟨1,(pickedI dst regs),0,0,imm⟩,HX.out _ ?_,rfl⟩,?_⟩
  ·rfl
  ·exact Bq
 ·have HG:=Lib.hid g
  go_enter Tryd.func42,Tryd.ntmps42
  go_wp2_with (go_at_call 14;refine(picked_any _ _ _ (by assumption) (by omega) (by omega)).mono ?_;rintro e w' ⟨rfl,rfl⟩)
  refine bodyPost_ret (v:= .agg #[.int .i64 (1+k), .int .i64 (pickedI dst regs), .int .i64 (pickedI a regs), .int .i64 (pickedI b regs), .int .i64 0]) (by simp[results,Tryd.results42,go_sem]) rfl ⟨⟨⟨(1+k),(pickedI dst regs),(pickedI a regs),(pickedI b regs),0⟩,HX.out _ ?_,rfl⟩,?_⟩
  ·rw[if_neg (by omega),if_pos (by omega)]
  ·exact Bq
 ·obtain rfl:k=12:=by omega
  go_enter Tryd.func42,Tryd.ntmps42
  go_wp2_with (go_at_call 14;refine(picked_any _ _ _ (by assumption) (by omega) (by omega)).mono ?_;rintro e w' ⟨rfl,rfl⟩)
  refine bodyPost_ret (v:= .agg #[.int .i64 13, .int .i64 (pickedI dst regs), .int .i64 (pickedI a regs), .int .i64 0, .int .i64 0]) (by simp[results,Tryd.results42,go_sem]) rfl ⟨⟨⟨13,(pickedI dst regs),(pickedI a regs),0,0⟩,HX.out _ ?_,rfl⟩,?_⟩
  ·rfl
  ·exact Bq
 ·obtain rfl:k=17:=by omega
  go_enter Tryd.func42,Tryd.ntmps42
  go_wp2_with (go_at_call 14;refine(picked_any _ _ _ (by assumption) (by omega) (by omega)).mono ?_;rintro e w' ⟨rfl,rfl⟩)
  refine bodyPost_ret (v:= .agg #[.int .i64 18, .int .i64 (pickedI dst regs), .int .i64 (pickedI a regs), .int .i64 0, .int .i64 0]) (by simp[results,Tryd.results42,go_sem]) rfl ⟨⟨⟨18,(pickedI dst regs),(pickedI a regs),0,0⟩,HX.out _ ?_,rfl⟩,?_⟩
  ·rfl
  ·exact Bq
 ·obtain rfl:k=13:=by omega
  go_enter Tryd.func42,Tryd.ntmps42
  go_wp2_with (go_at_call 14;refine(picked_any _ _ _ (by assumption) (by omega) (by omega)).mono ?_;rintro e w' ⟨rfl,rfl⟩)
  refine bodyPost_ret (v:= .agg #[.int .i64 14, .int .i64 0, .int .i64 (pickedI a regs), .int .i64 (pickedI b regs), .int .i64 0]) (by simp[results,Tryd.results42,go_sem]) rfl ⟨⟨⟨14,0,(pickedI a regs),(pickedI b regs),0⟩,HX.out _ ?_,rfl⟩,?_⟩
  ·rfl
  ·exact Bq
 ·obtain rfl:k=14:=by omega
  go_enter Tryd.func42,Tryd.ntmps42
  go_wp2_with (go_at_call 14;refine(picked_any _ _ _ (by assumption) (by omega) (by omega)).mono ?_;rintro e w' ⟨rfl,rfl⟩)
  refine bodyPost_ret (v:= .agg #[.int .i64 15, .int .i64 0, .int .i64 0, .int .i64 0, .int .i64 (pickedI imm places)]) (by simp[results,Tryd.results42,go_sem]) rfl ⟨⟨⟨15,0,0,0,(pickedI imm places)⟩,HX.out _ ?_,rfl⟩,?_⟩
  ·rfl
  ·exact Bq
 ·obtain rfl:k=15:=by omega
  go_enter Tryd.func42,Tryd.ntmps42
  go_wp2_with (go_at_call 14;refine(picked_any _ _ _ (by assumption) (by omega) (by omega)).mono ?_;rintro e w' ⟨rfl,rfl⟩)
  refine bodyPost_ret (v:= .agg #[.int .i64 16, .int .i64 0, .int .i64 (pickedI a regs), .int .i64 0, .int .i64 (pickedI imm places)]) (by simp[results,Tryd.results42,go_sem]) rfl ⟨⟨⟨16,0,(pickedI a regs),0,(pickedI imm places)⟩,HX.out _ ?_,rfl⟩,?_⟩
  ·rfl
  ·exact Bq
 ·obtain rfl:k=16:=by omega
  go_enter Tryd.func42,Tryd.ntmps42
  go_wp2_with (go_at_call 14;refine(picked_any _ _ _ (by assumption) (by omega) (by omega)).mono ?_;rintro e w' ⟨rfl,rfl⟩)
  refine bodyPost_ret (v:= .agg #[.int .i64 17, .int .i64 (pickedI dst regs), .int .i64 (pickedI a regs), .int .i64 (pickedI b regs), .int .i64 (pickedI imm funcs)]) (by simp[results,Tryd.results42,go_sem]) rfl ⟨⟨⟨17,(pickedI dst regs),(pickedI a regs),(pickedI b regs),(pickedI imm funcs)⟩,HX.out _ ?_,rfl⟩,?_⟩
  ·rfl
  ·exact Bq
 ·obtain rfl:k=18:=by omega
  go_enter Tryd.func42,Tryd.ntmps42
  go_wp2_with (go_at_call 14;refine(picked_any _ _ _ (by assumption) (by omega) (by omega)).mono ?_;rintro e w' ⟨rfl,rfl⟩)
  refine bodyPost_ret (v:= .agg #[.int .i64 19, .int .i64 0, .int .i64 (pickedI a regs), .int .i64 0, .int .i64 0]) (by simp[results,Tryd.results42,go_sem]) rfl ⟨⟨⟨19,0,(pickedI a regs),0,0⟩,HX.out _ ?_,rfl⟩,?_⟩
  ·rfl
  ·exact Bq
end Go.Proofs.YtedcjapmmnbamaaDoor
namespace Tier
open Go Go.RowKit
theorem flat_get{α:Type}(f:α→List Value)(k:Nat):∀(l:List α),(∀x∈l,(f x).length=k)→∀i j,j<k→(l.flatMap f)[i*k+j]? =(l[i]?).bind fun x=>(f x)[j]?
 |[],_,i,j,_=>by simp
 |x::l,h,0,j,hj=>by
  have:=h x (by simp)
  simp only[List.flatMap_cons,Nat.zero_mul,Nat.zero_add,List.getElem?_cons_zero,Option.bind_some]
  rw[List.getElem?_append_left (by omega)]
 |x::l,h,i+1,j,hj=>by
  have:=h x (by simp)
  rw[List.flatMap_cons,List.getElem?_append_right (by rw[Nat.add_mul];omega),this,show(i+1)*k+j-k=i*k+j by rw[Nat.add_mul];omega]
  rw[flat_get f k l (fun y hy=>h y (by simp[hy])) i j hj]
  simp
theorem own_below{w w' :World}{base:Nat}{e:TypeId}{size:Nat}{v:Value}{n:Nat}{xs:List Value}(h:w.ownsRow base e size v n xs)(hb:Below w.heap.size w w'):w'.ownsRow base e size v n xs:=by
 obtain⟨h1,h2⟩:=h
 refine⟨h1,?_⟩
 rcases h2 with h2|⟨g,cap,cur,hv,hg,hh,r⟩
 ·exact .inl h2
 ·refine .inr ⟨g,cap,cur,hv,hg,?_,r⟩
  rw[hb.block g (by
   rcases Nat.lt_or_ge g w.heap.size with h|h
   ·exact h
   ·rw[Array.getElem?_eq_none h] at hh;cases hh)]
  exact hh
theorem own_slice{w:World}{base:Nat}{e:TypeId}{size:Nat}{v:Value}{n:Nat}{xs:List Value}(h:w.ownsRow base e size v n xs):
 ∃A cap,v= .slice A n cap∧(0<n→∃g,A=some ⟨g,0,none⟩∧g<w.heap.size∧∀j,j<n*size→w.cell? ⟨g,j,none⟩=xs[j]?):=by
 rcases h.2 with⟨rfl,rfl⟩|⟨g,cap,cur,rfl,hg,hh,hn,hc,hs,ht⟩
 ·exact⟨none,0,rfl,by omega⟩
 ·refine⟨_,cap,rfl,fun _=>⟨g,rfl,?_,fun j hj=>World.ownsRow.cellAt h j hj⟩⟩
  rcases Nat.lt_or_ge g w.heap.size with h|h
  ·exact h
  ·rw[Array.getElem?_eq_none h] at hh;cases hh
def fnCells(p:List Fnc)(vs:List Value):List Value:=(p.zip vs).flatMap fun x=>[.int .i64 x.1.params, .int .i64 x.1.regs,x.2]
def firstE(l:List Int):Int:=(l.find? (· !=0)).getD 0
def fnE(f:Fnc)(funcs:Int):Int:=
 if wi f.regs 1 12=false∨wi f.params 0 (if f.regs<2 then f.regs else 2)=false then 2 else if f.code.length<1∨40<f.code.length then 1
 else firstE (f.code.map fun x=>insE x f.regs f.code.length funcs)
def progE(p:List Fnc):Int:=if p.length<1∨4<p.length then 1 else firstE (p.map fun f=>fnE f p.length)
theorem fnE_regs{f:Fnc}{n:Int}(h:wi f.regs 1 12=false∨wi f.params 0 (if f.regs<2 then f.regs else 2)=false):fnE f n=2:=if_pos h
theorem fnE_size{f:Fnc}{n:Int}(h:wi f.regs 1 12=true)(h' :wi f.params 0 (if f.regs<2 then f.regs else 2)=true)(k:f.code.length<1∨40<f.code.length):fnE f n=1:=by
 unfold fnE;rw[if_neg (by simp[h,h']),if_pos k]
theorem fnE_code{f:Fnc}{n:Int}(h:wi f.regs 1 12=true)(h' :wi f.params 0 (if f.regs<2 then f.regs else 2)=true)(k:¬f.code.length<1)(k' :¬40<f.code.length):fnE f n=firstE (f.code.map fun x=>insE x f.regs f.code.length n):=by
 unfold fnE;rw[if_neg (by simp[h,h']),if_neg (by omega)]
theorem firstE_cons(x:Int)(l:List Int):firstE (x::l)=if x≠0 then x else firstE l:=by
 unfold firstE;rw[List.find?_cons]
 by_cases h:x=0
 ·subst h;simp
 ·have h' :(x !=0)=true:=by simpa using h
  rw[h',if_pos h];rfl
theorem firstE_at{l:List Int}:∀{k:Nat} {x:Int},l[k]? =some x→x≠0→(∀j,j<k→l[j]? =some 0)→firstE l=x:=by
 induction l with
 |nil=>intro k x h;simp at h
 |cons y l ih=>
  intro k x h hx hj
  rw[firstE_cons]
  cases k with
  |zero=>simp at h;subst h;rw[if_pos hx]
  |succ k=>
   have h0:=hj 0 (by omega)
   simp at h0;subst h0
   rw[if_neg (by simp)]
   exact ih (by simpa using h) hx fun j hjk=>by simpa using hj (j+1) (by omega)
theorem firstE_zero{l:List Int}:(∀j,j<l.length→l[j]? =some 0)→firstE l=0:=by
 induction l with
 |nil=>intro _;rfl
 |cons y l ih=>
  intro h
  have h0:=h 0 (by simp)
  simp at h0;subst h0
  rw[firstE_cons,if_neg (by simp)]
  exact ih fun j hj=>by simpa using h (j+1) (by simpa using hj)
end Tier
namespace Go.Proofs.YtedcjapmmnbamaaDoor
open Go.RowKit Tier
def CodeAt(w:World)(v:Value)(l:List Ins):Prop:=∃base,w.ownsRow base 58 5 v l.length (codeCells l)
def ProgAt(w:World)(v:Value)(p:List Fnc):Prop:=
 ∃(base:Nat) (vs:List Value),vs.length=p.length∧w.ownsRow base 60 3 v p.length (fnCells p vs)∧∀(i:Nat) (u:Value) (f:Fnc),vs[i]? =some u→p[i]? =some f→CodeAt w u f.code
theorem CodeAt.keeps{w w' :World}{v:Value}{l:List Ins}(h:CodeAt w v l)(hb:Below w.heap.size w w'):CodeAt w' v l:=⟨h.choose,own_below h.choose_spec hb⟩
theorem ProgAt.keeps{w w' :World}{v:Value}{p:List Fnc}(h:ProgAt w v p)(hb:Below w.heap.size w w'):ProgAt w' v p:=by
 obtain⟨base,vs,h1,h2,h3⟩:=h
 exact⟨base,vs,h1,own_below h2 hb,fun i u f hu hf=>(h3 i u f hu hf).keeps hb⟩
theorem CodeAt.slice{w:World}{v:Value}{l:List Ins}(h:CodeAt w v l):
 ∃A cap,v= .slice A l.length cap∧(0<l.length→∃g,A=some ⟨g,0,none⟩∧g<w.heap.size∧∀(i:Nat) (x:Ins),l[i]? =some x→
  w.cell? ⟨g,i*5,none⟩=some (.int .i64 x.op)∧w.cell? ⟨g,i*5+1,none⟩=some (.int .i64 x.dst)∧w.cell? ⟨g,i*5+2,none⟩=some (.int .i64 x.a)∧w.cell? ⟨g,i*5+3,none⟩=some (.int .i64 x.b)∧w.cell? ⟨g,i*5+4,none⟩=some (.int .i64 x.imm)):=by
 obtain⟨base,h⟩:=h
 obtain⟨A,cap,hv,hA⟩:=own_slice h
 refine⟨A,cap,hv,fun hl=> ?_⟩
 obtain⟨g,h1,h2,h3⟩:=hA hl
 refine⟨g,h1,h2,fun i x hx=> ?_⟩
 have hi:i<l.length:=by
  rcases Nat.lt_or_ge i l.length with h|h
  ·exact h
  ·rw[List.getElem?_eq_none h] at hx;cases hx
 have key:∀j,j<5→w.cell? ⟨g,i*5+j,none⟩=x.cells[j]? :=fun j hj=>by
  rw[h3 _ (by omega),codeCells,flat_get Ins.cells 5 l (fun _ _=>rfl) i j hj,hx];rfl
 exact⟨key 0 (by omega),key 1 (by omega),key 2 (by omega),key 3 (by omega),key 4 (by omega)⟩
theorem ProgAt.slice{w:World}{v:Value}{p:List Fnc}(h:ProgAt w v p):
 ∃A cap,v= .slice A p.length cap∧(0<p.length→∃g,A=some ⟨g,0,none⟩∧g<w.heap.size∧∀(i:Nat) (f:Fnc),p[i]? =some f→
  ∃u,CodeAt w u f.code∧w.cell? ⟨g,i*3,none⟩=some (.int .i64 f.params)∧w.cell? ⟨g,i*3+1,none⟩=some (.int .i64 f.regs)∧w.cell? ⟨g,i*3+2,none⟩=some u):=by
 obtain⟨base,vs,hvs,h,hc⟩:=h
 obtain⟨A,cap,hv,hA⟩:=own_slice h
 refine⟨A,cap,hv,fun hl=> ?_⟩
 obtain⟨g,h1,h2,h3⟩:=hA hl
 refine⟨g,h1,h2,fun i f hf=> ?_⟩
 have hi:i<p.length:=by
  rcases Nat.lt_or_ge i p.length with h|h
  ·exact h
  ·rw[List.getElem?_eq_none h] at hf;cases hf
 have hu:vs[i]? =some (vs[i]'(by omega)):=gE (by omega)
 have key:∀j,j<3→w.cell? ⟨g,i*3+j,none⟩=[Value.int .i64 f.params, .int .i64 f.regs,vs[i]'(by omega)][j]? :=fun j hj=>by
  rw[h3 _ (by omega),fnCells,flat_get _ 3 (p.zip vs) (fun _ _=>rfl) i j hj]
  have hz:(p.zip vs)[i]? =some (f,vs[i]'(by omega)):=by rw[List.getElem?_zip_eq_some];exact⟨hf,hu⟩
  rw[hz];rfl
 exact⟨_,hc i _ f hu hf,key 0 (by omega),key 1 (by omega),key 2 (by omega)⟩
theorem within_any(n lo hi:Int)(w:World):Calls Tryd.prog 73 #[.int .i64 n, .int .i64 lo, .int .i64 hi] w fun e w' =>e= .returned (.bool (wi n lo hi))∧w=w' :=by
 go_enter Tryd.func73,Tryd.ntmps73
 go_wp2_with fail
 all_goals go_ret
 all_goals (refine⟨?_,rfl⟩;go_light;simp_all [wi];try omega)
theorem reg_any(n is regs:Int)(w:World)(h0: -4611686018427387904≤regs)(h1:regs≤4611686018427387904):Calls Tryd.prog 92 #[.int .i64 n, .int .i64 is, .int .i64 regs] w fun e w' =>e= .returned (.bool (regB n is regs))∧w=w' :=by
 by_cases h:is=0
 ·have X:=Lib.hid (show regB n is regs=(n==0) from if_pos h)
  have h' :(is==0)=true:=by simpa using h
  clear h
  go_enter Tryd.func92,Tryd.ntmps92
  go_wp2_with (go_at_call 73;refine(within_any _ _ _ _).mono ?_;rintro e w' ⟨rfl,rfl⟩)
  go_ret
  exact⟨by rw[X.out];rfl,rfl⟩
 ·have X:=Lib.hid (show regB n is regs=wi n 0 (regs-1) from if_neg h)
  have h' :(is==0)=false:=by simpa using h
  clear h
  go_enter Tryd.func92,Tryd.ntmps92
  go_wp2_with (go_at_call 73;refine(within_any _ _ _ _).mono ?_;rintro e w' ⟨rfl,rfl⟩)
  go_ret
  exact⟨by rw[X.out];rfl,rfl⟩
set_option maxRecDepth 100000 in
set_option maxHeartbeats 2000000 in
theorem ins_core(op:Nat)(dst a b imm params regs:Int)(cb:Option Addr)(n cap:Nat)(funcs h:Int)(w:World)(hz:0<w.heap.size)(hop:(1:Int)≤op)(hop2:(op:Int)≤19)
 (hr0: -4611686018427387904≤regs) (hr1:regs≤4611686018427387904) (hf0:0≤funcs) (hf1:funcs≤4611686018427387904) (hn:(n:Int)≤4611686018427387904)
 (c0:w.cell? ⟨0,op,none⟩=some (.int .i64 h)) (hh:h=hasOf op):
 Calls Tryd.prog 74 #[.agg #[.int .i64 op, .int .i64 dst, .int .i64 a, .int .i64 b, .int .i64 imm], .agg #[.int .i64 params, .int .i64 regs, .slice cb n cap], .int .i64 funcs] w
  fun e w' =>e= .returned (.int .i64 (insE ⟨op,dst,a,b,imm⟩ regs n funcs))∧Below w.heap.size w w' :=by
 have hw:wi op 1 19=true:=by simp[wi];omega
 have X:=Lib.hid (show insE ⟨op,dst,a,b,imm⟩ regs n funcs=insH h ⟨op,dst,a,b,imm⟩ regs n funcs by unfold insE;rw[if_neg (by simp[hw]),hh];rfl)
 clear hh
 have hz0:0<w.heap.size:=by omega
 go_enter Tryd.func74,Tryd.ntmps74
 go_wp2_with (first|(go_at_call 73;refine(within_any _ _ _ _).mono ?_;rintro e w' ⟨rfl,rfl⟩)|(go_at_call 92;refine(reg_any _ _ _ _ (by omega) (by omega)).mono ?_;rintro e w' ⟨rfl,rfl⟩))
 all_goals go_ret
 all_goals (refine⟨ret_int ?_,?_⟩)
 all_goals first|(rw[X.out];unfold insH;clear X;go_light;simp_all;done)|skip
 all_goals first|((exact Bq);done)|skip
 all_goals (rw[X.out];unfold insH;clear X;go_light;simp_all)
theorem ins_any(x:Ins)(params regs:Int)(A:Option Addr)(n cap:Nat)(funcs:Int)(w:World)(ht:Tab w)
 (hr0: -4611686018427387904≤regs) (hr1:regs≤4611686018427387904) (hf0:0≤funcs) (hf1:funcs≤4611686018427387904) (hn:(n:Int)≤4611686018427387904):
 Calls Tryd.prog 74 #[.agg #[.int .i64 x.op, .int .i64 x.dst, .int .i64 x.a, .int .i64 x.b, .int .i64 x.imm], .agg #[.int .i64 params, .int .i64 regs, .slice A n cap], .int .i64 funcs] w
  fun e w' =>e= .returned (.int .i64 (insE x regs n funcs))∧Below w.heap.size w w' :=by
 obtain⟨op,dst,a,b,imm⟩:=x
 dsimp only
 by_cases h:wi op 1 19=true
 ·have h1:1≤op∧op≤19:=by simpa [wi] using h
  obtain⟨k,rfl⟩:=Int.eq_ofNat_of_zero_le (show 0≤op by omega)
  exact ins_core k dst a b imm params regs A n cap funcs _ w ht.size h1.1 h1.2 hr0 hr1 hf0 hf1 hn (ht.has k (by omega)) rfl
 ·have h' :wi op 1 19=false:=by simpa using h
  have X:=Lib.hid (show insE ⟨op,dst,a,b,imm⟩ regs n funcs=3 from if_pos h')
  clear ht h
  go_enter Tryd.func74,Tryd.ntmps74
  go_wp2_with (go_at_call 73;refine(within_any _ _ _ _).mono ?_;rintro e w' ⟨rfl,rfl⟩)
  go_ret
  refine⟨ret_int X.out.symm,?_⟩
  exact Bq
set_option maxRecDepth 100000 in
set_option maxHeartbeats 4000000 in
theorem check_any(p:List Fnc)(v:Value)(w:World)(ht:Tab w)(hp:ProgAt w v p)(hl:(p.length:Int)≤4611686018427387904)(hcl:∀f∈p,(f.code.length:Int)≤4611686018427387904):
 Calls Tryd.prog 43 #[.agg #[v]] w fun e w' =>e= .returned (.int .i64 (progE p))∧Below w.heap.size w w' :=by
 obtain⟨A,cap,rfl,hA⟩:=hp.slice
 have HA:=Lib.hid hA
 have HT:=Lib.hid ht
 have HCL:=Lib.hid hcl
 clear hA ht hcl hp
 by_cases h0:(p.length:Int)<1
 ·have X:=Lib.hid (show progE p=1 from if_pos (.inl (by omega)))
  go_enter Tryd.func43,Tryd.ntmps43
  go_wp2_with fail
  go_ret
  refine⟨ret_int X.out.symm,?_⟩
  exact Bq
 ·by_cases h1:(4:Int)<p.length
  ·have X:=Lib.hid (show progE p=1 from if_pos (.inr (by omega)))
   go_enter Tryd.func43,Tryd.ntmps43
   go_wp2_with fail
   go_ret
   refine⟨ret_int X.out.symm,?_⟩
   exact Bq
  ·have X:=Lib.hid (show progE p=firstE (p.map fun f=>fnE f p.length) from if_neg (by omega))
   obtain⟨g,rfl,hg,hfn⟩:=HA.out (by omega)
   have HF:=Lib.hid hfn
   clear hfn HA hl
   generalize hN:p.length=N at *
   have HN:=Lib.hid hN
   clear hN
   go_enter Tryd.func43,Tryd.ntmps43
   go_wp2_with fail
   go_loopw [21] (fun i wr=>∃k:Nat,k≤N∧i= .int .i64 k∧(∀j,j<k→(p.map fun f=>fnE f N)[j]? =some 0)∧Below (w.heap.size+1) (w.alloc (.cells #[.slice (some ⟨g,0,none⟩) N cap] 29)) wr) (fun i _=>N-(intOf i).toNat)
   case atStart=>exact⟨0,by omega,rfl,by omega,Below.refl _ _⟩
   case round=>
    obtain⟨k,hk,rfl,hj,hb⟩:=hrel
    have HJ:=Lib.hid hj
    have HB:=Lib.hid hb
    have hb0:Below w.heap.size w wr:=((Below.refl _ _).alloc (Nat.le_refl _) _).trans (hb.mono (by omega))
    obtain⟨r0,z0⟩:=aft (W:=w.alloc (.cells #[.slice (some ⟨g,0,none⟩) N cap] 29)) (by simpa using hb) (b:=w.heap.size) (by simp)
    have HB0:=Lib.hid hb0
    clear hj hb hb0
    by_cases hkN:k=N
    ·subst hkN
     go_wp2_with fail
     go_ret
     refine⟨ret_int ?_,HB0.out⟩
     rw[X.out]
     exact(firstE_zero fun j hj=>HJ.out j (by simpa [HN.out] using hj)).symm
    ·have hkN' :(k:Int)<N:=by omega
     have hgz:g<wr.heap.size:=Nat.lt_of_lt_of_le hg HB0.out.size
     obtain⟨f,hf⟩:∃f,p[k]? =some f:=⟨p[k]'(by have:=HN.out;omega),gE _⟩
     have HFk:=Lib.hid hf
     obtain⟨u,hu,c0,c1,c2⟩:=HF.out k f hf
     rw[←HB0.out.cell (p:=⟨g,_,none⟩) hg] at c0 c1 c2
     obtain⟨CA,ccap,rfl,hCA⟩:=hu.slice
     have HCA:=Lib.hid hCA
     have hfl:=HCL.out f (gM hf)
     have HE:=Lib.hid (show(p.map fun f=>fnE f N)[k]? =some (fnE f N) by simp[hf])
     clear hf hCA hu hkN
     obtain⟨fp,fr,fc⟩:=f
     dsimp only at *
     obtain⟨lim,hlim⟩:∃l,(if fr<2 then fr else 2)=l:=⟨_,rfl⟩
     have HL:=Lib.hid hlim
     by_cases q1:wi fr 1 12=true
     ·by_cases q2:wi fp 0 lim=true
      ·by_cases q3:(fc.length:Int)<1
       ·have Z:=Lib.hid (show fnE ⟨fp,fr,fc⟩ N=1 from fnE_size q1 (by rw[hlim];exact q2) (.inl (show fc.length<1 by omega)))
        have Y:=Lib.hid (show progE p=1 from X.out.trans (firstE_at HE.out (by rw[show fnE ⟨fp,fr,fc⟩ N=1 from Z.out];decide) HJ.out|>.trans (Z.out)))
        go_wp2_with (go_at_call 73;refine(within_any _ _ _ _).mono ?_;rintro e w' ⟨rfl,rfl⟩)
        go_ret
        refine⟨ret_int Y.out.symm,?_⟩
        have hb:=HB0.out
        exact Bq
       ·by_cases q4:(40:Int)<fc.length
        ·have Z:=Lib.hid (show fnE ⟨fp,fr,fc⟩ N=1 from fnE_size q1 (by rw[hlim];exact q2) (.inr (show 40<fc.length by omega)))
         have Y:=Lib.hid (show progE p=1 from X.out.trans (firstE_at HE.out (by rw[show fnE ⟨fp,fr,fc⟩ N=1 from Z.out];decide) HJ.out|>.trans (Z.out)))
         go_wp2_with (go_at_call 73;refine(within_any _ _ _ _).mono ?_;rintro e w' ⟨rfl,rfl⟩)
         go_ret
         refine⟨ret_int Y.out.symm,?_⟩
         have hb:=HB0.out
         exact Bq
        ·have Z:=Lib.hid (show fnE ⟨fp,fr,fc⟩ N=firstE (fc.map fun x=>insE x fr fc.length N) from fnE_code q1 (by rw[hlim];exact q2) (show¬fc.length<1 by omega) (show¬40<fc.length by omega))
         obtain⟨gc,rfl,hgc,hins⟩:=HCA.out (by omega)
         have HI:=Lib.hid hins
         have HFR:=Lib.hid (show 1≤fr∧fr≤12 by simpa [wi] using q1)
         clear hins HCA
         generalize hM:fc.length=M at *
         have HM:=Lib.hid hM
         clear hM
         go_wp2_with (go_at_call 73;refine(within_any _ _ _ _).mono ?_;rintro e w' ⟨rfl,rfl⟩)
         obtain⟨wo,hwo⟩:∃wo:World,wo=wr:=⟨_,rfl⟩
         subst hwo
         go_loopw [51] (fun i wi=>∃m:Nat,m≤M∧i= .int .i64 m∧(∀j,j<m→(fc.map fun x=>insE x fr M N)[j]? =some 0)∧Below (wo.heap.size+1) (wo.alloc (.cells #[.int .i64 fp, .int .i64 fr, .slice (some ⟨gc,0,none⟩) M ccap] 60)) wi) (fun i _=>M-(intOf i).toNat)
         case atStart=>exact⟨0,by omega,rfl,by omega,Below.refl _ _⟩
         case round=>
          obtain⟨m,hm,rfl,hj2,hb2⟩:=hrel
          have HJ2:=Lib.hid hj2
          have hbo:Below wo.heap.size wo wr:=((Below.refl _ _).alloc (Nat.le_refl _) _).trans (hb2.mono (by omega))
          obtain⟨s0,y0⟩:=aft (W:=wo.alloc (.cells #[.int .i64 fp, .int .i64 fr, .slice (some ⟨gc,0,none⟩) M ccap] 60)) (by simpa using hb2) (b:=wo.heap.size) (by simp)
          obtain⟨s1,y1⟩:=aft hbo z0
          have HB2:=Lib.hid hbo
          have HB2' :=Lib.hid hb2
          clear hj2 hb2 hbo
          by_cases hmM:m=M
          ·subst hmM
           go_wp2_with fail
           go_roundw
           case rel=>
            refine⟨k+1,by omega,by go_num,?_,?_⟩
            ·intro j hj
             by_cases hjk:j=k
             ·subst hjk
              rw[HE.out,Z.out,firstE_zero]
              intro j hj
              exact HJ2.out j (by simpa [HM.out] using hj)
             ·exact HJ.out j (by omega)
            ·exact HB.out.trans (HB2.out.mono (by omega))
           case measure=>simp[intOf];omega
          ·have hmM' :(m:Int)<M:=by omega
           obtain⟨x,hx⟩:∃x,fc[m]? =some x:=⟨fc[m]'(by have:=HM.out;omega),gE _⟩
           obtain⟨d0,d1,d2,d3,d4⟩:=HI.out m x hx
           rw[←(bthen HB0.out HB2.out).cell (p:=⟨gc,_,none⟩) hgc] at d0 d1 d2 d3 d4
           have hgz2:gc<wr.heap.size:=Nat.lt_of_lt_of_le hgc (bthen HB0.out HB2.out).size
           have HE2:=Lib.hid (show(fc.map fun x=>insE x fr M N)[m]? =some (insE x fr M N) by simp[hx])
           clear hx hmM
           go_wp2_with fail
           refine(ins_any x fp fr _ M ccap N _ ((HT.out.keeps (bthen HB0.out HB2.out)).alloc _) (by have:=HFR.out;omega) (by have:=HFR.out;omega) (by omega) (by omega) (by omega)).mono ?_
           rintro e w2 ⟨rfl,hb3⟩
           obtain⟨s2,y2⟩:=aft hb3 (b:=w.heap.size) (by simp;omega)
           obtain⟨s3,y3⟩:=aft hb3 (b:=wo.heap.size) (by simp;omega)
           have HB3:=Lib.hid (show Below wr.heap.size wr w2 from((Below.refl _ _).alloc (Nat.le_refl _) _).trans (hb3.mono (by simp)))
           clear hb3
           by_cases hE:insE x fr M N=0
           ·have HZ:=Lib.hid hE
            rw[hE]
            clear hE
            go_wp2_with fail
            go_roundw
            case rel=>
             refine⟨m+1,by omega,by go_num,?_,?_⟩
             ·intro j hj
              by_cases hjk:j=m
              ·subst hjk
               rw[HE2.out,HZ.out]
              ·exact HJ2.out j (by omega)
             ·exact HB2'.out.trans (HB3.out.mono (by omega))
            case measure=>simp[intOf];omega
           ·have hE' :(insE x fr M N==0)=false:=by simpa using hE
            have Y:=Lib.hid (show progE p=insE x fr M N from X.out.trans ((firstE_at HE.out (by rw[Z.out,firstE_at HE2.out hE HJ2.out];exact hE) HJ.out).trans (by rw[Z.out,firstE_at HE2.out hE HJ2.out])))
            clear hE
            go_wp2_with fail
            go_ret
            refine⟨ret_int Y.out.symm,?_⟩
            exact bthen (bthen HB0.out HB2.out) HB3.out
      ·have Z:=Lib.hid (show fnE ⟨fp,fr,fc⟩ N=2 from fnE_regs (.inr (by rw[hlim];simpa using q2)))
       have Y:=Lib.hid (show progE p=2 from X.out.trans (firstE_at HE.out (by rw[show fnE ⟨fp,fr,fc⟩ N=2 from Z.out];decide) HJ.out|>.trans (Z.out)))
       go_wp2_with (go_at_call 73;refine(within_any _ _ _ _).mono ?_;rintro e w' ⟨rfl,rfl⟩)
       go_ret
       refine⟨ret_int Y.out.symm,?_⟩
       have hb:=HB0.out
       exact Bq
     ·have Z:=Lib.hid (show fnE ⟨fp,fr,fc⟩ N=2 from fnE_regs (.inl (by simpa using q1)))
      have Y:=Lib.hid (show progE p=2 from X.out.trans (firstE_at HE.out (by rw[show fnE ⟨fp,fr,fc⟩ N=2 from Z.out];decide) HJ.out|>.trans (Z.out)))
      go_wp2_with (go_at_call 73;refine(within_any _ _ _ _).mono ?_;rintro e w' ⟨rfl,rfl⟩)
      go_ret
      refine⟨ret_int Y.out.symm,?_⟩
      have hb:=HB0.out
      exact Bq
end Go.Proofs.YtedcjapmmnbamaaDoor
