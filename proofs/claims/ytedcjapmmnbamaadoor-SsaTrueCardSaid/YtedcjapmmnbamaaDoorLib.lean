/-
  Plain facts on 64-bit numbers: what Go's int arithmetic comes to as bit vectors of 64 bits. No program is in sight.
-/
import Derived.WalkKit
import Derived.Deep.Draws
import Derived.ProofKit
import Derived.LaidMore
import Derived.OpenShut
import Derived.Stop.Joined
import Derived.Below
import Derived.Carry
import Derived.ChangeSame
namespace Tier
open Go Go.RowKit
abbrev V(n:Int):BitVec 64:=BitVec.ofInt 64 n
theorem wrap64_toInt(n:Int):wrap64 n=(V n).toInt:=by
 rw[BitVec.toInt_ofInt];unfold wrap64 Int.bmod;simp only[Nat.reducePow];omega
theorem wrap_toInt(r:BitVec 64):IntKind.i64.wrap (r.toNat:Int)=r.toInt:=by
 rw[IntKind.wrap_i64,BitVec.toInt_eq_toNat_cond]
 have:=r.isLt
 split<;>omega
theorem bits_and(x y:Int):bits .and .i64 x y=(V x&&&V y).toInt:=wrap_toInt _
theorem bits_or(x y:Int):bits .or .i64 x y=(V x|||V y).toInt:=wrap_toInt _
theorem bits_xor(x y:Int):bits .xor .i64 x y=(V x^^^V y).toInt:=wrap_toInt _
theorem bits_andNot(x y:Int):bits .andNot .i64 x y=(V x&&& ~~~ V y).toInt:=wrap_toInt _
def In(n:Int):Prop:= -9223372036854775808≤n∧n≤9223372036854775807
theorem In.v{n:Int}(h:In n):(V n).toInt=n:=by
 rw[BitVec.toInt_ofInt];unfold In at h;unfold Int.bmod;simp only[Nat.reducePow];omega
theorem in_toInt(x:BitVec 64):In x.toInt:=by
 have:=x.toInt_lt;have:=x.le_toInt;unfold In;simp at *;omega
theorem V_toInt(x:BitVec 64):V x.toInt=x:=BitVec.ofInt_toInt
theorem V_inj{a b:Int}(ha:In a)(hb:In b)(h:V a=V b):a=b:=by
 rw[←ha.v,←hb.v,h]
theorem in_of_wf{n:Int}(h:(Lit.int .i64 n).wf=true):In n:=by
 simp[Lit.wf,IntKind.min,IntKind.max,IntKind.signed,IntKind.bits] at h
 exact h
theorem V_add(a b:Int):V (a+b)=V a+V b:=BitVec.ofInt_add ..
theorem V_mul(a b:Int):V (a*b)=V a*V b:=BitVec.ofInt_mul ..
theorem V_neg(a:Int):V (-a)= - V a:=by simp[V,BitVec.ofInt_neg]
theorem V_sub(a b:Int):V (a-b)=V a-V b:=by rw[Int.sub_eq_add_neg,V_add,V_neg,BitVec.sub_eq_add_neg]
theorem and63(b:Int):bits .and .i64 b 63=b % 64:=by
 rw[bits_and]
 have h:(V b&&&V 63)=V (b % 64):=by
  apply BitVec.eq_of_toNat_eq
  rw[BitVec.toNat_and]
  have h1:(V 63).toNat=2^6-1:=by decide
  rw[h1,Nat.and_two_pow_sub_one_eq_mod,BitVec.toNat_ofInt,BitVec.toNat_ofInt]
  simp only[Nat.reducePow];omega
 rw[h];exact In.v (by unfold In;omega)
theorem nat_and_add_or:∀(n x y:Nat),x<2^n→(x&&&y)+(x|||y)=x+y:=by
 intro n
 induction n with
 |zero=>intro x y h;have:x=0:=by simpa using h
        subst this;simp
 |succ n ih=>
  intro x y h
  have h1:=ih (x / 2) (y / 2) (by rw[Nat.pow_succ] at h;omega)
  rw[←Nat.and_div_two,←Nat.or_div_two] at h1
  have h2:(x&&&y) % 2+(x|||y) % 2=x % 2+y % 2:=by
   have a:=Nat.and_mod_two_pow (a:=x) (b:=y) (n:=1)
   have b:=Nat.or_mod_two_pow (a:=x) (b:=y) (n:=1)
   simp only[Nat.pow_one] at a b
   rw[a,b]
   rcases Nat.mod_two_eq_zero_or_one x with hx|hx<;>rcases Nat.mod_two_eq_zero_or_one y with hy|hy<;>simp[hx,hy]
  omega
theorem and_add_or(x y:BitVec 64):(x&&&y)+(x|||y)=x+y:=by
 apply BitVec.eq_of_toNat_eq
 rw[BitVec.toNat_add,BitVec.toNat_add,BitVec.toNat_and,BitVec.toNat_or,nat_and_add_or 64 _ _ x.isLt]
theorem toInt_nat(a:Nat)(h:a<9223372036854775808):(BitVec.ofNat 64 a).toInt=a:=by
 rw[BitVec.toInt_eq_toNat_cond,BitVec.toNat_ofNat];simp only[Nat.reducePow];rw[Nat.mod_eq_of_lt (by omega)];rw[if_pos (by omega)]
theorem or_nat(a b:Nat)(ha:a<9223372036854775808)(hb:b<9223372036854775808):bits .or .i64 a b=((a|||b:Nat):Int):=by
 rw[bits_or]
 have hx:a|||b<2^63:=Nat.or_lt_two_pow (by omega) (by omega)
 have h:V (a:Int)|||V (b:Int)=BitVec.ofNat 64 (a|||b):=by
  apply BitVec.eq_of_toNat_eq
  rw[BitVec.toNat_or,BitVec.toNat_ofNat,V,V,BitVec.ofInt_natCast,BitVec.ofInt_natCast,BitVec.toNat_ofNat,BitVec.toNat_ofNat,Nat.mod_eq_of_lt (by omega),Nat.mod_eq_of_lt (by omega),Nat.mod_eq_of_lt (by omega)]
 rw[h,toInt_nat _ hx]
theorem and_mask(x:Int)(k:Nat)(hk:k≤62):bits .and .i64 x (2^k-1)=x % 2^k:=by
 rw[bits_and]
 have hp:(2:Nat)^k≤2^62:=Nat.pow_le_pow_right (by omega) hk
 have hp' :0<(2:Nat)^k:=Nat.two_pow_pos k
 have hc:((2:Int)^k)=((2^k:Nat):Int):=by push_cast;rfl
 have h:(V x&&&V (2^k-1))=V (x % 2^k):=by
  apply BitVec.eq_of_toNat_eq
  rw[BitVec.toNat_and]
  have h1:(V (2^k-1)).toNat=2^k-1:=by
   rw[hc,BitVec.toNat_ofInt];simp only[Nat.reducePow];omega
  rw[h1,Nat.and_two_pow_sub_one_eq_mod,BitVec.toNat_ofInt,BitVec.toNat_ofInt,hc]
  have hd:(2:Nat)^64=2^k*2^(64-k):=by rw[←Nat.pow_add];congr 1;omega
  have h2:x % ((2^64:Nat):Int) % ((2^k:Nat):Int)=x % ((2^k:Nat):Int):=by
   rw[hd];push_cast;exact Int.emod_emod_of_dvd x ⟨_,rfl⟩
  have h3:0≤x % ((2^64:Nat):Int):=Int.emod_nonneg _ (by simp)
  have h4:0≤x % ((2^k:Nat):Int):=Int.emod_nonneg _ (by omega)
  have h5:x % ((2^k:Nat):Int)<((2^k:Nat):Int):=Int.emod_lt_of_pos _ (by omega)
  have h6:x % ((2^k:Nat):Int) % ((2^64:Nat):Int)=x % ((2^k:Nat):Int):=Int.emod_eq_of_lt h4 (by simp only[Nat.reducePow] at *;omega)
  rw[h6,←h2]
  apply Int.ofNat.inj
  show((_:Nat):Int)=((_:Nat):Int)
  rw[Int.natCast_emod,Int.toNat_of_nonneg h3,Int.toNat_of_nonneg (by rw[h2];exact h4)]
 rw[h,hc];exact In.v (by
  have h4:0≤x % ((2^k:Nat):Int):=Int.emod_nonneg _ (by omega)
  have h5:x % ((2^k:Nat):Int)<((2^k:Nat):Int):=Int.emod_lt_of_pos _ (by omega)
  unfold In;simp only[Nat.reducePow] at hp;omega)
theorem below_drewN{B:Nat}{a w:World}(h:Below B a w)(n:Nat):Below B a (w.drewN n):=⟨h.os,h.tape,h.output,h.size,h.block⟩
theorem alloc_drewN(W:World)(o:Obj)(q:Nat):(W.drewN q).alloc o=(W.alloc o).drewN q:=rfl
theorem set_new(W:World)(C:Array Value)(t:TypeId)(n i q:Nat)(v:Value)(hn:n=W.heap.size):
 ((W.alloc (.cells C t)).drewN q).setCell ⟨n,i,none⟩ v=(W.alloc (.cells (C.setIfInBounds i v) t)).drewN q:=by
 have h:(W.alloc (.cells C t)).setCell ⟨n,i,none⟩ v=W.alloc (.cells (C.setIfInBounds i v) t):=World.setCell_alloc_at _ _ _ _ _ hn
 rw[←h];rfl
end Tier
namespace Tier
open Go Go.RowKit Go.WideShapes Go.ChangeShapes
section
variable {H:Type}{enc:TypeId×Value→H}{P:Program}
theorem field_int{w:World}{base:Nat}{sp:Nat→Bool}{held:Bool}{n m:Nat}{i0:TypeId}{cs:List Value}{y:DataW H×List MemPlace}(hi:P.underlying i0=some (.int .i64))(_:m<cs.length)
 (h:DataW.trod enc P w base sp held n i0 ((cs.drop m).take 1)=some y):∃a,cs[m]? =some (.int .i64 a)∧In a:=by
 obtain⟨a,hc,-,hw⟩:=DataW.trod_int hi h
 refine⟨a,?_,in_of_wf hw⟩
 have:=congrArg (·[0]?) hc
 simpa [List.getElem?_take,List.getElem?_drop] using this
theorem open_five{W:World}{r:Reach}{b0 base:Nat}{sp:Nat→Bool}{held:Bool}{t i0:TypeId}{fs:Array Field}{v:Value}{d:DataW H}{p:List MemPlace}
 (hs:P.underlying t=some (.struct fs)) (hi:P.underlying i0=some (.int .i64)) (hc:P.cellsOf t=5) (hci:P.cellsOf i0=1) (hf:∀j,j<5→∃f,fs[j]? =some f∧f.type=i0∧f.offset=j)
 (hv:Value.okWide P W r b0 t v) (h:DataW.Trod enc P W base sp held t v d p):
 ∃a0 a1 a2 a3 a4:Int,v= .agg #[.int .i64 a0, .int .i64 a1, .int .i64 a2, .int .i64 a3, .int .i64 a4]∧In a0∧In a1∧In a2∧In a3∧In a4:=by
 obtain⟨cs,rfl,hsz⟩:=okWide_struct hs hv
 obtain⟨l⟩:=cs
 obtain⟨fuel,hfu⟩:=h
 obtain⟨xs,n,-,-,-,hlen,hg⟩:=DataW.trod_struct hs hfu
 have hl:l.length=5:=by simpa using hsz.trans hc
 have key:∀j,j<5→∃a,l[j]? =some (.int .i64 a)∧In a:=by
  intro j hj
  obtain⟨f,hfj,hft,hfo⟩:=hf j hj
  have h1:=hg j f hfj
  rw[hft,hfo,hci] at h1
  have hx:j<xs.length:=by rw[hlen];exact(Array.getElem?_eq_some_iff.1 hfj).1
  rw[List.getElem?_eq_getElem hx] at h1
  exact field_int hi (by omega) h1
 obtain⟨a0,e0,i0'⟩:=key 0 (by omega)
 obtain⟨a1,e1,i1⟩:=key 1 (by omega)
 obtain⟨a2,e2,i2⟩:=key 2 (by omega)
 obtain⟨a3,e3,i3⟩:=key 3 (by omega)
 obtain⟨a4,e4,i4⟩:=key 4 (by omega)
 refine⟨a0,a1,a2,a3,a4,?_,i0',i1,i2,i3,i4⟩
 match l,hl,e0,e1,e2,e3,e4 with
 |[c0,c1,c2,c3,c4],_,e0,e1,e2,e3,e4=>
  simp at e0 e1 e2 e3 e4
  subst e0 e1 e2 e3 e4;rfl
end
end Tier
namespace Tier
open Go Go.RowKit
structure Ins where
 op:Int
 dst:Int
 a:Int
 b:Int
 imm:Int
structure Fnc where
 params:Int
 regs:Int
 code:List Ins
def Ins.cells(x:Ins):List Value:=[.int .i64 x.op, .int .i64 x.dst, .int .i64 x.a, .int .i64 x.b, .int .i64 x.imm]
def codeCells(l:List Ins):List Value:=l.flatMap Ins.cells
theorem codeCells_length(l:List Ins):(codeCells l).length=l.length*5:=by
 induction l with
 |nil=>rfl
 |cons x l ih=>simp only[codeCells,List.flatMap_cons,List.length_append,List.length_cons] at *;rw[ih];simp[Ins.cells];omega
def hasTab:List Int:=[0,9,7,7,7,7,7,7,7,7,7,7,7,3,6,16,18,39,3,2]
def hasOf(op:Nat):Int:=hasTab.getD op 0
def wi(n lo hi:Int):Bool:=decide (lo≤n)&&decide (n≤hi)
def regB(n is regs:Int):Bool:=if is=0 then n==0 else wi n 0 (regs-1)
structure Tab(w:World):Prop where
 has:∀i,i<20→w.cell? ⟨0,i,none⟩=some (.int .i64 (hasTab.getD i 0))
 size:0<w.heap.size
theorem bthen{a b c:World}(h1:Below a.heap.size a b)(h2:Below b.heap.size b c):Below a.heap.size a c:=h1.trans (h2.mono h1.size)
theorem balloc{a b:World}(h1:Below a.heap.size a b)(o:Obj):Below a.heap.size a (b.alloc o):=h1.alloc h1.size o
theorem Tab.keeps{w w' :World}(h:Tab w)(hb:Below w.heap.size w w'):Tab w' :=
 ⟨fun i hi=>(hb.cell (p:=⟨0,i,none⟩) h.size).trans (h.has i hi),Nat.lt_of_lt_of_le h.size hb.size⟩
theorem Tab.alloc{w:World}(h:Tab w)(o:Obj):Tab (w.alloc o):=h.keeps ((Below.refl _ _).alloc (Nat.le_refl _) _)
theorem Tab.drewN{w:World}(h:Tab w)(n:Nat):Tab (w.drewN n):=⟨h.has,h.size⟩
theorem aft{W W' :World}(hb:Below W.heap.size W W'){b:Nat}(h:b<W.heap.size):(∀o,W'.cell? ⟨b,o,none⟩=W.cell? ⟨b,o,none⟩)∧b<W'.heap.size:=
 ⟨fun o=>hb.cell (p:=⟨b,o,none⟩) h,Nat.lt_of_lt_of_le h hb.size⟩
theorem ret_int{k:IntKind}{a b:Int}(h:a=b):Ending.returned (.int k a)= .returned (.int k b):=by rw[h]
def insH(h:Int)(x:Ins)(regs n funcs:Int):Int:=
 if regB x.dst (bits .and .i64 h 1) regs=false then 2 else if regB x.a (bits .and .i64 h 2) regs=false then 2 else if regB x.b (bits .and .i64 h 4) regs=false then 2
 else if bits .and .i64 h 8≠0 then 0
 else if bits .and .i64 h 16≠0∧wi x.imm 0 (n-1)=true then 0
 else if bits .and .i64 h 32≠0∧wi x.imm 0 (funcs-1)=true then 0
 else if bits .and .i64 h 48=0∧x.imm=0 then 0 else 2
def insE(x:Ins)(regs n funcs:Int):Int:=if wi x.op 1 19=false then 3 else insH (hasOf x.op.toNat) x regs n funcs
end Tier
namespace Tier
open Go Go.RowKit
def pickedI(n many:Int):Int:=(if n<0 then -(n+1) else n) % many
theorem picked_in(n many:Int)(h:1≤many):0≤pickedI n many∧pickedI n many<many:=by
 unfold pickedI;exact⟨Int.emod_nonneg _ (by omega),Int.emod_lt_of_pos _ (by omega)⟩
def rawIns(x:Ins)(regs places funcs:Int):Ins:=
 if 1+pickedI x.op 19=1 then⟨1+pickedI x.op 19,pickedI x.dst regs,0,0,x.imm⟩
 else if 1+pickedI x.op 19≤12 then⟨1+pickedI x.op 19,pickedI x.dst regs,pickedI x.a regs,pickedI x.b regs,0⟩
 else if 1+pickedI x.op 19=13∨1+pickedI x.op 19=18 then⟨1+pickedI x.op 19,pickedI x.dst regs,pickedI x.a regs,0,0⟩
 else if 1+pickedI x.op 19=14 then⟨1+pickedI x.op 19,0,pickedI x.a regs,pickedI x.b regs,0⟩
 else if 1+pickedI x.op 19=15 then⟨1+pickedI x.op 19,0,0,0,pickedI x.imm places⟩
 else if 1+pickedI x.op 19=16 then⟨1+pickedI x.op 19,0,pickedI x.a regs,0,pickedI x.imm places⟩
 else if 1+pickedI x.op 19=17 then⟨1+pickedI x.op 19,pickedI x.dst regs,pickedI x.a regs,pickedI x.b regs,pickedI x.imm funcs⟩
 else⟨1+pickedI x.op 19,0,pickedI x.a regs,0,0⟩
def preIns(params regs:Int):List Ins:=(List.range (regs-params).toNat).map fun(i:Nat)=>⟨1,params+(i:Int),0,0,params+(i:Int)⟩
def mkFn(bp br:Int)(raws:List Ins)(funcs:Int)(all:Bool):Fnc:=
 let params:=pickedI bp 3
 let regs:=(if params<1 then 1 else params)+pickedI br 11
 let pre:=if all then preIns params regs else[]
 ⟨params,regs,pre++(raws.take 22).map (fun x=>rawIns x regs (pre.length+(min raws.length 22:Nat)+2) funcs)++[⟨1,0,0,0,7⟩,⟨19,0,0,0,0⟩]⟩
theorem codeCells_snoc(l:List Ins)(x:Ins):codeCells (l++[x])=codeCells l++x.cells:=by simp[codeCells]
end Tier
namespace Tier
open Go Go.RowKit
theorem andNot_nat(a m:Nat)(ha:a<9223372036854775808)(hm:m<9223372036854775808):bits .andNot .i64 (a:Int) (m:Int)=((a-(a&&&m):Nat):Int):=by
 rw[bits_andNot]
 have hv:(V (a:Int)&&&V (m:Int)).toNat=a&&&m:=by
  rw[BitVec.toNat_and,V,V,BitVec.ofInt_natCast,BitVec.ofInt_natCast,BitVec.toNat_ofNat,BitVec.toNat_ofNat,Nat.mod_eq_of_lt (by omega),Nat.mod_eq_of_lt (by omega)]
 have hu:V (a:Int)&&& ~~~ V (m:Int)=V (a:Int)-(V (a:Int)&&&V (m:Int)):=by
  have h:=and_add_or (V (a:Int)&&& ~~~ V (m:Int)) (V (a:Int)&&&V (m:Int))
  have h1:(V (a:Int)&&& ~~~ V (m:Int))&&&(V (a:Int)&&&V (m:Int))=0#64:=by
   apply BitVec.eq_of_getLsbD_eq
   intro i hi
   simp only[BitVec.getLsbD_and,BitVec.getLsbD_not,BitVec.getLsbD_zero]
   cases (V (a:Int)).getLsbD i<;>cases (V (m:Int)).getLsbD i<;>simp
  have h2:(V (a:Int)&&& ~~~ V (m:Int))|||(V (a:Int)&&&V (m:Int))=V (a:Int):=by
   apply BitVec.eq_of_getLsbD_eq
   intro i hi
   simp only[BitVec.getLsbD_and,BitVec.getLsbD_or,BitVec.getLsbD_not]
   cases (V (a:Int)).getLsbD i<;>cases (V (m:Int)).getLsbD i<;>simp[hi]
  rw[h1,h2,BitVec.zero_add] at h
  generalize V (a:Int)&&& ~~~ V (m:Int)=u at *
  generalize V (a:Int)&&&V (m:Int)=v at *
  rw[h];exact(BitVec.add_sub_cancel u v).symm
 have hle:a&&&m≤a:=Nat.and_le_left
 have h:V (a:Int)&&& ~~~ V (m:Int)=BitVec.ofNat 64 (a-(a&&&m)):=by
  apply BitVec.eq_of_toNat_eq
  rw[hu,BitVec.toNat_sub,hv,V,BitVec.ofInt_natCast,BitVec.toNat_ofNat,BitVec.toNat_ofNat,Nat.mod_eq_of_lt (by omega:a<2^64)]
  simp only[Nat.reducePow]
  omega
 rw[h,toInt_nat _ (by omega)]
theorem and_nat(a m:Nat)(ha:a<9223372036854775808)(hm:m<9223372036854775808):bits .and .i64 (a:Int) (m:Int)=((a&&&m:Nat):Int):=by
 rw[bits_and]
 have hle:a&&&m≤a:=Nat.and_le_left
 have h:V (a:Int)&&&V (m:Int)=BitVec.ofNat 64 (a&&&m):=by
  apply BitVec.eq_of_toNat_eq
  rw[BitVec.toNat_and,V,V,BitVec.ofInt_natCast,BitVec.ofInt_natCast,BitVec.toNat_ofNat,BitVec.toNat_ofNat,BitVec.toNat_ofNat,Nat.mod_eq_of_lt (by omega),Nat.mod_eq_of_lt (by omega),Nat.mod_eq_of_lt (by omega)]
 rw[h,toInt_nat _ (by omega)]
end Tier
namespace Tier
open Go Go.RowKit
theorem qg:(∀{α:Type} {xs:List α} {i:Nat} (h:i<xs.toArray.size),xs.toArray[i]=xs[i]'(by simpa using h))∧(∀{α:Type} {a:α} {as:List α} {h:0<(a::as).length},(a::as)[0]=a)∧∀{α:Type} {a:α} {as:List α} {i:Nat} {h:i+1<(a::as).length},(a::as)[i+1]=as[i]'(by simpa using h):=⟨fun _=>List.getElem_toArray ..,List.getElem_cons_zero ..,List.getElem_cons_succ ..⟩
theorem qs:(∀{α:Type} {xs:List α} {i:Nat} (h:i<xs.toArray.size),xs.toArray[i]=xs[i]'(by simpa using h))∧(∀{α:Type} {a:α} {as:List α} {h:0<(a::as).length},(a::as)[0]=a)∧(∀{α:Type} {a:α} {as:List α} {i:Nat} {h:i+1<(a::as).length},(a::as)[i+1]=as[i]'(by simpa using h))∧(∀{α:Type} {l:List α} {i:Nat} {a:α},l.toArray.setIfInBounds i a=(l.set i a).toArray)∧(∀{α:Type} {x:α} {xs:List α} {a:α},(x::xs).set 0 a=a::xs)∧∀{α:Type} {x:α} {xs:List α} {n:Nat} {a:α},(x::xs).set (n+1) a=x::xs.set n a:=⟨qg.1,qg.2.1,qg.2.2,by simp,rfl,rfl⟩
theorem gE{α:Type}{l:List α}{i:Nat}(h:i<l.length):l[i]? =some l[i]:=List.getElem?_eq_getElem h
theorem gD{α:Type}{l:List α}{i:Nat}{a:α}:l.getD i a=l[i]?.getD a:=List.getD_eq_getElem?_getD
theorem gI{α:Type}{i:Nat}{a:α}{l:List α}:l[i]? =some a↔∃h:i<l.length,l[i]=a:=List.getElem?_eq_some_iff
theorem gM{α:Type}{l:List α}{i:Nat}{a:α}(h:l[i]? =some a):a∈l:=List.mem_of_getElem? h
theorem Bq{p:Prop}(h:p:=by repeat(first|assumption|exact Below.refl _ _|apply Below.drew|apply below_drewN|refine Below.alloc ?_ (by first|omega|(simp;done)|(simp;omega)) _|refine Below.setCell ?_ (by first|omega|(simp;done)|(simp;omega)) _)):p:=h
end Tier
