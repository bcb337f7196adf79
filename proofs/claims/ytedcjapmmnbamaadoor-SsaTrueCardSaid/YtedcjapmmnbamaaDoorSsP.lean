import Derived.Test.YtedcjapmmnbamaaDoorSsM
import Derived.Maps.OwnSet
import Derived.Maps.OwnOps
namespace Go.Proofs.YtedcjapmmnbamaaDoor
open Go.RowKit Tier
section
variable {w:World}{b:Nat}{c:SC}{s:SB}{V:SK→Value}
theorem SbAt.setRow(h:SbAt w b c s V)(key:SK){g n cap:Nat}(hv:V key= .slice (some ⟨g,0,none⟩) n cap)(o:Nat)(x:Value)(ho:o<(rowsOf s V key).xs.length){s' :SB}
 (e:rowsOf s' V=putK (rowsOf s V) key {rowsOf s V key with xs:=(rowsOf s V key).xs.set o x}):SbAt (w.setCell ⟨g,o,none⟩ x) b c s' V∧FrS w b V (w.setCell ⟨g,o,none⟩ x) V:=by
 have hk:(V key).ownBlock=some g:=by rw[hv];rfl
 have hg:=(h.rlt key hk).1
 have h1:=h.own.set key (by rw[rowsOf_v];exact hv) o x ho
 refine⟨⟨by rw[Below.heap_setCell _ _ _ _ (by simp;omega),h.box],?_⟩,FrS.row h (key:=key) hk _ _⟩
 rw[e];exact h1
def SB.mod(s:SB)(i:Nat)(x:PartS):SB:={s with parts:=s.parts.set i x}
theorem mod_part{i:Nat}(hi:i<s.parts.length)(x:PartS)(j:Nat):(s.mod i x).part j=if j=i then x else s.part j:=part_set s hi x j
theorem mod_arg{i:Nat}(hi:i<s.parts.length)(x:PartS)(j t:Nat):(s.mod i x).arg j t=if j=i then(x.phis.getD t noPhi).args else s.arg j t:=by
 unfold SB.arg
 rw[mod_part hi]
 by_cases e:j=i
 ·rw[if_pos e,if_pos e]
 ·rw[if_neg e,if_neg e]
theorem RowC.eq'{A B:RowC}(h1:A.e=B.e)(h2:A.size=B.size)(h3:A.v=B.v)(h4:A.n=B.n)(h5:A.xs=B.xs):A=B:=by
 cases A;cases B;simp only at h1 h2 h3 h4 h5;subst h1 h2 h3 h4 h5;rfl
theorem rows_mod{i:Nat}(hi:i<s.parts.length)(x:PartS)(key:SK)(o:Nat)(u:Value)
 (hparts:partsCells (s.parts.set i x) (fun j=>V (.phis j)) (fun j=>V (.ins j))=if key= .parts then(partsCells s.parts (fun j=>V (.phis j)) (fun j=>V (.ins j))).set o u else partsCells s.parts (fun j=>V (.phis j)) (fun j=>V (.ins j)))
 (hphis:x.phis.length=(s.part i).phis.length∧phiCells x.phis (fun k=>V (.args i k))=if key= .phis i then(phiCells (s.part i).phis (fun k=>V (.args i k))).set o u else phiCells (s.part i).phis (fun k=>V (.args i k)))
 (hins:x.ins.length=(s.part i).ins.length∧insCells x.ins=if key= .ins i then(insCells (s.part i).ins).set o u else insCells (s.part i).ins)
 (hargs:∀k,(x.phis.getD k noPhi).args.length=(s.arg i k).length∧intsV (x.phis.getD k noPhi).args=if key= .args i k then(intsV (s.arg i k)).set o u else intsV (s.arg i k))
 (hk:key= .parts∨key= .phis i∨key= .ins i∨∃k,key= .args i k):
 rowsOf (s.mod i x) V=putK (rowsOf s V) key {rowsOf s V key with xs:=(rowsOf s V key).xs.set o u}:=by
 funext q
 have hq:∀(A:RowC) (l:List Value),(rowsOf s V q).e=A.e→(rowsOf s V q).size=A.size→(rowsOf s V q).v=A.v→(rowsOf s V q).n=A.n→A.xs=l→(l=if key=q then(rowsOf s V q).xs.set o u else(rowsOf s V q).xs)→A=putK (rowsOf s V) key {rowsOf s V key with xs:=(rowsOf s V key).xs.set o u} q:=by
  intro A l h1 h2 h3 h4 h5 h6
  by_cases e:key=q
  ·subst e
   rw[putK_self]
   rw[if_pos rfl] at h6
   exact RowC.eq' h1.symm h2.symm h3.symm h4.symm (h5.trans h6)
  ·rw[putK_ne _ (fun e' =>e e'.symm)]
   rw[if_neg e] at h6
   exact RowC.eq' h1.symm h2.symm h3.symm h4.symm (h5.trans h6)
 cases q with
 |same=>refine hq _ _ rfl rfl rfl rfl rfl ?_;rw[if_neg (by rcases hk with rfl|rfl|rfl|⟨k,rfl⟩<;>simp)];rfl
 |ends=>refine hq _ _ rfl rfl rfl rfl rfl ?_;rw[if_neg (by rcases hk with rfl|rfl|rfl|⟨k,rfl⟩<;>simp)];rfl
 |began=>refine hq _ _ rfl rfl rfl rfl rfl ?_;rw[if_neg (by rcases hk with rfl|rfl|rfl|⟨k,rfl⟩<;>simp)];rfl
 |parts=>exact hq _ _ rfl rfl rfl (by show s.parts.length=(s.parts.set i x).length;rw[List.length_set]) rfl hparts
 |phis j=>
  by_cases e:j=i
  ·subst e
   refine hq _ (phiCells x.phis (fun k=>V (.args j k))) rfl rfl rfl ?_ ?_ hphis.2
   ·show(s.part j).phis.length=((s.mod j x).part j).phis.length
    rw[mod_part hi,if_pos rfl,hphis.1]
   ·show phiCells ((s.mod j x).part j).phis _=_
    rw[mod_part hi,if_pos rfl]
  ·refine hq _ (phiCells (s.part j).phis (fun k=>V (.args j k))) rfl rfl rfl ?_ ?_ ?_
   ·show(s.part j).phis.length=((s.mod i x).part j).phis.length
    rw[mod_part hi,if_neg e]
   ·show phiCells ((s.mod i x).part j).phis _=_
    rw[mod_part hi,if_neg e]
   ·rw[if_neg (by rcases hk with rfl|rfl|rfl|⟨k,rfl⟩<;>simp;omega)];rfl
 |ins j=>
  by_cases e:j=i
  ·subst e
   refine hq _ (insCells x.ins) rfl rfl rfl ?_ ?_ hins.2
   ·show(s.part j).ins.length=((s.mod j x).part j).ins.length
    rw[mod_part hi,if_pos rfl,hins.1]
   ·show insCells ((s.mod j x).part j).ins=_
    rw[mod_part hi,if_pos rfl]
  ·refine hq _ (insCells (s.part j).ins) rfl rfl rfl ?_ ?_ ?_
   ·show(s.part j).ins.length=((s.mod i x).part j).ins.length
    rw[mod_part hi,if_neg e]
   ·show insCells ((s.mod i x).part j).ins=_
    rw[mod_part hi,if_neg e]
   ·rw[if_neg (by rcases hk with rfl|rfl|rfl|⟨k,rfl⟩<;>simp;omega)];rfl
 |args j t=>
  by_cases e:j=i
  ·subst e
   refine hq _ (intsV (x.phis.getD t noPhi).args) rfl rfl rfl ?_ ?_ (hargs t).2
   ·show(s.arg j t).length=((s.mod j x).arg j t).length
    rw[mod_arg hi,if_pos rfl,(hargs t).1]
   ·show intsV ((s.mod j x).arg j t)=_
    rw[mod_arg hi,if_pos rfl]
  ·refine hq _ (intsV (s.arg j t)) rfl rfl rfl ?_ ?_ ?_
   ·show(s.arg j t).length=((s.mod i x).arg j t).length
    rw[mod_arg hi,if_neg e]
   ·show intsV ((s.mod i x).arg j t)=_
    rw[mod_arg hi,if_neg e]
   ·rw[if_neg (by rcases hk with rfl|rfl|rfl|⟨k,rfl⟩<;>simp;omega)];rfl
theorem parts_mod{i:Nat}(hi:i<s.parts.length)(x:PartS)(hb:x.block=(s.part i).block)(hn:x.inn=(s.part i).inn)(A B:Nat→Value):partsCells (s.parts.set i x) A B=partsCells s.parts A B:=by
 unfold partsCells
 rw[List.length_set]
 refine flat_same fun j hj=> ?_
 rw[getD_set _ hi]
 by_cases e:j=i
 ·subst e
  rw[if_pos rfl]
  show PartS.cells _ _ _=PartS.cells (s.part j) _ _
  unfold PartS.cells
  rw[hb,hn]
 ·rw[if_neg e]
def SB.setPhiId(s:SB)(i k:Nat)(d:Int):SB:=s.mod i {s.part i with phis:=(s.part i).phis.set k {s.phi i k with id:=d}}
def SB.setArgs(s:SB)(i k:Nat)(l:List Int):SB:=s.mod i {s.part i with phis:=(s.part i).phis.set k {s.phi i k with args:=l}}
def SB.insA(s:SB)(i k:Nat):InsS:=(s.part i).ins.getD k noIns
def SB.setIns(s:SB)(i k:Nat)(x:InsS):SB:=s.mod i {s.part i with ins:=(s.part i).ins.set k x}
def SB.setInn(s:SB)(i:Nat)(l:List Int):SB:=s.mod i {s.part i with inn:=l}
theorem SbAt.setPhiId(h:SbAt w b c s V){i k:Nat}(hi:i<s.parts.length)(hk:k<(s.part i).phis.length)(d:Int){g n cap:Nat}(hv:V (.phis i)= .slice (some ⟨g,0,none⟩) n cap):
 SbAt (w.setCell ⟨g,k*3+1,none⟩ (.int .i64 d)) b c (s.setPhiId i k d) V∧FrS w b V (w.setCell ⟨g,k*3+1,none⟩ (.int .i64 d)) V:=by
 refine h.setRow (.phis i) hv _ _ ?_ ?_
 ·show _<(phiCells (s.part i).phis _).length
  unfold phiCells
  rw[flat_len (n:=3) (fun _ _=>rfl)]
  have:(k+1)*3≤(s.part i).phis.length*3:=Nat.mul_le_mul_right 3 (by omega)
  omega
 ·refine rows_mod hi _ _ _ _ ?_ ⟨by show((s.part i).phis.set k _).length=_;rw[List.length_set],?_⟩ ⟨rfl,?_⟩ (fun t=> ?_) (.inr (.inl rfl))
  ·rw[if_neg (by simp)];refine parts_mod hi _ ?_ ?_ _ _<;>rfl
  ·rw[if_pos rfl]
   show phiCells ((s.part i).phis.set k _) _=_
   unfold phiCells
   rw[List.length_set]
   symm
   refine flat_set (n:=3) (fun _ _=>rfl) hk (by omega) _ (fun t ht=> ?_) ?_
   ·rw[getD_set _ hk,if_neg ht]
   ·rw[getD_set _ hk,if_pos rfl];rfl
  ·rw[if_neg (by simp)]
  ·rw[if_neg (by simp)]
   show(((s.part i).phis.set k _).getD t noPhi).args.length=_∧intsV (((s.part i).phis.set k _).getD t noPhi).args=_
   rw[getD_set _ hk]
   by_cases e:t=k
   ·subst e;rw[if_pos rfl];exact⟨rfl,rfl⟩
   ·rw[if_neg e];exact⟨rfl,rfl⟩
theorem SbAt.setArg(h:SbAt w b c s V){i k j:Nat}(hi:i<s.parts.length)(hk:k<(s.part i).phis.length)(hj:j<(s.arg i k).length)(d:Int){g n cap:Nat}(hv:V (.args i k)= .slice (some ⟨g,0,none⟩) n cap):
 SbAt (w.setCell ⟨g,j,none⟩ (.int .i64 d)) b c (s.setArgs i k ((s.arg i k).set j d)) V∧FrS w b V (w.setCell ⟨g,j,none⟩ (.int .i64 d)) V:=by
 refine h.setRow (.args i k) hv _ _ ?_ ?_
 ·show _<(intsV (s.arg i k)).length
  simpa [intsV] using hj
 ·refine rows_mod hi _ _ _ _ ?_ ⟨by show((s.part i).phis.set k _).length=_;rw[List.length_set],?_⟩ ⟨rfl,?_⟩ (fun t=> ?_) (.inr (.inr (.inr ⟨k,rfl⟩)))
  ·rw[if_neg (by simp)];refine parts_mod hi _ ?_ ?_ _ _<;>rfl
  ·rw[if_neg (by simp)]
   show phiCells ((s.part i).phis.set k _) _=_
   unfold phiCells
   rw[List.length_set]
   refine flat_same fun t ht=> ?_
   rw[getD_set _ hk]
   by_cases e:t=k
   ·subst e;rw[if_pos rfl];rfl
   ·rw[if_neg e]
  ·rw[if_neg (by simp)]
  ·show(((s.part i).phis.set k _).getD t noPhi).args.length=_∧intsV (((s.part i).phis.set k _).getD t noPhi).args=_
   rw[getD_set _ hk]
   by_cases e:t=k
   ·subst e
    rw[if_pos rfl,if_pos rfl]
    refine⟨by show((s.arg i t).set j d).length=_;rw[List.length_set],?_⟩
    show intsV ((s.arg i t).set j d)=_
    unfold intsV
    rw[List.map_set]
   ·rw[if_neg e,if_neg (by simpa using fun e' :k=t=>e e'.symm)];exact⟨rfl,rfl⟩
theorem SbAt.setIns(h:SbAt w b c s V){i k:Nat}(hi:i<s.parts.length)(hk:k<(s.part i).ins.length)(f:Nat)(hf:f<6)(d:Int)(x:InsS)(hx:x.cells=(s.insA i k).cells.set f (.int .i64 d)){g n cap:Nat}(hv:V (.ins i)= .slice (some ⟨g,0,none⟩) n cap):
 SbAt (w.setCell ⟨g,k*6+f,none⟩ (.int .i64 d)) b c (s.setIns i k x) V∧FrS w b V (w.setCell ⟨g,k*6+f,none⟩ (.int .i64 d)) V:=by
 refine h.setRow (.ins i) hv _ _ ?_ ?_
 ·show _<(insCells (s.part i).ins).length
  unfold insCells
  rw[flat_len (n:=6) (fun _ _=>rfl)]
  have:(k+1)*6≤(s.part i).ins.length*6:=Nat.mul_le_mul_right 6 (by omega)
  omega
 ·refine rows_mod hi _ _ _ _ ?_ ⟨rfl,?_⟩ ⟨by show((s.part i).ins.set k _).length=_;rw[List.length_set],?_⟩ (fun t=> ?_) (.inr (.inr (.inl rfl)))
  ·rw[if_neg (by simp)];refine parts_mod hi _ ?_ ?_ _ _<;>rfl
  ·rw[if_neg (by simp)]
  ·rw[if_pos rfl]
   show insCells ((s.part i).ins.set k _)=_
   unfold insCells
   rw[List.length_set]
   symm
   refine flat_set (n:=6) (fun _ _=>rfl) hk hf _ (fun t ht=> ?_) ?_
   ·rw[getD_set _ hk,if_neg ht]
   ·rw[getD_set _ hk,if_pos rfl];exact hx
  ·rw[if_neg (by simp)];exact⟨rfl,rfl⟩
theorem SbAt.setInnAt(h:SbAt w b c s V)(hs:∀x∈s.parts,x.inn.length=12){i r:Nat}(hi:i<s.parts.length)(hr:r<12)(d:Int){g n cap:Nat}(hv:V .parts= .slice (some ⟨g,0,none⟩) n cap):
 SbAt (w.setCell ⟨g,i*15+(3+r),none⟩ (.int .i64 d)) b c (s.setInn i ((s.part i).inn.set r d)) V∧FrS w b V (w.setCell ⟨g,i*15+(3+r),none⟩ (.int .i64 d)) V:=by
 refine h.setRow .parts hv _ _ ?_ ?_
 ·show _<(partsCells s.parts _ _).length
  rw[parts_xs_len hs]
  have:(i+1)*15≤s.parts.length*15:=Nat.mul_le_mul_right 15 (by omega)
  omega
 ·refine rows_mod hi _ _ _ _ ?_ ⟨rfl,?_⟩ ⟨rfl,?_⟩ (fun t=> ?_) (.inl rfl)
  ·rw[if_pos rfl]
   unfold partsCells
   rw[List.length_set]
   symm
   refine flat_set (fun k hk=>part_len hs hk _ _) hi (by omega) _ (fun k hk=> ?_) ?_
   ·rw[getD_set _ hi,if_neg hk]
   ·rw[getD_set _ hi,if_pos rfl]
    show[_,_,_]++intsV ((s.part i).inn.set r d)=([_,_,_]++intsV (s.part i).inn).set (3+r) _
    rw[List.set_append_right _ _ (by simp)]
    unfold intsV
    rw[List.map_set]
    simp
    rfl
  ·rw[if_neg (by simp)]
  ·rw[if_neg (by simp)]
  ·rw[if_neg (by simp)];exact⟨rfl,rfl⟩
end
theorem setCell_self{w:World}{b i:Nat}{v:Value}(h:w.cell? ⟨b,i,none⟩=some v):w.setCell ⟨b,i,none⟩ v=w:=by
 obtain⟨heap,tape,drawn,os,output⟩:=w
 unfold World.cell? at h
 unfold World.setCell
 congr 1
 apply Array.ext_getElem?
 intro k
 rw[Array.getElem?_modify]
 by_cases e:b=k
 ·subst e
  rw[if_pos rfl]
  simp only at h
  cases hb:heap[b]? with
  |none=>rfl
  |some o=>
   rw[hb] at h
   cases o with
   |cells c t f=>
    simp only[Option.isSome_none,Bool.false_eq_true,if_false] at h
    simp only[Option.map_some,Option.isSome_none,Bool.false_eq_true,if_false]
    congr 2
    apply Array.ext_getElem?
    intro j
    rw[Array.getElem?_setIfInBounds]
    by_cases e2:i=j
    ·subst e2
     have:=(Array.getElem?_eq_some_iff.1 h).1
     rw[if_pos rfl,if_pos this,h]
    ·rw[if_neg e2]
   |_=>rfl
 ·rw[if_neg e]
abbrev mapI:TypeId:=138
theorem lawI:Maps.Keyed Tryd.prog 3:=Maps.int_keyed Tryd.underlying3
theorem zeroI(w:World):(zeroValue 3).run Tryd.prog w= .ok (.int .i64 0) w:=by kernel_rfl
def keyI(n:Nat):Lit:= .int .i64 (n:Int)
theorem litI_wf{x:Int}(h1: -1000000≤x)(h2:x≤1000000):(Lit.int .i64 x).wf=true:=by
 have h3:IntKind.i64.min= -9223372036854775808:=rfl
 have h4:IntKind.i64.max=9223372036854775807:=rfl
 simp[Lit.wf,h3,h4];omega
theorem keyI_of{n:Nat}(h:n≤100000):keyOf Tryd.prog 3 (.int .i64 (n:Int))=some (keyI n):=Maps.keyOf_int_mk Tryd.underlying3 (litI_wf (by omega) (by omega))
def putN(M:Nat→Int)(k:Nat)(x:Int):Nat→Int:=fun m=>if m=k then x else M m
def MapAt(w:World)(b n:Nat)(M:Nat→Int):Prop:=
 ∃D:DataW Unit,w.ownsMap Tryd.prog 3 (plainElem Tryd.prog 3) b n D∧Maps.IsMap D∧∀m:Nat,D.atKey (keyI m) (.lit (.int .i64 0))= .lit (.int .i64 (M m))
theorem MapAt.of_block{w w' :World}{b n:Nat}{M:Nat→Int}(h:MapAt w b n M)(hb:w'.heap[b]? =w.heap[b]?):MapAt w' b n M:=by
 obtain⟨D,⟨es,clock,h1,r⟩,h2,h3⟩:=h
 exact⟨D,⟨es,clock,hb.trans h1,r⟩,h2,h3⟩
theorem MapAt.made(w:World):MapAt (w.alloc (.map #[] 0)) w.heap.size 0 (fun _=>0):=
 ⟨.map [],World.ownsMap_made _ _ _ _,Maps.isMap_empty,fun _=>rfl⟩
theorem MapAt.put{w' :World}{b n k:Nat}{x:Int}{M:Nat→Int}{D:DataW Unit}(hI:Maps.IsMap D)(hM:∀m:Nat,D.atKey (keyI m) (.lit (.int .i64 0))= .lit (.int .i64 (M m)))
 (h:w'.ownsMap Tryd.prog 3 (plainElem Tryd.prog 3) b n (D.put (keyI k) (.lit (.int .i64 x)))):MapAt w' b n (putN M k x):=by
 refine⟨_,h,hI.put _ _,fun m=> ?_⟩
 unfold putN
 by_cases he:m=k
 ·subst he
  rw[if_pos rfl,Maps.atKey_put_same hI (by unfold keyI;trivial)]
 ·rw[if_neg he,Maps.atKey_put_other (fun e=>he (by unfold keyI at e;injection e with _ e2;omega)),hM m]
theorem MapAt.look{w:World}{b n:Nat}{M:Nat→Int}(h:MapAt w b n M){m:Nat}(hm:m≤100000):(Instr.lookup mapI (.map (some b)) (.int .i64 (m:Int)) false).run Tryd.prog w= .ok (.int .i64 (M m)) w:=by
 obtain⟨D,h1,h2,h3⟩:=h
 obtain⟨c,hc,ha,-⟩:=h1.lookup_int lawI Tryd.underlying138 Tryd.underlying3 (zeroI _) (keyI_of hm)
 rw[h3 m] at ha
 have e:M m=c:=(Lit.int.inj (DataW.lit.inj ha)).2
 rw[hc,e]
theorem SbX.turned{w wr w' :World}{b:Nat}{c:SC}{s:SB}{V0 V:SK→Value}{ls ls' :List (Nat×Obj)}(h:SbX w V0 b c wr s V ls){k:Nat}{o o' :Obj}(hk:(k,o)∈ls)(hg:wr.grownBy w' (some k))(ho:w'.heap[k]? =some o')
 (hn:∀x∈ls',x=(k,o')∨(x∈ls∧x.1≠k)):SbX w V0 b c w' s V ls' :=by
 obtain⟨h1,h2,h3,h4⟩:=h.loc _ hk
 have hbl:=h.sb.lt
 refine⟨⟨(hg.block b hbl (fun e=>by have:=Option.some.inj e;simp at h3;omega)).trans h.sb.box,h.sb.own.same fun g _ hg2 ⟨key,hkey⟩=>hg.block g hg2 (fun e=>h4 key (by rw[←rowsOf_v s V key,hkey,Option.some.inj e]))⟩,?_,fun x hx=> ?_⟩
 ·refine⟨h.fr.below.grown hg (by omega) (fun k' e=>by have:=Option.some.inj e;simp at h3;omega),Nat.le_trans h.fr.size hg.size,fun k' hk' hkb hv=> ?_,h.fr.rows⟩
  rw[hg.block k' (Nat.lt_of_lt_of_le hk' h.fr.size) (fun e=>by have:=Option.some.inj e;simp at h2;omega)]
  exact h.fr.kept k' hk' hkb hv
 ·rcases hn x hx with rfl|⟨hx,hne⟩
  ·exact⟨ho,h2,h3,h4⟩
  ·obtain⟨q1,q2,q3,q4⟩:=h.loc x hx
   exact⟨(hg.block _ (Array.getElem?_eq_some_iff.1 q1).1 (fun e=>hne (Option.some.inj e))).trans q1,q2,q3,q4⟩
structure CtX(w:World)(V0:SK→Value)(b:Nat)(c:SC)(wr:World)(s:SB)(V:SK→Value)(L:Nat)(M:Nat→Int)(nx:Int)(nm:Nat):Prop where
 x:∃mo,SbX w V0 b c wr s V [(L+3, .cells #[.int .i64 nx] 3 (0,0)),(L+2, .cells #[.map (some (L+1))] mapI (0,0)),(L+1,mo),(L, .cells #[.pointer (some ⟨b,0,none⟩)] 95 (0,0))]
 map:MapAt wr (L+1) nm M
section
variable {w wr w' w1:World}{V0 V V' :SK→Value}{b L nm:Nat}{c:SC}{s s' :SB}{M:Nat→Int}{nx:Int}
theorem CtX.sb(h:CtX w V0 b c wr s V L M nx nm):SbAt wr b c s V:=by obtain⟨mo,hX⟩:=h.x;exact hX.sb
theorem CtX.fr(h:CtX w V0 b c wr s V L M nx nm):FrS w b V0 wr V:=by obtain⟨mo,hX⟩:=h.x;exact hX.fr
theorem CtX.keeps(h:CtX w V0 b c wr s V L M nx nm)(hb:Below wr.heap.size wr w'):CtX w V0 b c w' s V L M nx nm:=by
 obtain⟨⟨mo,hX⟩,hM⟩:=h
 exact⟨⟨mo,hX.keeps hb⟩,hM.of_block (hb.block _ (Array.getElem?_eq_some_iff.1 (hX.loc (L+1,mo) (by simp)).1).1)⟩
theorem CtX.row(h:CtX w V0 b c wr s V L M nx nm)(hs:SbAt w' b c s' V')(hf:FrS wr b V w' V'):CtX w V0 b c w' s' V' L M nx nm:=by
 obtain⟨⟨mo,hX⟩,hM⟩:=h
 have hX' :=hX.call hs hf
 exact⟨⟨mo,hX'⟩,hM.of_block ((hX'.loc (L+1,mo) (by simp)).1.trans (hX.loc (L+1,mo) (by simp)).1.symm)⟩
theorem CtX.box3(h:CtX w V0 b c wr s V L M nx nm):wr.heap[L+3]? =some (.cells #[.int .i64 nx] 3 (0,0)):=by obtain⟨mo,hX⟩:=h.x;exact(hX.loc (L+3,_) (by simp)).1
theorem CtX.box2(h:CtX w V0 b c wr s V L M nx nm):wr.heap[L+2]? =some (.cells #[.map (some (L+1))] mapI (0,0)):=by obtain⟨mo,hX⟩:=h.x;exact(hX.loc (L+2,_) (by simp)).1
theorem CtX.box0(h:CtX w V0 b c wr s V L M nx nm):wr.heap[L]? =some (.cells #[.pointer (some ⟨b,0,none⟩)] 95 (0,0)):=by obtain⟨mo,hX⟩:=h.x;exact(hX.loc (L,_) (by simp)).1
theorem CtX.far(h:CtX w V0 b c wr s V L M nx nm)(key:SK):(V key).ownBlock≠some L∧(V key).ownBlock≠some (L+1)∧(V key).ownBlock≠some (L+2)∧(V key).ownBlock≠some (L+3):=by
 obtain⟨mo,hX⟩:=h.x
 exact⟨(hX.loc _ (.tail _ (.tail _ (.tail _ (.head _))))).2.2.2 key,(hX.loc _ (.tail _ (.tail _ (.head _)))).2.2.2 key,(hX.loc _ (.tail _ (.head _))).2.2.2 key,(hX.loc _ (.head _)).2.2.2 key⟩
theorem CtX.give(h:CtX w V0 b c wr s V L M nx nm){k n' :Nat}{y:Int}{D:DataW Unit}(hI:Maps.IsMap D)(hM:∀m:Nat,D.atKey (keyI m) (.lit (.int .i64 0))= .lit (.int .i64 (M m)))(hg:wr.grownBy w1 (some (L+1)))
 (ho:w1.ownsMap Tryd.prog 3 (plainElem Tryd.prog 3) (L+1) n' (D.put (keyI k) (.lit (.int .i64 y)))) (nx' :Int):CtX w V0 b c (w1.setCell ⟨L+3,0,none⟩ (.int .i64 nx')) s V L (putN M k y) nx' n' :=by
 obtain⟨⟨mo,hX⟩,-⟩:=h
 obtain⟨es,clock,hb1,r⟩:=ho
 have h1:=hX.turned (k:=L+1) (o:=mo) (by simp) hg hb1 (ls' :=[(L+3, .cells #[.int .i64 nx] 3 (0,0)),(L+2, .cells #[.map (some (L+1))] mapI (0,0)),(L+1, .map es clock),(L, .cells #[.pointer (some ⟨b,0,none⟩)] 95 (0,0))]) (fun x hx=>by
  simp only[List.mem_cons,List.not_mem_nil,or_false] at hx⊢
  rcases hx with rfl|rfl|rfl|rfl
  ·exact .inr ⟨.inl rfl,by simp⟩
  ·exact .inr ⟨.inr (.inl rfl),by simp⟩
  ·exact .inl rfl
  ·exact .inr ⟨.inr (.inr (.inr rfl)),by simp⟩)
 have h2:=h1.set (k:=L+3) (cs:= #[.int .i64 nx]) (t:=3) (by simp) 0 (.int .i64 nx') (ls' :=[(L+3, .cells #[.int .i64 nx'] 3 (0,0)),(L+2, .cells #[.map (some (L+1))] mapI (0,0)),(L+1, .map es clock),(L, .cells #[.pointer (some ⟨b,0,none⟩)] 95 (0,0))]) (fun x hx=>by
  simp only[List.mem_cons,List.not_mem_nil,or_false] at hx⊢
  rcases hx with rfl|rfl|rfl|rfl
  ·exact .inl rfl
  ·exact .inr ⟨.inr (.inl rfl),by simp⟩
  ·exact .inr ⟨.inr (.inr (.inl rfl)),by simp⟩
  ·exact .inr ⟨.inr (.inr (.inr rfl)),by simp⟩)
 refine⟨⟨_,h2⟩,(MapAt.put hI hM (w' :=w1) ⟨es,clock,hb1,r⟩).of_block ?_⟩
 exact Below.heap_setCell _ _ _ _ (by simp)
set_option maxRecDepth 100000 in
set_option maxHeartbeats 8000000 in
theorem give_any(h:CtX w V0 b c wr s V L M nx nm){v:Nat}(hv:v≤100000)(hnm:nm≤300000)(hn0:0≤nx)(hn1:nx≤300000):
 Calls Tryd.prog 58 #[.int .i64 (v:Int), .pointer (some ⟨L+3,0,none⟩), .pointer (some ⟨L+2,0,none⟩)] wr fun e w' =>∃z,e= .returned (.int .i64 z)∧CtX w V0 b c w' s V L (putN M v nx) (nx+1) (nm+1)∧wr.heap.size≤w'.heap.size∧∀k,k<wr.heap.size→k≠L+1→k≠L+3→w'.heap[k]? =wr.heap[k]? :=by
 obtain⟨D,hown,hI,hM⟩:=h.map
 have c3:wr.cell? ⟨L+3,0,none⟩=some (.int .i64 nx):=cell_block h.box3 0
 have c2:wr.cell? ⟨L+2,0,none⟩=some (.map (some (L+1))):=cell_block h.box2 0
 have f3:=frozen_block h.box3
 have z3:=block_lt h.box3
 have z2:=block_lt h.box2
 have HOWN:=Lib.hid hown
 have HB3:=Lib.hid h.box3
 have HB2:=Lib.hid h.box2
 have HG:=Lib.hid (fun(w1:World) (hg:wr.grownBy w1 (some (L+1))) (ho:w1.ownsMap Tryd.prog 3 (plainElem Tryd.prog 3) (L+1) (nm+1) (D.put (keyI v) (.lit (.int .i64 nx))))=>(⟨h.give hI hM hg ho (nx+1),by simpa [World.setCell] using hg.size,fun k hk h1 h3=>(Below.heap_setCell _ _ _ _ (by simpa using h3)).trans (hg.block k hk (by simpa using h1))⟩:CtX w V0 b c (w1.setCell ⟨L+3,0,none⟩ (.int .i64 (nx+1))) s V L (putN M v nx) (nx+1) (nm+1)∧wr.heap.size≤(w1.setCell ⟨L+3,0,none⟩ (.int .i64 (nx+1))).heap.size∧∀k,k<wr.heap.size→k≠L+1→k≠L+3→(w1.setCell ⟨L+3,0,none⟩ (.int .i64 (nx+1))).heap[k]? =wr.heap[k]?))
 have HKY:=Lib.hid (keyI_of hv)
 have HWF:=Lib.hid (plainElem_int (H:=Unit) (P:=Tryd.prog) Tryd.underlying3 (litI_wf (x:=nx) (by omega) (by omega)))
 clear h hown hI hM
 go_enter Tryd.func58,Tryd.ntmps58
 go_wp2_with (first|(at_mapUpdate;go_must (refine wpList_mapUpdate_own _ rfl _ _ _ mapI rfl 3 3 lawI Tryd.underlying138 (plainElem Tryd.prog 3) (L+1) nm D rfl HOWN.out (by unfold maxLen;omega) _ _ (keyI v) rfl rfl HKY.out (.lit (.int .i64 nx)) [] HWF.out ?_;intro w1 hown1 hg1;have HO1:=Lib.hid hown1;have HGR:=Lib.hid (HG.out w1 hg1 hown1);clear c3 c2 f3;have hb3:=(hg1.block (L+3) z3 (by simp)).trans HB3.out;have hb2:=(hg1.block (L+2) z2 (by simp)).trans HB2.out;have c3:w1.cell? ⟨L+3,0,none⟩=some (.int .i64 nx):=cell_block hb3 0;have c2:w1.cell? ⟨L+2,0,none⟩=some (.map (some (L+1))):=cell_block hb2 0;have f3:=frozen_block hb3;have zz3:=block_lt hb3;have zz2:=block_lt hb2;clear hown1 hg1 hb3 hb2))|(at_lookup;go_must (refine wpList_lookup_own_int _ rfl _ _ mapI rfl 3 3 .i64 lawI Tryd.underlying138 Tryd.underlying3 (zeroI _) (L+1) (nm+1) _ rfl (HO1.out.setCell (by simp) _) _ (keyI v) rfl HKY.out ?_;intro cc hat hwc)))
 refine bodyPost_ret (v:= .int .i64 cc) (by simp[results,Tryd.results58,go_sem]) rfl ⟨cc,rfl,HGR.out⟩
end
noncomputable def toV(l:List Int)(M:Nat→Int)(v:Int):Int:=if v<0 then v else M (rt l v.toNat)
set_option maxRecDepth 100000 in
set_option maxHeartbeats 8000000 in
theorem to_any{w wr:World}{V0 V:SK→Value}{b L nm:Nat}{c:SC}{s:SB}{M:Nat→Int}{nx:Int}(h:CtX w V0 b c wr s V L M nx nm)(hal:AllR s.same)(hl:s.same.length≤100000){v:Int}(hv:v<s.same.length){key:SK}{g o n cap:Nat}(hvk:V key= .slice (some ⟨g,0,none⟩) n cap)(hc:wr.cell? ⟨g,o,none⟩=some (.int .i64 v)):
 Calls Tryd.prog 59 #[.pointer (some ⟨g,o,none⟩), .pointer (some ⟨L+2,0,none⟩), .pointer (some ⟨L,0,none⟩)] wr fun e w' =>e= .returned (.tuple #[])∧∃w1,Below wr.heap.size wr w1∧w' =w1.setCell ⟨g,o,none⟩ (.int .i64 (toV s.same M v)):=by
 have hko:(V key).ownBlock=some g:=by rw[hvk];rfl
 have zg:=(h.sb.rlt key hko).2
 have fg:wr.frozen? ⟨g,o,none⟩=false:=(h.sb.own.free key (by rw[rowsOf_v];exact hvk) o).1
 have hfar:=h.far key
 rw[hko] at hfar
 have HNE:Hid (g≠L+2∧g≠L):=Lib.hid ⟨fun e=>hfar.2.2.1 (by rw[e]),fun e=>hfar.1 (by rw[e])⟩
 by_cases hv0:v<0
 ·have hd:decide (v≥0)=false:=by simpa using hv0
  have HT:Hid (wr=wr.setCell ⟨g,o,none⟩ (.int .i64 (toV s.same M v))):=Lib.hid (by unfold toV;rw[if_pos hv0,setCell_self hc])
  have HBR:=Lib.hid (Below.refl wr.heap.size wr)
  clear h hal hl hv hvk hfar hv0
  go_enter Tryd.func59,Tryd.ntmps59
  go_wp2_with fail
  refine bodyPost_end (v:= .tuple #[]) (by simp[results,Tryd.results59,go_sem]) rfl ⟨rfl,wr,HBR.out,HT.out⟩
 ·obtain⟨m,rfl⟩:∃m:Nat,v=m:=⟨v.toNat,by omega⟩
  have hd:decide ((m:Int)≥0)=true:=by simp
  have hfi:=findi_any (h.keeps (Below.refl wr.heap.size wr).drew).sb hal (m:Int) hv
  rw[rti_nat] at hfi
  have HFI:=Lib.hid hfi
  have hrt:rt s.same m<s.same.length:=(gI.1 (hal.root (v:=m) (by omega))).1
  have hlk:=(h.keeps (Below.refl wr.heap.size wr).drew).map.look (m:=rt s.same m) (by omega)
  obtain⟨x,hx⟩:∃x,M (rt s.same m)=x:=⟨_,rfl⟩
  rw[hx] at hlk
  have HTV:Hid (toV s.same M (m:Int)=x):=Lib.hid (by unfold toV;rw[if_neg (by omega),Int.toNat_natCast,hx])
  have HS0:Hid (wr.drew.cell? ⟨L+2,0,none⟩=some (.map (some (L+1)))∧wr.drew.cell? ⟨L,0,none⟩=some (.pointer (some ⟨b,0,none⟩))):=Lib.hid ⟨cell_block h.box2 0,cell_block h.box0 0⟩
  have HBD:Hid (Below wr.heap.size wr wr.drew):=Lib.hid (Below.refl _ _).drew
  clear h hal hl hv hvk hfar hv0 hko hfi hrt hx
  go_enter Tryd.func59,Tryd.ntmps59
  go_wp2_with fail
  refine wp_region_held_drew (S:=fun w' =>w'.cell? ⟨L+2,0,none⟩=some (.map (some (L+1)))∧w'.cell? ⟨L,0,none⟩=some (.pointer (some ⟨b,0,none⟩))) (by kernel_rfl) HS0.out (fun hHeld=> ?_)
  refine wpAnyH_take (i:=0) (v:= .pointer (some ⟨g,o,none⟩)) rfl (by kernel_rfl) (by kernel_rfl) (by kernel_rfl) (fun _ _ _ h=>h) (Or.inl ⟨by rfl,?_⟩) hHeld ?_
  ·intro w hSw
   simp only[qg]
   go_simp
  simp only[Act.put,qs]
  refine wpAnyH_take (i:=1) (v:= .map (some (L+1))) rfl (by kernel_rfl) (by kernel_rfl) (by kernel_rfl) (fun _ _ _ h=>h) (Or.inl ⟨by rfl,?_⟩) hHeld ?_
  ·intro w hSw
   obtain⟨p0,p1⟩:=hSw
   simp only[qg]
   go_simp
  simp only[Act.put,qs]
  refine wpAnyH_take (i:=2) (v:= .pointer (some ⟨b,0,none⟩)) rfl (by kernel_rfl) (by kernel_rfl) (by kernel_rfl) (fun _ _ _ h=>h) (Or.inl ⟨by rfl,?_⟩) hHeld ?_
  ·intro w hSw
   obtain⟨p0,p1⟩:=hSw
   simp only[qg]
   go_simp
  simp only[Act.put,qs]
  refine wpAnyH_take (i:=3) (v:= .pointer (some ⟨g,o,none⟩)) rfl (by kernel_rfl) (by kernel_rfl) (by kernel_rfl) (fun _ _ _ h=>h) (Or.inl ⟨by rfl,?_⟩) hHeld ?_
  ·intro w hSw
   simp only[qg]
   go_simp
  simp only[Act.put,qs]
  refine wpAnyH_take (i:=4) (v:= .pointer (some ⟨g,o,none⟩)) rfl (by kernel_rfl) (by kernel_rfl) (by kernel_rfl) (fun _ _ _ h=>h) (Or.inl ⟨by rfl,?_⟩) hHeld ?_
  ·intro w hSw
   simp only[qg]
   go_simp
  simp only[Act.put,qs]
  refine wpAnyH_ready (rs:=[5]) (by kernel_rfl) (by simp) ?_
  refine AllReadyH.cons rfl (fun K hK=> ?_) AllReadyH.nil
  simp only[qg]
  go_simp
  refine hK.out _ _ hHeld (fun hHeld=> ?_)
  clear hK K
  refine wpAnyH_ready (rs:=[6]) (by kernel_rfl) (by simp) ?_
  refine AllReadyH.cons rfl (fun K hK=> ?_) AllReadyH.nil
  simp only[qg]
  go_simp
  refine(HFI.out).mono ?_
  rintro e w' ⟨rfl,rfl⟩
  refine hK.out _ _ hHeld (fun hHeld=> ?_)
  clear hK K
  refine wpAnyH_ready (rs:=[7]) (by kernel_rfl) (by simp) ?_
  refine AllReadyH.cons rfl (fun K hK=> ?_) AllReadyH.nil
  simp only[qg]
  go_simp
  refine hK.out _ _ hHeld (fun hHeld=> ?_)
  clear hK K
  refine wpAnyH_take (i:=8) (v:= .pointer (some ⟨g,o,none⟩)) rfl (by kernel_rfl) (by kernel_rfl) (by kernel_rfl) (fun _ _ _ h=>h) (Or.inl ⟨by rfl,?_⟩) hHeld ?_
  ·intro w hSw
   simp only[qg]
   go_simp
  simp only[Act.put,qs]
  refine wpAnyH_ready (rs:=[9]) (by kernel_rfl) (by simp) ?_
  refine AllReadyH.cons rfl (fun K hK=> ?_) AllReadyH.nil
  simp only[qg]
  go_simp
  refine hK.out _ _ ⟨(World.cell?_setCell_far _ _ _ _ HNE.out.1).trans HS0.out.1,(World.cell?_setCell_far _ _ _ _ HNE.out.2).trans HS0.out.2⟩ (fun hHeld=> ?_)
  clear hK K
  clear hHeld
  refine wpAnyH_done (by kernel_rfl) ?_ _
  go_wp2_with fail
  refine bodyPost_end (v:= .tuple #[]) (by simp[results,Tryd.results59,go_sem]) rfl ⟨rfl,wr.drew,HBD.out,by rw[HTV.out];rfl⟩
def mapTo{α:Type}(f:α→α)(k:Nat)(l:List α):List α:=(l.take k).map f++l.drop k
section
variable {α:Type}{f:α→α}{k:Nat}{l:List α}
theorem mapTo_zero:mapTo f 0 l=l:=by simp[mapTo]
theorem mapTo_full(h:l.length≤k):mapTo f k l=l.map f:=by simp[mapTo,List.take_of_length_le h,List.drop_of_length_le h]
theorem mapTo_len:(mapTo f k l).length=l.length:=by simp[mapTo];omega
theorem mapTo_get{j:Nat}(hj:k≤j):(mapTo f k l)[j]? =l[j]? :=by
 unfold mapTo
 by_cases h:k≤l.length
 ·rw[List.getElem?_append_right (by simp;omega)]
  simp only[List.length_map,List.length_take,List.getElem?_drop]
  congr 1;omega
 ·rw[List.getElem?_eq_none (by simp;omega),List.getElem?_eq_none (by omega)]
theorem mapTo_getD{j:Nat}(hj:k≤j)(d:α):(mapTo f k l).getD j d=l.getD j d:=by
 rw[gD,gD,mapTo_get hj]
theorem mapTo_set(hk:k<l.length){x:α}(hx:f l[k]=x):(mapTo f k l).set k x=mapTo f (k+1) l:=by
 unfold mapTo
 rw[List.set_append_right _ _ (by simp;omega),List.take_succ_eq_append_getElem hk,List.map_append,List.append_assoc]
 congr 1
 have e0:k-((l.take k).map f).length=0:=by simp;omega
 rw[e0,List.drop_eq_getElem_cons hk,List.set_cons_zero,List.map_cons,List.map_nil,hx];rfl
end
def numF(P:Nat)(G:List Nat):(Nat→Int)×Nat:=G.foldl (fun x v=>(putN x.1 v (x.2:Int),x.2+1)) (fun m=>if m<P then(m:Int) else 0,P)
theorem numF_snoc(P:Nat)(G:List Nat)(v:Nat):numF P (G++[v])=(putN (numF P G).1 v ((numF P G).2:Int),(numF P G).2+1):=by
 unfold numF
 rw[List.foldl_append];rfl
theorem numF_aux:∀(G:List Nat) (x:(Nat→Int)×Nat),(G.foldl (fun(x:(Nat→Int)×Nat) v=>(putN x.1 v (x.2:Int),x.2+1)) x).2=x.2+G.length
 |[],x=>rfl
 |v::G,x=>by
  rw[List.foldl_cons,numF_aux G,List.length_cons]
  show x.2+1+G.length=_
  omega
theorem numF_nx(P:Nat)(G:List Nat):(numF P G).2=P+G.length:=numF_aux G _
def baseN(j:Nat):Nat→Int:=fun m=>if m<j then(m:Int) else 0
theorem baseN_zero:baseN 0=fun _=>0:=by funext m;simp[baseN]
theorem baseN_succ(j:Nat):putN (baseN j) j (j:Int)=baseN (j+1):=by
 funext m
 unfold putN baseN
 by_cases h:m=j
 ·subst h;rw[if_pos rfl,if_pos (by omega)]
 ·rw[if_neg h]
  by_cases h2:m<j
  ·rw[if_pos h2,if_pos (by omega)]
  ·rw[if_neg h2,if_neg (by omega)]
def keptK(s:SB)(i k:Nat):List Nat:=(List.range k).filter fun t=>s.same[(s.phi i t).id.toNat]? ==some (s.phi i t).id
theorem keptK_succ(s:SB)(i k:Nat):keptK s i (k+1)=keptK s i k++if (s.same[(s.phi i k).id.toNat]? ==some (s.phi i k).id)=true then[k] else[]:=by
 unfold keptK
 rw[List.range_succ,List.filter_append]
 congr 1
 by_cases h:(s.same[(s.phi i k).id.toNat]? ==some (s.phi i k).id)=true
 ·rw[if_pos h];simp[h]
 ·rw[if_neg h];simp[h]
theorem keptK_lt(s:SB)(i k:Nat):∀t∈keptK s i k,t<k:=fun _t ht=>List.mem_range.1 (List.mem_filter.1 ht).1
theorem keptK_sorted(s:SB)(i k:Nat):(keptK s i k).Pairwise (· < ·):=List.Pairwise.filter _ List.pairwise_lt_range
theorem keptK_len(s:SB)(i k:Nat):(keptK s i k).length≤k:=Nat.le_trans (List.length_filter_le _ _) (by simp)
def phiG(s:SB)(i k:Nat):List Nat:=(keptK s i k).map fun t=>(s.phi i t).id.toNat
def insG(s:SB)(i k:Nat):List Nat:=((List.range k).filter fun t=>decide (0≤(s.insA i t).id)).map fun t=>(s.insA i t).id.toNat
theorem insG_succ(s:SB)(i k:Nat):insG s i (k+1)=insG s i k++if 0≤(s.insA i k).id then[(s.insA i k).id.toNat] else[]:=by
 unfold insG
 rw[List.range_succ,List.filter_append,List.map_append]
 congr 1
 by_cases h:0≤(s.insA i k).id
 ·rw[if_pos h];simp[h]
 ·rw[if_neg h];simp[h]
theorem phiG_succ(s:SB)(i k:Nat):phiG s i (k+1)=phiG s i k++if (s.same[(s.phi i k).id.toNat]? ==some (s.phi i k).id)=true then[(s.phi i k).id.toNat] else[]:=by
 unfold phiG
 rw[keptK_succ,List.map_append]
 congr 1
 by_cases h:(s.same[(s.phi i k).id.toNat]? ==some (s.phi i k).id)=true
 ·rw[if_pos h,if_pos h];rfl
 ·rw[if_neg h,if_neg h];rfl
theorem insG_len(s:SB)(i k:Nat):(insG s i k).length≤k:=by
 unfold insG;rw[List.length_map];exact Nat.le_trans (List.length_filter_le _ _) (by simp)
theorem phiG_len(s:SB)(i k:Nat):(phiG s i k).length≤k:=by
 unfold phiG;rw[List.length_map];exact keptK_len s i k
def partG(s:SB)(i:Nat):List Nat:=phiG s i (s.part i).phis.length++insG s i (s.part i).ins.length
def allG(s:SB)(i:Nat):List Nat:=(List.range i).flatMap (partG s)
theorem allG_succ(s:SB)(i:Nat):allG s (i+1)=allG s i++partG s i:=by
 unfold allG
 rw[List.range_succ,List.flatMap_append];simp
theorem allG_len{s:SB}(h1:∀j,(s.part j).phis.length≤100)(h2:∀j,(s.part j).ins.length≤1000):∀i,(allG s i).length≤1100*i
 |0=>by simp[allG]
 |i+1=>by
  have:=allG_len h1 h2 i
  rw[allG_succ,List.length_append]
  unfold partG
  rw[List.length_append]
  have h3:=phiG_len s i (s.part i).phis.length
  have h4:=insG_len s i (s.part i).ins.length
  have h5:=h1 i
  have h6:=h2 i
  omega
structure PtR(s s' :SB)(F:Nat→PartS)(i:Nat)(X:PartS):Prop where
 same:s'.same=s.same
 ends:s'.ends=s.ends
 began:s'.began=s.began
 len:s'.parts.length=s.parts.length
 part:∀j,j<s.parts.length→s'.part j=if j<i then F j else if j=i then X else s.part j
section
variable {s s' :SB}{F:Nat→PartS}{i:Nat}{X Y:PartS}
theorem PtR.start(s:SB)(F:Nat→PartS):PtR s s F 0 (s.part 0):=⟨rfl,rfl,rfl,rfl,fun j _=>by
 rw[if_neg (by omega)]
 by_cases e:j=0
 ·rw[if_pos e,e]
 ·rw[if_neg e]⟩
theorem PtR.at_(h:PtR s s' F i X)(hi:i<s.parts.length):s'.part i=X:=by
 rw[h.part i hi,if_neg (by omega),if_pos rfl]
theorem PtR.mod(h:PtR s s' F i X)(hi:i<s.parts.length)(Y:PartS):PtR s (s'.mod i Y) F i Y:=by
 refine⟨h.same,h.ends,h.began,by show(s'.parts.set i Y).length=_;rw[List.length_set];exact h.len,fun j hj=> ?_⟩
 rw[mod_part (by rw[h.len];exact hi)]
 by_cases e:j=i
 ·subst e;rw[if_pos rfl,if_neg (by omega),if_pos rfl]
 ·rw[if_neg e,h.part j hj]
  by_cases h2:j<i
  ·rw[if_pos h2,if_pos h2]
  ·rw[if_neg h2,if_neg h2,if_neg e,if_neg e]
theorem PtR.cast(h:PtR s s' F i X)(e:X=Y):PtR s s' F i Y:=e▸h
theorem PtR.next(h:PtR s s' F i X)(e:X=F i):PtR s s' F (i+1) (s.part (i+1)):=by
 refine⟨h.same,h.ends,h.began,h.len,fun j hj=> ?_⟩
 rw[h.part j hj]
 by_cases h2:j<i
 ·rw[if_pos h2,if_pos (by omega)]
 ·rw[if_neg h2]
  by_cases h3:j=i
  ·subst h3;rw[if_pos rfl,if_pos (by omega),e]
  ·rw[if_neg h3,if_neg (by omega)]
   by_cases h4:j=i+1
   ·subst h4;rw[if_pos rfl]
   ·rw[if_neg h4]
theorem PtR.inn(h:PtR s s' F i X)(hs:∀j,j<s.parts.length→(s.part j).inn.length=12)(hF:∀j,j<s.parts.length→(F j).inn.length=12)(hX:X.inn.length=12):∀x∈s'.parts,x.inn.length=12:=fun x hx=>by
 obtain⟨j,hj,rfl⟩:=List.getElem_of_mem hx
 have h2:s'.part j=s'.parts[j]:=by unfold SB.part;rw[gD,gE hj];rfl
 have hj' :j<s.parts.length:=by rw[←h.len];exact hj
 rw[←h2,h.part j hj']
 split
 ·exact hF j hj'
 ·split
  ·exact hX
  ·exact hs j hj'
end
theorem OwnK.comp{κ:Type}{w:World}{B:Nat}{ρ:κ→RowC}(h:OwnK w B ρ){σ:κ→κ}(hσ:∀j k,j≠k→σ j≠σ k):OwnK w B (fun k=>ρ (σ k)):=
 ⟨fun k=>h.own (σ k),fun j k hjk b hb=>h.ap (σ j) (σ k) (hσ j k hjk) b hb⟩
theorem OwnK.adopt{κ:Type}[DecidableEq κ]{w:World}{B:Nat}{ρ:κ→RowC}(h:OwnK w B ρ)(k:κ)(r:RowC)(hr:w.ownsRow B r.e r.size r.v r.n r.xs)(hf:∀b,r.v.ownBlock=some b→∀j,(ρ j).v.ownBlock≠some b):OwnK w B (putK ρ k r):=by
 refine⟨fun j=> ?_,fun j j' hj b h1 h2=> ?_⟩
 ·by_cases e:j=k
  ·subst e;rw[putK_self];exact hr
  ·rw[putK_ne _ e];exact h.own j
 ·by_cases e:j=k
  ·subst e
   rw[putK_self] at h1
   rw[putK_ne _ (Ne.symm hj)] at h2
   exact hf b h1 j' h2
  ·rw[putK_ne _ e] at h1
   by_cases e' :j' =k
   ·subst e'
    rw[putK_self] at h2
    exact hf b h2 j h1
   ·rw[putK_ne _ e'] at h2
    exact h.ap j j' hj b h1 h2
def sig(K:List Nat)(m t:Nat):Nat:=if t<K.length then K.getD t 0 else m+(t-K.length)
theorem sig_inj{K:List Nat}{m:Nat}(hK:K.Pairwise (· < ·))(hm:∀t∈K,t<m){t u:Nat}(h:t≠u):sig K m t≠sig K m u:=by
 have lt:∀t u,t<u→u<K.length→K.getD t 0<K.getD u 0:=fun t u h1 h2=>by
  rw[gD,gD,gE (by omega),gE h2]
  exact List.pairwise_iff_getElem.1 hK t u (by omega) h2 h1
 have hl:∀t,t<K.length→K.getD t 0<m:=fun t ht=>by
  rw[gD,gE ht];exact hm _ (List.getElem_mem ht)
 unfold sig
 by_cases h1:t<K.length
 ·rw[if_pos h1]
  by_cases h2:u<K.length
  ·rw[if_pos h2]
   rcases Nat.lt_or_gt_of_ne h with h3|h3
   ·have:=lt t u h3 h2;omega
   ·have:=lt u t h3 h1;omega
  ·rw[if_neg h2];have:=hl t h1;omega
 ·rw[if_neg h1]
  by_cases h2:u<K.length
  ·rw[if_pos h2];have:=hl u h2;omega
  ·rw[if_neg h2];omega
def sigK(i:Nat)(K:List Nat)(m:Nat):SK→SK
 | .args j t=>if j=i then .args i (sig K m t) else .args j t
 |k=>k
theorem sigK_inj{i:Nat}{K:List Nat}{m:Nat}(hK:K.Pairwise (· < ·))(hm:∀t∈K,t<m)(j k:SK)(h:j≠k):sigK i K m j≠sigK i K m k:=by
 intro e
 apply h
 cases j with
 |args a t=>
  cases k with
  |args b u=>
   simp only[sigK] at e
   by_cases e1:a=i<;>by_cases e2:b=i
   ·subst e1;subst e2
    rw[if_pos rfl,if_pos rfl] at e
    simp only[SK.args.injEq,true_and] at e⊢
    by_cases e3:t=u
    ·exact e3
    ·exact absurd e (sig_inj hK hm e3)
   ·rw[if_pos e1,if_neg e2] at e
    simp only[SK.args.injEq] at e
    exact absurd e.1.symm e2
   ·rw[if_neg e1,if_pos e2] at e
    simp only[SK.args.injEq] at e
    exact absurd e.1 e1
   ·rw[if_neg e1,if_neg e2] at e;exact e
  |_=>simp only[sigK] at e;split at e<;>simp at e
 |_=>
  cases k with
  |args b u=>simp only[sigK] at e;split at e<;>simp at e
  |_=>first|rfl|exact e|(simp only[sigK] at e;simp at e)
theorem ownsRow_low{w:World}{base base' :Nat}{e:TypeId}{size:Nat}{v:Value}{n:Nat}{xs:List Value}(h:w.ownsRow base e size v n xs)(hb:base' ≤base):w.ownsRow base' e size v n xs:=by
 obtain⟨h1,h2⟩:=h
 refine⟨h1,?_⟩
 rcases h2 with h2|⟨g,cap,cur,rfl,hg,r⟩
 ·exact .inl h2
 ·exact .inr ⟨g,cap,cur,rfl,by omega,r⟩
def newV(V:SK→Value)(i:Nat)(vt:Value)(K:List Nat)(m:Nat):SK→Value:=fun key=>if key= .phis i then vt else V (sigK i K m key)
def SB.keep(s:SB)(i:Nat)(K:List Nat):SB:=s.mod i {s.part i with phis:=K.map (s.phi i)}
theorem keep_arg{s:SB}{i:Nat}(hi:i<s.parts.length){K:List Nat}(t:Nat):(s.keep i K).arg i t=s.arg i (sig K (s.part i).phis.length t):=by
 unfold SB.keep
 rw[mod_arg hi,if_pos rfl]
 show((K.map (s.phi i)).getD t noPhi).args=_
 unfold sig
 by_cases h:t<K.length
 ·rw[if_pos h,gD,List.getElem?_map,gE h,gD,gE h];rfl
 ·rw[if_neg h,gD,List.getElem?_eq_none (by simp;omega)]
  unfold SB.arg
  rw[gD,List.getElem?_eq_none (by omega)]
theorem keep_rows{s:SB}{V:SK→Value}{i:Nat}(hi:i<s.parts.length)(hs:∀x∈s.parts,x.inn.length=12){K:List Nat}(vt:Value):
 rowsOf (s.keep i K) (newV V i vt K (s.part i).phis.length)=putK (putK (fun k=>rowsOf s V (sigK i K (s.part i).phis.length k)) (.phis i) ⟨88,3,vt,K.length,K.flatMap fun k=>(s.phi i k).cells (V (.args i k))⟩) .parts
  {rowsOf s V .parts with xs:=(rowsOf s V .parts).xs.set (i*15+1) vt}:=by
 obtain⟨m,hm⟩:∃m,(s.part i).phis.length=m:=⟨_,rfl⟩
 have hnv:∀key,key≠ .phis i→newV V i vt K m key=V (sigK i K m key):=fun key h=>if_neg h
 rw[hm]
 funext q
 cases q with
 |same=>rw[putK_ne _ (by simp),putK_ne _ (by simp)];exact RowC.eq' rfl rfl (hnv .same (by simp)) rfl rfl
 |ends=>rw[putK_ne _ (by simp),putK_ne _ (by simp)];exact RowC.eq' rfl rfl (hnv .ends (by simp)) rfl rfl
 |began=>rw[putK_ne _ (by simp),putK_ne _ (by simp)];exact RowC.eq' rfl rfl (hnv .began (by simp)) rfl rfl
 |parts=>
  rw[putK_self]
  refine RowC.eq' rfl rfl (hnv .parts (by simp)) (by show(s.parts.set i _).length=_;rw[List.length_set];rfl) ?_
  show partsCells (s.parts.set i _) _ _=(partsCells s.parts _ _).set (i*15+1) _
  unfold partsCells
  rw[List.length_set]
  symm
  refine flat_set (fun k hk=>part_len hs hk _ _) hi (by omega) _ (fun k hk=> ?_) ?_
  ·rw[getD_set _ hi,if_neg hk];dsimp only;rw[hnv (.phis k) (by simpa using hk),hnv (.ins k) (by simp)];rfl
  ·rw[getD_set _ hi,if_pos rfl];dsimp only;rw[hnv (.ins i) (by simp),show newV V i vt K m (.phis i)=vt from if_pos rfl];rfl
 |phis j=>
  rw[putK_ne _ (by simp)]
  by_cases e:j=i
  ·subst e
   rw[putK_self]
   have hp:(s.keep j K).part j={s.part j with phis:=K.map (s.phi j)}:=by unfold SB.keep;rw[mod_part hi,if_pos rfl]
   refine RowC.eq' rfl rfl (if_pos rfl) (by show((s.keep j K).part j).phis.length=_;rw[hp];show(K.map _).length=_;rw[List.length_map]) ?_
   show phiCells ((s.keep j K).part j).phis _=_
   rw[hp]
   show phiCells (K.map (s.phi j)) _=_
   unfold phiCells
   rw[List.length_map]
   have e2:K=(List.range K.length).map fun t=>K.getD t 0:=by
    apply List.ext_getElem (by simp)
    intro n h1 h2
    simp[gE h1]
   conv=>rhs;rw[e2]
   rw[List.flatMap_map]
   refine flat_same fun t ht=> ?_
   dsimp only
   rw[hnv (.args j t) (by simp),gD,List.getElem?_map,gE ht]
   show(s.phi j K[t]).cells (V (sigK j K m (.args j t)))=_
   simp only[sigK,if_true]
   unfold sig
   rw[if_pos ht,gD,gE ht];rfl
  ·rw[putK_ne _ (by simpa using e)]
   have hp:(s.keep i K).part j=s.part j:=by unfold SB.keep;rw[mod_part hi,if_neg e]
   refine RowC.eq' rfl rfl (hnv (.phis j) (by simpa using e)) (by show((s.keep i K).part j).phis.length=_;rw[hp];rfl) ?_
   show phiCells ((s.keep i K).part j).phis _=phiCells (s.part j).phis _
   rw[hp]
   congr 1
   funext k
   rw[hnv (.args j k) (by simp)]
   show V (if j=i then _ else _)=_
   rw[if_neg e]
 |ins j=>
  rw[putK_ne _ (by simp),putK_ne _ (by simp)]
  have hp:((s.keep i K).part j).ins=(s.part j).ins:=by
   unfold SB.keep
   rw[mod_part hi]
   by_cases e:j=i
   ·subst e;rw[if_pos rfl]
   ·rw[if_neg e]
  exact RowC.eq' rfl rfl (hnv (.ins j) (by simp)) (by show((s.keep i K).part j).ins.length=_;rw[hp];rfl) (by show insCells ((s.keep i K).part j).ins=_;rw[hp];rfl)
 |args j t=>
  rw[putK_ne _ (by simp),putK_ne _ (by simp)]
  by_cases e:j=i
  ·subst e
   have ha:=keep_arg hi (K:=K) t
   rw[hm] at ha
   have hk:sigK j K m (.args j t)= .args j (sig K m t):=if_pos rfl
   rw[hk]
   exact RowC.eq' rfl rfl ((hnv (.args j t) (by simp)).trans (by rw[hk];rfl)) (by show((s.keep j K).arg j t).length=_;rw[ha];rfl) (by show intsV ((s.keep j K).arg j t)=_;rw[ha];rfl)
  ·have ha:(s.keep i K).arg j t=s.arg j t:=by unfold SB.keep;rw[mod_arg hi,if_neg e]
   have hk:sigK i K m (.args j t)= .args j t:=if_neg e
   rw[hk]
   exact RowC.eq' rfl rfl ((hnv (.args j t) (by simp)).trans (by rw[hk];rfl)) (by show((s.keep i K).arg j t).length=_;rw[ha];rfl) (by show intsV ((s.keep i K).arg j t)=_;rw[ha];rfl)
section
variable {w wr w' w1:World}{V0 V V' :SK→Value}{b L nm:Nat}{c:SC}{s s' :SB}{M:Nat→Int}{nx:Int}
theorem CtX.lt(h:CtX w V0 b c wr s V L M nx nm):w.heap.size≤L∧b<L∧L+3<wr.heap.size:=by
 obtain⟨mo,hX⟩:=h.x
 have h1:=hX.loc _ (.tail _ (.tail _ (.tail _ (.head _))))
 exact⟨h1.2.1,h1.2.2.1,block_lt h.box3⟩
theorem CtX.out(h:CtX w V0 b c wr s V L M nx nm){o:Obj}{ob:Option Nat}(hg:(wr.alloc o).grownBy w' ob)(hob:∀g,ob=some g→L+4≤g∧∀key,(V key).ownBlock≠some g):CtX w V0 b c w' s V L M nx nm:=by
 obtain⟨hl1,hl2,hl3⟩:=h.lt
 obtain⟨⟨mo,hX⟩,hM⟩:=h
 have key:∀k,k<wr.heap.size→(∀g,ob=some g→k≠g)→w'.heap[k]? =wr.heap[k]? :=fun k hk hne=>(hg.block k (by simp;omega) (fun e=>hne k e.symm rfl)).trans (Below.heap_alloc _ _ _ hk)
 have hbl:=hX.sb.lt
 have hloc:∀x∈[(L+3,Obj.cells #[.int .i64 nx] 3 (0,0)),(L+2, .cells #[.map (some (L+1))] mapI (0,0)),(L+1,mo),(L, .cells #[.pointer (some ⟨b,0,none⟩)] 95 (0,0))],x.1<L+4:=fun x hx=>by
  simp only[List.mem_cons,List.not_mem_nil,or_false] at hx
  rcases hx with rfl|rfl|rfl|rfl<;>simp
 have hk1:w'.heap[L+1]? =wr.heap[L+1]? :=key _ (by omega) (fun g e=>by have:=(hob g e).1;omega)
 refine⟨⟨mo,⟨⟨(key b hbl (fun g e=>by have:=(hob g e).1;omega)).trans hX.sb.box,hX.sb.own.same fun g _ hg2 ⟨q,hq⟩=>key g hg2 (fun g' e e2=>(hob g' e).2 q (by rw[←rowsOf_v s V q,hq,e2]))⟩,?_,fun x hx=> ?_⟩⟩,hM.of_block hk1⟩
 ·refine⟨(hX.fr.below.alloc (by omega) o).grown hg (by simp;omega) (fun k e=>by have:=(hob k e).1;omega),Nat.le_trans hX.fr.size (by have:=hg.size;simp at this;omega),fun k hk hkb hv=> ?_,hX.fr.rows⟩
  exact(key k (Nat.lt_of_lt_of_le hk hX.fr.size) (fun g e=>by have:=(hob g e).1;omega)).trans (hX.fr.kept k hk hkb hv)
 ·obtain⟨q1,q2,q3,q4⟩:=hX.loc x hx
  exact⟨(key _ (Array.getElem?_eq_some_iff.1 q1).1 (fun g e=>by have:=(hob g e).1;have:=hloc x hx;omega)).trans q1,q2,q3,q4⟩
theorem CtX.newPhis(h:CtX w V0 b c wr s V L M nx nm)(hs:∀x∈s.parts,x.inn.length=12){i:Nat}(hi:i<s.parts.length){gp np cp:Nat}(hvp:V .parts= .slice (some ⟨gp,0,none⟩) np cp){K:List Nat}(hK:K.Pairwise (· < ·))(hm:∀t∈K,t<(s.part i).phis.length){vt:Value}
 (ho:wr.ownsRow (L+4) 88 3 vt K.length (K.flatMap fun k=>(s.phi i k).cells (V (.args i k)))) (hf:∀g,vt.ownBlock=some g→∀key,(V key).ownBlock≠some g):
 CtX w V0 b c (wr.setCell ⟨gp,i*15+1,none⟩ vt) (s.keep i K) (newV V i vt K (s.part i).phis.length) L M nx nm:=by
 obtain⟨hl1,hl2,hl3⟩:=h.lt
 have hfar:=h.far .parts
 have hgo:(V .parts).ownBlock=some gp:=by rw[hvp];rfl
 rw[hgo] at hfar
 have hgb:=(h.sb.rlt .parts hgo).1
 obtain⟨⟨mo,hX⟩,hM⟩:=h
 have hvb:∀g,vt.ownBlock=some g→L+4≤g:=fun g hg=>(World.ownsRow.lt ho g hg).1
 have hnv:∀key,newV V i vt K (s.part i).phis.length key=if key= .phis i then vt else V (sigK i K (s.part i).phis.length key):=fun _=>rfl
 have hkeep:∀k,k≠gp→(wr.setCell ⟨gp,i*15+1,none⟩ vt).heap[k]? =wr.heap[k]? :=fun k hk=>Below.heap_setCell _ _ _ _ (by simpa using hk)
 have h1:=(hX.sb.own.comp (sigK_inj (i:=i) hK hm)).adopt (.phis i) ⟨88,3,vt,K.length,K.flatMap fun k=>(s.phi i k).cells (V (.args i k))⟩ (ownsRow_low ho (by omega)) (fun g hg j=>by
  rw[rowsOf_v];exact hf g hg _)
 have h2:=h1.set .parts (g:=gp) (n:=np) (cap:=cp) (by rw[putK_ne _ (by simp),rowsOf_v];exact hvp) (i*15+1) vt (by
  rw[putK_ne _ (by simp)]
  show _<(partsCells _ _ _).length
  rw[parts_xs_len hs]
  have:(i+1)*15≤s.parts.length*15:=Nat.mul_le_mul_right 15 (by omega)
  omega)
 have hfr:∀key g,(newV V i vt K (s.part i).phis.length key).ownBlock=some g→(∃key',(V key').ownBlock=some g)∨L+4≤g:=fun key g hg=>by
  rw[hnv] at hg
  by_cases e:key= .phis i
  ·rw[if_pos e] at hg;exact .inr (hvb g hg)
  ·rw[if_neg e] at hg;exact .inl ⟨_,hg⟩
 refine⟨⟨mo,⟨⟨?_,?_⟩,⟨hX.fr.below.setCell (by simp;omega) _,by simpa [World.setCell] using hX.fr.size,fun k hk hkb hv=> ?_,fun key g hg=> ?_⟩,fun x hx=> ?_⟩⟩,hM.of_block (hkeep _ (fun e=>hfar.2.1 (by rw[e])))⟩
 ·rw[hkeep b (by omega),hX.sb.box];rfl
 ·rw[keep_rows hi hs]
  rw[putK_ne _ (by simp)] at h2
  exact h2
 ·rw[hkeep k (fun e=>by
   subst e
   rcases hX.fr.rows .parts _ hgo with⟨key',h3⟩|h3
   ·exact hv key' h3
   ·omega)]
  exact hX.fr.kept k hk hkb hv
 ·rcases hfr key g hg with⟨key',h3⟩|h3
  ·exact hX.fr.rows key' g h3
  ·exact .inr (by omega)
 ·obtain⟨q1,q2,q3,q4⟩:=hX.loc x hx
  have hx4:x.1<L+4∧x.1≠gp:=by
   simp only[List.mem_cons,List.not_mem_nil,or_false] at hx
   rcases hx with rfl|rfl|rfl|rfl
   ·exact⟨by simp,fun e=>hfar.2.2.2 (by rw[←e])⟩
   ·exact⟨by simp,fun e=>hfar.2.2.1 (by rw[←e])⟩
   ·exact⟨by simp,fun e=>hfar.2.1 (by rw[←e])⟩
   ·exact⟨by simp,fun e=>hfar.1 (by rw[←e])⟩
  refine⟨(hkeep _ hx4.2).trans q1,q2,q3,fun key e=> ?_⟩
  rcases hfr key _ e with⟨key',h3⟩|h3
  ·exact q4 key' h3
  ·omega
theorem CtX.upd(h:CtX w V0 b c wr s V L M nx nm){k n' :Nat}{y:Int}{D:DataW Unit}(hI:Maps.IsMap D)(hM:∀m:Nat,D.atKey (keyI m) (.lit (.int .i64 0))= .lit (.int .i64 (M m)))(hg:wr.grownBy w1 (some (L+1)))
 (ho:w1.ownsMap Tryd.prog 3 (plainElem Tryd.prog 3) (L+1) n' (D.put (keyI k) (.lit (.int .i64 y)))):CtX w V0 b c w1 s V L (putN M k y) nx n' :=by
 have h1:=h.give hI hM hg ho nx
 have hc:w1.cell? ⟨L+3,0,none⟩=some (.int .i64 nx):=by
  have hb:=(hg.block (L+3) (block_lt h.box3) (by simp)).trans h.box3
  exact cell_block hb 0
 rw[setCell_self hc] at h1
 exact h1
end
noncomputable def toPhi(l:List Int)(M:Nat→Int)(x:PhiS):PhiS:=⟨x.reg,toV l M x.id,x.args.map (toV l M)⟩
noncomputable def toIns(l:List Int)(M:Nat→Int)(x:InsS):InsS:=⟨x.op,toV l M x.id,toV l M x.a,toV l M x.b,x.imm,x.pc⟩
def keepF(s:SB)(j:Nat):PartS:={s.part j with phis:=(keptK s j (s.part j).phis.length).map (s.phi j)}
noncomputable def toPart(l:List Int)(M:Nat→Int)(E:List (List Int))(s:SB)(j:Nat):PartS:=⟨(s.part j).block,(s.part j).phis.map (toPhi l M),(s.part j).ins.map (toIns l M),(E.getD j []).map (toV l M)⟩
theorem SbAt.insCell{w:World}{b:Nat}{c:SC}{s:SB}{V:SK→Value}(h:SbAt w b c s V){i k:Nat}{g n cap:Nat}(hv:V (.ins i)= .slice (some ⟨g,0,none⟩) n cap)(hk:k<(s.part i).ins.length):
 w.cell? ⟨g,k*6,none⟩=some (.int .i64 (s.insA i k).op)∧w.cell? ⟨g,k*6+1,none⟩=some (.int .i64 (s.insA i k).id)∧w.cell? ⟨g,k*6+2,none⟩=some (.int .i64 (s.insA i k).a)∧w.cell? ⟨g,k*6+3,none⟩=some (.int .i64 (s.insA i k).b)∧w.cell? ⟨g,k*6+4,none⟩=some (.int .i64 (s.insA i k).imm)∧w.cell? ⟨g,k*6+5,none⟩=some (.int .i64 (s.insA i k).pc):=by
 have key:∀t,t<6→w.cell? ⟨g,k*6+t,none⟩=((s.insA i k).cells)[t]? :=fun t ht=>by
  have h1:((s.insA i k).cells)[t]? =some (((s.insA i k).cells)[t]'ht):=gE _
  rw[h1]
  refine h.own.cell (.ins i) (by rw[rowsOf_v];exact hv) ?_
  show(insCells (s.part i).ins)[k*6+t]? =_
  unfold insCells
  rw[flat_at (n:=6) (fun _ _=>rfl) hk ht,←h1];rfl
 exact⟨(key 0 (by omega)).trans rfl,(key 1 (by omega)).trans rfl,(key 2 (by omega)).trans rfl,(key 3 (by omega)).trans rfl,(key 4 (by omega)).trans rfl,(key 5 (by omega)).trans rfl⟩
theorem SbAt.innCell{w:World}{b:Nat}{c:SC}{s:SB}{V:SK→Value}(h:SbAt w b c s V)(hs:∀x∈s.parts,x.inn.length=12){g n cap:Nat}(hv:V .parts= .slice (some ⟨g,0,none⟩) n cap){i r:Nat}(hi:i<s.parts.length)(hr:r<12):
 w.cell? ⟨g,i*15+(3+r),none⟩=some (.int .i64 ((s.part i).inn.getD r 0)):=by
 refine h.own.cell .parts (by rw[rowsOf_v];exact hv) ?_
 show(partsCells s.parts _ _)[i*15+(3+r)]? =_
 unfold partsCells
 rw[flat_at (fun k hk=>part_len hs hk _ _) hi (by omega)]
 show([_,_,_]++intsV (s.part i).inn)[3+r]? =_
 rw[List.getElem?_append_right (by simp)]
 have hl:(s.part i).inn.length=12:=hs _ (by unfold SB.part;rw[gD,gE hi];exact List.getElem_mem hi)
 simp[intsV,List.getD_eq_getElem?_getD,gE (show r<(s.part i).inn.length by omega)]
theorem mod_mod(s:SB)(i:Nat)(x y:PartS):(s.mod i x).mod i y=s.mod i y:=by
 unfold SB.mod
 rw[List.set_set]
theorem mod_inn{s:SB}(hs:∀x∈s.parts,x.inn.length=12){i:Nat}{x:PartS}(hx:x.inn.length=12):∀y∈(s.mod i x).parts,y.inn.length=12:=fun y hy=>by
 rcases List.mem_or_eq_of_mem_set hy with h|h
 ·exact hs y h
 ·rw[h];exact hx
theorem SbAt.setInns{b:Nat}{c:SC}{V:SK→Value}{i g n cap:Nat}(hv:V .parts= .slice (some ⟨g,0,none⟩) n cap):∀(R:List Int) (o:Nat) {w:World} {s:SB},SbAt w b c s V→(∀x∈s.parts,x.inn.length=12)→i<s.parts.length→o+R.length≤12→
 ∃A,SbAt (w.setCells g (i*15+(3+o)) (intsV R)) b c (s.setInn i A) V∧A.length=12∧∀j,A.getD j 0=if o≤j∧j<o+R.length then R.getD (j-o) 0 else(s.part i).inn.getD j 0
 |[],o,w,s,h,hs,hi,_=>by
  refine⟨(s.part i).inn,?_,hs _ (by unfold SB.part;rw[gD,gE hi];exact List.getElem_mem hi),fun j=>by rw[if_neg (by simp only[List.length_nil];omega)]⟩
  have e:s.setInn i (s.part i).inn=s:=by
   unfold SB.setInn SB.mod
   show SB.mk s.same s.ends s.began (s.parts.set i (s.part i))=s
   have e2:s.parts.set i (s.part i)=s.parts:=by
    apply List.ext_getElem?
    intro j
    rw[List.getElem?_set]
    by_cases e:i=j
    ·subst e
     rw[if_pos rfl,if_pos hi]
     unfold SB.part
     rw[gD,gE hi];rfl
    ·rw[if_neg e]
   rw[e2]
  rw[e];exact h
 |v::R,o,w,s,h,hs,hi,ho=>by
  simp only[List.length_cons] at ho
  have hl:(s.part i).inn.length=12:=hs _ (by unfold SB.part;rw[gD,gE hi];exact List.getElem_mem hi)
  have h1:=(h.setInnAt hs hi (r:=o) (by omega) v hv).1
  obtain⟨A,h2,h3,h4⟩:=SbAt.setInns hv R (o+1) h1 (mod_inn hs (by show((s.part i).inn.set o v).length=12;rw[List.length_set];exact hl)) (by show i<(s.parts.set i _).length;rw[List.length_set];exact hi) (by omega)
  refine⟨A,?_,h3,fun j=> ?_⟩
  ·have e:(s.setInn i ((s.part i).inn.set o v)).setInn i A=s.setInn i A:=by
    unfold SB.setInn
    rw[mod_mod,mod_part hi,if_pos rfl]
   rw[e] at h2
   exact h2
  ·rw[h4 j]
   have e:((s.setInn i ((s.part i).inn.set o v)).part i).inn=(s.part i).inn.set o v:=by
    unfold SB.setInn
    rw[mod_part hi,if_pos rfl]
   rw[e]
   by_cases h5:o+1≤j∧j<o+1+R.length
   ·rw[if_pos h5,if_pos (by simp only[List.length_cons];omega),show j-o=(j-(o+1))+1 by omega];rfl
   ·rw[if_neg h5,getD_set _ (by omega)]
    by_cases h6:j=o
    ·subst h6
     rw[if_pos rfl,if_pos (by simp only[List.length_cons];omega),Nat.sub_self];rfl
    ·rw[if_neg h6,if_neg (by simp only[List.length_cons];omega)]
theorem SbAt.setInn{w:World}{b:Nat}{c:SC}{s:SB}{V:SK→Value}(h:SbAt w b c s V)(hs:∀x∈s.parts,x.inn.length=12){i:Nat}(hi:i<s.parts.length){R:List Int}(hR:R.length=12){g n cap:Nat}(hv:V .parts= .slice (some ⟨g,0,none⟩) n cap):
 SbAt (w.setCells g (i*15+3) (intsV R)) b c (s.setInn i R) V∧FrS w b V (w.setCells g (i*15+3) (intsV R)) V:=by
 obtain⟨A,h1,h2,h3⟩:=SbAt.setInns hv R 0 h hs hi (by omega)
 have e:A=R:=by
  apply List.ext_getElem (by omega)
  intro j h4 h5
  have h6:=h3 j
  rw[if_pos (by omega),Nat.sub_zero,gD,gD,gE h4,gE h5] at h6
  exact h6
 rw[e] at h1
 exact⟨h1,FrS.rows' h (key:= .parts) (by rw[hv];rfl) _ _ (FrS.refl _ _ _)⟩
theorem FrS.setB{w w1:World}{b:Nat}{V V1:SK→Value}(h:FrS w b V w1 V1)(i:Nat)(v:Value):FrS w b V (w1.setCell ⟨b,i,none⟩ v) V1:=
 ⟨h.below.setCell (by simp) v,by simpa [World.setCell] using h.size,fun k hk hkb hv=>(Below.heap_setCell _ _ _ _ (by simpa using hkb)).trans (h.kept k hk hkb hv),h.rows⟩
theorem SbAt.setOv{w:World}{b:Nat}{c:SC}{s:SB}{V:SK→Value}(h:SbAt w b c s V)(x:Int):SbAt (w.setCell ⟨b,8,none⟩ (.int .i64 x)) b {c with ov:=x} s V:=by
 obtain⟨h1,h2⟩:=SbAt.setBox h.box h.own 8 (.int .i64 x)
 exact⟨h1,h2⟩
section
variable {w wr:World}{V0 V:SK→Value}{b L nm:Nat}{c:SC}{s:SB}{M:Nat→Int}{nx:Int}
theorem CtX.to_phi(h:CtX w V0 b c wr s V L M nx nm)(hal:AllR s.same)(hl:s.same.length≤100000){i k:Nat}(hi:i<s.parts.length)(hk:k<(s.part i).phis.length)(hv:(s.phi i k).id<s.same.length){g n cap:Nat}(hvk:V (.phis i)= .slice (some ⟨g,0,none⟩) n cap):
 Calls Tryd.prog 59 #[.pointer (some ⟨g,k*3+1,none⟩), .pointer (some ⟨L+2,0,none⟩), .pointer (some ⟨L,0,none⟩)] wr fun e w' =>e= .returned (.tuple #[])∧CtX w V0 b c w' (s.setPhiId i k (toV s.same M (s.phi i k).id)) V L M nx nm:=by
 refine(to_any h hal hl hv hvk (h.sb.phiCell hvk hk).2.1).mono ?_
 rintro e w' ⟨rfl,w1,hb,rfl⟩
 obtain⟨f1,f2⟩:=(h.keeps hb).sb.setPhiId hi hk (toV s.same M (s.phi i k).id) hvk
 exact⟨rfl,(h.keeps hb).row f1 f2⟩
theorem CtX.to_arg(h:CtX w V0 b c wr s V L M nx nm)(hal:AllR s.same)(hl:s.same.length≤100000){i k j:Nat}(hi:i<s.parts.length)(hk:k<(s.part i).phis.length)(hj:j<(s.arg i k).length){a:Int}(ha:(s.arg i k)[j]=a)(hv:a<s.same.length){g n cap:Nat}(hvk:V (.args i k)= .slice (some ⟨g,0,none⟩) n cap):
 Calls Tryd.prog 59 #[.pointer (some ⟨g,j,none⟩), .pointer (some ⟨L+2,0,none⟩), .pointer (some ⟨L,0,none⟩)] wr fun e w' =>e= .returned (.tuple #[])∧CtX w V0 b c w' (s.setArgs i k ((s.arg i k).set j (toV s.same M a))) V L M nx nm:=by
 refine(to_any h hal hl hv hvk (h.sb.own.cell (.args i k) (by rw[rowsOf_v];exact hvk) (show(intsV (s.arg i k))[j]? =_ from by simp[intsV,gE hj,ha]))).mono ?_
 rintro e w' ⟨rfl,w1,hb,rfl⟩
 obtain⟨f1,f2⟩:=(h.keeps hb).sb.setArg hi hk hj (toV s.same M a) hvk
 exact⟨rfl,(h.keeps hb).row f1 f2⟩
theorem CtX.to_ins(h:CtX w V0 b c wr s V L M nx nm)(hal:AllR s.same)(hl:s.same.length≤100000){i k:Nat}(hi:i<s.parts.length)(hk:k<(s.part i).ins.length)(f:Nat)(hf:f<6){a:Int}(hv:a<s.same.length)(x:InsS)(hx:x.cells=(s.insA i k).cells.set f (.int .i64 (toV s.same M a))){g n cap:Nat}(hvk:V (.ins i)= .slice (some ⟨g,0,none⟩) n cap)
 (hc:wr.cell? ⟨g,k*6+f,none⟩=some (.int .i64 a)):
 Calls Tryd.prog 59 #[.pointer (some ⟨g,k*6+f,none⟩), .pointer (some ⟨L+2,0,none⟩), .pointer (some ⟨L,0,none⟩)] wr fun e w' =>e= .returned (.tuple #[])∧CtX w V0 b c w' (s.setIns i k x) V L M nx nm:=by
 refine(to_any h hal hl hv hvk hc).mono ?_
 rintro e w' ⟨rfl,w1,hb,rfl⟩
 obtain⟨f1,f2⟩:=(h.keeps hb).sb.setIns hi hk f hf (toV s.same M a) x hx hvk
 exact⟨rfl,(h.keeps hb).row f1 f2⟩
theorem CtX.to_inn(h:CtX w V0 b c wr s V L M nx nm)(hal:AllR s.same)(hl:s.same.length≤100000)(hs:∀x∈s.parts,x.inn.length=12){i r:Nat}(hi:i<s.parts.length)(hr:r<12){a:Int}(ha:(s.part i).inn.getD r 0=a)(hv:a<s.same.length){g n cap:Nat}(hvk:V .parts= .slice (some ⟨g,0,none⟩) n cap):
 Calls Tryd.prog 59 #[.pointer (some ⟨g,i*15+3+r,none⟩), .pointer (some ⟨L+2,0,none⟩), .pointer (some ⟨L,0,none⟩)] wr fun e w' =>e= .returned (.tuple #[])∧CtX w V0 b c w' (s.setInn i ((s.part i).inn.set r (toV s.same M a))) V L M nx nm:=by
 have hc:=h.sb.innCell hs hvk hi hr
 rw[ha] at hc
 rw[Nat.add_assoc]
 refine(to_any h hal hl hv hvk hc).mono ?_
 rintro e w' ⟨rfl,w1,hb,rfl⟩
 obtain⟨f1,f2⟩:=(h.keeps hb).sb.setInnAt hs hi hr (toV s.same M a) hvk
 exact⟨rfl,(h.keeps hb).row f1 f2⟩
end
section
variable {l:List Int}{M:Nat→Int}{t s' :SB}{F:Nat→PartS}{i k j:Nat}
noncomputable def PX1(l:List Int)(M:Nat→Int)(t:SB)(i k:Nat):PartS:={t.part i with phis:=mapTo (toPhi l M) k (t.part i).phis}
noncomputable def PX2(l:List Int)(M:Nat→Int)(t:SB)(i k j:Nat):PartS:={t.part i with phis:=(mapTo (toPhi l M) k (t.part i).phis).set k ⟨(t.phi i k).reg,toV l M (t.phi i k).id,mapTo (toV l M) j (t.phi i k).args⟩}
noncomputable def PX3(l:List Int)(M:Nat→Int)(t:SB)(i k:Nat):PartS:={t.part i with phis:=(t.part i).phis.map (toPhi l M),ins:=mapTo (toIns l M) k (t.part i).ins}
noncomputable def PX4(l:List Int)(M:Nat→Int)(t:SB)(R:List Int)(i r:Nat):PartS:={t.part i with phis:=(t.part i).phis.map (toPhi l M),ins:=(t.part i).ins.map (toIns l M),inn:=mapTo (toV l M) r R}
theorem px1_start:PX1 l M t i 0=t.part i:=by unfold PX1;rw[mapTo_zero]
theorem px1_phi(h:PtR t s' F i (PX1 l M t i k))(hi:i<t.parts.length):s'.phi i k=t.phi i k:=by
 unfold SB.phi
 rw[h.at_ hi]
 exact mapTo_getD (Nat.le_refl _) _
theorem px1_len(h:PtR t s' F i (PX1 l M t i k))(hi:i<t.parts.length):(s'.part i).phis.length=(t.part i).phis.length:=by
 rw[h.at_ hi];exact mapTo_len
theorem px1_step(h:PtR t s' F i (PX1 l M t i k))(hi:i<t.parts.length):PtR t (s'.setPhiId i k (toV l M (s'.phi i k).id)) F i (PX2 l M t i k 0):=by
 refine(h.mod hi _).cast ?_
 rw[px1_phi h hi,h.at_ hi]
 unfold PX1 PX2
 rw[mapTo_zero]
theorem px2_phi(h:PtR t s' F i (PX2 l M t i k j))(hi:i<t.parts.length)(hk:k<(t.part i).phis.length):s'.phi i k=⟨(t.phi i k).reg,toV l M (t.phi i k).id,mapTo (toV l M) j (t.phi i k).args⟩:=by
 unfold SB.phi
 rw[h.at_ hi]
 show((mapTo (toPhi l M) k (t.part i).phis).set k _).getD k noPhi=_
 rw[getD_set _ (by rw[mapTo_len];exact hk),if_pos rfl];rfl
theorem px2_len(h:PtR t s' F i (PX2 l M t i k j))(hi:i<t.parts.length):(s'.part i).phis.length=(t.part i).phis.length:=by
 rw[h.at_ hi]
 show((mapTo (toPhi l M) k (t.part i).phis).set k _).length=_
 rw[List.length_set,mapTo_len]
theorem px2_arg(h:PtR t s' F i (PX2 l M t i k j))(hi:i<t.parts.length)(hk:k<(t.part i).phis.length):s'.arg i k=mapTo (toV l M) j (t.arg i k):=by
 show(s'.phi i k).args=_
 rw[px2_phi h hi hk];rfl
theorem px2_step(h:PtR t s' F i (PX2 l M t i k j))(hi:i<t.parts.length)(hk:k<(t.part i).phis.length)(hj:j<(t.arg i k).length):PtR t (s'.setArgs i k ((s'.arg i k).set j (toV l M (t.arg i k)[j]))) F i (PX2 l M t i k (j+1)):=by
 refine(h.mod hi _).cast ?_
 rw[px2_phi h hi hk,px2_arg h hi hk,h.at_ hi,mapTo_set hj rfl]
 unfold PX2
 show({t.part i with phis:=((mapTo (toPhi l M) k (t.part i).phis).set k _).set k _}:PartS)=_
 rw[List.set_set];rfl
theorem px2_done(h:PtR t s' F i (PX2 l M t i k j))(hk:k<(t.part i).phis.length)(hj:j=(t.arg i k).length):PtR t s' F i (PX1 l M t i (k+1)):=by
 refine h.cast ?_
 unfold PX1 PX2
 have e0:mapTo (toV l M) j (t.phi i k).args=(t.phi i k).args.map (toV l M):=mapTo_full (by show(t.arg i k).length≤j;omega)
 rw[e0,mapTo_set hk (by
  have e:(t.part i).phis[k]=t.phi i k:=by unfold SB.phi;rw[gD,gE hk];rfl
  rw[e];rfl)]
theorem px3_start(h:PtR t s' F i (PX1 l M t i k))(hk:k=(t.part i).phis.length):PtR t s' F i (PX3 l M t i 0):=by
 refine h.cast ?_
 unfold PX1 PX3
 rw[mapTo_full (by omega),mapTo_zero]
theorem px3_ins(h:PtR t s' F i (PX3 l M t i k))(hi:i<t.parts.length):s'.insA i k=t.insA i k:=by
 unfold SB.insA
 rw[h.at_ hi]
 exact mapTo_getD (Nat.le_refl _) _
theorem px3_len(h:PtR t s' F i (PX3 l M t i k))(hi:i<t.parts.length):(s'.part i).ins.length=(t.part i).ins.length:=by
 rw[h.at_ hi];exact mapTo_len
theorem setIns_get{s:SB}(hi:i<s.parts.length)(hk:k<(s.part i).ins.length)(x:InsS):(s.setIns i k x).insA i k=x∧((s.setIns i k x).part i).ins.length=(s.part i).ins.length:=by
 unfold SB.setIns SB.insA
 rw[mod_part hi,if_pos rfl]
 exact⟨by show((s.part i).ins.set k x).getD k noIns=x;rw[getD_set _ hk,if_pos rfl],by show((s.part i).ins.set k x).length=_;rw[List.length_set]⟩
theorem setIns_set{s:SB}(hi:i<s.parts.length)(x y:InsS):(s.setIns i k x).setIns i k y=s.setIns i k y:=by
 unfold SB.setIns
 rw[mod_mod,mod_part hi,if_pos rfl]
 show s.mod i {s.part i with ins:=((s.part i).ins.set k x).set k y}=_
 rw[List.set_set]
theorem px3_step(h:PtR t s' F i (PX3 l M t i k))(hi:i<t.parts.length)(hk:k<(t.part i).ins.length):PtR t (s'.setIns i k (toIns l M (t.insA i k))) F i (PX3 l M t i (k+1)):=by
 refine(h.mod hi _).cast ?_
 rw[h.at_ hi]
 unfold PX3
 show({t.part i with phis:=_,ins:=(mapTo (toIns l M) k (t.part i).ins).set k _}:PartS)=_
 rw[mapTo_set hk (by
  have e:(t.part i).ins[k]=t.insA i k:=by unfold SB.insA;rw[gD,gE hk];rfl
  rw[e])]
theorem px4_start(h:PtR t s' F i (PX3 l M t i k))(hi:i<t.parts.length)(hk:k=(t.part i).ins.length)(R:List Int):PtR t (s'.setInn i R) F i (PX4 l M t R i 0):=by
 refine(h.mod hi _).cast ?_
 rw[h.at_ hi]
 unfold PX3 PX4
 rw[mapTo_full (by omega),mapTo_zero]
theorem px4_step{R:List Int}{r:Nat}(h:PtR t s' F i (PX4 l M t R i r))(hi:i<t.parts.length)(hr:r<R.length):PtR t (s'.setInn i ((s'.part i).inn.set r (toV l M (R[r])))) F i (PX4 l M t R i (r+1)):=by
 refine(h.mod hi _).cast ?_
 rw[h.at_ hi]
 unfold PX4
 show({t.part i with phis:=_,ins:=_,inn:=(mapTo (toV l M) r R).set r _}:PartS)=_
 rw[mapTo_set hr rfl]
theorem px4_inn{R:List Int}{r:Nat}(h:PtR t s' F i (PX4 l M t R i r))(hi:i<t.parts.length):(s'.part i).inn.getD r 0=R.getD r 0:=by
 rw[h.at_ hi]
 exact mapTo_getD (Nat.le_refl _) _
theorem px4_done{E:List (List Int)}{r:Nat}(hr:(E.getD i []).length≤r):PX4 l M t (E.getD i []) i r=toPart l M E t i:=by
 unfold PX4 toPart
 rw[mapTo_full hr]
end
theorem own_there'{w:World}{B:Nat}{κ:Type}{ρ:κ→RowC}(h:OwnK w B ρ)(k:κ){g n cap:Nat}(hv:(ρ k).v= .slice (some ⟨g,0,none⟩) n cap){o m:Nat}(hm:o+m≤(ρ k).xs.length):w.there g o m:=fun j hj=>
 ⟨by rw[h.cell k hv (gE (by omega))];rfl,(h.free k hv _).1⟩
theorem keepF_phi{s:SB}{i k:Nat}(hk:k<(keepF s i).phis.length):∃t,t<(s.part i).phis.length∧(keepF s i).phis.getD k noPhi=s.phi i t:=by
 unfold keepF at hk⊢
 simp only[List.length_map] at hk
 refine⟨(keptK s i (s.part i).phis.length)[k],keptK_lt _ _ _ _ (List.getElem_mem _),?_⟩
 show(List.map _ _).getD k noPhi=_
 rw[gD,List.getElem?_map,gE hk];rfl
theorem keepF_len(s:SB)(i:Nat):(keepF s i).phis.length≤(s.part i).phis.length:=by
 unfold keepF
 rw[List.length_map];exact keptK_len _ _ _
theorem SbAt.beganRange{w:World}{b:Nat}{c:SC}{s:SB}{V:SK→Value}(h:SbAt w b c s V)(hl:∀x∈s.began,x.length=12){i:Nat}(hi:i<s.began.length){g n cap:Nat}(hv:V .began= .slice (some ⟨g,0,none⟩) n cap):w.rangeAt g (i*12) (intsV (s.began.getD i [])):=fun j v hj=>by
 have hj12:j<12:=by
  have h1:=(gI.1 hj).1
  rw[reg_len hl hi] at h1;exact h1
 refine h.own.cell .began (by rw[rowsOf_v];exact hv) ?_
 show(regCells s.began)[i*12+j]? =_
 unfold regCells
 rw[flat_at (fun k hk=>reg_len hl hk) hi hj12]
 exact hj
structure CntOk(s:SB)(P:Nat):Prop where
 all:AllR s.same
 len:s.same.length≤100000
 inn:∀x∈s.parts,x.inn.length=12
 n:s.parts.length≤100
 p:P≤100
 phis:∀i,(s.part i).phis.length≤100
 ins:∀i,(s.part i).ins.length≤1000
 args:∀i k,(s.arg i k).length≤300
 id:∀i k,i<s.parts.length→k<(s.part i).phis.length→∃d:Nat,(s.phi i k).id=d∧d<s.same.length
 arg:∀i k,i<s.parts.length→k<(s.part i).phis.length→∀a∈(s.phi i k).args,a<s.same.length
 insv:∀i k,i<s.parts.length→k<(s.part i).ins.length→(s.insA i k).id<s.same.length∧(s.insA i k).a<s.same.length∧(s.insA i k).b<s.same.length
 bl:s.began.length=s.parts.length
 b12:∀x∈s.began,x.length=12
 bv:∀x∈s.began,∀a∈x,a<s.same.length
theorem infoPhiC:(Tryd.prog.info? 88).map (fun i=>(i.zero,i.size,i.bytes))=some (some (.agg #[.int .i64 0, .int .i64 0, .slice none 0 0]),3,40):=infoPhi
theorem CtX.start{w:World}{b:Nat}{c:SC}{s:SB}{V:SK→Value}(h:SbAt w b c s V)(P:Int):
 CtX w V b c ((((w.alloc (.cells #[.pointer (some ⟨b,0,none⟩)] 95)).alloc (.map #[] 0)).alloc (.cells #[.map (some (w.heap.size+1))] 138)).alloc (.cells #[.int .i64 P] 3)) s V w.heap.size (baseN 0) P 0:=by
 have h1:=((((SbX.start h).push (.cells #[.pointer (some ⟨b,0,none⟩)] 95)).push (.map #[] 0)).push (.cells #[.map (some (w.heap.size+1))] 138)).push (.cells #[.int .i64 P] 3)
 have e1:(w.alloc (.cells #[.pointer (some ⟨b,0,none⟩)] 95)).heap.size=w.heap.size+1:=by simp
 have e2:((w.alloc (.cells #[.pointer (some ⟨b,0,none⟩)] 95)).alloc (.map #[] 0)).heap.size=w.heap.size+2:=by simp
 have e3:(((w.alloc (.cells #[.pointer (some ⟨b,0,none⟩)] 95)).alloc (.map #[] 0)).alloc (.cells #[.map (some (w.heap.size+1))] 138)).heap.size=w.heap.size+3:=by simp
 rw[e1,e2,e3] at h1
 have h2:=MapAt.made (w.alloc (.cells #[.pointer (some ⟨b,0,none⟩)] 95))
 rw[e1] at h2
 refine⟨⟨_,h1⟩,?_⟩
 rw[baseN_zero]
 exact h2.of_block ((Below.heap_alloc _ _ _ (by simp)).trans (Below.heap_alloc _ _ _ (by simp)))
def CG(w:World)(V0:SK→Value)(b:Nat)(c:SC)(wr:World)(s:SB)(V:SK→Value)(L P:Nat)(G:List Nat):Prop:=CtX w V0 b c wr s V L (numF P G).1 ((P+G.length:Nat):Int) (P+G.length)
theorem CG.give{w wr:World}{V0 V:SK→Value}{b L P:Nat}{c:SC}{s:SB}{G:List Nat}(h:CG w V0 b c wr s V L P G){v:Nat}(hv:v≤100000)(hG:P+G.length≤200000):
 Calls Tryd.prog 58 #[.int .i64 (v:Int), .pointer (some ⟨L+3,0,none⟩), .pointer (some ⟨L+2,0,none⟩)] wr fun e w' =>∃z,e= .returned (.int .i64 z)∧CG w V0 b c w' s V L P (G++[v])∧wr.heap.size≤w'.heap.size∧∀k,k<wr.heap.size→k≠L+1→k≠L+3→w'.heap[k]? =wr.heap[k]? :=by
 refine(give_any h hv (by omega) (by omega) (by omega)).mono ?_
 rintro e w' ⟨z,rfl,h2,h3⟩
 refine⟨z,rfl,?_,h3⟩
 unfold CG
 rw[numF_snoc,List.length_append,numF_nx,show[v].length=1 from rfl,show((P+(G.length+1):Nat):Int)=((P+G.length:Nat):Int)+1 by omega,show P+(G.length+1)=P+G.length+1 by omega]
 exact h2
theorem CG.keeps{w wr w' :World}{V0 V:SK→Value}{b L P:Nat}{c:SC}{s:SB}{G:List Nat}(h:CG w V0 b c wr s V L P G)(hb:Below wr.heap.size wr w'):CG w V0 b c w' s V L P G:=CtX.keeps h hb
theorem newV_parts(V:SK→Value)(i:Nat)(vt:Value)(K:List Nat)(m:Nat):newV V i vt K m .parts=V .parts∧newV V i vt K m .same=V .same:=by
 unfold newV
 rw[if_neg (by simp),if_neg (by simp)];exact⟨rfl,rfl⟩
def TmpR(wr:World)(L:Nat)(V:SK→Value)(s:SB)(i:Nat)(K:List Nat)(v:Value):Prop:=
 wr.ownsRow (L+4) 88 3 v K.length (K.flatMap fun k=>(s.phi i k).cells (V (.args i k)))∧∀g,v.ownBlock=some g→∀key,(V key).ownBlock≠some g
theorem TmpR.nil(wr:World)(L:Nat)(V:SK→Value)(s:SB)(i:Nat):TmpR wr L V s i [] (.slice none 0 0):=⟨World.ownsRow_nil _ _ _ _,fun g hg=>by simp[Value.ownBlock] at hg⟩
theorem TmpR.same{wr w' :World}{L:Nat}{V:SK→Value}{s:SB}{i:Nat}{K:List Nat}{v:Value}(h:TmpR wr L V s i K v)(hk:∀g,L+4≤g→g<wr.heap.size→w'.heap[g]? =wr.heap[g]?):TmpR w' L V s i K v:=
 ⟨own_of h.1 fun g hg=>hk g (World.ownsRow.lt h.1 g hg).1 (World.ownsRow.lt h.1 g hg).2,h.2⟩
theorem TmpR.grow{w w7 w9:World}{V0 V:SK→Value}{b L P:Nat}{c:SC}{s:SB}{G K:List Nat}{i k:Nat}{v:Value}(h:TmpR w7 L V s i K v)(hX:CG w V0 b c w7 s V L P G){g m cap H:Nat}(ho:w9.ownsRow (L+4) 88 3 (.slice (some ⟨g,0,none⟩) m cap) m ((K.flatMap fun k=>(s.phi i k).cells (V (.args i k)))++(s.phi i k).cells (V (.args i k))))
 (hat:v.ownBlock=some g∨g=H) (hH:w7.heap.size≤H) (hm:m=K.length+1):TmpR w9 L V s i (K++[k]) (.slice (some ⟨g,0,none⟩) m cap):=by
 refine⟨?_,fun g' hg key e=> ?_⟩
 ·rw[List.length_append,show[k].length=1 from rfl,←hm,List.flatMap_append,List.flatMap_singleton];exact ho
 ·have e2:g=g' :=by simpa [Value.ownBlock] using hg
  subst e2
  rcases hat with h3|h3
  ·exact h.2 _ h3 key e
  ·have h4:=(CtX.sb hX).rlt key e
   omega
set_option maxRecDepth 100000 in
set_option maxHeartbeats 8000000 in
theorem count_any(b:Nat)(c:SC)(s:SB)(V:SK→Value)(w:World)(P:Nat)(h:SbAt w b c s V)(hP:c.params=P)(ok:CntOk s P):
 Calls Tryd.prog 33 #[.pointer (some ⟨b,0,none⟩)] w fun e w' =>∃s' V',e= .returned (.tuple #[])∧SbAt w' b {c with ov:=((P+(allG s s.parts.length).length:Nat):Int)} s' V' ∧FrS w b V w' V' ∧
  s'.same=s.same∧s'.parts.length=s.parts.length∧∀j,j<s.parts.length→s'.part j=⟨(s.part j).block,(keepF s j).phis.map (toPhi s.same (numF P (allG s s.parts.length)).1),(s.part j).ins.map (toIns s.same (numF P (allG s s.parts.length)).1),(s.began.getD j []).map (toV s.same (numF P (allG s s.parts.length)).1)⟩:=by
 obtain⟨N,hN⟩:∃n,s.parts.length=n:=⟨_,rfl⟩
 obtain⟨NS,hNS⟩:∃n,s.same.length=n:=⟨_,rfl⟩
 obtain⟨A0,cp,hvp,-,hpA⟩:=h.rowV .parts (n:=N) hN
 obtain⟨A1,cs,hvs,-,hsA⟩:=h.rowV .same (n:=NS) hNS
 have hmm:= @run_makeMap Tryd.prog
 have hmf:∀(fn:Fn) (first cap:Array Value) (w:World),(Instr.makeFunc fn first cap).run Tryd.prog w= .ok (.func fn first cap) w:=fun _ _ _ _=>rfl
 have k1:w.cell? ⟨b,1,none⟩=some (.int .i64 (P:Int)):=(h.cell 1).trans (by show some (Value.int .i64 c.params)=_;rw[hP])
 have HOK:=Lib.hid ok
 have H:=Lib.hid h
 have zb:=h.lt
 have k1a:(((w.alloc (.cells #[.pointer (some ⟨b,0,none⟩)] 95)).alloc (.map #[] 0)).alloc (.cells #[.map (some (w.heap.size+1))] 138)).cell? ⟨b,1,none⟩=some (.int .i64 (P:Int)):=
  (((((Below.refl w.heap.size w).alloc (Nat.le_refl _) _).alloc (by simp) _).alloc (by simp;omega) _).cell (p:=⟨b,_,none⟩) zb).trans k1
 have k1b:((((w.alloc (.cells #[.pointer (some ⟨b,0,none⟩)] 95)).alloc (.map #[] 0)).alloc (.cells #[.map (some (w.heap.size+1))] 138)).alloc (.cells #[.int .i64 (P:Int)] 3)).cell? ⟨b,1,none⟩=some (.int .i64 (P:Int)):=
  ((((((Below.refl w.heap.size w).alloc (Nat.le_refl _) _).alloc (by simp) _).alloc (by simp;omega) _).alloc (by simp;omega) _).cell (p:=⟨b,_,none⟩) zb).trans k1
 clear h ok
 go_enter Tryd.func33,Tryd.ntmps33
 go_wp2_with fail
 obtain⟨w2,hw2⟩:∃W,(((w.alloc (.cells #[.pointer (some ⟨b,0,none⟩)] 95)).alloc (.map #[] 0)).alloc (.cells #[.map (some (w.heap.size+1))] 138)).alloc (.cells #[.int .i64 (P:Int)] 3)=W:=⟨_,rfl⟩
 have HC0:Hid (CtX w V b c w2 s V w.heap.size (baseN 0) P 0):=Lib.hid (hw2▸CtX.start H.out P)
 rw[hw2]
 obtain⟨L,hL⟩:∃L,w.heap.size=L:=⟨_,rfl⟩
 rw[show w.heap.size+1+1+1=L+3 by omega,show w.heap.size+1+1=L+2 by omega,hL]
 rw[hL] at HC0
 clear hw2 k1 k1a k1b zb hL
 have HVP:=Lib.hid hvp
 have HPA:=Lib.hid hpA
 have HVS:=Lib.hid hvs
 have HSA:=Lib.hid hsA
 have HNN:=Lib.hid hN
 have HNS:=Lib.hid hNS
 have hP100:=HOK.out.p
 have hN100:N≤100:=by rw[←hN];exact HOK.out.n
 have hNS5:NS≤100000:=by rw[←hNS];exact HOK.out.len
 clear hvp hpA hvs hsA hN hNS hP
 go_loopw [32] (fun v32 wr=>∃j:Nat,j≤P∧v32= .int .i64 (j:Int)∧CtX w V b c wr s V L (baseN j) P j) (fun v32 _=>P-(intOf v32).toNat)
 case atStart=>exact⟨0,by omega,rfl,HC0.out⟩
 case round=>
  obtain⟨j,hj,rfl,hX⟩:=hrel
  clear HC0
  by_cases hjP:j=P
  ·have hjP' :=hjP.symm
   subst hjP'
   have HX:Hid (CG w V b c wr s V L P (allG s 0)):=Lib.hid hX
   have KBX:=Lib.hid (fun(W:World) (s' :SB) (V' :SK→Value) (G:List Nat) (h:CG w V b c W s' V' L P G) (hv:V' .parts=V .parts) (hv2:V' .same=V .same)=>(⟨(h.sb.cell 9).trans (by show some (V' .parts)=_;rw[hv,HVP.out]),(h.sb.cell 11).trans (by show some (V' .same)=_;rw[hv2,HVS.out]),cell_block h.box0 0,cell_block h.box2 0,h.sb.lt,block_lt h.box0,block_lt h.box2⟩:
    W.cell? ⟨b,9,none⟩=some (.slice A0 N cp)∧W.cell? ⟨b,11,none⟩=some (.slice A1 NS cs)∧W.cell? ⟨L,0,none⟩=some (.pointer (some ⟨b,0,none⟩))∧W.cell? ⟨L+2,0,none⟩=some (.map (some (L+1)))∧b<W.heap.size∧L<W.heap.size∧L+2<W.heap.size))
   obtain⟨k9,k11,q0,q2,zb,z0,z2⟩:=KBX.out _ _ _ _ HX.out rfl rfl
   obtain⟨w3,hw3⟩:∃wo:World,wo=wr:=⟨_,rfl⟩
   subst hw3
   clear hX hjP
   go_wp2_with fail
   clear k9 k11 q0 q2 zb z0 z2
   go_loopw [46] (fun v46 wr=>∃(i:Nat) (s' :SB) (V' :SK→Value),i≤N∧v46= .int .i64 (i:Int)∧CG w V b c wr s' V' L P (allG s i)∧PtR s s' (keepF s) i (s.part i)∧V' .parts=V .parts∧V' .same=V .same) (fun v46 _=>N-(intOf v46).toNat)
   case atStart=>exact⟨0,s,V,by omega,rfl,HX.out,PtR.start _ _,rfl,rfl⟩
   case round=>
    obtain⟨i,s1,V1,hiN,rfl,hX,hR,hv1,hv2⟩:=hrel
    clear HX
    have HX:=Lib.hid hX
    have HR:=Lib.hid hR
    have HV:=Lib.hid (show V1 .parts=V .parts∧V1 .same=V .same from⟨hv1,hv2⟩)
    by_cases hi0:i=N
    ·have hi0' :=hi0.symm
     subst hi0'
     obtain⟨k9,k11,q0,q2,zb,z0,z2⟩:=KBX.out _ _ _ _ hX hv1 hv2
     obtain⟨M,hM⟩:∃M,(numF P (allG s N)).1=M:=⟨_,rfl⟩
     obtain⟨nm,hnm⟩:∃x,P+(allG s N).length=x:=⟨_,rfl⟩
     have hXc:CtX w V b c wr s1 V1 L M ((nm:Nat):Int) nm:=by
      rw[←hM,←hnm];exact hX
     have hsm:s1.same=s.same:=hR.same
     have hln:s1.parts.length=N:=by rw[hR.len];exact HNN.out
     have hpt:∀j,j<N→s1.part j=keepF s j:=fun j hj=>by rw[hR.part j (by rw[HNN.out];exact hj),if_pos hj]
     have hbg:s1.began=s.began:=hR.began
     have HXC:=Lib.hid hXc
     have HSM:=Lib.hid hsm
     have HLN:=Lib.hid hln
     have HPT:=Lib.hid hpt
     have HBG:=Lib.hid hbg
     have HMM:=Lib.hid hM
     have HNM:=Lib.hid hnm
     have KCX:=Lib.hid (fun(W:World) (s' :SB) (h:CtX w V b c W s' V1 L M (nm:Int) nm)=>(⟨(h.sb.cell 9).trans (by show some (V1 .parts)=_;rw[HV.out.1,HVP.out]),h.sb.cell 12,cell_block h.box0 0,h.sb.lt,block_lt h.box0⟩:
      W.cell? ⟨b,9,none⟩=some (.slice A0 N cp)∧W.cell? ⟨b,12,none⟩=some (V1 .began)∧W.cell? ⟨L,0,none⟩=some (.pointer (some ⟨b,0,none⟩))∧b<W.heap.size∧L<W.heap.size))
     obtain⟨w4,hw4⟩:∃wo:World,wo=wr:=⟨_,rfl⟩
     subst hw4
     clear hX hR hv1 hv2 hXc hsm hln hpt hbg hM hnm HX HR hi0
     go_wp2_with fail
     clear k9 k11 q0 q2 zb z0 z2
     go_loopw [114] (fun v114 wr=>∃(i:Nat) (s' :SB),i≤N∧v114= .int .i64 (i:Int)∧CtX w V b c wr s' V1 L M (nm:Int) nm∧PtR s1 s' (toPart s.same M s.began s1) i (s1.part i)) (fun v114 _=>N-(intOf v114).toNat)
     case atStart=>exact⟨0,s1,by omega,rfl,HXC.out,PtR.start _ _⟩
     case round=>
      obtain⟨i,s2,hiN,rfl,hX,hR⟩:=hrel
      clear HXC
      have HX:=Lib.hid hX
      have HR:=Lib.hid hR
      by_cases hi0:i=N
      ·have hi0' :=hi0.symm
       subst hi0'
       obtain⟨k9,k12,q0,zb,z0⟩:=KCX.out _ _ hX
       have q3:wr.cell? ⟨L+3,0,none⟩=some (.int .i64 (nm:Int)):=cell_block hX.box3 0
       have z3:=block_lt hX.box3
       have k8:=hX.sb.cell 8
       have fb:=frozen_block hX.sb.box
       have k8:wr.cell? ⟨b,8,none⟩=some (.int .i64 c.ov):=k8
       clear hX hR
       go_wp2_with fail
       refine bodyPost_end (v:= .tuple #[]) (by simp[results,Tryd.results33,go_sem]) rfl ⟨s2,V1,rfl,?_,HX.out.fr.setB 8 (.int .i64 (nm:Int)),by rw[HR.out.same,HSM.out],by rw[HR.out.len,HLN.out,HNN.out],fun j hj=> ?_⟩
       ·rw[HNN.out,HNM.out];exact HX.out.sb.setOv (nm:Int)
       ·rw[HNN.out] at hj⊢
        rw[HR.out.part j (by rw[HLN.out];exact hj),if_pos hj,HMM.out]
        unfold toPart
        rw[HPT.out j hj];rfl
      ·have hi1:i<N:=by omega
       have hi2:(i:Int)<N:=by omega
       have hi3:(0:Int)≤i:=by omega
       obtain⟨gp,rfl,-,-⟩:=HPA.out (by omega)
       have hit:i<s1.parts.length:=by rw[HLN.out];exact hi1
       have his:i<s.parts.length:=by rw[HNN.out];exact hi1
       have hpi:s1.part i=keepF s i:=HPT.out i hi1
       have hib:i<s.began.length:=by rw[HOK.out.bl];exact his
       obtain⟨n,hn⟩:∃n,(s1.part i).phis.length=n:=⟨_,rfl⟩
       have hphi:∀k,k<n→∃t,t<(s.part i).phis.length∧s1.phi i k=s.phi i t:=fun k hk=>by
        obtain⟨t,h1,h2⟩:=keepF_phi (s:=s) (i:=i) (k:=k) (by rw[←hpi,hn];exact hk)
        exact⟨t,h1,by unfold SB.phi;rw[hpi];exact h2⟩
       have hn100:n≤100:=by
        have h1:=keepF_len s i
        have h2:=HOK.out.phis i
        rw[←hpi,hn] at h1;omega
       obtain⟨m,hm⟩:∃m,(s1.part i).ins.length=m:=⟨_,rfl⟩
       have hms:(s.part i).ins.length=m:=by rw[←hm,hpi];rfl
       have hins:∀k,s1.insA i k=s.insA i k:=fun k=>by unfold SB.insA;rw[hpi];rfl
       have hm1000:m≤1000:=by rw[←hms];exact HOK.out.ins i
       have HIN:=Lib.hid (fun(s' :SB) (X:PartS) (h:PtR s1 s' (toPart s.same M s.began s1) i X) (hx:X.inn.length=12)=>h.inn (fun j hj=>by rw[HPT.out j (by rw[←HLN.out];exact hj)];exact HOK.out.inn (s.part j) (by unfold SB.part;rw[gD,gE (show j<s.parts.length by rw[HNN.out,←HLN.out];exact hj)];exact List.getElem_mem _)) (fun j hj=>by
        show((s.began.getD j []).map _).length=12
        rw[List.length_map,gD,gE (show j<s.began.length by rw[HOK.out.bl,HNN.out,←HLN.out];exact hj)]
        exact HOK.out.b12 _ (List.getElem_mem _)) hx)
       have hx12:(s1.part i).inn.length=12:=by rw[hpi];exact HOK.out.inn (s.part i) (by unfold SB.part;rw[gD,gE his];exact List.getElem_mem _)
       have HX12:=Lib.hid hx12
       have hvp:V1 .parts= .slice (some ⟨gp,0,none⟩) N cp:=HV.out.1.trans HVP.out
       have HVP1:=Lib.hid hvp
       obtain⟨Ah,ch,hvh,-,hhA⟩:=hX.sb.rowV (.phis i) (n:=n) (by show(s2.part i).phis.length=n;rw[hR.at_ hit,hn])
       obtain⟨Ai,ci,hvi,-,hiA⟩:=hX.sb.rowV (.ins i) (n:=m) (by show(s2.part i).ins.length=m;rw[hR.at_ hit,hm])
       have c1:=(hX.sb.partCell (HIN.out s2 _ hR hx12) hvp (by rw[hR.len];exact hit)).1
       rw[hvh] at c1
       have zgp:=(hX.sb.rlt .parts (g:=gp) (by rw[hvp];rfl)).2
       obtain⟨k9,k12,q0,zb,z0⟩:=KCX.out _ _ hX
       have KP:=Lib.hid (fun(W:World) (s' :SB) (X:PartS) (h:CtX w V b c W s' V1 L M (nm:Int) nm) (hr:PtR s1 s' (toPart s.same M s.began s1) i X) (hx:X.inn.length=12)=>(⟨(h.sb.partCell (HIN.out s' X hr hx) HVP1.out (by rw[hr.len];exact hit)).1.trans (by rw[hvh]),(h.sb.partCell (HIN.out s' X hr hx) HVP1.out (by rw[hr.len];exact hit)).2.trans (by rw[hvi]),(h.sb.rlt .parts (g:=gp) (by rw[HVP1.out];rfl)).2,hr.same.trans HSM.out,by rw[hr.len];exact hit⟩:
        W.cell? ⟨gp,i*15+1,none⟩=some (.slice Ah n ch)∧W.cell? ⟨gp,i*15+2,none⟩=some (.slice Ai m ci)∧gp<W.heap.size∧s'.same=s.same∧i<s'.parts.length))
       have HIT:=Lib.hid hit
       have HIS:=Lib.hid his
       have HIB:=Lib.hid hib
       have HPHI:=Lib.hid hphi
       have HINS:=Lib.hid hins
       have HMS:=Lib.hid hms
       have HN1:=Lib.hid hn
       have HM1:=Lib.hid hm
       have HVH:=Lib.hid hvh
       have HHA:=Lib.hid hhA
       have HVI:=Lib.hid hvi
       have HIA:=Lib.hid hiA
       obtain⟨w5,hw5⟩:∃wo:World,wo=wr:=⟨_,rfl⟩
       subst hw5
       clear hX hR hit his hpi hib hphi hms hins hn hm hx12 hvp hvh hhA hvi hiA hi0
       go_wp2_with fail
       clear c1 zgp k9 k12 q0 zb z0
       go_loopw [129] (fun v129 wr=>∃(k:Nat) (s' :SB),k≤n∧v129= .int .i64 (k:Int)∧CtX w V b c wr s' V1 L M (nm:Int) nm∧PtR s1 s' (toPart s.same M s.began s1) i (PX1 s.same M s1 i k)) (fun v129 _=>n-(intOf v129).toNat)
       case atStart=>exact⟨0,s2,by omega,rfl,HX.out,HR.out.cast px1_start.symm⟩
       case round=>
        obtain⟨k,s3,hkn,rfl,hX,hR⟩:=hrel
        clear HX HR
        have HR:=Lib.hid hR
        have HX:=Lib.hid hX
        by_cases hk0:k=n
        ·have hk0' :=hk0.symm
         subst hk0'
         have hr3:=px3_start hR HN1.out.symm
         obtain⟨-,c2,zgp,-,-⟩:=KP.out _ _ _ hX hR HX12.out
         have HR3:=Lib.hid hr3
         clear hX hR hr3 HR
         go_wp2_with fail
         clear c2 zgp
         go_loopw [172] (fun v172 wr=>∃(k:Nat) (s' :SB),k≤m∧v172= .int .i64 (k:Int)∧CtX w V b c wr s' V1 L M (nm:Int) nm∧PtR s1 s' (toPart s.same M s.began s1) i (PX3 s.same M s1 i k)) (fun v172 _=>m-(intOf v172).toNat)
         case atStart=>exact⟨0,s3,by omega,rfl,HX.out,HR3.out⟩
         case round=>
          obtain⟨k,s4,hkm,rfl,hX,hR⟩:=hrel
          clear HX HR3
          have HR:=Lib.hid hR
          have HX:=Lib.hid hX
          by_cases hkM:k=m
          ·have hkM' :=hkM.symm
           subst hkM'
           obtain⟨-,-,zgp,hsame,hi3'⟩:=KP.out _ _ _ hX hR HX12.out
           obtain⟨k9,k12,q0,zb,z0⟩:=KCX.out _ _ hX
           have hbg4:s4.began=s.began:=hR.began.trans HBG.out
           have hbl4:s4.began.length=N:=by rw[hbg4,HOK.out.bl,HNN.out]
           obtain⟨Aq,cq,hvq,-,hqA⟩:=hX.sb.rowV .began (n:=N) hbl4
           obtain⟨gq,rfl,hgqb,zgq⟩:=hqA (by omega)
           rw[hvq] at k12
           obtain⟨R,hRR⟩:∃R,s.began.getD i []=R:=⟨_,rfl⟩
           have hrm:R∈s.began:=by rw[←hRR,gD,gE HIB.out];exact List.getElem_mem _
           have hR12:R.length=12:=HOK.out.b12 R hrm
           have hrg:wr.rangeAt gq (i*12) (intsV R):=by
            have h:=hX.sb.beganRange (by rw[hbg4];exact HOK.out.b12) (i:=i) (by rw[hbl4];exact hi1) hvq
            rw[hbg4,hRR] at h;exact h
           have hth:=own_there' hX.sb.own .parts (by rw[rowsOf_v];exact HVP1.out) (o:=i*15+3) (m:=(intsV R).toArray.size) (by
            show _≤(partsCells s4.parts _ _).length
            rw[parts_xs_len (HIN.out s4 _ hR HX12.out)]
            have h1:(i+1)*15≤s4.parts.length*15:=Nat.mul_le_mul_right 15 (by omega)
            have h2:(intsV R).toArray.size=12:=by simp[intsV,hR12]
            omega)
           have hi4:(intsV R).toArray.size=12:=by simp[intsV,hR12]
           obtain⟨w6,hw6⟩:∃W,wr.setCells gp (i*15+3) (intsV R).toArray.toList=W:=⟨_,rfl⟩
           have hX6:CtX w V b c w6 (s4.setInn i R) V1 L M (nm:Int) nm:=by
            obtain⟨f1,f2⟩:=hX.sb.setInn (HIN.out s4 _ hR HX12.out) hi3' hR12 HVP1.out
            exact hw6▸hX.row f1 f2
           have HX6:=Lib.hid hX6
           have HR6:=Lib.hid (px4_start hR HIT.out HM1.out.symm R)
           have HRG:=Lib.hid hrg
           have HTH:=Lib.hid hth
           have HRR:=Lib.hid hRR
           have HRM:=Lib.hid hrm
           have HR12:=Lib.hid hR12
           clear hX hR hsame hi3' hbg4 hbl4 hvq hqA hRR hrm hR12 hrg hth hX6 hgqb HX HR
           go_wp2_with (first|(refine wpList_load_mid (by rfl) 40 _ (by rfl) gq (i*12) (by rfl) (intsV R) _ HRG.out Tryd.underlying40 (by rfl) (boxI_info HR12.out) ?_)|(refine wpList_store_mid (by rfl) 40 _ _ (by rfl) gp (i*15+3) (intsV R).toArray (by rfl) (by rfl) HTH.out (by simpa using boxI_info HR12.out) (boxI_one R) ?_;rw[hw6]))
           clear hw6 k9 k12 q0 zb z0 zgp zgq
           go_loopw [207] (fun v207 wr=>∃(r:Nat) (s' :SB),r≤12∧v207= .int .i64 (r:Int)∧CtX w V b c wr s' V1 L M (nm:Int) nm∧PtR s1 s' (toPart s.same M s.began s1) i (PX4 s.same M s1 R i r)) (fun v207 _=>12-(intOf v207).toNat)
           case atStart=>exact⟨0,_,by omega,rfl,HX6.out,HR6.out⟩
           case round=>
            obtain⟨r,s5,hr12,rfl,hX,hR⟩:=hrel
            clear HX6 HR6
            have HR:=Lib.hid hR
            have HX:=Lib.hid hX
            by_cases hr0:r=12
            ·subst hr0
             rw[show((12:Nat):Int)=12 from rfl]
             clear hX hR
             go_wp2_with fail
             go_roundw
             case rel=>exact⟨i+1,s5,by omega,by go_num,HX.out,HR.out.next (by rw[←HRR.out];exact px4_done (by rw[HRR.out,HR12.out];omega))⟩
             case measure=>simp[intOf];omega
            ·have hr1:r<12:=by omega
             have hr2:(r:Int)<12:=by omega
             have hr3:(0:Int)≤r:=by omega
             have hpx:(PX4 s.same M s1 R i r).inn.length=12:=by
              show(mapTo _ _ R).length=12
              rw[mapTo_len,HR12.out]
             obtain⟨-,-,zgp,hsame,hi3'⟩:=KP.out _ _ _ hX hR hpx
             have hrl:r<R.length:=by rw[HR12.out];exact hr1
             have hra:(s5.part i).inn.getD r 0=R[r]:=by
              rw[px4_inn hR HIT.out,gD,gE hrl];rfl
             have hto:=hX.to_inn (by rw[hsame];exact HOK.out.all) (by rw[hsame];exact HOK.out.len) (HIN.out s5 _ hR hpx) hi3' hr1 hra (by rw[hsame];exact HOK.out.bv R HRM.out _ (List.getElem_mem _)) HVP1.out
             rw[hsame] at hto
             have HR7:=Lib.hid (px4_step hR HIT.out hrl)
             have HTO:=Lib.hid hto
             clear hX hR hsame hi3' hra hto HX HR hpx
             go_wp2_with (first|(go_at_call 59;go_must (refine HTO.out.mono ?_;rintro e w7 ⟨rfl,h7⟩;have HX7:=Lib.hid h7;clear h7 zgp)))
             go_roundw
             case rel=>exact⟨r+1,_,by omega,by go_num,HX7.out,HR7.out⟩
             case measure=>simp[intOf];omega
          ·have hk1:k<m:=by omega
           have hk2:(k:Int)<m:=by omega
           have hk3:(0:Int)≤k:=by omega
           obtain⟨gi,rfl,-,-⟩:=HIA.out (by omega)
           obtain⟨-,c2,zgp,hsame,hi3'⟩:=KP.out _ _ _ hX hR HX12.out
           have zgi:=(hX.sb.rlt (.ins i) (g:=gi) (by rw[HVI.out];rfl)).2
           have hk4:k<(s4.part i).ins.length:=by rw[px3_len hR HIT.out,HM1.out];exact hk1
           have hia:s4.insA i k=s.insA i k:=(px3_ins hR HIT.out).trans (HINS.out k)
           obtain⟨hv1,hv2,hv3⟩:=HOK.out.insv i k HIS.out (by rw[HMS.out];exact hk1)
           obtain⟨x,hx⟩:∃x,s.insA i k=x:=⟨_,rfl⟩
           rw[hx] at hia hv1 hv2 hv3
           obtain⟨jo,jd,ja,jb,jm,jp⟩:=x
           simp only at hv1 hv2 hv3
           have hal:=HOK.out.all
           have hlen:=HOK.out.len
           obtain⟨s5,hs5⟩:∃y,s4.setIns i k ⟨jo,toV s.same M jd,ja,jb,jm,jp⟩=y:=⟨_,rfl⟩
           obtain⟨s6,hs6⟩:∃y,s4.setIns i k ⟨jo,toV s.same M jd,toV s.same M ja,jb,jm,jp⟩=y:=⟨_,rfl⟩
           obtain⟨s7,hs7⟩:∃y,s4.setIns i k ⟨jo,toV s.same M jd,toV s.same M ja,toV s.same M jb,jm,jp⟩=y:=⟨_,rfl⟩
           have h5:=setIns_get hi3' hk4 (⟨jo,toV s.same M jd,ja,jb,jm,jp⟩:InsS)
           have h6:=setIns_get hi3' hk4 (⟨jo,toV s.same M jd,toV s.same M ja,jb,jm,jp⟩:InsS)
           have h56:=setIns_set (k:=k) hi3' (⟨jo,toV s.same M jd,ja,jb,jm,jp⟩:InsS) (⟨jo,toV s.same M jd,toV s.same M ja,jb,jm,jp⟩:InsS)
           have h67:=setIns_set (k:=k) hi3' (⟨jo,toV s.same M jd,toV s.same M ja,jb,jm,jp⟩:InsS) (⟨jo,toV s.same M jd,toV s.same M ja,toV s.same M jb,jm,jp⟩:InsS)
           have hsm5:s5.same=s.same∧i<s5.parts.length:=by rw[←hs5];exact⟨hsame,by show i<(s4.parts.set i _).length;rw[List.length_set];exact hi3'⟩
           have hsm6:s6.same=s.same∧i<s6.parts.length:=by rw[←hs6];exact⟨hsame,by show i<(s4.parts.set i _).length;rw[List.length_set];exact hi3'⟩
           rw[hs5] at h5 h56
           rw[hs6] at h6 h56 h67
           rw[hs7] at h67
           have hto:=hX.to_ins (by rw[hsame];exact hal) (by rw[hsame];exact hlen) hi3' hk4 1 (by omega) (a:=jd) (by rw[hsame];exact hv1) ⟨jo,toV s.same M jd,ja,jb,jm,jp⟩ (by rw[hia,hsame];rfl) HVI.out (by have h:=(hX.sb.insCell HVI.out hk4).2.1;rw[hia] at h;exact h)
           rw[hs5] at hto
           have HTO1:=Lib.hid hto
           have HTO2:=Lib.hid (fun(W:World) (h:CtX w V b c W s5 V1 L M (nm:Int) nm)=>(by
            have ht:=h.to_ins (by rw[hsm5.1];exact hal) (by rw[hsm5.1];exact hlen) hsm5.2 (by rw[h5.2];exact hk4) 2 (by omega) (a:=ja) (by rw[hsm5.1];exact hv2) ⟨jo,toV s.same M jd,toV s.same M ja,jb,jm,jp⟩ (by rw[h5.1,hsm5.1];rfl) HVI.out (by have h:=(h.sb.insCell HVI.out (show k<(s5.part i).ins.length by rw[h5.2];exact hk4)).2.2.1;rw[h5.1] at h;exact h)
            rw[h56] at ht
            exact ht:Calls Tryd.prog 59 #[.pointer (some ⟨gi,k*6+2,none⟩), .pointer (some ⟨L+2,0,none⟩), .pointer (some ⟨L,0,none⟩)] W fun e w' =>e= .returned (.tuple #[])∧CtX w V b c w' s6 V1 L M (nm:Int) nm))
           have HTO3:=Lib.hid (fun(W:World) (h:CtX w V b c W s6 V1 L M (nm:Int) nm)=>(by
            have ht:=h.to_ins (by rw[hsm6.1];exact hal) (by rw[hsm6.1];exact hlen) hsm6.2 (by rw[h6.2];exact hk4) 3 (by omega) (a:=jb) (by rw[hsm6.1];exact hv3) ⟨jo,toV s.same M jd,toV s.same M ja,toV s.same M jb,jm,jp⟩ (by rw[h6.1,hsm6.1];rfl) HVI.out (by have h:=(h.sb.insCell HVI.out (show k<(s6.part i).ins.length by rw[h6.2];exact hk4)).2.2.2.1;rw[h6.1] at h;exact h)
            rw[h67] at ht
            exact ht:Calls Tryd.prog 59 #[.pointer (some ⟨gi,k*6+3,none⟩), .pointer (some ⟨L+2,0,none⟩), .pointer (some ⟨L,0,none⟩)] W fun e w' =>e= .returned (.tuple #[])∧CtX w V b c w' s7 V1 L M (nm:Int) nm))
           have HR7:Hid (PtR s1 s7 (toPart s.same M s.began s1) i (PX3 s.same M s1 i (k+1))):=Lib.hid (by
            have h:=px3_step hR HIT.out (k:=k) (by rw[HM1.out];exact hk1)
            rw[HINS.out k,hx] at h
            rw[←hs7];exact h)
           clear hX hR hsame hi3' hk4 hia hv1 hv2 hv3 hx hal hlen hs5 hs6 hs7 h5 h6 h56 h67 hsm5 hsm6 hto HX HR
           go_wp2_with (first|(have tok:=HY2;go_at_call 59;go_must (refine(HTO3.out _ tok.out).mono ?_;rintro e w9 ⟨rfl,h7⟩;have HY3:=Lib.hid h7;clear h7))|(have tok:=HY1;go_at_call 59;go_must (refine(HTO2.out _ tok.out).mono ?_;rintro e w8 ⟨rfl,h7⟩;have HY2:=Lib.hid h7;clear h7))|(go_at_call 59;go_must (refine HTO1.out.mono ?_;rintro e w7 ⟨rfl,h7⟩;have HY1:=Lib.hid h7;clear h7)))
           clear c2 zgp zgi
           go_roundw
           case rel=>exact⟨k+1,s7,by omega,by go_num,HY3.out,HR7.out⟩
           case measure=>simp[intOf];omega
        ·have hk1:k<n:=by omega
         have hk2:(k:Int)<n:=by omega
         have hk3:(0:Int)≤k:=by omega
         obtain⟨gh,rfl,-,-⟩:=HHA.out (by omega)
         obtain⟨c1,-,zgp,hsame,hi3'⟩:=KP.out _ _ _ hX hR HX12.out
         have zgh:=(hX.sb.rlt (.phis i) (g:=gh) (by rw[HVH.out];rfl)).2
         obtain⟨t,ht,hpt⟩:=HPHI.out k hk1
         have hk1' :k<(s1.part i).phis.length:=by rw[HN1.out];exact hk1
         have hk3' :k<(s3.part i).phis.length:=by rw[px1_len hR HIT.out];exact hk1'
         have hph3:s3.phi i k=s1.phi i k:=px1_phi hR HIT.out
         obtain⟨d,hd,hdl⟩:=HOK.out.id i t HIS.out ht
         have hto:=hX.to_phi (by rw[hsame];exact HOK.out.all) (by rw[hsame];exact HOK.out.len) hi3' hk3' (by rw[hph3,hpt,hsame,hd];omega) HVH.out
         rw[hsame] at hto
         have hr4:=px1_step hR HIT.out
         obtain⟨s4,hs4⟩:∃x,s3.setPhiId i k (toV s.same M (s3.phi i k).id)=x:=⟨_,rfl⟩
         rw[hs4] at hto hr4
         obtain⟨na,hna⟩:∃x,(s1.arg i k).length=x:=⟨_,rfl⟩
         have hna300:na≤300:=by rw[←hna];show((s1.phi i k).args).length≤300;rw[hpt];exact HOK.out.args i t
         have hag:∀a∈s1.arg i k,a<s.same.length:=fun a ha=>HOK.out.arg i t HIS.out ht a (by rw[←hpt];exact ha)
         have hna3:(s3.arg i k).length=na:=by rw[←hna];show((s3.phi i k).args).length=_;rw[hph3];rfl
         obtain⟨Aa,ca,hva,-,haA⟩:=hX.sb.rowV (.args i k) (n:=na) hna3
         have K4:=Lib.hid (fun(W:World) (s' :SB) (j:Nat) (h:CtX w V b c W s' V1 L M (nm:Int) nm) (hr:PtR s1 s' (toPart s.same M s.began s1) i (PX2 s.same M s1 i k j))=>(⟨(KP.out W s' _ h hr HX12.out).1,(h.sb.phiCell HVH.out (show k<(s'.part i).phis.length by rw[px2_len hr HIT.out];exact hk1')).2.2.trans (by rw[hva]),(KP.out W s' _ h hr HX12.out).2.2.1,(h.sb.rlt (.phis i) (g:=gh) (by rw[HVH.out];rfl)).2⟩:
          W.cell? ⟨gp,i*15+1,none⟩=some (.slice (some ⟨gh,0,none⟩) n ch)∧W.cell? ⟨gh,k*3+2,none⟩=some (.slice Aa na ca)∧gp<W.heap.size∧gh<W.heap.size))
         have HTO:=Lib.hid hto
         have HR4:=Lib.hid hr4
         have HAG:=Lib.hid hag
         have HNA:=Lib.hid hna
         have HVA:=Lib.hid hva
         have HAA:=Lib.hid haA
         have HK1:=Lib.hid hk1'
         clear hX hR hsame hi3' hpt ht hk1' hk3' hph3 hd hdl hto hr4 hs4 hna hag hna3 hva haA HX HR d
         go_wp2_with (first|(go_at_call 59;go_must (refine HTO.out.mono ?_;rintro e w7 ⟨rfl,h7⟩;have HX7:=Lib.hid h7;obtain⟨d1,d2,zd1,zd2⟩:=K4.out _ _ _ h7 HR4.out;clear h7 c1 zgp zgh)))
         clear d1 d2 zd1 zd2
         go_loopw [150] (fun v150 wr=>∃(j:Nat) (s' :SB),j≤na∧v150= .int .i64 (j:Int)∧CtX w V b c wr s' V1 L M (nm:Int) nm∧PtR s1 s' (toPart s.same M s.began s1) i (PX2 s.same M s1 i k j)) (fun v150 _=>na-(intOf v150).toNat)
         case atStart=>exact⟨0,s4,by omega,rfl,HX7.out,HR4.out⟩
         case round=>
          obtain⟨j,s5,hjn,rfl,hX,hR⟩:=hrel
          clear HX7 HR4
          have HR:=Lib.hid hR
          have HX:=Lib.hid hX
          by_cases hj0:j=na
          ·have hj0' :=hj0.symm
           subst hj0'
           clear hX hR
           go_wp2_with fail
           go_roundw
           case rel=>exact⟨k+1,s5,by omega,by go_num,HX.out,px2_done HR.out HK1.out HNA.out.symm⟩
           case measure=>simp[intOf];omega
          ·have hj1:j<na:=by omega
           have hj2:(j:Int)<na:=by omega
           have hj3:(0:Int)≤j:=by omega
           obtain⟨ga,rfl,-,-⟩:=HAA.out (by omega)
           obtain⟨-,-,-,hsame,hi3'⟩:=KP.out _ _ _ hX hR HX12.out
           obtain⟨d1,d2,zd1,zd2⟩:=K4.out _ _ _ hX hR
           have hja:j<(s1.arg i k).length:=by rw[HNA.out];exact hj1
           have ha5:=px2_arg hR HIT.out HK1.out
           have hjl:j<(s5.arg i k).length:=by rw[ha5,mapTo_len];exact hja
           have hje:(s5.arg i k)[j]=(s1.arg i k)[j]:=by
            have h1:=mapTo_get (f:=toV s.same M) (l:=s1.arg i k) (k:=j) (Nat.le_refl j)
            rw[←ha5,gE hjl,gE hja] at h1
            exact Option.some.inj h1
           have hto:=hX.to_arg (by rw[hsame];exact HOK.out.all) (by rw[hsame];exact HOK.out.len) hi3' (by rw[px2_len hR HIT.out];exact HK1.out) hjl hje (by rw[hsame];exact HAG.out _ (List.getElem_mem _)) HVA.out
           rw[hsame] at hto
           have HR6:=Lib.hid (px2_step hR HIT.out HK1.out hja)
           have HTO5:=Lib.hid hto
           have zga:=(hX.sb.rlt (.args i k) (g:=ga) (by rw[HVA.out];rfl)).2
           clear hX hR hsame hi3' ha5 hjl hje hto HX HR
           go_wp2_with (first|(go_at_call 59;go_must (refine HTO5.out.mono ?_;rintro e w8 ⟨rfl,h8⟩;have HX8:=Lib.hid h8;clear h8 d1 d2 zd1 zd2 zga)))
           go_roundw
           case rel=>exact⟨j+1,_,by omega,by go_num,HX8.out,HR6.out⟩
           case measure=>simp[intOf];omega
    ·have hi1:i<N:=by omega
     have hi2:(i:Int)<N:=by omega
     have hi3:(0:Int)≤i:=by omega
     obtain⟨gp,rfl,-,-⟩:=HPA.out (by omega)
     obtain⟨k9,k11,q0,q2,zb,z0,z2⟩:=KBX.out _ _ _ _ hX hv1 hv2
     have his:i<s.parts.length:=by rw[HNN.out];exact hi1
     have hi1' :i<s1.parts.length:=by rw[hR.len];exact his
     have hp1:s1.part i=s.part i:=hR.at_ his
     have hin1:∀x∈s1.parts,x.inn.length=12:=hR.inn (fun j hj=>HOK.out.inn _ (by unfold SB.part;rw[gD,gE hj];exact List.getElem_mem hj)) (fun j hj=>HOK.out.inn (s.part j) (by unfold SB.part;rw[gD,gE hj];exact List.getElem_mem hj)) (HOK.out.inn _ (by unfold SB.part;rw[gD,gE his];exact List.getElem_mem his))
     obtain⟨n,hn⟩:∃n,(s.part i).phis.length=n:=⟨_,rfl⟩
     have hn100:n≤100:=by rw[←hn];exact HOK.out.phis i
     have hn1:(s1.part i).phis.length=n:=by rw[hp1,hn]
     have hvp:V1 .parts= .slice (some ⟨gp,0,none⟩) N cp:=hv1.trans HVP.out
     obtain⟨Ah,ch,hvh,-,hhA⟩:=hX.sb.rowV (.phis i) (n:=n) hn1
     have c1:=(hX.sb.partCell hin1 hvp hi1').1
     rw[hvh] at c1
     have zgp:=(hX.sb.rlt .parts (g:=gp) (by rw[hvp];rfl)).2
     have HP1:=Lib.hid hp1
     have HIN1:=Lib.hid hin1
     have HVH:=Lib.hid hvh
     have HHA:=Lib.hid hhA
     have HNP:=Lib.hid hn
     have HIS:=Lib.hid (show i<s.parts.length∧i<s1.parts.length from⟨his,hi1'⟩)
     have HGI:Hid ((allG s i).length≤1100*i):=Lib.hid (allG_len (fun j=>HOK.out.phis j) (fun j=>HOK.out.ins j) i)
     obtain⟨w4,hw4⟩:∃wo:World,wo=wr:=⟨_,rfl⟩
     subst hw4
     have HT0:Hid (TmpR w4 L V1 s1 i (keptK s i 0) (.slice none 0 0)):=Lib.hid (TmpR.nil _ _ _ _ _)
     have HX0:Hid (CG w V b c w4 s1 V1 L P (allG s i++phiG s i 0)):=Lib.hid (by rw[show phiG s i 0=[] from rfl,List.append_nil];exact hX)
     clear hX hR hv1 hv2 his hi1' hp1 hin1 hn hn1 hvp hvh hhA HX
     go_wp2_with fail
     clear k9 k11 q0 q2 zb z0 z2 c1 zgp
     go_loopw [8,61] (fun v8 v61 wr=>∃k:Nat,k≤n∧v61= .int .i64 (k:Int)∧CG w V b c wr s1 V1 L P (allG s i++phiG s i k)∧TmpR wr L V1 s1 i (keptK s i k) v8) (fun _ v61 _=>n-(intOf v61).toNat)
     case atStart=>exact⟨0,by omega,rfl,HX0.out,HT0.out⟩
     case round=>
      obtain⟨k,hkn,rfl,hX,hT⟩:=hrel
      clear HX0 HT0
      obtain⟨A8,c8,h8,-⟩:=own_slice hT.1
      obtain⟨m8,hm8⟩:∃x,(keptK s i k).length=x:=⟨_,rfl⟩
      rw[hm8] at h8
      subst h8
      have HM8:=Lib.hid hm8
      have hm8k:m8≤k:=by rw[←hm8];exact keptK_len s i k
      clear hm8
      by_cases hk0:k=n
      ·have hk0' :=hk0.symm
       subst hk0'
       have hvp:V1 .parts= .slice (some ⟨gp,0,none⟩) N cp:=HV.out.1.trans HVP.out
       have c1:=(hX.sb.partCell HIN1.out hvp HIS.out.2).1
       rw[HVH.out] at c1
       have zgp:=(hX.sb.rlt .parts (g:=gp) (by rw[hvp];rfl)).2
       have f1:=(hX.sb.own.free .parts (by rw[rowsOf_v];exact hvp) (i*15+1)).1
       obtain⟨w6,hw6⟩:∃W,wr.setCell ⟨gp,i*15+1,none⟩ (.slice A8 m8 c8)=W:=⟨_,rfl⟩
       have hX6:CG w V b c w6 (s1.keep i (keptK s i n)) (newV V1 i (.slice A8 m8 c8) (keptK s i n) (s1.part i).phis.length) L P (allG s i++phiG s i n):=hw6▸CtX.newPhis hX HIN1.out HIS.out.2 hvp (keptK_sorted s i n) (fun t ht=>by rw[HP1.out,HNP.out];exact keptK_lt s i n t ht) hT.1 hT.2
       have hr2:PtR s (s1.keep i (keptK s i n)) (keepF s) i (keepF s i):=(HR.out.mod HIS.out.1 _).cast (by
        unfold keepF
        rw[HNP.out,HP1.out,show s1.phi i=s.phi i from funext fun t=>by unfold SB.phi;rw[HP1.out]])
       obtain⟨s2,hs2⟩:∃x,s1.keep i (keptK s i n)=x:=⟨_,rfl⟩
       obtain⟨V2,hV2⟩:∃x,newV V1 i (.slice A8 m8 c8) (keptK s i n) (s1.part i).phis.length=x:=⟨_,rfl⟩
       have hv21:V2 .parts=V .parts:=by rw[←hV2,(newV_parts _ _ _ _ _).1];exact HV.out.1
       have hv22:V2 .same=V .same:=by rw[←hV2,(newV_parts _ _ _ _ _).2];exact HV.out.2
       rw[hs2,hV2] at hX6
       rw[hs2] at hr2
       have hp2:s2.part i=keepF s i:=hr2.at_ HIS.out.1
       have hin2:∀x∈s2.parts,x.inn.length=12:=hr2.inn (fun j hj=>HOK.out.inn _ (by unfold SB.part;rw[gD,gE hj];exact List.getElem_mem hj)) (fun j hj=>HOK.out.inn (s.part j) (by unfold SB.part;rw[gD,gE hj];exact List.getElem_mem hj)) (HOK.out.inn (s.part i) (by unfold SB.part;rw[gD,gE HIS.out.1];exact List.getElem_mem HIS.out.1))
       obtain⟨m,hm⟩:∃m,(s.part i).ins.length=m:=⟨_,rfl⟩
       have hm1000:m≤1000:=by rw[←hm];exact HOK.out.ins i
       have hm2:(s2.part i).ins.length=m:=by rw[hp2];exact hm
       have hvp2:V2 .parts= .slice (some ⟨gp,0,none⟩) N cp:=hv21.trans HVP.out
       obtain⟨Ai,ci,hvi,-,hiA⟩:=hX6.sb.rowV (.ins i) (n:=m) hm2
       have c2:=(hX6.sb.partCell hin2 hvp2 (by rw[hr2.len];exact HIS.out.1)).2
       rw[hvi] at c2
       have zgp6:=(hX6.sb.rlt .parts (g:=gp) (by rw[hvp2];rfl)).2
       have HX6:=Lib.hid hX6
       have HR2:=Lib.hid hr2
       have HV2:=Lib.hid (show V2 .parts=V .parts∧V2 .same=V .same from⟨hv21,hv22⟩)
       have HP2:=Lib.hid hp2
       have HVI:=Lib.hid hvi
       have HIA:=Lib.hid hiA
       have HM:=Lib.hid hm
       have HL4:Hid ((allG s i++phiG s i n).length≤1100*i+100):=Lib.hid (by have h1:=HGI.out;have h2:=phiG_len s i n;rw[List.length_append];omega)
       have HI0:Hid (CG w V b c w6 s2 V2 L P (allG s i++phiG s i n++insG s i 0)):=Lib.hid (by rw[show insG s i 0=[] from rfl,List.append_nil];exact hX6)
       clear hX hT hX6 hr2 hs2 hV2 hv21 hv22 hp2 hin2 hm hm2 hvp2 hvi hiA hvp
       go_wp2_with fail
       clear hw6 c1 c2 zgp zgp6 f1
       go_loopw [94] (fun v94 wr=>∃k:Nat,k≤m∧v94= .int .i64 (k:Int)∧CG w V b c wr s2 V2 L P (allG s i++phiG s i n++insG s i k)) (fun v94 _=>m-(intOf v94).toNat)
       case atStart=>exact⟨0,by omega,rfl,HI0.out⟩
       case round=>
        obtain⟨k,hkm,rfl,hX⟩:=hrel
        clear HI0 HX6
        by_cases hkM:k=m
        ·have hkM' :=hkM.symm
         subst hkM'
         have HXE:Hid (CG w V b c wr s2 V2 L P (allG s (i+1))):=Lib.hid (by
          rw[allG_succ]
          unfold partG
          rw[HNP.out,HM.out,←List.append_assoc];exact hX)
         clear hX
         go_wp2_with fail
         go_roundw
         case rel=>exact⟨i+1,s2,V2,by omega,by go_num,HXE.out,HR2.out.next rfl,HV2.out.1,HV2.out.2⟩
         case measure=>simp[intOf];omega
        ·have hk1:k<m:=by omega
         have hk2:(k:Int)<m:=by omega
         have hk3:(0:Int)≤k:=by omega
         obtain⟨gi,rfl,-,-⟩:=HIA.out (by omega)
         have hia:s2.insA i k=s.insA i k:=by unfold SB.insA;rw[HP2.out];rfl
         obtain⟨c0,c1,c2,c3,c4,c5⟩:=hX.sb.insCell (k:=k) HVI.out (by rw[HP2.out];show k<(s.part i).ins.length;rw[HM.out];exact hk1)
         rw[hia] at c0 c1 c2 c3 c4 c5
         have hiv:=(HOK.out.insv i k HIS.out.1 (by rw[HM.out];exact hk1)).1
         have hsu:=insG_succ s i k
         have hgl:=insG_len s i k
         obtain⟨x,hx⟩:∃x,s.insA i k=x:=⟨_,rfl⟩
         rw[hx] at c0 c1 c2 c3 c4 c5 hiv hsu
         obtain⟨jo,jd,ja,jb,jm,jp⟩:=x
         simp only at c0 c1 c2 c3 c4 c5 hiv hsu
         have zgi:=(hX.sb.rlt (.ins i) (g:=gi) (by rw[HVI.out];rfl)).2
         obtain⟨k9,k11,q0,q2,zb,z0,z2⟩:=KBX.out _ _ _ _ hX HV2.out.1 HV2.out.2
         obtain⟨Lb,hLb⟩:∃x,wr.heap.size=x:=⟨_,rfl⟩
         have hXb:CG w V b c (wr.alloc (.cells #[.int .i64 jo, .int .i64 jd, .int .i64 ja, .int .i64 jb, .int .i64 jm, .int .i64 jp] 77)) s2 V2 L P (allG s i++phiG s i n++insG s i k):=hX.keeps ((Below.refl _ _).alloc (Nat.le_refl _) _)
         have HXB:=Lib.hid hXb
         have HSU:=Lib.hid hsu
         clear hX hXb hsu hx hia
         by_cases hj0:0≤jd
         ·obtain⟨v,rfl⟩:∃v:Nat,jd=v:=⟨jd.toNat,by omega⟩
          have hvd:decide ((v:Int)≥0)=true:=by simp
          have HGV:=Lib.hid (HXB.out.give (v:=v) (by have:=HNS.out;omega) (by rw[List.length_append];have:=HL4.out;omega))
          have HSV:Hid (insG s i (k+1)=insG s i k++[v]):=Lib.hid (by rw[HSU.out,if_pos (by omega),Int.toNat_natCast])
          clear hj0 hiv hgl
          go_wp2_with (first|(go_at_call 58;go_must (refine HGV.out.mono ?_;rintro e w7 ⟨zz,rfl,h7,-,-⟩;have HX7:=Lib.hid h7;clear h7)))
          go_roundw
          case rel=>exact⟨k+1,by omega,by go_num,by rw[HSV.out,←List.append_assoc];exact HX7.out⟩
          case measure=>simp[intOf];omega
         ·have hvd:decide (jd≥0)=false:=by simpa using hj0
          have HSV:Hid (insG s i (k+1)=insG s i k):=Lib.hid (by rw[HSU.out,if_neg hj0,List.append_nil])
          clear hj0 hiv hgl
          go_wp2_with fail
          go_roundw
          case rel=>exact⟨k+1,by omega,by go_num,by rw[HSV.out];exact HXB.out⟩
          case measure=>simp[intOf];omega
      ·have hk1:k<n:=by omega
       have hk2:(k:Int)<n:=by omega
       have hk3:(0:Int)≤k:=by omega
       obtain⟨gh,rfl,-,-⟩:=HHA.out (by omega)
       have hkp:k<(s1.part i).phis.length:=by rw[HP1.out,HNP.out];exact hk1
       have hph:s1.phi i k=s.phi i k:=by unfold SB.phi;rw[HP1.out]
       obtain⟨d,hd,hdl⟩:=HOK.out.id i k HIS.out.1 (by rw[HNP.out];exact hk1)
       obtain⟨rg,hrg⟩:∃r,(s.phi i k).reg=r:=⟨_,rfl⟩
       obtain⟨na,hna⟩:∃r,(s1.arg i k).length=r:=⟨_,rfl⟩
       obtain⟨Aa,ca,hva,-,-⟩:=hX.sb.rowV (.args i k) (n:=na) hna
       obtain⟨e0,e1,e2⟩:=hX.sb.phiCell HVH.out hkp
       rw[hph,hrg] at e0
       rw[hph,hd] at e1
       rw[hva] at e2
       have zgh:=(hX.sb.rlt (.phis i) (g:=gh) (by rw[HVH.out];rfl)).2
       obtain⟨gs,rfl,-,-⟩:=HSA.out (by have:=HNS.out;omega)
       obtain⟨k9,k11,q0,q2,zb,z0,z2⟩:=KBX.out _ _ _ _ hX HV.out.1 HV.out.2
       obtain⟨md,hmd⟩:∃x,s.same[d]? =some x:=⟨_,gE hdl⟩
       have hd1:(d:Int)<NS:=by rw[HNS.out] at hdl;omega
       have hd0:(0:Int)≤d:=by omega
       have hdN:d<NS:=by omega
       obtain⟨Lb,hLb⟩:∃L,wr.heap.size=L:=⟨_,rfl⟩
       have HXR:=Lib.hid hX
       have HTR:=Lib.hid hT
       have HMD:=Lib.hid hmd
       have HID:=Lib.hid hd
       have HRG:=Lib.hid hrg
       have HVA:=Lib.hid hva
       have HPH:=Lib.hid hph
       clear hX hT hd hrg hna hva hmd hkp hdl hph
       go_wp2_with fail
       obtain⟨w5,hw5⟩:∃W,wr.alloc (.cells #[.int .i64 rg, .int .i64 (d:Int), .slice Aa na ca] 88)=W:=⟨_,rfl⟩
       have HX5:Hid (CG w V b c w5 s1 V1 L P (allG s i++phiG s i k)):=Lib.hid (hw5▸HXR.out.keeps ((Below.refl _ _).alloc (Nat.le_refl _) _))
       have HT5:Hid (TmpR w5 L V1 s1 i (keptK s i k) (.slice A8 m8 c8)):=Lib.hid (hw5▸HTR.out.same (fun g _ hg=>Below.heap_alloc _ _ _ hg))
       have HB5:Hid (w5.heap[Lb]? =some (.cells #[.int .i64 rg, .int .i64 (d:Int), .slice Aa na ca] 88 (0,0))):=Lib.hid (hw5▸hLb▸heap_alloc_new _ _)
       have HLB:Hid (L+3<Lb):=Lib.hid (by have:=HXR.out.lt.2.2;omega)
       rw[hw5]
       clear hw5 e0 e1 e2 zgh k9 k11 q0 q2 zb z0 z2 hLb HXR HTR
       obtain⟨k9,k11,q0,q2,zb,z0,z2⟩:=KBX.out _ _ _ _ HX5.out HV.out.1 HV.out.2
       have q1:w5.cell? ⟨Lb,1,none⟩=some (.int .i64 (d:Int)):=cell_block HB5.out 1
       have zL:=block_lt HB5.out
       have cmd:w5.cell? ⟨gs,d,none⟩=some (.int .i64 md):=HX5.out.sb.own.cell .same (by rw[rowsOf_v];exact HV.out.2.trans HVS.out) (show(intsV s1.same)[d]? =_ from by rw[HR.out.same];simp[intsV,HMD.out])
       have zgs:=(HX5.out.sb.rlt .same (g:=gs) (by rw[HV.out.2,HVS.out];rfl)).2
       by_cases hrt:md=d
       ·subst hrt
        have hne:((d:Int)==(d:Int))=true:=by simp
        have hcond:(s.same[(s.phi i k).id.toNat]? ==some (s.phi i k).id)=true:=by rw[HID.out,Int.toNat_natCast,HMD.out];simp
        have HKS:Hid (keptK s i (k+1)=keptK s i k++[k]):=Lib.hid (by rw[keptK_succ,if_pos hcond])
        have HPS:Hid (phiG s i (k+1)=phiG s i k++[d]):=Lib.hid (by rw[phiG_succ,if_pos hcond,HID.out,Int.toNat_natCast])
        clear hcond
        go_quiet (fail)
        obtain⟨w6,hw6⟩:∃W,w5.drewN nq=W:=⟨_,rfl⟩
        have HX6:Hid (CG w V b c w6 s1 V1 L P (allG s i++phiG s i k)):=Lib.hid (hw6▸HX5.out.keeps (below_drewN (Below.refl _ _) _))
        have HT6:Hid (TmpR w6 L V1 s1 i (keptK s i k) (.slice A8 m8 c8)):=Lib.hid (hw6▸HT5.out.same (fun g _ hg=>(below_drewN (Below.refl w5.heap.size w5) nq).block g hg))
        have HB6:Hid (w6.heap[Lb]? =some (.cells #[.int .i64 rg, .int .i64 (d:Int), .slice Aa na ca] 88 (0,0))):=Lib.hid (hw6▸((below_drewN (Below.refl w5.heap.size w5) nq).block Lb zL).trans HB5.out)
        rw[hw6]
        clear hw6 nq k9 k11 q0 q2 zb z0 z2 q1 zL cmd zgs HX5 HT5 HB5
        have q1:w6.cell? ⟨Lb,1,none⟩=some (.int .i64 (d:Int)):=cell_block HB6.out 1
        have zL:=block_lt HB6.out
        have HGV:=Lib.hid (HX6.out.give (v:=d) (by omega) (by rw[List.length_append];have h1:=HGI.out;have h2:=phiG_len s i k;omega))
        obtain⟨i0,hi,jz0,jz1,jz2⟩:=info_parts infoPhiC
        go_wp2_with (first|(go_at_call 58;go_must (refine HGV.out.mono ?_;rintro e w7 ⟨zz,rfl,h7,hs7,hk7⟩;have HX7:=Lib.hid h7;have HT7:=Lib.hid (HT6.out.same (fun g h1 h2=>hk7 g h2 (by omega) (by omega)));have hb7:=(hk7 Lb zL (by have:=HLB.out;omega) (by have:=HLB.out;omega)).trans HB6.out;have r0:w7.cell? ⟨Lb,0,none⟩=some (.int .i64 rg):=cell_block hb7 0;have r1:w7.cell? ⟨Lb,1,none⟩=some (.int .i64 (d:Int)):=cell_block hb7 1;have r2:w7.cell? ⟨Lb,2,none⟩=some (.slice Aa na ca):=cell_block hb7 2;have zL7:=block_lt hb7;have z37:=HX7.out.lt.2.2;have HOW:Hid (w7.ownsRow (L+4) 88 3 (.slice A8 m8 c8) m8 ((keptK s i k).flatMap fun k=>(s1.phi i k).cells (V1 (.args i k)))):=Lib.hid (HM8.out▸HT7.out.1);clear h7 hs7 hk7 hb7 q1 zL))|(at_builtin;go_must (refine wpList_append_lies _ rfl _ _ 72 rfl (L+4) 88 i0 _ 3 40 Tryd.underlying72 hi jz0 jz1 jz2 rfl (by decide) (.slice A8 m8 c8) m8 ((keptK s i k).flatMap fun k=>(s1.phi i k).cells (V1 (.args i k))) rfl (own_below HOW.out ((Below.refl _ _).alloc (Nat.le_refl _) _)) ⟨w7.heap.size,0,none⟩ 1 1 [.int .i64 rg, .int .i64 (d:Int), .slice Aa na ca] rfl rfl (World.news_of_block (heap_alloc_new w7 _)) (by simp[Value.oneCell']) (by omega) (by unfold maxLen;omega) (by omega) (by simp;omega) _ rfl ?_);intro g9 cap9 w9 hown9 hg9 hat9 _;have HX9:Hid (CG w V b c w9 s1 V1 L P (allG s i++phiG s i k++[d])):=Lib.hid (CtX.out HX7.out hg9 (fun g hg=>⟨(World.ownsRow.lt HOW.out g hg).1,HT7.out.2 g hg⟩));have HT9:Hid (TmpR w9 L V1 s1 i (keptK s i k++[k]) (.slice (some ⟨g9,0,none⟩) (m8+1) cap9)):=Lib.hid (HT7.out.grow HX7.out (by rw[HPH.out,HVA.out];unfold PhiS.cells;rw[HRG.out,HID.out];exact hown9) hat9 (by simp) (by rw[HM8.out]));clear hown9 hg9 hat9))
        go_roundw
        case rel=>exact⟨k+1,by omega,by go_num,by rw[HPS.out,←List.append_assoc];exact HX9.out,by rw[HKS.out];exact HT9.out⟩
        case measure=>simp[intOf];omega
       ·have hne:((md:Int)==(d:Int))=false:=by simpa using hrt
        have hcond:¬(s.same[(s.phi i k).id.toNat]? ==some (s.phi i k).id)=true:=by rw[HID.out,Int.toNat_natCast,HMD.out];simpa using hrt
        have HKS:Hid (keptK s i (k+1)=keptK s i k):=Lib.hid (by rw[keptK_succ,if_neg hcond,List.append_nil])
        have HPS:Hid (phiG s i (k+1)=phiG s i k):=Lib.hid (by rw[phiG_succ,if_neg hcond,List.append_nil])
        clear hcond hrt
        go_quiet (fail)
        go_wp2_with fail
        go_roundw
        case rel=>exact⟨k+1,by omega,by go_num,by rw[HPS.out];exact HX5.out.keeps (below_drewN (Below.refl _ _) _),by rw[HKS.out];exact HT5.out.same (fun g _ hg=>(below_drewN (Below.refl w5.heap.size w5) nq).block g hg)⟩
        case measure=>simp[intOf];omega
  ·have hj1:j<P:=by omega
   have hj2:(j:Int)<P:=by omega
   have hj3:(0:Int)≤j:=by omega
   obtain⟨D,hown,hI,hM⟩:=hX.map
   have HOWN:=Lib.hid hown
   have HU:=Lib.hid (fun(w1:World) (hg:wr.grownBy w1 (some (L+1))) (ho:w1.ownsMap Tryd.prog 3 (plainElem Tryd.prog 3) (L+1) (j+1) (D.put (keyI j) (.lit (.int .i64 (j:Int)))))=>(baseN_succ j)▸hX.upd hI hM hg ho)
   have HKY:=Lib.hid (keyI_of (n:=j) (by omega))
   have HWF:=Lib.hid (plainElem_int (H:=Unit) (P:=Tryd.prog) Tryd.underlying3 (litI_wf (x:=(j:Int)) (by omega) (by omega)))
   have c2:wr.cell? ⟨L+2,0,none⟩=some (.map (some (L+1))):=cell_block hX.box2 0
   have z2:=block_lt hX.box2
   clear hX hown hI hM
   go_wp2_with (first|(at_mapUpdate;go_must (refine wpList_mapUpdate_own _ rfl _ _ _ mapI rfl 3 3 lawI Tryd.underlying138 (plainElem Tryd.prog 3) (L+1) j D rfl HOWN.out (by unfold maxLen;omega) _ _ (keyI j) rfl rfl HKY.out (.lit (.int .i64 (j:Int))) [] HWF.out ?_;intro w1 hown1 hg1;have HU1:=Lib.hid (HU.out w1 hg1 hown1);clear hown1 hg1)))
   go_roundw
   case rel=>exact⟨j+1,by omega,by go_num,HU1.out⟩
   case measure=>simp[intOf];omega
end Go.Proofs.YtedcjapmmnbamaaDoor
