/-
  The contracts of tierlinekeep.sameInts, tierlinekeep.sameState: two states that are the same are told so.
-/
import Derived.Test.YtedcjapmmnbamaaDoorSt8
import Derived.DeepKeys
import Derived.Laws.CopyOwn
import Derived.Test.YtedcjapmmnbamaaDoorRw
namespace Go.Proofs.YtedcjapmmnbamaaDoor
open Go.RowKit Tier
def IntsAt(w:World)(A:Option Addr)(l:List Int):Prop:=
 0<l.length→∃b o,A=some ⟨b,o,none⟩∧b<w.heap.size∧∀(i:Nat) (x:Int),l[i]? =some x→w.cell? ⟨b,o+i,none⟩=some (.int .i64 x)
theorem IntsAt.keeps{w w' :World}{A:Option Addr}{l:List Int}(h:IntsAt w A l)(hb:Below w.heap.size w w'):IntsAt w' A l:=fun hl=>by
 obtain⟨b,o,h1,h2,h3⟩:=h hl
 exact⟨b,o,h1,Nat.lt_of_lt_of_le h2 hb.size,fun i x hx=>(hb.cell (p:=⟨b,_,none⟩) h2).trans (h3 i x hx)⟩
theorem NumAt.ints{w:World}{B:Nat}{v:Value}{l:List Int}(h:NumAt w B v l):∃A cap,v= .slice A l.length cap∧IntsAt w A l:=by
 obtain⟨A,cap,h1,-,h3⟩:=h
 refine⟨A,cap,h1,fun hl=> ?_⟩
 obtain⟨b,o,cur,h4,-,h6,h7⟩:=h3 hl
 exact⟨b,o,h4,block_lt h6,fun i x hx=>(cell_block h6 _).trans (h7 i x hx)⟩
def CellsSt(C:List Value)(w:World)(B:Nat)(s:St):Prop:=∃FS ES AS,C=stCells s FS ES AS∧StRows w B s FS ES AS
theorem CellsSt.below{C:List Value}{w w' :World}{B:Nat}{s:St}(h:CellsSt C w B s)(hb:Below w.heap.size w w'):CellsSt C w' B s:=by
 obtain⟨FS,ES,AS,h1,h2⟩:=h
 exact⟨FS,ES,AS,h1,h2.below hb⟩
theorem CellsSt.base{C:List Value}{w:World}{B B' :Nat}{s:St}(h:CellsSt C w B s)(hB:B' ≤B):CellsSt C w B' s:=by
 obtain⟨FS,ES,AS,h1,h2⟩:=h
 exact⟨FS,ES,AS,h1,h2.base hB⟩
theorem StVal.cells{w:World}{B:Nat}{v:Value}{s:St}(h:StVal w B v s):∃C:List Value,v= .agg C.toArray∧CellsSt C w B s:=by
 obtain⟨FS,ES,AS,h1,h2⟩:=h
 exact⟨_,h1,FS,ES,AS,rfl,h2⟩
structure CellsIn(C:List Value)(w:World)(s:St)(FA:Option Addr)(fcap:Nat)(EA:Option Addr)(ecap:Nat)(AA:Option Addr)(acap:Nat):Prop where
 len:C.length=22
 c0:C[0]? =some (.int .i64 s.status)
 c1:C[1]? =some (.int .i64 s.value)
 c2:C[2]? =some (.slice FA s.frames.length fcap)
 cm:∀i,i<16→C[3+i]? =some (.int .i64 (s.mem.getD i 0))
 c19:C[19]? =some (.int .i64 s.fuel)
 c20:C[20]? =some (.slice EA s.events.length ecap)
 c21:C[21]? =some (.slice AA s.answers.length acap)
 fr:0<s.frames.length→∃g,FA=some ⟨g,0,none⟩∧g<w.heap.size∧∀i f j,s.frames[i]? =some f→j<14→w.cell? ⟨g,i*14+j,none⟩=(frCell f)[j]?
 ev:IntsAt w EA s.events
 an:IntsAt w AA s.answers
 one:C.toArray.all (·.oneCell')=true
 info:(Tryd.prog.info? 36).map (·.size)=some C.length
theorem CellsSt.cin{C:List Value}{w:World}{B:Nat}{s:St}(h:CellsSt C w B s)(hm:s.mem.length=16)(hr:∀f∈s.frames,f.regs.length=12):∃FA fcap EA ecap AA acap,CellsIn C w s FA fcap EA ecap AA acap:=by
 obtain⟨FS,ES,AS,rfl,hrow⟩:=h
 have h1:=stC_one hrow
 obtain⟨FA,fcap,rfl,hF⟩:=fr_rows hrow hr
 obtain⟨EA,ecap,rfl,hE⟩:=(num_own hrow.ev).ints
 obtain⟨AA,acap,rfl,hA⟩:=hrow.an.ints
 exact⟨FA,fcap,EA,ecap,AA,acap,stCells_length hm _ _ _,rfl,rfl,rfl,fun i hi=>stC_mem _ _ _ hm hi,stC_19 _ _ _ hm,stC_20 _ _ _ hm,stC_21 _ _ _ hm,hF,hE,hA,h1,info_st (stCells_length hm _ _ _)⟩
theorem eq_itemsS{P:Program}{w:World}(dd:Nat){e:TypeId}(q:IntKind)(he:P.underlying e=some (.int q))(xs:Array Value):∀(is:List Nat),(∀i∈is,∃n,xs[i]? =some (.int q n))→(Op.eqItems (dd+1) e 1 xs xs is).run P w= .ok true w
 |[],_=>by simp[Op.eqItems]
 |i::is,h=>by
  obtain⟨n,hn⟩:=h i (by simp)
  have hp:P.plainKey e=true:=by simp[Program.plainKey,he]
  have ih:=eq_itemsS (w:=w) dd q he xs is (fun j hj=>h j (by simp[hj]))
  simp only[Op.eqItems,Sem.run_bind,Nat.mul_one,run_part_plain w hp hn,Result.andThen_ok,run_equalIn_int (P:=P) w dd e q q n n he,beq_self_eq_true,Bool.not_true,Bool.false_eq_true,if_false]
  exact ih
theorem eq_intsS{P:Program}{w:World}(dd:Nat){t e:TypeId}{n:Nat}{i:TypeInfo}(q:IntKind)(hu:P.underlying t=some (.array n e))(he:P.underlying e=some (.int q))(hi:P.info? e=some i)(hc:P.cellsOf e=1)(xs:Array Value)
 (h:∀j,j<n→∃k,xs[j]? =some (.int q k)):(Op.equalIn (dd+1+1) t (.agg xs) (.agg xs)).run P w= .ok true w:=by
 rw[run_equalIn_array w (dd+1) xs xs hu hi,hc]
 exact eq_itemsS dd q he xs _ (fun j hj=>h j (by simpa using hj))
set_option maxRecDepth 100000 in
theorem eq_mem(l:List Int)(h:l.length=16)(w:World):(Op.equalIn 10000 34 (.agg (intsV l).toArray) (.agg (intsV l).toArray)).run Tryd.prog w= .ok true w:=
 eq_intsS 9998 .i64 Tryd.underlying34 Tryd.underlying3 rfl (by kernel_rfl) _ (fun j hj=>⟨l[j]'(by omega),by simp[intsV,h,hj]⟩)
set_option maxRecDepth 100000 in
theorem eq_regs(r0 r1 r2 r3 r4 r5 r6 r7 r8 r9 r10 r11:Int)(w:World):(Op.equalIn 9999 40 (.agg #[.int .i64 r0, .int .i64 r1, .int .i64 r2, .int .i64 r3, .int .i64 r4, .int .i64 r5, .int .i64 r6, .int .i64 r7, .int .i64 r8, .int .i64 r9, .int .i64 r10, .int .i64 r11]) (.agg #[.int .i64 r0, .int .i64 r1, .int .i64 r2, .int .i64 r3, .int .i64 r4, .int .i64 r5, .int .i64 r6, .int .i64 r7, .int .i64 r8, .int .i64 r9, .int .i64 r10, .int .i64 r11])).run Tryd.prog w= .ok true w:=
 eq_intsS 9997 .i64 Tryd.underlying40 Tryd.underlying3 rfl (by kernel_rfl) _ (fun j hj=>by
  have hc:j=0∨j=1∨j=2∨j=3∨j=4∨j=5∨j=6∨j=7∨j=8∨j=9∨j=10∨j=11:=by omega
  rcases hc with rfl|rfl|rfl|rfl|rfl|rfl|rfl|rfl|rfl|rfl|rfl|rfl<;>exact⟨_,rfl⟩)
set_option maxRecDepth 100000 in
theorem fieldsFr:(Tryd.prog.fieldsOf 42).toList=[{name:= "Fn",type:=3,offset:=0,embedded:=false,tag:= "",pkgPath:= "",byteOffset:=0},{name:= "Pc",type:=3,offset:=1,embedded:=false,tag:= "",pkgPath:= "",byteOffset:=8},{name:= "Regs",type:=40,offset:=2,embedded:=false,tag:= "",pkgPath:= "",byteOffset:=16}]:=by kernel_rfl
set_option maxRecDepth 100000 in
theorem eq_frame(fn pc r0 r1 r2 r3 r4 r5 r6 r7 r8 r9 r10 r11:Int)(w:World):(Op.equalIn 10000 42 (.agg #[.int .i64 fn, .int .i64 pc, .int .i64 r0, .int .i64 r1, .int .i64 r2, .int .i64 r3, .int .i64 r4, .int .i64 r5, .int .i64 r6, .int .i64 r7, .int .i64 r8, .int .i64 r9, .int .i64 r10, .int .i64 r11]) (.agg #[.int .i64 fn, .int .i64 pc, .int .i64 r0, .int .i64 r1, .int .i64 r2, .int .i64 r3, .int .i64 r4, .int .i64 r5, .int .i64 r6, .int .i64 r7, .int .i64 r8, .int .i64 r9, .int .i64 r10, .int .i64 r11])).run Tryd.prog w= .ok true w:=by
 have h:=fun w=>eq_regs r0 r1 r2 r3 r4 r5 r6 r7 r8 r9 r10 r11 w
 rw[run_equalIn_struct (P:=Tryd.prog) w 9999 42 _ _ (by kernel_rfl) (by kernel_rfl),fieldsFr]
 go_simp
theorem wpList_load_midg{P:Program}{ops:Array Oper}{rest:List Oper}{op:Oper}{a:Act}{w:World}{Q:Exit→Act→World→Prop}(hgd:Region.wanted op (yielded ops a.tmps)=true)(ty:TypeId)(x:Operand)(ho:op.op= .load ty x)
 (b o:Nat) (hx:a.eval x= .pointer (some ⟨b,o,none⟩)) (cs:List Value) (d:TypeDesc) (hc:w.rangeAt b o cs)
 (hu:P.underlying ty=some d) (hd:d.isRow=true) (hi:(P.info? ty).map (·.size)=some cs.length)
 (h:wpList P ops Q rest (a.put op.dst (.agg cs.toArray)) w):wpList P ops Q (op::rest) a w:=
 wpList_step fun K hK=>by rw[if_pos hgd];exact wp_load_mid ty x ho b o hx cs d hc hu hd hi (hK _ _ h)
theorem range_mem{W:World}{b:Nat}{C:List Value}{s:St}{t:TypeId}{FA:Option Addr}{fcap:Nat}{EA:Option Addr}{ecap:Nat}{AA:Option Addr}{acap:Nat}{w:World}(h:W.heap[b]? =some (.cells C.toArray t (0,0)))(hm:s.mem.length=16)(hc:CellsIn C w s FA fcap EA ecap AA acap):W.rangeAt b 3 (intsV s.mem):=fun j v hv=>by
 have hj:j<16:=by
  have:=(gI.1 hv).1
  simpa [intsV,hm] using this
 rw[cell_block h,List.getElem?_toArray,hc.cm j hj,←hv,intsV,List.getElem?_map,gD,gE (by omega)]
 rfl
set_option maxRecDepth 100000 in
theorem info_mem{C:List Value}(h:C.length=16):(Tryd.prog.info? 34).map (·.size)=some C.length:=by rw[h];kernel_rfl
theorem stinv_sm{p:List Fnc}{s:St}(h:StInv p s):s.events.length≤1000000∧s.answers.length≤1000000:=by
 have:=h.ev;have:=h.fuel0;have:=h.ans
 omega
set_option maxHeartbeats 2000000 in
set_option maxRecDepth 100000 in
theorem clone_ints{A:Option Addr}{l:List Int}(cap:Nat)(w:World)(h:IntsAt w A l)(hl:l.length≤1000000):
 Calls Tryd.prog 76 #[.slice A l.length cap] w fun e w' =>(∃v',e= .returned v' ∧w'.ownsRow w.heap.size 3 1 v' l.length (intsV l))∧Below w.heap.size w w' :=by
 obtain⟨i0,hi,hz0,hz1,hz2⟩:=info_parts infoIn
 have hA:=h
 have q22:∀(w:World) (a:Option Addr) (n c n' c' :Nat),(binOp .eql 24 (.slice a n c) (.slice none n' c')).run Tryd.prog w= .ok (.bool a.isNone) w:=fun w a n c n' c' =>Lib.run_eql_slice_nil w _ _ a n c n' c' Tryd.underlying24
 clear h
 cases A with
 |none=>
  have h0:l.length=0:=by
   rcases Nat.eq_zero_or_pos l.length with h|h
   ·exact h
   ·obtain⟨b,o,h1,-⟩:=hA h;cases h1
  have hl0:l=[]:=List.eq_nil_of_length_eq_zero h0
  subst hl0
  clear hA
  go_enter Tryd.func76,Tryd.ntmps76
  go_wp2_with fail
  go_ret
  exact⟨⟨_,rfl,World.ownsRow_nil _ _ _ _⟩,Below.refl _ _⟩
 |some a=>
  have HA:=Lib.hid (show∀j u,(intsV l)[j]? =some u→w.cell? (a.add j)=some u from fun j u hj=>by
   have hjl:j<l.length:=by
    have:=(gI.1 hj).1
    simpa [intsV] using this
   obtain⟨b,o,h1,h2,h3⟩:=hA (by omega)
   obtain rfl:=Option.some.inj h1
   simp only[intsV,List.getElem?_map,gE hjl,Option.map_some,Option.some.injEq] at hj
   subst hj
   rw[Addr.add_lit]
   exact h3 j _ (gE hjl))
  have HL:=Lib.hid (show(intsV l).length=l.length*1 by simp[intsV])
  have HO:=Lib.hid (show∀u∈intsV l,u.oneCell' =true from fun u hu=>by obtain⟨x,_,rfl⟩:=List.mem_map.1 hu;rfl)
  clear hA
  generalize l.length=n at *
  generalize intsV l=xs at *
  go_enter Tryd.func76,Tryd.ntmps76
  go_wp2_with (at_builtin;refine wpList_append_own _ rfl _ _ 24 rfl w.heap.size 3 i0 _ 1 8 Tryd.underlying24 hi hz0 hz1 hz2 rfl (by decide) _ _ _ rfl (World.ownsRow_made w #[] 0 (Nat.le_refl _) (Nat.zero_le _) rfl) a n cap xs rfl (by simpa using HL.out) (fun j u hj=>Lib.cell?_alloc_some _ (HA.out j u hj)) (by simpa using HO.out) (by unfold maxLen;omega) (by omega) (by simp) ?_)
  intro v' w1 hown hgrow hnil
  go_wp2_with fail
  go_ret
  exact⟨⟨v',rfl,by simpa using hown⟩,((Below.refl _ w).alloc (Nat.le_refl _) _).grown hgrow (by simp) (by intro k hk;simp[Value.ownBlock] at hk;omega)⟩
def firstFr(args:List Int):Fr:=⟨0,0,args++List.replicate (12-args.length) 0⟩
theorem firstFr_splice{args:List Int}(h:args.length≤2):splice (frCell ⟨0,0,List.replicate 12 0⟩) 2 (intsV args)=frCell (firstFr args):=by
 match args,h with
 |[],_=>rfl
 |[a],_=>rfl
 |[a,b],_=>rfl
theorem firstFr_regs{args:List Int}(h:args.length≤2):(firstFr args).regs.length=12:=by simp[firstFr];omega
theorem fr_row1{w:World}{b B:Nat}{f:Fr}(h:w.heap[b]? =some (.cells (frCell f).toArray 42 (0,0)))(hf:f.regs.length=12)(hB:B≤b):w.ownsRow B 42 14 (.slice (some ⟨b,0,none⟩) 1 1) 1 (frCells [f]):=by
 have hl:=frCell_length hf
 refine⟨by rw[frCells_one,hl], .inr ⟨b,1,_,rfl,hB,h,Nat.le_refl _,by unfold maxLen;omega,by simpa using hl,?_⟩⟩
 rw[frCells_one,List.take_of_length_le (by simp[hl])]
structure Leaf0(w w1 w2 w3:World)(f:Fr)(n:Nat)(xs:List Value)(v:Value):Prop where
 below:Below w.heap.size w w3
 st:w3.heap[w.heap.size+1]? =some (.cells zeroV.toArray 36 (0,0))
 fr0:w3.heap[w1.heap.size]? =some (.cells (frCell f).toArray 42 (0,0))
 an:w3.ownsRow w.heap.size 3 1 v n xs
structure Leaf(w w1 w2 w3:World)(f:Fr)(n:Nat)(xs:List Value)(b:Nat)(v:Value):Prop extends Leaf0 w w1 w2 w3 f n xs v where
 fb:w3.heap[b]? =some (.cells (frCell f).toArray 42 (0,0))
 bge:w.heap.size≤b
section
variable {w w1 w2 w3:World}{f:Fr}{n:Nat}{xs:List Value}{v:Value}
theorem t_drew{W:World}{b:Nat}{f:Fr}{l:List Value}{t:TypeId}(h:W.heap[b]? =some (.cells (frCell f).toArray t (0,0)))(hl:frCell f=l):W.drew.heap[b]? =some (.cells l.toArray t (0,0)):=by rw[←hl];exact h
theorem leaf_a{l:List Value}(hbw:Below w.heap.size w w2)(hs:w2.heap[w.heap.size+1]? =some (.cells zeroV.toArray 36 (0,0)))(hf:w2.heap[w1.heap.size]? =some (.cells (frCell f).toArray 42 (0,0)))(hl:frCell f=l)(hz:w.heap.size+2≤w1.heap.size)
 (h3:w3.ownsRow (w2.drew.alloc (.cells l.toArray 42)).heap.size 3 1 v n xs) (hb3:Below (w2.drew.alloc (.cells l.toArray 42)).heap.size (w2.drew.alloc (.cells l.toArray 42)) w3):Leaf w w1 w2 w3 f n xs w2.heap.size v:=by
 have z2:=block_lt hf
 have hzz:(w2.drew.alloc (.cells l.toArray 42)).heap.size=w2.heap.size+1:=by show(w2.alloc (.cells l.toArray 42)).heap.size=_;simp
 have hbw3:Below w.heap.size w w3:=(hbw.drew.alloc hbw.size _).trans (hb3.mono (by rw[hzz];have:=hbw.size;omega))
 refine⟨⟨hbw3,?_,?_,own_base0 h3 (by rw[hzz];have:=hbw.size;omega)⟩,?_,hbw.size⟩
 ·exact(hb3.block _ (by rw[hzz];omega)).trans (block_alloc (by exact hs) _)
 ·exact(hb3.block _ (by rw[hzz];omega)).trans (block_alloc (by exact hf) _)
 ·rw[hb3.block _ (by rw[hzz];omega),hl];exact heap_alloc_new w2.drew _
theorem leaf_b(hbw:Below w.heap.size w w2)(hs:w2.heap[w.heap.size+1]? =some (.cells zeroV.toArray 36 (0,0)))(hf:w2.heap[w1.heap.size]? =some (.cells (frCell f).toArray 42 (0,0)))(hz:w.heap.size+2≤w1.heap.size)
 (h3:w3.ownsRow w2.drew.heap.size 3 1 v n xs) (hb3:Below w2.drew.heap.size w2.drew w3):Leaf0 w w1 w2 w3 f n xs v:=by
 have z2:=block_lt hf
 have hzz:w2.drew.heap.size=w2.heap.size:=rfl
 refine⟨hbw.drew.trans (hb3.mono (by rw[hzz];have:=hbw.size;omega)),?_,?_,own_base0 h3 (by rw[hzz];have:=hbw.size;omega)⟩
 ·exact(hb3.block _ (by rw[hzz];omega)).trans hs
 ·exact(hb3.block _ (by rw[hzz];omega)).trans hf
theorem leaf_c{l:List Value}(h:Leaf0 w w1 w2 w3 f n xs v)(hl:frCell f=l):Leaf w w1 w2 (w3.alloc (.cells l.toArray 42)) f n xs w3.heap.size v:=
 ⟨⟨h.below.alloc h.below.size _,block_alloc h.st _,block_alloc h.fr0 _,own_below h.an ((Below.refl _ _).alloc (Nat.le_refl _) _)⟩,by rw[hl];exact heap_alloc_new _ _,h.below.size⟩
theorem Leaf.rows{b:Nat}{args ans:List Int}{fuel:Int}(h:Leaf w w1 w2 w3 (firstFr args) n (intsV ans) b v)(hn:ans.length=n)(hf:(firstFr args).regs.length=12):StRows w3 w.heap.size (beginSt args ans fuel) (.slice (some ⟨b,0,none⟩) 1 1) (.slice none 0 0) v:=by
 subst hn
 exact⟨fr_row1 h.fb hf h.bge,World.ownsRow_nil _ _ _ _,num_own h.an,fun _ k hk=>by simp[Value.ownBlock] at hk⟩
end
set_option maxRecDepth 100000 in
set_option maxHeartbeats 8000000 in
theorem sbegin_any{p:List Fnc}(hc:checkP p=0)(args ans:List Int)(XA:Option Addr)(xcap:Nat)(YA:Option Addr)(ycap:Nat)(fuel:Int)(A:Option Addr)(cap:Nat)(w:World)(ht:Tab w)(hP:ProgAt w (.slice A p.length cap) p)
 (hx:IntsAt w XA args) (hlx:(fnOf p 0).params=args.length) (hy:IntsAt w YA ans) (hly:ans.length≤100) (f0:0≤fuel) (f1:fuel≤10000):
 Calls Tryd.prog 45 #[.agg #[.slice A p.length cap], .slice XA args.length xcap, .slice YA ans.length ycap, .int .i64 fuel] w fun e w' =>(∃C:List Value,e= .returned (.tuple #[.agg C.toArray, .int .i64 0])∧CellsSt C w' w.heap.size (beginSt args ans fuel))∧Below w.heap.size w w' :=by
 have hp:=right_of hc
 have l1:=hp.ok.l1
 have HCK:=Lib.hid (fun(W:World) (h1:Tab W) (h2:ProgAt W (.slice A p.length cap) p)=>pcheck_any p A cap W h1 h2 (by have:=hp.ok.l2;omega) (fun f hf=>by have:=(hp.ok.fn f hf).c2;omega))
 rw[hc] at HCK
 have HT:=Lib.hid ht
 have HP:=Lib.hid hP
 have HX:=Lib.hid hx
 have HY:=Lib.hid hy
 have HLY:=Lib.hid hly
 obtain⟨F,hF⟩:∃F,p[0]? =some F:=⟨p[0],gE (by omega)⟩
 have hfo:=hp.ok.fn F (gM hF)
 have hF0:fnOf p 0=F:=fnOf_get (fn:=0) hF
 rw[hF0] at hlx
 obtain⟨A0,cap0,hA0,hA⟩:=hP.slice
 simp only[Value.slice.injEq,true_and] at hA0
 obtain⟨g,hAg,hg,hfn⟩:=hA (by omega)
 obtain⟨rfl,rfl⟩:=hA0
 obtain⟨-,-,c0,-,-⟩:=hfn 0 F hF
 rw[Nat.zero_mul,hlx] at c0
 subst hAg
 have hm2:args.length≤2:=by have:=hfo.p2;omega
 have hz:=zero_st
 have HFS:=Lib.hid (firstFr_splice hm2)
 have HFR:=Lib.hid (firstFr_regs hm2)
 have HIV:=Lib.hid (show(intsV args).length=args.length by simp[intsV])
 have HIO:=Lib.hid (show∀u∈intsV args,u.oneCell' =true from fun u hu=>by obtain⟨x,_,rfl⟩:=List.mem_map.1 hu;rfl)
 have HXC:=Lib.hid (fun(W:World) (hb:Below w.heap.size w W) (hl:0<(intsV args).length)=>show∃ad,XA=some ad∧∀j v,(intsV args)[j]? =some v→W.cell? (ad.add j)=some v from by
  obtain⟨b,o,h1,h2,h3⟩:=HX.out (by rwa [HIV.out] at hl)
  refine⟨_,h1,fun j v hj=> ?_⟩
  rw[Addr.add_lit]
  rw[intsV,List.getElem?_map] at hj
  cases hx:args[j]? with
  |none=>rw[hx] at hj;cases hj
  |some x=>
   rw[hx] at hj
   obtain rfl:=Option.some.inj hj
   exact(hb.cell (p:=⟨b,_,none⟩) h2).trans (h3 j x hx))
 have HSZ:Hid ((Tryd.prog.info? 3).map (·.size)=some 1):=Lib.hid (by kernel_rfl)
 obtain⟨m,hm⟩:∃m,args.length=m:=⟨_,rfl⟩
 have HM:=Lib.hid hm
 have hm12:Nat.min m 12=m:=Nat.min_eq_left (by omega)
 have HM12:=Lib.hid hm12
 obtain⟨n,hn⟩:∃n,ans.length=n:=⟨_,rfl⟩
 have HN:=Lib.hid hn
 have hn1:¬(n:Int)>100:=by omega
 have hn2:decide ((100:Int)<n)=false:=by simp;omega
 rw[hm] at c0 hm2 HIV⊢
 rw[hn] at hly⊢
 have HCL:=Lib.hid (fun(W:World) (h:IntsAt W YA ans)=>clone_ints ycap W h (by have:=HLY.out;omega))
 rw[hn] at HCL
 have hb0:=Lib.hid (((Below.refl w.heap.size w).alloc (Nat.le_refl _) (.cells #[.slice (some ⟨g,0,none⟩) p.length cap] 29)).alloc (by simp) (.cells zeroV.toArray 36))
 have HBB:=Lib.hid (fun(w1:World) (hb:Below (w.heap.size+2) ((w.alloc (.cells #[.slice (some ⟨g,0,none⟩) p.length cap] 29)).alloc (.cells zeroV.toArray 36)) w1)=>(⟨(hb.block w.heap.size (by omega)).trans (block_alloc (heap_alloc_new w _) _),(hb.block (w.heap.size+1) (by omega)).trans (heap_alloc_new1 w _ _),hb0.out.trans (hb.mono (by omega)),by have:=hb.size;simp at this;omega⟩:
  w1.heap[w.heap.size]? =some (.cells #[.slice (some ⟨g,0,none⟩) p.length cap] 29 (0,0))∧w1.heap[w.heap.size+1]? =some (.cells zeroV.toArray 36 (0,0))∧Below w.heap.size w w1∧w.heap.size+2≤w1.heap.size))
 have hfd:decide (fuel<0)=false:=by simp;omega
 have hfd2:decide (10000<fuel)=false:=by simp;omega
 have hN0:0<p.length:=by omega
 generalize hN:p.length=N at *
 clear ht hP hx hy hlx hA hfn hF hfo hF0 hm hn hm12 l1 hN
 go_enter Tryd.func45,Tryd.ntmps45
 go_wp2_with (first
  |(go_at_call 21;go_must (refine(HCK.out _ (HT.out.keeps hb0.out) (HP.out.keeps hb0.out)).mono ?_;rintro e w1 ⟨rfl,hb⟩;have hbb:=HBB.out w1 (hb.mono (by simp));have HB:=Lib.hid hbb;have hz1:=hbb.2.2.2;have c0p:w1.cell? ⟨w.heap.size,0,none⟩=some (.slice (some ⟨g,0,none⟩) N cap):=(cell_block HB.out.1 0).trans rfl;have c0w:=(HB.out.2.2.1.cell (p:=⟨g,0,none⟩) hg).trans c0;have hgz:g<w1.heap.size:=(by have:=HB.out.2.2.1.size;omega);clear hb hbb))
  |((refine wpList_copy_splice rfl _ _ 24 24 rfl 3 Tryd.underlying24 HSZ.out (some ⟨w1.heap.size,2,none⟩) XA 12 12 m xcap rfl rfl w1.heap.size 2 (frCell ⟨0,0,List.replicate 12 0⟩) 42 (heap_alloc_new w1 _) (intsV args) (by rw[HIV.out];exact HM12.out.symm) (fun h=>⟨rfl,HXC.out _ (HB.out.2.2.1.alloc HB.out.2.2.1.size _) h⟩) (by rw[HIV.out];show 2+m≤14;omega) HIO.out w1.heap.size w1 ((Below.refl _ w1).alloc (Nat.le_refl _) _) (Nat.le_refl _) ?_)))
 intro w2 hg2 hb2
 replace hg2:Hid (w2.heap[w1.heap.size]? =some (.cells (frCell (firstFr args)).toArray 42 (0,0))):=Lib.hid (by rw[←HFS.out];exact hg2.out)
 have HG2:=Lib.hid hg2.out
 have HB2:=Lib.hid hb2
 have HBW:=Lib.hid (HB.out.2.2.1.trans (hb2.mono HB.out.2.2.1.size))
 have HZ2:=Lib.hid ((hb2.block (w.heap.size+1) (by omega)).trans HB.out.2.1)
 have hz2:=block_lt hg2.out
 obtain⟨u0,u1,u2,u3,u4,u5,u6,u7,u8,u9,u10,u11,u12,u13,hU⟩:=frCell_14 HFR.out
 rw[hU] at hg2
 have rU:=range_block hg2.out
 have HU:=Lib.hid hU
 clear hg2 hb2 hU c0p c0w HCK HBB hb0 c0 HXC
 go_wp2_with fail
 clear hz
 have hz:∀W:World,(zeroValue 36).run Tryd.prog W= .ok (.agg #[.int .i64 0, .int .i64 0, .slice none 0 0, .int .i64 0, .int .i64 0, .int .i64 0, .int .i64 0, .int .i64 0, .int .i64 0, .int .i64 0, .int .i64 0, .int .i64 0, .int .i64 0, .int .i64 0, .int .i64 0, .int .i64 0, .int .i64 0, .int .i64 0, .int .i64 0, .int .i64 0, .slice none 0 0, .slice none 0 0]) W:=zero_st
 refine wp_region_held_drew (S:=fun w' =>w'.rangeAt w1.heap.size 0 [u0,u1,u2,u3,u4,u5,u6,u7,u8,u9,u10,u11,u12,u13]) (by kernel_rfl) ((World.rangeAt_drew _ _ _ _).2 rU) (fun hHeld=> ?_)
 refine' wpAnyH_take (i:=0) rfl (by kernel_rfl) (by kernel_rfl) (by kernel_rfl) (fun _ _ _ h=>h) (yieldsIf_load_mid (by rfl) 42 _ rfl w1.heap.size 0 rfl [u0,u1,u2,u3,u4,u5,u6,u7,u8,u9,u10,u11,u12,u13] _ (fun w hSw=>hSw) Tryd.underlying42 (by rfl) (by kernel_rfl)) hHeld ?_
 simp only[Act.put,qs]
 refine wpAnyH_take (i:=2) (v:= .int .i64 fuel) rfl (by kernel_rfl) (by kernel_rfl) (by kernel_rfl) (fun _ _ _ h=>h) (Or.inl ⟨by rfl,?_⟩) hHeld ?_
 ·intro w hSw
  simp only[qg]
  go_simp
 simp only[Act.put,qs]
 refine wpAnyH_take (i:=3) (v:= .slice YA n ycap) rfl (by kernel_rfl) (by kernel_rfl) (by kernel_rfl) (fun _ _ _ h=>h) (Or.inl ⟨by rfl,?_⟩) hHeld ?_
 ·intro w hSw
  simp only[qg]
  go_simp
 simp only[Act.put,qs]
 refine wpAnyH_ready (rs:=[1,4]) (by kernel_rfl) (by simp) ?_
 refine AllReadyH.cons rfl (fun K hK=> ?_) (AllReadyH.cons rfl (fun K hK=> ?_) AllReadyH.nil)
 ·simp only[qg]
  go_simp
  refine hK.out _ _ (range_block (block_alloc (t_drew HG2.out HU.out) _)) (fun hHeld=> ?_)
  clear hK K
  refine wpAnyH_ready (rs:=[4]) (by kernel_rfl) (by simp) ?_
  refine AllReadyH.cons rfl (fun K hK=> ?_) AllReadyH.nil
  simp only[qg]
  go_simp
  refine(HCL.out _ (HY.out.keeps (HBW.out.drew.alloc HBW.out.size _))).mono ?_
  rintro e w3 ⟨⟨v3,rfl,h3⟩,hb3⟩
  obtain⟨AS,acap,rfl,-⟩:=own_slice h3
  have HL3:Hid (Leaf w w1 w2 w3 (firstFr args) n (intsV ans) w2.heap.size (.slice AS n acap)):=Lib.hid (leaf_a HBW.out HZ2.out HG2.out HU.out (by omega) h3 hb3)
  refine hK.out _ _ (by rw[←HU.out];exact range_block HL3.out.fr0) (fun hHeld=> ?_)
  clear hK K h3 hb3
  refine wpAnyH_ready (rs:=[5]) (by kernel_rfl) (by simp) ?_
  refine AllReadyH.cons rfl (fun K hK=> ?_) AllReadyH.nil
  simp only[qg]
  go_simp
  refine hK.out _ _ hHeld (fun hHeld=> ?_)
  clear hK K
  refine wpAnyH_ready (rs:=[6]) (by kernel_rfl) (by simp) ?_
  refine AllReadyH.cons rfl (fun K hK=> ?_) AllReadyH.nil
  simp only[qg]
  have HCE:Hid (stCells (beginSt args ans fuel) (.slice (some ⟨w2.heap.size,0,none⟩) 1 1) (.slice none 0 0) (.slice AS n acap)=[.int .i64 0, .int .i64 0, .slice (some ⟨w2.heap.size,0,none⟩) 1 1, .int .i64 0, .int .i64 0, .int .i64 0, .int .i64 0, .int .i64 0, .int .i64 0, .int .i64 0, .int .i64 0, .int .i64 0, .int .i64 0, .int .i64 0, .int .i64 0, .int .i64 0, .int .i64 0, .int .i64 0, .int .i64 0, .int .i64 fuel, .slice none 0 0, .slice AS n acap]):=Lib.hid rfl
  have HTH:=Lib.hid (there_block (n:=(List.toArray [.int .i64 0, .int .i64 0, .slice (some ⟨w2.heap.size,0,none⟩) 1 1, .int .i64 0, .int .i64 0, .int .i64 0, .int .i64 0, .int .i64 0, .int .i64 0, .int .i64 0, .int .i64 0, .int .i64 0, .int .i64 0, .int .i64 0, .int .i64 0, .int .i64 0, .int .i64 0, .int .i64 0, .int .i64 0, .int .i64 fuel, .slice none 0 0, .slice AS n acap]).size) HL3.out.st (Nat.le_refl _))
  have HO1:=Lib.hid (stC_one' (s:=beginSt args ans fuel) (FS:= .slice (some ⟨w2.heap.size,0,none⟩) 1 1) (ES:= .slice none 0 0) (AS:= .slice AS n acap) rfl rfl rfl)
  have HSI:=Lib.hid (info_st (stCells_length (s:=beginSt args ans fuel) rfl (.slice (some ⟨w2.heap.size,0,none⟩) 1 1) (.slice none 0 0) (.slice AS n acap)))
  rw[HCE.out] at HSI HO1
  rw[if_pos (by rfl)]
  refine wp_store_mid 36 _ _ (by rfl) (w.heap.size+1) 0 (List.toArray [.int .i64 0, .int .i64 0, .slice (some ⟨w2.heap.size,0,none⟩) 1 1, .int .i64 0, .int .i64 0, .int .i64 0, .int .i64 0, .int .i64 0, .int .i64 0, .int .i64 0, .int .i64 0, .int .i64 0, .int .i64 0, .int .i64 0, .int .i64 0, .int .i64 0, .int .i64 0, .int .i64 0, .int .i64 0, .int .i64 fuel, .slice none 0 0, .slice AS n acap]) (by rfl) (by rfl) HTH.out (by simpa using HSI.out) HO1.out ?_
  rw[List.toList_toArray,←HCE.out]
  refine hK.out _ _ (World.rangeAt_setCells_apart hHeld _ _ _ (.inl (by omega))) (fun hHeld=> ?_)
  clear hK K
  refine wpAnyH_ready (rs:=[7]) (by kernel_rfl) (by simp) ?_
  refine AllReadyH.cons rfl (fun K hK=> ?_) AllReadyH.nil
  simp only[qg]
  go_simp
  refine hK.out _ _ hHeld (fun hHeld=> ?_)
  clear hK K hHeld
  refine wpAnyH_done (by kernel_rfl) ?_ _
  go_wp2_with fail
  have hrd:=run_loadVar_mid (P:=Tryd.prog) _ _ _ 36 (stCells (beginSt args ans fuel) (.slice (some ⟨w2.heap.size,0,none⟩) 1 1) (.slice none 0 0) (.slice AS n acap)) _ (World.rangeAt_setCells_same w3 (w.heap.size+1) 0 (stCells (beginSt args ans fuel) (.slice (some ⟨w2.heap.size,0,none⟩) 1 1) (.slice none 0 0) (.slice AS n acap)) HTH.out) Tryd.underlying36 (by rfl) (by rw[HCE.out];exact HSI.out)
  refine bodyPost_ret (v:= .tuple #[.agg (stCells (beginSt args ans fuel) (.slice (some ⟨w2.heap.size,0,none⟩) 1 1) (.slice none 0 0) (.slice AS n acap)).toArray, .int .i64 0]) (results_cell2 Tryd.results45 _ _ _ _ _ ?_ hrd) rfl ⟨⟨_,rfl,_,_,_,rfl,?_⟩,?_⟩
  ·rfl
  ·exact strows_setCells (by decide) (by decide) _ _ (HL3.out.rows HN.out HFR.out) HL3.out.st
  ·exact below_setCells (by simp) _ _ _ HL3.out.below
 ·simp only[qg]
  go_simp
  refine(HCL.out _ (HY.out.keeps HBW.out.drew)).mono ?_
  rintro e w3' ⟨⟨v3,rfl,h3⟩,hb3⟩
  obtain⟨AS,acap,rfl,-⟩:=own_slice h3
  have HL3' :Hid (Leaf0 w w1 w2 w3' (firstFr args) n (intsV ans) (.slice AS n acap)):=Lib.hid (leaf_b HBW.out HZ2.out HG2.out (by omega) h3 hb3)
  refine hK.out _ _ (by rw[←HU.out];exact range_block HL3'.out.fr0) (fun hHeld=> ?_)
  clear hK K h3 hb3
  refine wpAnyH_ready (rs:=[1]) (by kernel_rfl) (by simp) ?_
  refine AllReadyH.cons rfl (fun K hK=> ?_) AllReadyH.nil
  simp only[qg]
  go_simp
  obtain⟨b3,hb3⟩:∃b,w3'.heap.size=b:=⟨_,rfl⟩
  obtain⟨w3,hw3⟩:∃w3,w3'.alloc (.cells #[u0,u1,u2,u3,u4,u5,u6,u7,u8,u9,u10,u11,u12,u13] 42)=w3:=⟨_,rfl⟩
  have HL3:Hid (Leaf w w1 w2 w3 (firstFr args) n (intsV ans) b3 (.slice AS n acap)):=Lib.hid (by rw[←hw3,←hb3];exact leaf_c HL3'.out HU.out)
  rw[hw3,hb3]
  refine hK.out _ _ (by rw[←HU.out];exact range_block HL3.out.fr0) (fun hHeld=> ?_)
  clear hK K hw3 hb3
  refine wpAnyH_ready (rs:=[5]) (by kernel_rfl) (by simp) ?_
  refine AllReadyH.cons rfl (fun K hK=> ?_) AllReadyH.nil
  simp only[qg]
  go_simp
  refine hK.out _ _ hHeld (fun hHeld=> ?_)
  clear hK K
  refine wpAnyH_ready (rs:=[6]) (by kernel_rfl) (by simp) ?_
  refine AllReadyH.cons rfl (fun K hK=> ?_) AllReadyH.nil
  simp only[qg]
  have HCE:Hid (stCells (beginSt args ans fuel) (.slice (some ⟨b3,0,none⟩) 1 1) (.slice none 0 0) (.slice AS n acap)=[.int .i64 0, .int .i64 0, .slice (some ⟨b3,0,none⟩) 1 1, .int .i64 0, .int .i64 0, .int .i64 0, .int .i64 0, .int .i64 0, .int .i64 0, .int .i64 0, .int .i64 0, .int .i64 0, .int .i64 0, .int .i64 0, .int .i64 0, .int .i64 0, .int .i64 0, .int .i64 0, .int .i64 0, .int .i64 fuel, .slice none 0 0, .slice AS n acap]):=Lib.hid rfl
  have HTH:=Lib.hid (there_block (n:=(List.toArray [.int .i64 0, .int .i64 0, .slice (some ⟨b3,0,none⟩) 1 1, .int .i64 0, .int .i64 0, .int .i64 0, .int .i64 0, .int .i64 0, .int .i64 0, .int .i64 0, .int .i64 0, .int .i64 0, .int .i64 0, .int .i64 0, .int .i64 0, .int .i64 0, .int .i64 0, .int .i64 0, .int .i64 0, .int .i64 fuel, .slice none 0 0, .slice AS n acap]).size) HL3.out.st (Nat.le_refl _))
  have HO1:=Lib.hid (stC_one' (s:=beginSt args ans fuel) (FS:= .slice (some ⟨b3,0,none⟩) 1 1) (ES:= .slice none 0 0) (AS:= .slice AS n acap) rfl rfl rfl)
  have HSI:=Lib.hid (info_st (stCells_length (s:=beginSt args ans fuel) rfl (.slice (some ⟨b3,0,none⟩) 1 1) (.slice none 0 0) (.slice AS n acap)))
  rw[HCE.out] at HSI HO1
  rw[if_pos (by rfl)]
  refine wp_store_mid 36 _ _ (by rfl) (w.heap.size+1) 0 (List.toArray [.int .i64 0, .int .i64 0, .slice (some ⟨b3,0,none⟩) 1 1, .int .i64 0, .int .i64 0, .int .i64 0, .int .i64 0, .int .i64 0, .int .i64 0, .int .i64 0, .int .i64 0, .int .i64 0, .int .i64 0, .int .i64 0, .int .i64 0, .int .i64 0, .int .i64 0, .int .i64 0, .int .i64 0, .int .i64 fuel, .slice none 0 0, .slice AS n acap]) (by rfl) (by rfl) HTH.out (by simpa using HSI.out) HO1.out ?_
  rw[List.toList_toArray,←HCE.out]
  refine hK.out _ _ (World.rangeAt_setCells_apart hHeld _ _ _ (.inl (by omega))) (fun hHeld=> ?_)
  clear hK K
  refine wpAnyH_ready (rs:=[7]) (by kernel_rfl) (by simp) ?_
  refine AllReadyH.cons rfl (fun K hK=> ?_) AllReadyH.nil
  simp only[qg]
  go_simp
  refine hK.out _ _ hHeld (fun hHeld=> ?_)
  clear hK K hHeld
  refine wpAnyH_done (by kernel_rfl) ?_ _
  go_wp2_with fail
  have hrd:=run_loadVar_mid (P:=Tryd.prog) _ _ _ 36 (stCells (beginSt args ans fuel) (.slice (some ⟨b3,0,none⟩) 1 1) (.slice none 0 0) (.slice AS n acap)) _ (World.rangeAt_setCells_same w3 (w.heap.size+1) 0 (stCells (beginSt args ans fuel) (.slice (some ⟨b3,0,none⟩) 1 1) (.slice none 0 0) (.slice AS n acap)) HTH.out) Tryd.underlying36 (by rfl) (by rw[HCE.out];exact HSI.out)
  refine bodyPost_ret (v:= .tuple #[.agg (stCells (beginSt args ans fuel) (.slice (some ⟨b3,0,none⟩) 1 1) (.slice none 0 0) (.slice AS n acap)).toArray, .int .i64 0]) (results_cell2 Tryd.results45 _ _ _ _ _ ?_ hrd) rfl ⟨⟨_,rfl,_,_,_,rfl,?_⟩,?_⟩
  ·rfl
  ·exact strows_setCells (by decide) (by decide) _ _ (HL3.out.rows HN.out HFR.out) HL3.out.st
  ·exact below_setCells (by simp) _ _ _ HL3.out.below
section
variable {p:List Fnc}{B:Nat}{C:List Value}{s:St}{A:Option Addr}{cap:Nat}{w:World}
theorem CellsSt.len(h:CellsSt C w B s)(hm:s.mem.length=16):C.length=22:=by
 obtain⟨FS,ES,AS,rfl,-⟩:=h
 exact stCells_length hm _ _ _
theorem CellsSt.one(h:CellsSt C w B s):C.toArray.all (·.oneCell')=true:=by
 obtain⟨FS,ES,AS,rfl,h⟩:=h
 exact stC_one h
theorem scheck_c(hc:checkP p=0)(ht:Tab w)(hP:ProgAt w (.slice A p.length cap) p)(hi:StInv p s)(h:CellsSt C w B s):
 Calls Tryd.prog 46 #[.agg #[.slice A p.length cap], .agg C.toArray] w fun e w' =>e= .returned (.int .i64 0)∧Below w.heap.size w w' :=by
 obtain⟨FS,ES,AS,rfl,hr⟩:=h
 exact scheck_any hc s FS ES AS A cap w ht hP hi hr
theorem snext_c(hc:checkP p=0)(ht:Tab w)(hP:ProgAt w (.slice A p.length cap) p)(hi:StInv p s)(h:CellsSt C w B s):
 Calls Tryd.prog 23 #[.agg #[.slice A p.length cap], .agg C.toArray] w fun e w' =>(∃C' :List Value,e= .returned (.tuple #[.agg C'.toArray, .int .i64 0])∧CellsSt C' w' w.heap.size (nextSt p s))∧Below w.heap.size w w' :=by
 obtain⟨FS,ES,AS,rfl,hr⟩:=h
 refine(snext_any hc s FS ES AS A cap w ht hP hi hr).mono ?_
 rintro e w' ⟨⟨v,rfl,hv⟩,hb⟩
 obtain⟨C',rfl,hC⟩:=hv.cells
 exact⟨⟨C',rfl,hC⟩,hb⟩
end
structure Sx(wP:World)(pb:Nat)(pv:Value)(w:World)(l:List (Nat×List Value×St)):Prop where
 below:Below wP.heap.size wP w
 pblk:w.heap[pb]? =some (.cells #[pv] 29 (0,0))
 sts:∀x∈l,w.heap[x.1]? =some (.cells x.2.1.toArray 36 (0,0))∧CellsSt x.2.1 w wP.heap.size x.2.2
section
variable {wP w w' :World}{pb:Nat}{pv:Value}{l:List (Nat×List Value×St)}
theorem Sx.keeps(h:Sx wP pb pv w l)(hb:Below w.heap.size w w'):Sx wP pb pv w' l:=
 ⟨h.below.trans (hb.mono h.below.size),(hb.block _ (block_lt h.pblk)).trans h.pblk,fun x hx=>⟨(hb.block _ (block_lt (h.sts x hx).1)).trans (h.sts x hx).1,(h.sts x hx).2.below hb⟩⟩
theorem Sx.alloc(h:Sx wP pb pv w l)(o:Obj):Sx wP pb pv (w.alloc o) l:=h.keeps ((Below.refl _ _).alloc (Nat.le_refl _) _)
theorem Sx.drew(h:Sx wP pb pv w l):Sx wP pb pv w.drew l:=h.keeps (Below.refl _ _).drew
theorem Sx.drewN(h:Sx wP pb pv w l)(n:Nat):Sx wP pb pv (w.drewN n) l:=h.keeps (below_drewN (Below.refl _ _) n)
theorem Sx.put(h:Sx wP pb pv w l){b:Nat}{Z:List Value}{C:List Value}{s:St}(hb:w.heap[b]? =some (.cells Z.toArray 36 (0,0)))(hz:Z.length=22)(hB:wP.heap.size≤b)(hC:CellsSt C w wP.heap.size s)(hl:C.length=22){l' :List (Nat×List Value×St)}(hn:∀x∈l',x∈l∧x.1≠b):
 Sx wP pb pv (w.setCells b 0 C) ((b,C,s)::l'):=by
 have hne:pb≠b:=fun e=>by
  have:=h.pblk
  rw[e,hb] at this
  simp at this
 refine⟨below_setCells hB _ _ _ h.below,block_setCells_ne _ h.pblk (fun e=>hne e.symm) _,fun x hx=> ?_⟩
 have key:∀{C' :List Value} {s' :St},CellsSt C' w wP.heap.size s' →CellsSt C' (w.setCells b 0 C) wP.heap.size s' :=fun hC' =>by
  obtain⟨FS,ES,AS,h1,h2⟩:=hC'
  exact⟨FS,ES,AS,h1,strows_setCells (by decide) (by decide) _ _ h2 hb⟩
 rcases List.mem_cons.1 hx with rfl|hx
 ·exact⟨block_full hb _ (by simp[hl,hz]),key hC⟩
 ·obtain⟨h1,h2⟩:=hn x hx
  exact⟨block_setCells_ne _ (h.sts x h1).1 (fun e=>h2 e.symm) _,key (h.sts x h1).2⟩
theorem Sx.add(h:Sx wP pb pv w l){C:List Value}{s:St}(hC:CellsSt C w wP.heap.size s)(hm:s.mem.length=16):Sx wP pb pv ((w.alloc (.cells zeroV.toArray 36)).setCells w.heap.size 0 C) ((w.heap.size,C,s)::l):=by
 have hb:Below w.heap.size w (w.alloc (.cells zeroV.toArray 36)):=(Below.refl _ _).alloc (Nat.le_refl _) _
 exact(h.keeps hb).put (heap_alloc_new w _) zeroV_length h.below.size (hC.below hb) (hC.len hm) (fun x hx=>⟨hx,fun e=>by have:=block_lt (h.sts x hx).1;omega⟩)
theorem Sx.there(h:Sx wP pb pv w l){b:Nat}{C:List Value}{s:St}(hx:(b,C,s)∈l){n:Nat}(hn:n≤C.length):w.there b 0 n:=there_block (h.sts _ hx).1 (by simpa using hn)
theorem there_new(w:World)(cs:List Value)(t:TypeId){n:Nat}(hn:n≤cs.length):(w.alloc (.cells cs.toArray t)).there w.heap.size 0 n:=there_block (heap_alloc_new w _) (by simpa using hn)
theorem Sx.pcell(h:Sx wP pb pv w l):w.cell? ⟨pb,0,none⟩=some pv:=(cell_block h.pblk 0).trans rfl
theorem Sx.cell(h:Sx wP pb pv w l){b:Nat}{C:List Value}{s:St}(hx:(b,C,s)∈l)(i:Nat):w.cell? ⟨b,i,none⟩=C[i]? :=(cell_block (h.sts _ hx).1 i).trans List.getElem?_toArray
theorem Sx.range(h:Sx wP pb pv w l){b:Nat}{C:List Value}{s:St}(hx:(b,C,s)∈l):w.rangeAt b 0 C:=range_block (h.sts _ hx).1
theorem Sx.lt(h:Sx wP pb pv w l){b:Nat}{C:List Value}{s:St}(hx:(b,C,s)∈l):b<w.heap.size:=block_lt (h.sts _ hx).1
end
def inArgs(p:List Fnc)(a0 a1:Int):List Int:=[a0,a1].take (fnOf p 0).params.toNat
def inSt(p:List Fnc)(a0 a1:Int)(ans:List Int)(fuel:Int):St:=beginSt (inArgs p a0 a1) (ans.take 10) (pickedI fuel 300)
theorem IntsAt.take{w:World}{A:Option Addr}{l:List Int}(h:IntsAt w A l)(k:Nat):IntsAt w A (l.take k):=fun hl=>by
 have hll:0<l.length:=by
  simp at hl;omega
 obtain⟨b,o,h1,h2,h3⟩:=h hll
 refine⟨b,o,h1,h2,fun i x hx=>h3 i x ?_⟩
 rw[List.getElem?_take] at hx
 split at hx
 ·exact hx
 ·cases hx
theorem first_params{p:List Fnc}(hp:Right p):∃F,p[0]? =some F∧fnOf p 0=F∧0≤F.params∧F.params≤2:=by
 have hl:0<p.length:=by have:=hp.ok.l1;omega
 have hf:=hp.ok.fn p[0] (List.getElem_mem hl)
 exact⟨p[0],gE hl,fnOf_get (fn:=0) (gE hl),hf.p1,hf.p2⟩
theorem inArgs_len{p:List Fnc}(hp:Right p)(a0 a1:Int):(fnOf p 0).params=(inArgs p a0 a1).length:=by
 obtain⟨F,-,h2,h3,h4⟩:=first_params hp
 unfold inArgs
 rw[h2,List.length_take]
 simp
 omega
theorem inSt_inv{p:List Fnc}(hp:Right p)(a0 a1:Int)(ans:List Int)(fuel:Int):StInv p (inSt p a0 a1 ans fuel):=by
 have h1:=picked_in fuel 300 (by omega)
 refine begin_inv hp _ _ _ ?_ ?_ h1.1 (by omega)
 ·unfold inArgs;simp;omega
 ·simp;omega
set_option maxRecDepth 100000 in
set_option maxHeartbeats 8000000 in
theorem kbegin_any{p:List Fnc}(hc:checkP p=0)(a0 a1 fuel:Int)(ans:List Int)(YA:Option Addr)(ycap:Nat)(A:Option Addr)(cap:Nat)(w:World)(ht:Tab w)(hP:ProgAt w (.slice A p.length cap) p)
 (hy:IntsAt w YA ans) (hly:(ans.length:Int)≤9223372036854775807) (hcy:ans.length≤ycap) (hf:In fuel):
 Calls Tryd.prog 22 #[.agg #[.slice A p.length cap], .agg #[.int .i64 a0, .int .i64 a1, .slice YA ans.length ycap, .int .i64 fuel]] w fun e w' =>(∃C:List Value,e= .returned (.tuple #[.agg C.toArray, .bool true])∧CellsSt C w' w.heap.size (inSt p a0 a1 ans fuel))∧Below w.heap.size w w' :=by
 have hp:=right_of hc
 have l1:=hp.ok.l1
 have p0:=picked_in fuel 300 (by omega)
 have HPK:=Lib.hid (fun(W:World)=>picked_any fuel 300 W hf (by omega) (by omega))
 have hla:=inArgs_len hp a0 a1
 have HI0:=Lib.hid (inSt_inv hp a0 a1 ans fuel)
 have HBG:=Lib.hid (fun(XA:Option Addr) (W:World) (h1:Below w.heap.size w W) (hx:IntsAt W XA (inArgs p a0 a1))=>sbegin_any hc (inArgs p a0 a1) (ans.take 10) XA 2 YA ycap (pickedI fuel 300) A cap W (ht.keeps h1) (hP.keeps h1) hx hla ((hy.keeps h1).take 10) (by simp;omega) p0.1 (by omega))
 rw[show beginSt (inArgs p a0 a1) (ans.take 10) (pickedI fuel 300)=inSt p a0 a1 ans fuel from rfl] at HBG
 obtain⟨F,hF,hF0,hF1,hF2⟩:=first_params hp
 obtain⟨A0,cap0,hA0,hA⟩:=hP.slice
 simp only[Value.slice.injEq,true_and] at hA0
 obtain⟨g,hAg,hg,hfn⟩:=hA (by omega)
 obtain⟨rfl,rfl⟩:=hA0
 obtain⟨-,-,c0,-,-⟩:=hfn 0 F hF
 obtain⟨m,hm⟩:∃m,(inArgs p a0 a1).length=m:=⟨_,rfl⟩
 rw[hF0,hm] at hla
 rw[Nat.zero_mul,hla] at c0
 subst hAg
 have hm2:m≤2:=by omega
 have hm3:(m:Int)≤2:=by omega
 have hm0:(0:Int)≤m:=by omega
 have HARG:=Lib.hid (show∀i x,(inArgs p a0 a1)[i]? =some x→ #[Value.int .i64 a0, .int .i64 a1, .slice YA ans.length ycap, .int .i64 fuel][i]? =some (Value.int .i64 x) from fun i x hx=>by
  unfold inArgs at hx
  rw[List.getElem?_take] at hx
  split at hx
  ·match i,hx with
   |0,hx=>simp at hx;subst hx;rfl
   |1,hx=>simp at hx;subst hx;rfl
   |i+2,hx=>simp at hx
  ·cases hx)
 obtain⟨k,hk⟩:∃k,(ans.take 10).length=k:=⟨_,rfl⟩
 have hk2:=hk
 rw[List.length_take] at hk2
 obtain⟨s0,hs0⟩:∃s0,inSt p a0 a1 ans fuel=s0:=⟨_,rfl⟩
 have HFL:Hid (s0.frames.length=1):=Lib.hid (hs0▸rfl)
 rw[hs0] at HBG HI0⊢
 have hn:=Nat.le_refl ans.length
 rw[hm,hk] at HBG
 have HM0:=Lib.hid HI0.out.mem
 have HREG:=Lib.hid (show∀f∈s0.frames,f.regs.length=12 from fun f hf=>(HI0.out.fr f hf).regs)
 have hz:=zero_st
 have HT:=Lib.hid ht
 have HP:=Lib.hid hP
 have hN0:0<p.length:=by omega
 obtain⟨q,hq⟩:∃q,pickedI fuel 300=q:=⟨_,rfl⟩
 rw[hq] at HPK HBG
 generalize inArgs p a0 a1=args at *
 generalize hN:p.length=N at *
 generalize hnn:ans.length=n at *
 have hkm:min (n:Int) 10=k:=by omega
 have hk0:(0:Int)≤k:=by omega
 have hk3:(k:Int)≤ycap:=by omega
 have HX0:Hid (Sx w w.heap.size (.slice (some ⟨g,0,none⟩) N cap) (((w.alloc (.cells #[.slice (some ⟨g,0,none⟩) N cap] 29)).alloc (.cells #[.int .i64 a0, .int .i64 a1, .slice YA n ycap, .int .i64 fuel] 26)).alloc (.cells zeroV.toArray 36)) []):=Lib.hid ⟨((((Below.refl w.heap.size w).alloc (Nat.le_refl _) _).alloc (by simp) _).alloc (by simp;omega) _),block_alloc (block_alloc (heap_alloc_new w _) _) _,fun x hx=>by simp at hx⟩
 have HI1:=Lib.hid (block_alloc (heap_alloc_new1 w (.cells #[.slice (some ⟨g,0,none⟩) N cap] 29) (.cells #[.int .i64 a0, .int .i64 a1, .slice YA n ycap, .int .i64 fuel] 26)) (.cells zeroV.toArray 36))
 have HR1:Hid ((((w.alloc (.cells #[.slice (some ⟨g,0,none⟩) N cap] 29)).alloc (.cells #[.int .i64 a0, .int .i64 a1, .slice YA n ycap, .int .i64 fuel] 26)).alloc (.cells zeroV.toArray 36)).heap[w.heap.size+2]? =some (.cells zeroV.toArray 36 (0,0))):=Lib.hid (by have:=heap_alloc_new ((w.alloc (.cells #[.slice (some ⟨g,0,none⟩) N cap] 29)).alloc (.cells #[.int .i64 a0, .int .i64 a1, .slice YA n ycap, .int .i64 fuel] 26)) (.cells zeroV.toArray 36);simpa using this)
 have hzs:(((w.alloc (.cells #[.slice (some ⟨g,0,none⟩) N cap] 29)).alloc (.cells #[.int .i64 a0, .int .i64 a1, .slice YA n ycap, .int .i64 fuel] 26)).alloc (.cells zeroV.toArray 36)).heap.size=w.heap.size+3:=by simp
 have c0' :(((w.alloc (.cells #[.slice (some ⟨g,0,none⟩) N cap] 29)).alloc (.cells #[.int .i64 a0, .int .i64 a1, .slice YA n ycap, .int .i64 fuel] 26)).alloc (.cells zeroV.toArray 36)).cell? ⟨g,0,none⟩=some (.int .i64 (m:Int)):=(HX0.out.below.cell (p:=⟨g,0,none⟩) hg).trans c0
 clear ht hP hy hA hfn hF hF0 hF1 hF2 hla hs0 hf hm hk2 hn hnn hk hN hq p0 c0
 go_enter Tryd.func22,Tryd.ntmps22
 go_wp2_with fail
 obtain⟨w0,hw0⟩:∃w0,(((w.alloc (.cells #[.slice (some ⟨g,0,none⟩) N cap] 29)).alloc (.cells #[.int .i64 a0, .int .i64 a1, .slice YA n ycap, .int .i64 fuel] 26)).alloc (.cells zeroV.toArray 36))=w0:=⟨_,rfl⟩
 rw[hw0] at HX0 HI1 HR1 hzs c0' ⊢
 clear hw0
 have b0:=HX0.out.pcell
 have b2:=cell_block HI1.out 2
 have b3:=cell_block HI1.out 3
 have KS:=Lib.hid (fun(w' :World) (hb:Below w0.heap.size w0 w')=>(⟨(hb.cell (p:=⟨w.heap.size,0,none⟩) (by show w.heap.size<_;omega)).trans b0,(hb.cell (p:=⟨g,0,none⟩) (by show g<_;omega)).trans c0',(hb.cell (p:=⟨w.heap.size+1,2,none⟩) (by show w.heap.size+1<_;omega)).trans b2,(hb.cell (p:=⟨w.heap.size+1,3,none⟩) (by show w.heap.size+1<_;omega)).trans b3⟩:w'.cell? ⟨w.heap.size,0,none⟩=some (.slice (some ⟨g,0,none⟩) N cap)∧w'.cell? ⟨g,0,none⟩=some (.int .i64 (m:Int))∧w'.cell? ⟨w.heap.size+1,2,none⟩=some (.slice YA n ycap)∧w'.cell? ⟨w.heap.size+1,3,none⟩=some (.int .i64 fuel)))
 have HA0:=Lib.hid (fun(w' :World) (hb:Below w0.heap.size w0 w')=>show IntsAt w' (some ⟨w.heap.size+1,0,none⟩) args from fun _=>⟨_,0,rfl,by have:=hb.size;omega,fun i x hx=>by rw[Nat.zero_add,cell_block ((hb.block _ (by omega)).trans HI1.out)];exact HARG.out i x hx⟩)
 have HZS:=Lib.hid hzs
 clear b0 b2 b3 c0' HARG hzs
 refine wp_region_held_drew (S:=fun w' =>w'.cell? ⟨w.heap.size,0,none⟩=some (.slice (some ⟨g,0,none⟩) N cap)∧w'.cell? ⟨g,0,none⟩=some (.int .i64 (m:Int))∧w'.cell? ⟨w.heap.size+1,2,none⟩=some (.slice YA n ycap)∧w'.cell? ⟨w.heap.size+1,3,none⟩=some (.int .i64 fuel)) (by kernel_rfl) (KS.out _ (Below.refl _ _).drew) (fun hHeld=> ?_)
 refine wpAnyH_take (i:=0) (v:= .agg #[.slice (some ⟨g,0,none⟩) N cap]) rfl (by kernel_rfl) (by kernel_rfl) (by kernel_rfl) (fun _ _ _ h=>h) (Or.inl ⟨by rfl,?_⟩) hHeld ?_
 ·intro w hSw
  obtain⟨q0,q1,q2,q3⟩:=hSw
  simp only[qg]
  go_simp
 simp only[Act.put,qs]
 refine wpAnyH_take (i:=1) (v:= .pointer (some ⟨w.heap.size+1,0,none⟩)) rfl (by kernel_rfl) (by kernel_rfl) (by kernel_rfl) (fun _ _ _ h=>h) (Or.inl ⟨by rfl,?_⟩) hHeld ?_
 ·intro w hSw
  obtain⟨q0,q1,q2,q3⟩:=hSw
  simp only[qg]
  go_simp
 simp only[Act.put,qs]
 refine wpAnyH_take (i:=2) (v:= .pointer (some ⟨w.heap.size,0,none⟩)) rfl (by kernel_rfl) (by kernel_rfl) (by kernel_rfl) (fun _ _ _ h=>h) (Or.inl ⟨by rfl,?_⟩) hHeld ?_
 ·intro w hSw
  obtain⟨q0,q1,q2,q3⟩:=hSw
  simp only[qg]
  go_simp
 simp only[Act.put,qs]
 refine wpAnyH_take (i:=3) (v:= .slice (some ⟨g,0,none⟩) N cap) rfl (by kernel_rfl) (by kernel_rfl) (by kernel_rfl) (fun _ _ _ h=>h) (Or.inl ⟨by rfl,?_⟩) hHeld ?_
 ·intro w hSw
  obtain⟨q0,q1,q2,q3⟩:=hSw
  simp only[qg]
  go_simp
 simp only[Act.put,qs]
 refine wpAnyH_take (i:=4) (v:= .pointer (some ⟨g,0,none⟩)) rfl (by kernel_rfl) (by kernel_rfl) (by kernel_rfl) (fun _ _ _ h=>h) (Or.inl ⟨by rfl,?_⟩) hHeld ?_
 ·intro w hSw
  obtain⟨q0,q1,q2,q3⟩:=hSw
  simp only[qg]
  go_simp
 simp only[Act.put,qs]
 refine wpAnyH_take (i:=5) (v:= .pointer (some ⟨g,0,none⟩)) rfl (by kernel_rfl) (by kernel_rfl) (by kernel_rfl) (fun _ _ _ h=>h) (Or.inl ⟨by rfl,?_⟩) hHeld ?_
 ·intro w hSw
  obtain⟨q0,q1,q2,q3⟩:=hSw
  simp only[qg]
  go_simp
 simp only[Act.put,qs]
 refine wpAnyH_take (i:=6) (v:= .int .i64 (m:Int)) rfl (by kernel_rfl) (by kernel_rfl) (by kernel_rfl) (fun _ _ _ h=>h) (Or.inl ⟨by rfl,?_⟩) hHeld ?_
 ·intro w hSw
  obtain⟨q0,q1,q2,q3⟩:=hSw
  simp only[qg]
  go_simp
 simp only[Act.put,qs]
 refine wpAnyH_take (i:=7) (v:= .slice (some ⟨w.heap.size+1,0,none⟩) m 2) rfl (by kernel_rfl) (by kernel_rfl) (by kernel_rfl) (fun _ _ _ h=>h) (Or.inl ⟨by rfl,?_⟩) hHeld ?_
 ·intro w hSw
  obtain⟨q0,q1,q2,q3⟩:=hSw
  simp only[qg]
  go_simp
 simp only[Act.put,qs]
 refine wpAnyH_take (i:=8) (v:= .pointer (some ⟨w.heap.size+1,2,none⟩)) rfl (by kernel_rfl) (by kernel_rfl) (by kernel_rfl) (fun _ _ _ h=>h) (Or.inl ⟨by rfl,?_⟩) hHeld ?_
 ·intro w hSw
  obtain⟨q0,q1,q2,q3⟩:=hSw
  simp only[qg]
  go_simp
 simp only[Act.put,qs]
 refine wpAnyH_take (i:=9) (v:= .slice YA n ycap) rfl (by kernel_rfl) (by kernel_rfl) (by kernel_rfl) (fun _ _ _ h=>h) (Or.inl ⟨by rfl,?_⟩) hHeld ?_
 ·intro w hSw
  obtain⟨q0,q1,q2,q3⟩:=hSw
  simp only[qg]
  go_simp
 simp only[Act.put,qs]
 refine wpAnyH_take (i:=10) (v:= .pointer (some ⟨w.heap.size+1,2,none⟩)) rfl (by kernel_rfl) (by kernel_rfl) (by kernel_rfl) (fun _ _ _ h=>h) (Or.inl ⟨by rfl,?_⟩) hHeld ?_
 ·intro w hSw
  obtain⟨q0,q1,q2,q3⟩:=hSw
  simp only[qg]
  go_simp
 simp only[Act.put,qs]
 refine wpAnyH_take (i:=11) (v:= .slice YA n ycap) rfl (by kernel_rfl) (by kernel_rfl) (by kernel_rfl) (fun _ _ _ h=>h) (Or.inl ⟨by rfl,?_⟩) hHeld ?_
 ·intro w hSw
  obtain⟨q0,q1,q2,q3⟩:=hSw
  simp only[qg]
  go_simp
 simp only[Act.put,qs]
 refine wpAnyH_take (i:=12) (v:= .int .i64 (n:Int)) rfl (by kernel_rfl) (by kernel_rfl) (by kernel_rfl) (fun _ _ _ h=>h) (Or.inl ⟨by rfl,?_⟩) hHeld ?_
 ·intro w hSw
  obtain⟨q0,q1,q2,q3⟩:=hSw
  simp only[qg]
  go_simp
 simp only[Act.put,qs]
 refine wpAnyH_take (i:=13) (v:= .int .i64 (k:Int)) rfl (by kernel_rfl) (by kernel_rfl) (by kernel_rfl) (fun _ _ _ h=>h) (Or.inl ⟨by rfl,?_⟩) hHeld ?_
 ·intro w hSw
  obtain⟨q0,q1,q2,q3⟩:=hSw
  simp only[qg]
  go_simp
 simp only[Act.put,qs]
 refine wpAnyH_take (i:=14) (v:= .slice YA k ycap) rfl (by kernel_rfl) (by kernel_rfl) (by kernel_rfl) (fun _ _ _ h=>h) (Or.inl ⟨by rfl,?_⟩) hHeld ?_
 ·intro w hSw
  obtain⟨q0,q1,q2,q3⟩:=hSw
  simp only[qg]
  go_simp
 simp only[Act.put,qs]
 refine wpAnyH_take (i:=15) (v:= .pointer (some ⟨w.heap.size+1,3,none⟩)) rfl (by kernel_rfl) (by kernel_rfl) (by kernel_rfl) (fun _ _ _ h=>h) (Or.inl ⟨by rfl,?_⟩) hHeld ?_
 ·intro w hSw
  obtain⟨q0,q1,q2,q3⟩:=hSw
  simp only[qg]
  go_simp
 simp only[Act.put,qs]
 refine wpAnyH_take (i:=16) (v:= .int .i64 fuel) rfl (by kernel_rfl) (by kernel_rfl) (by kernel_rfl) (fun _ _ _ h=>h) (Or.inl ⟨by rfl,?_⟩) hHeld ?_
 ·intro w hSw
  obtain⟨q0,q1,q2,q3⟩:=hSw
  simp only[qg]
  go_simp
 simp only[Act.put,qs]
 refine wpAnyH_ready (rs:=[17,22]) (by kernel_rfl) (by simp) ?_
 refine AllReadyH.cons rfl (fun K hK=> ?_) (AllReadyH.cons rfl (fun K hK=> ?_) AllReadyH.nil)
 ·simp only[qg]
  go_simp
  refine(HPK.out _).mono ?_
  rintro e w' ⟨rfl,rfl⟩
  refine hK.out _ _ hHeld (fun hHeld=> ?_)
  clear hK K
  refine wpAnyH_ready (rs:=[18,22]) (by kernel_rfl) (by simp) ?_
  refine AllReadyH.cons rfl (fun K hK=> ?_) (AllReadyH.cons rfl (fun K hK=> ?_) AllReadyH.nil)
  ·simp only[qg]
   go_simp
   refine(HBG.out _ _ (HX0.out.below.trans ((Below.refl w0.heap.size w0).drew.mono HX0.out.below.size)) (HA0.out _ (Below.refl w0.heap.size w0).drew)).mono ?_
   rintro e w1 ⟨⟨C,rfl,hC⟩,hb1⟩
   have HB1:Hid (Below w0.heap.size w0 w1):=Lib.hid ((Below.refl w0.heap.size w0).drew.trans (hb1.mono (Below.refl w0.heap.size w0).drew.size))
   have HC:=Lib.hid (hC.base (HX0.out.below.trans ((Below.refl w0.heap.size w0).drew.mono HX0.out.below.size)).size)
   have HL:=Lib.hid (HC.out.len HM0.out)
   have HIF:=Lib.hid (info_st HL.out)
   refine hK.out _ _ (KS.out _ HB1.out) (fun hHeld=> ?_)
   clear hK K hC hb1
   refine wpAnyH_take (i:=19) (v:= .tuple #[.agg C.toArray, .int .i64 0]) rfl (by kernel_rfl) (by kernel_rfl) (by kernel_rfl) (fun _ _ _ h=>h) (Or.inl ⟨by rfl,?_⟩) hHeld ?_
   ·intro w hSw
    simp only[qg]
    go_simp
   simp only[Act.put,qs]
   refine wpAnyH_take (i:=20) (v:= .agg C.toArray) rfl (by kernel_rfl) (by kernel_rfl) (by kernel_rfl) (fun _ _ _ h=>h) (Or.inl ⟨by rfl,?_⟩) hHeld ?_
   ·intro w hSw
    simp only[qg]
    go_simp
   simp only[Act.put,qs]
   refine wpAnyH_take (i:=21) (v:= .int .i64 0) rfl (by kernel_rfl) (by kernel_rfl) (by kernel_rfl) (fun _ _ _ h=>h) (Or.inl ⟨by rfl,?_⟩) hHeld ?_
   ·intro w hSw
    simp only[qg]
    go_simp
   simp only[Act.put,qs]
   refine wpAnyH_ready (rs:=[22]) (by kernel_rfl) (by simp) ?_
   refine AllReadyH.cons rfl (fun K hK=> ?_) AllReadyH.nil
   simp only[qg]
   go_simp
   refine hK.out _ _ (KS.out _ (HB1.out.alloc HB1.out.size _)) (fun hHeld=> ?_)
   clear hK K
   refine wpAnyH_ready (rs:=[23]) (by kernel_rfl) (by simp) ?_
   refine AllReadyH.cons rfl (fun K hK=> ?_) AllReadyH.nil
   simp only[qg]
   rw[if_pos (by rfl)]
   refine wp_store_mid 36 _ _ (by rfl) w1.heap.size 0 C.toArray (by rfl) (by rfl) (there_new w1 zeroV _ (by simp[HL.out,zeroV_length])) (by simpa using HIF.out) HC.out.one ?_
   obtain⟨w3,hw3⟩:∃w3,(w1.alloc (.cells zeroV.toArray 36)).setCells w1.heap.size 0 C.toArray.toList=w3:=⟨_,rfl⟩
   rw[hw3]
   obtain⟨b,hb⟩:∃b,w1.heap.size=b:=⟨_,rfl⟩
   have HX3:Hid (Sx w w.heap.size (.slice (some ⟨g,0,none⟩) N cap) w3 [(b,C,s0)]):=Lib.hid (by rw[←hw3,←hb];exact(HX0.out.keeps HB1.out).add HC.out HM0.out)
   have HB3:Hid (Below w0.heap.size w0 w3):=Lib.hid (by rw[←hw3];exact below_setCells (HB1.out.size) _ _ _ (HB1.out.alloc HB1.out.size _))
   have HBN:Hid (b≠w.heap.size+2):=Lib.hid (by have:=HB1.out.size;have:=HZS.out;omega)
   rw[hb]
   refine hK.out _ _ (KS.out _ HB3.out) (fun hHeld=> ?_)
   clear hK K hb hw3
   refine wpAnyH_ready (rs:=[24]) (by kernel_rfl) (by simp) ?_
   refine AllReadyH.cons rfl (fun K hK=> ?_) AllReadyH.nil
   simp only[qg]
   go_simp
   refine hK.out _ _ hHeld (fun hHeld=> ?_)
   clear hK K hHeld
   refine wpAnyH_done (by kernel_rfl) ?_ _
   go_wp2_with fail
   obtain⟨FA,fa,EA,ea,AA,aa,hci⟩:=(HX3.out.sts _ (.head _)).2.cin HM0.out HREG.out
   have HCI:=Lib.hid hci
   have r3:=HX3.out.range (.head _)
   have r2:w3.cell? ⟨b,2,none⟩=some (.slice FA 1 fa):=(HX3.out.cell (.head _) 2).trans (by rw[HCI.out.c2,HFL.out])
   have HR3:=Lib.hid ((HB3.out.block (w.heap.size+2) (by have:=HZS.out;omega)).trans HR1.out)
   clear hci
   refine wp_region_held_drew (S:=fun w' =>w'.rangeAt b 0 C∧w'.cell? ⟨b,2,none⟩=some (.slice FA 1 fa)) (by kernel_rfl) ⟨(World.rangeAt_drew _ _ _ _).2 r3,r2⟩ (fun hHeld=> ?_)
   refine' wpAnyH_take (i:=0) rfl (by kernel_rfl) (by kernel_rfl) (by kernel_rfl) (fun _ _ _ h=>h) (yieldsIf_load_mid (by rfl) 36 _ rfl b 0 rfl C _ (fun w hSw=>hSw.1) Tryd.underlying36 (by rfl) HIF.out) hHeld ?_
   simp only[Act.put,qs]
   refine wpAnyH_take (i:=1) (v:= .int .i64 0) rfl (by kernel_rfl) (by kernel_rfl) (by kernel_rfl) (fun _ _ _ h=>h) (Or.inl ⟨by rfl,?_⟩) hHeld ?_
   ·intro w hSw
    simp only[qg]
    go_simp
   simp only[Act.put,qs]
   refine wpAnyH_take (i:=2) (v:= .bool true) rfl (by kernel_rfl) (by kernel_rfl) (by kernel_rfl) (fun _ _ _ h=>h) (Or.inl ⟨by rfl,?_⟩) hHeld ?_
   ·intro w hSw
    simp only[qg]
    go_simp
   simp only[Act.put,qs]
   refine wpAnyH_take (i:=3) (v:= .bool true) rfl (by kernel_rfl) (by kernel_rfl) (by kernel_rfl) (fun _ _ _ h=>h) (Or.inl ⟨by rfl,?_⟩) hHeld ?_
   ·intro w hSw
    simp only[qg]
    go_simp
   simp only[Act.put,qs]
   refine wpAnyH_take (i:=4) (v:= .pointer (some ⟨b,2,none⟩)) rfl (by kernel_rfl) (by kernel_rfl) (by kernel_rfl) (fun _ _ _ h=>h) (Or.inl ⟨by rfl,?_⟩) hHeld ?_
   ·intro w hSw
    simp only[qg]
    go_simp
   simp only[Act.put,qs]
   refine wpAnyH_take (i:=5) (v:= .slice FA 1 fa) rfl (by kernel_rfl) (by kernel_rfl) (by kernel_rfl) (fun _ _ _ h=>h) (Or.inl ⟨by rfl,?_⟩) hHeld ?_
   ·intro w hSw
    have q1:=hSw.2
    simp only[qg]
    go_simp
   simp only[Act.put,qs]
   refine wpAnyH_take (i:=6) (v:= .int .i64 1) rfl (by kernel_rfl) (by kernel_rfl) (by kernel_rfl) (fun _ _ _ h=>h) (Or.inl ⟨by rfl,?_⟩) hHeld ?_
   ·intro w hSw
    simp only[qg]
    go_simp
   simp only[Act.put,qs]
   refine wpAnyH_take (i:=7) (v:= .bool true) rfl (by kernel_rfl) (by kernel_rfl) (by kernel_rfl) (fun _ _ _ h=>h) (Or.inl ⟨by rfl,?_⟩) hHeld ?_
   ·intro w hSw
    simp only[qg]
    go_simp
   simp only[Act.put,qs]
   refine wpAnyH_take (i:=8) (v:= .bool true) rfl (by kernel_rfl) (by kernel_rfl) (by kernel_rfl) (fun _ _ _ h=>h) (Or.inl ⟨by rfl,?_⟩) hHeld ?_
   ·intro w hSw
    simp only[qg]
    go_simp
   simp only[Act.put,qs]
   refine wpAnyH_ready (rs:=[9]) (by kernel_rfl) (by simp) ?_
   refine AllReadyH.cons rfl (fun K hK=> ?_) AllReadyH.nil
   simp only[qg]
   rw[if_pos (by rfl)]
   refine wp_store_mid 36 _ _ (by rfl) (w.heap.size+2) 0 C.toArray (by rfl) (by rfl) (there_block (n:=C.toArray.size) HR3.out (by simp[HL.out,zeroV_length])) (by simpa using HIF.out) HC.out.one ?_
   refine hK.out _ _ ⟨World.rangeAt_setCells_apart hHeld.1 _ _ _ (.inl HBN.out),(World.cell?_setCells_out _ _ _ _ _ (fun e _=>absurd e HBN.out)).trans hHeld.2⟩ (fun hHeld=> ?_)
   clear hK K
   refine wpAnyH_ready (rs:=[10]) (by kernel_rfl) (by simp) ?_
   refine AllReadyH.cons rfl (fun K hK=> ?_) AllReadyH.nil
   simp only[qg]
   go_simp
   refine hK.out _ _ hHeld (fun hHeld=> ?_)
   clear hK K hHeld
   refine wpAnyH_done (by kernel_rfl) ?_ _
   go_wp2_with fail
   have hrd:=run_loadVar_mid (P:=Tryd.prog) _ _ _ 36 C _ (World.rangeAt_setCells_same w3.drew (w.heap.size+2) 0 C (there_block (n:=C.length) HR3.out (by rw[HL.out];exact Nat.le_refl _))) Tryd.underlying36 (by rfl) HIF.out
   refine bodyPost_ret (v:= .tuple #[.agg C.toArray, .bool true]) (results_cell2 Tryd.results22 _ _ _ _ _ ?_ hrd) rfl ⟨⟨C,rfl,?_⟩,?_⟩
   ·rfl
   ·obtain⟨FS,ES,AS,h1,h2⟩:=(HX3.out.sts _ (.head _)).2
    exact⟨FS,ES,AS,h1,strows_setCells (w:=w3.drew) (by decide) (by decide) _ _ (h2.below (Below.refl _ _).drew) HR3.out⟩
   ·exact below_setCells (by simp) _ _ _ HX3.out.below.drew
  ·simp only[qg]
   go_simp
   refine hK.out _ _ (KS.out _ ((Below.refl w0.heap.size w0).drew.alloc (Below.refl w0.heap.size w0).drew.size _)) (fun hHeld=> ?_)
   clear hK K
   refine wpAnyH_ready (rs:=[18]) (by kernel_rfl) (by simp) ?_
   refine AllReadyH.cons rfl (fun K hK=> ?_) AllReadyH.nil
   simp only[qg]
   go_simp
   refine(HBG.out _ _ (HX0.out.below.trans (((Below.refl w0.heap.size w0).drew.alloc (Nat.le_refl _) (.cells zeroV.toArray 36)).mono HX0.out.below.size)) (HA0.out _ ((Below.refl w0.heap.size w0).drew.alloc (Nat.le_refl _) (.cells zeroV.toArray 36)))).mono ?_
   rintro e w1 ⟨⟨C,rfl,hC⟩,hb1⟩
   have HB1:Hid (Below w0.heap.size w0 w1):=Lib.hid (((Below.refl w0.heap.size w0).drew.alloc (Nat.le_refl _) (.cells zeroV.toArray 36)).trans (hb1.mono ((Below.refl w0.heap.size w0).drew.alloc (Nat.le_refl _) (.cells zeroV.toArray 36)).size))
   have HC:=Lib.hid (hC.base (HX0.out.below.trans (((Below.refl w0.heap.size w0).drew.alloc (Nat.le_refl _) (.cells zeroV.toArray 36)).mono HX0.out.below.size)).size)
   have HL:=Lib.hid (HC.out.len HM0.out)
   have HIF:=Lib.hid (info_st HL.out)
   have HZB:=Lib.hid ((hb1.block w0.heap.size (by simp)).trans (heap_alloc_new w0.drew (.cells zeroV.toArray 36)))
   refine hK.out _ _ (KS.out _ HB1.out) (fun hHeld=> ?_)
   clear hK K hC hb1
   refine wpAnyH_take (i:=19) (v:= .tuple #[.agg C.toArray, .int .i64 0]) rfl (by kernel_rfl) (by kernel_rfl) (by kernel_rfl) (fun _ _ _ h=>h) (Or.inl ⟨by rfl,?_⟩) hHeld ?_
   ·intro w hSw
    simp only[qg]
    go_simp
   simp only[Act.put,qs]
   refine wpAnyH_take (i:=20) (v:= .agg C.toArray) rfl (by kernel_rfl) (by kernel_rfl) (by kernel_rfl) (fun _ _ _ h=>h) (Or.inl ⟨by rfl,?_⟩) hHeld ?_
   ·intro w hSw
    simp only[qg]
    go_simp
   simp only[Act.put,qs]
   refine wpAnyH_take (i:=21) (v:= .int .i64 0) rfl (by kernel_rfl) (by kernel_rfl) (by kernel_rfl) (fun _ _ _ h=>h) (Or.inl ⟨by rfl,?_⟩) hHeld ?_
   ·intro w hSw
    simp only[qg]
    go_simp
   simp only[Act.put,qs]
   refine wpAnyH_ready (rs:=[23]) (by kernel_rfl) (by simp) ?_
   refine AllReadyH.cons rfl (fun K hK=> ?_) AllReadyH.nil
   simp only[qg]
   rw[if_pos (by rfl)]
   refine wp_store_mid 36 _ _ (by rfl) w0.heap.size 0 C.toArray (by rfl) (by rfl) (there_block HZB.out (by simp[HL.out,zeroV_length])) (by simpa using HIF.out) HC.out.one ?_
   obtain⟨w3,hw3⟩:∃w3,w1.setCells w0.heap.size 0 C.toArray.toList=w3:=⟨_,rfl⟩
   rw[hw3]
   obtain⟨b,hb⟩:∃b,w0.heap.size=b:=⟨_,rfl⟩
   have HX3:Hid (Sx w w.heap.size (.slice (some ⟨g,0,none⟩) N cap) w3 [(b,C,s0)]):=Lib.hid (by rw[←hw3,←hb];exact(HX0.out.keeps HB1.out).put HZB.out zeroV_length HX0.out.below.size HC.out HL.out (fun x hx=>by simp at hx))
   have HB3:Hid (Below w0.heap.size w0 w3):=Lib.hid (by rw[←hw3];exact below_setCells (Nat.le_refl _) _ _ _ (HB1.out))
   have HBN:Hid (b≠w.heap.size+2):=Lib.hid (by have:=HB1.out.size;have:=HZS.out;omega)
   rw[hb]
   refine hK.out _ _ (KS.out _ HB3.out) (fun hHeld=> ?_)
   clear hK K hb hw3
   refine wpAnyH_ready (rs:=[24]) (by kernel_rfl) (by simp) ?_
   refine AllReadyH.cons rfl (fun K hK=> ?_) AllReadyH.nil
   simp only[qg]
   go_simp
   refine hK.out _ _ hHeld (fun hHeld=> ?_)
   clear hK K hHeld
   refine wpAnyH_done (by kernel_rfl) ?_ _
   go_wp2_with fail
   obtain⟨FA,fa,EA,ea,AA,aa,hci⟩:=(HX3.out.sts _ (.head _)).2.cin HM0.out HREG.out
   have HCI:=Lib.hid hci
   have r3:=HX3.out.range (.head _)
   have r2:w3.cell? ⟨b,2,none⟩=some (.slice FA 1 fa):=(HX3.out.cell (.head _) 2).trans (by rw[HCI.out.c2,HFL.out])
   have HR3:=Lib.hid ((HB3.out.block (w.heap.size+2) (by have:=HZS.out;omega)).trans HR1.out)
   clear hci
   refine wp_region_held_drew (S:=fun w' =>w'.rangeAt b 0 C∧w'.cell? ⟨b,2,none⟩=some (.slice FA 1 fa)) (by kernel_rfl) ⟨(World.rangeAt_drew _ _ _ _).2 r3,r2⟩ (fun hHeld=> ?_)
   refine' wpAnyH_take (i:=0) rfl (by kernel_rfl) (by kernel_rfl) (by kernel_rfl) (fun _ _ _ h=>h) (yieldsIf_load_mid (by rfl) 36 _ rfl b 0 rfl C _ (fun w hSw=>hSw.1) Tryd.underlying36 (by rfl) HIF.out) hHeld ?_
   simp only[Act.put,qs]
   refine wpAnyH_take (i:=1) (v:= .int .i64 0) rfl (by kernel_rfl) (by kernel_rfl) (by kernel_rfl) (fun _ _ _ h=>h) (Or.inl ⟨by rfl,?_⟩) hHeld ?_
   ·intro w hSw
    simp only[qg]
    go_simp
   simp only[Act.put,qs]
   refine wpAnyH_take (i:=2) (v:= .bool true) rfl (by kernel_rfl) (by kernel_rfl) (by kernel_rfl) (fun _ _ _ h=>h) (Or.inl ⟨by rfl,?_⟩) hHeld ?_
   ·intro w hSw
    simp only[qg]
    go_simp
   simp only[Act.put,qs]
   refine wpAnyH_take (i:=3) (v:= .bool true) rfl (by kernel_rfl) (by kernel_rfl) (by kernel_rfl) (fun _ _ _ h=>h) (Or.inl ⟨by rfl,?_⟩) hHeld ?_
   ·intro w hSw
    simp only[qg]
    go_simp
   simp only[Act.put,qs]
   refine wpAnyH_take (i:=4) (v:= .pointer (some ⟨b,2,none⟩)) rfl (by kernel_rfl) (by kernel_rfl) (by kernel_rfl) (fun _ _ _ h=>h) (Or.inl ⟨by rfl,?_⟩) hHeld ?_
   ·intro w hSw
    simp only[qg]
    go_simp
   simp only[Act.put,qs]
   refine wpAnyH_take (i:=5) (v:= .slice FA 1 fa) rfl (by kernel_rfl) (by kernel_rfl) (by kernel_rfl) (fun _ _ _ h=>h) (Or.inl ⟨by rfl,?_⟩) hHeld ?_
   ·intro w hSw
    have q1:=hSw.2
    simp only[qg]
    go_simp
   simp only[Act.put,qs]
   refine wpAnyH_take (i:=6) (v:= .int .i64 1) rfl (by kernel_rfl) (by kernel_rfl) (by kernel_rfl) (fun _ _ _ h=>h) (Or.inl ⟨by rfl,?_⟩) hHeld ?_
   ·intro w hSw
    simp only[qg]
    go_simp
   simp only[Act.put,qs]
   refine wpAnyH_take (i:=7) (v:= .bool true) rfl (by kernel_rfl) (by kernel_rfl) (by kernel_rfl) (fun _ _ _ h=>h) (Or.inl ⟨by rfl,?_⟩) hHeld ?_
   ·intro w hSw
    simp only[qg]
    go_simp
   simp only[Act.put,qs]
   refine wpAnyH_take (i:=8) (v:= .bool true) rfl (by kernel_rfl) (by kernel_rfl) (by kernel_rfl) (fun _ _ _ h=>h) (Or.inl ⟨by rfl,?_⟩) hHeld ?_
   ·intro w hSw
    simp only[qg]
    go_simp
   simp only[Act.put,qs]
   refine wpAnyH_ready (rs:=[9]) (by kernel_rfl) (by simp) ?_
   refine AllReadyH.cons rfl (fun K hK=> ?_) AllReadyH.nil
   simp only[qg]
   rw[if_pos (by rfl)]
   refine wp_store_mid 36 _ _ (by rfl) (w.heap.size+2) 0 C.toArray (by rfl) (by rfl) (there_block (n:=C.toArray.size) HR3.out (by simp[HL.out,zeroV_length])) (by simpa using HIF.out) HC.out.one ?_
   refine hK.out _ _ ⟨World.rangeAt_setCells_apart hHeld.1 _ _ _ (.inl HBN.out),(World.cell?_setCells_out _ _ _ _ _ (fun e _=>absurd e HBN.out)).trans hHeld.2⟩ (fun hHeld=> ?_)
   clear hK K
   refine wpAnyH_ready (rs:=[10]) (by kernel_rfl) (by simp) ?_
   refine AllReadyH.cons rfl (fun K hK=> ?_) AllReadyH.nil
   simp only[qg]
   go_simp
   refine hK.out _ _ hHeld (fun hHeld=> ?_)
   clear hK K hHeld
   refine wpAnyH_done (by kernel_rfl) ?_ _
   go_wp2_with fail
   have hrd:=run_loadVar_mid (P:=Tryd.prog) _ _ _ 36 C _ (World.rangeAt_setCells_same w3.drew (w.heap.size+2) 0 C (there_block (n:=C.length) HR3.out (by rw[HL.out];exact Nat.le_refl _))) Tryd.underlying36 (by rfl) HIF.out
   refine bodyPost_ret (v:= .tuple #[.agg C.toArray, .bool true]) (results_cell2 Tryd.results22 _ _ _ _ _ ?_ hrd) rfl ⟨⟨C,rfl,?_⟩,?_⟩
   ·rfl
   ·obtain⟨FS,ES,AS,h1,h2⟩:=(HX3.out.sts _ (.head _)).2
    exact⟨FS,ES,AS,h1,strows_setCells (w:=w3.drew) (by decide) (by decide) _ _ (h2.below (Below.refl _ _).drew) HR3.out⟩
   ·exact below_setCells (by simp) _ _ _ HX3.out.below.drew
 ·simp only[qg]
  go_simp
  refine hK.out _ _ (KS.out _ ((Below.refl w0.heap.size w0).drew.alloc (Below.refl w0.heap.size w0).drew.size _)) (fun hHeld=> ?_)
  clear hK K
  refine wpAnyH_ready (rs:=[17]) (by kernel_rfl) (by simp) ?_
  refine AllReadyH.cons rfl (fun K hK=> ?_) AllReadyH.nil
  simp only[qg]
  go_simp
  refine(HPK.out _).mono ?_
  rintro e w' ⟨rfl,rfl⟩
  refine hK.out _ _ hHeld (fun hHeld=> ?_)
  clear hK K
  refine wpAnyH_ready (rs:=[18]) (by kernel_rfl) (by simp) ?_
  refine AllReadyH.cons rfl (fun K hK=> ?_) AllReadyH.nil
  simp only[qg]
  go_simp
  refine(HBG.out _ _ (HX0.out.below.trans (((Below.refl w0.heap.size w0).drew.alloc (Nat.le_refl _) (.cells zeroV.toArray 36)).mono HX0.out.below.size)) (HA0.out _ ((Below.refl w0.heap.size w0).drew.alloc (Nat.le_refl _) (.cells zeroV.toArray 36)))).mono ?_
  rintro e w1 ⟨⟨C,rfl,hC⟩,hb1⟩
  have HB1:Hid (Below w0.heap.size w0 w1):=Lib.hid (((Below.refl w0.heap.size w0).drew.alloc (Nat.le_refl _) (.cells zeroV.toArray 36)).trans (hb1.mono ((Below.refl w0.heap.size w0).drew.alloc (Nat.le_refl _) (.cells zeroV.toArray 36)).size))
  have HC:=Lib.hid (hC.base (HX0.out.below.trans (((Below.refl w0.heap.size w0).drew.alloc (Nat.le_refl _) (.cells zeroV.toArray 36)).mono HX0.out.below.size)).size)
  have HL:=Lib.hid (HC.out.len HM0.out)
  have HIF:=Lib.hid (info_st HL.out)
  have HZB:=Lib.hid ((hb1.block w0.heap.size (by simp)).trans (heap_alloc_new w0.drew (.cells zeroV.toArray 36)))
  refine hK.out _ _ (KS.out _ HB1.out) (fun hHeld=> ?_)
  clear hK K hC hb1
  refine wpAnyH_take (i:=19) (v:= .tuple #[.agg C.toArray, .int .i64 0]) rfl (by kernel_rfl) (by kernel_rfl) (by kernel_rfl) (fun _ _ _ h=>h) (Or.inl ⟨by rfl,?_⟩) hHeld ?_
  ·intro w hSw
   simp only[qg]
   go_simp
  simp only[Act.put,qs]
  refine wpAnyH_take (i:=20) (v:= .agg C.toArray) rfl (by kernel_rfl) (by kernel_rfl) (by kernel_rfl) (fun _ _ _ h=>h) (Or.inl ⟨by rfl,?_⟩) hHeld ?_
  ·intro w hSw
   simp only[qg]
   go_simp
  simp only[Act.put,qs]
  refine wpAnyH_take (i:=21) (v:= .int .i64 0) rfl (by kernel_rfl) (by kernel_rfl) (by kernel_rfl) (fun _ _ _ h=>h) (Or.inl ⟨by rfl,?_⟩) hHeld ?_
  ·intro w hSw
   simp only[qg]
   go_simp
  simp only[Act.put,qs]
  refine wpAnyH_ready (rs:=[23]) (by kernel_rfl) (by simp) ?_
  refine AllReadyH.cons rfl (fun K hK=> ?_) AllReadyH.nil
  simp only[qg]
  rw[if_pos (by rfl)]
  refine wp_store_mid 36 _ _ (by rfl) w0.heap.size 0 C.toArray (by rfl) (by rfl) (there_block HZB.out (by simp[HL.out,zeroV_length])) (by simpa using HIF.out) HC.out.one ?_
  obtain⟨w3,hw3⟩:∃w3,w1.setCells w0.heap.size 0 C.toArray.toList=w3:=⟨_,rfl⟩
  rw[hw3]
  obtain⟨b,hb⟩:∃b,w0.heap.size=b:=⟨_,rfl⟩
  have HX3:Hid (Sx w w.heap.size (.slice (some ⟨g,0,none⟩) N cap) w3 [(b,C,s0)]):=Lib.hid (by rw[←hw3,←hb];exact(HX0.out.keeps HB1.out).put HZB.out zeroV_length HX0.out.below.size HC.out HL.out (fun x hx=>by simp at hx))
  have HB3:Hid (Below w0.heap.size w0 w3):=Lib.hid (by rw[←hw3];exact below_setCells (Nat.le_refl _) _ _ _ (HB1.out))
  have HBN:Hid (b≠w.heap.size+2):=Lib.hid (by have:=HB1.out.size;have:=HZS.out;omega)
  rw[hb]
  refine hK.out _ _ (KS.out _ HB3.out) (fun hHeld=> ?_)
  clear hK K hb hw3
  refine wpAnyH_ready (rs:=[24]) (by kernel_rfl) (by simp) ?_
  refine AllReadyH.cons rfl (fun K hK=> ?_) AllReadyH.nil
  simp only[qg]
  go_simp
  refine hK.out _ _ hHeld (fun hHeld=> ?_)
  clear hK K hHeld
  refine wpAnyH_done (by kernel_rfl) ?_ _
  go_wp2_with fail
  obtain⟨FA,fa,EA,ea,AA,aa,hci⟩:=(HX3.out.sts _ (.head _)).2.cin HM0.out HREG.out
  have HCI:=Lib.hid hci
  have r3:=HX3.out.range (.head _)
  have r2:w3.cell? ⟨b,2,none⟩=some (.slice FA 1 fa):=(HX3.out.cell (.head _) 2).trans (by rw[HCI.out.c2,HFL.out])
  have HR3:=Lib.hid ((HB3.out.block (w.heap.size+2) (by have:=HZS.out;omega)).trans HR1.out)
  clear hci
  refine wp_region_held_drew (S:=fun w' =>w'.rangeAt b 0 C∧w'.cell? ⟨b,2,none⟩=some (.slice FA 1 fa)) (by kernel_rfl) ⟨(World.rangeAt_drew _ _ _ _).2 r3,r2⟩ (fun hHeld=> ?_)
  refine' wpAnyH_take (i:=0) rfl (by kernel_rfl) (by kernel_rfl) (by kernel_rfl) (fun _ _ _ h=>h) (yieldsIf_load_mid (by rfl) 36 _ rfl b 0 rfl C _ (fun w hSw=>hSw.1) Tryd.underlying36 (by rfl) HIF.out) hHeld ?_
  simp only[Act.put,qs]
  refine wpAnyH_take (i:=1) (v:= .int .i64 0) rfl (by kernel_rfl) (by kernel_rfl) (by kernel_rfl) (fun _ _ _ h=>h) (Or.inl ⟨by rfl,?_⟩) hHeld ?_
  ·intro w hSw
   simp only[qg]
   go_simp
  simp only[Act.put,qs]
  refine wpAnyH_take (i:=2) (v:= .bool true) rfl (by kernel_rfl) (by kernel_rfl) (by kernel_rfl) (fun _ _ _ h=>h) (Or.inl ⟨by rfl,?_⟩) hHeld ?_
  ·intro w hSw
   simp only[qg]
   go_simp
  simp only[Act.put,qs]
  refine wpAnyH_take (i:=3) (v:= .bool true) rfl (by kernel_rfl) (by kernel_rfl) (by kernel_rfl) (fun _ _ _ h=>h) (Or.inl ⟨by rfl,?_⟩) hHeld ?_
  ·intro w hSw
   simp only[qg]
   go_simp
  simp only[Act.put,qs]
  refine wpAnyH_take (i:=4) (v:= .pointer (some ⟨b,2,none⟩)) rfl (by kernel_rfl) (by kernel_rfl) (by kernel_rfl) (fun _ _ _ h=>h) (Or.inl ⟨by rfl,?_⟩) hHeld ?_
  ·intro w hSw
   simp only[qg]
   go_simp
  simp only[Act.put,qs]
  refine wpAnyH_take (i:=5) (v:= .slice FA 1 fa) rfl (by kernel_rfl) (by kernel_rfl) (by kernel_rfl) (fun _ _ _ h=>h) (Or.inl ⟨by rfl,?_⟩) hHeld ?_
  ·intro w hSw
   have q1:=hSw.2
   simp only[qg]
   go_simp
  simp only[Act.put,qs]
  refine wpAnyH_take (i:=6) (v:= .int .i64 1) rfl (by kernel_rfl) (by kernel_rfl) (by kernel_rfl) (fun _ _ _ h=>h) (Or.inl ⟨by rfl,?_⟩) hHeld ?_
  ·intro w hSw
   simp only[qg]
   go_simp
  simp only[Act.put,qs]
  refine wpAnyH_take (i:=7) (v:= .bool true) rfl (by kernel_rfl) (by kernel_rfl) (by kernel_rfl) (fun _ _ _ h=>h) (Or.inl ⟨by rfl,?_⟩) hHeld ?_
  ·intro w hSw
   simp only[qg]
   go_simp
  simp only[Act.put,qs]
  refine wpAnyH_take (i:=8) (v:= .bool true) rfl (by kernel_rfl) (by kernel_rfl) (by kernel_rfl) (fun _ _ _ h=>h) (Or.inl ⟨by rfl,?_⟩) hHeld ?_
  ·intro w hSw
   simp only[qg]
   go_simp
  simp only[Act.put,qs]
  refine wpAnyH_ready (rs:=[9]) (by kernel_rfl) (by simp) ?_
  refine AllReadyH.cons rfl (fun K hK=> ?_) AllReadyH.nil
  simp only[qg]
  rw[if_pos (by rfl)]
  refine wp_store_mid 36 _ _ (by rfl) (w.heap.size+2) 0 C.toArray (by rfl) (by rfl) (there_block (n:=C.toArray.size) HR3.out (by simp[HL.out,zeroV_length])) (by simpa using HIF.out) HC.out.one ?_
  refine hK.out _ _ ⟨World.rangeAt_setCells_apart hHeld.1 _ _ _ (.inl HBN.out),(World.cell?_setCells_out _ _ _ _ _ (fun e _=>absurd e HBN.out)).trans hHeld.2⟩ (fun hHeld=> ?_)
  clear hK K
  refine wpAnyH_ready (rs:=[10]) (by kernel_rfl) (by simp) ?_
  refine AllReadyH.cons rfl (fun K hK=> ?_) AllReadyH.nil
  simp only[qg]
  go_simp
  refine hK.out _ _ hHeld (fun hHeld=> ?_)
  clear hK K hHeld
  refine wpAnyH_done (by kernel_rfl) ?_ _
  go_wp2_with fail
  have hrd:=run_loadVar_mid (P:=Tryd.prog) _ _ _ 36 C _ (World.rangeAt_setCells_same w3.drew (w.heap.size+2) 0 C (there_block (n:=C.length) HR3.out (by rw[HL.out];exact Nat.le_refl _))) Tryd.underlying36 (by rfl) HIF.out
  refine bodyPost_ret (v:= .tuple #[.agg C.toArray, .bool true]) (results_cell2 Tryd.results22 _ _ _ _ _ ?_ hrd) rfl ⟨⟨C,rfl,?_⟩,?_⟩
  ·rfl
  ·obtain⟨FS,ES,AS,h1,h2⟩:=(HX3.out.sts _ (.head _)).2
   exact⟨FS,ES,AS,h1,strows_setCells (w:=w3.drew) (by decide) (by decide) _ _ (h2.below (Below.refl _ _).drew) HR3.out⟩
  ·exact below_setCells (by simp) _ _ _ HX3.out.below.drew
end Go.Proofs.YtedcjapmmnbamaaDoor
