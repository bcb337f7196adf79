/-
  The memory of a run that is followed: the state in its box, what values are, which are made.
-/
import Derived.Test.YtedcjapmmnbamaaDoorTwP
import Derived.Test.YtedcjapmmnbamaaDoorOpI
namespace Go.Proofs.YtedcjapmmnbamaaDoor
open Go.RowKit Tier
theorem FinP.few0{p:List Fnc}{F:Fnc}{O:List Nat}{bs:List BR}{s:SB}{vals:Nat}{g:Nat→Nat}{c:Nat→Nat→Nat}(hf:FinP p F O bs s vals g c)(hp:F.params.toNat≤12)(hb:bs.length≤40)(hl:∀i,i<bs.length→(s.part i).ins.length≤40):vals≤10000:=by
 have hc:∀i,i<bs.length→∀t,t≤(s.part i).ins.length→c i t≤t:=fun i hi t=>by
  induction t with
  |zero=>intro _;rw[hf.c0];exact Nat.le_refl _
  |succ t ih=>
   intro ht
   have h1:=hf.iid i t hi (by omega)
   have h2:=ih (by omega)
   by_cases e:0≤(s.insA i t).id
   ·have:=(h1.1 e).2;omega
   ·have:=h1.2 (by omega);omega
 have hg:∀i,i≤bs.length→g i≤52*i:=fun i=>by
  induction i with
  |zero=>intro _;rw[hf.g0];omega
  |succ i ih=>
   intro hi
   have h1:=ih (by omega)
   have h2:=hf.gs i (by omega)
   have h3:=hf.phl i (by omega)
   have h4:=hc i (by omega) _ (Nat.le_refl _)
   have h5:=hl i (by omega)
   omega
 have:=hg bs.length (Nat.le_refl _)
 rw[hf.vals];omega
theorem BuiltX.few0{p:List Fnc}{F:Fnc}{O:List Nat}{bs:List BR}{K:Nat}{s1 s2 s:SB}{l:List Int}(h:BuiltX p F O bs K s1 s2 l s):valN F bs s2 l≤10000∧∀i,i<bs.length→0<(s.part i).ins.length∧(s.part i).ins.length≤40:=by
 have hR:=right_of h.hk
 have hfo:=hR.ok.fn F h.hF
 have hb:=h.b.bok.len
 have hH:bs.length≤40:=bs_le h.hk h.hF h.b.bok
 have key:∀i,i<bs.length→0<(s.part i).ins.length∧(s.part i).ins.length≤40:=fun i hi=>by
  rw[h.finP.il i hi]
  have h1:=toF_spec hR h.hF (hdA_mem2 (show i<(hdL F).length by rw[←hb];exact hi)).1
  have h2:=h1.1
  have h3:=h1.2.1
  have:=hfo.c2
  omega
 exact⟨h.finP.few0 (by have h1:=hfo.p1;have h2:=hfo.p2;omega) hH (fun i hi=>(key i hi).2),key⟩
def BoolsB(w:World)(b:Nat)(l:List Bool):Prop:=w.heap[b]? =some (.cells (l.map Value.bool).toArray 4 (0,0))
theorem BoolsB.lt{w:World}{b:Nat}{l:List Bool}(h:BoolsB w b l):b<w.heap.size:=block_lt h
theorem BoolsB.cell{w:World}{b:Nat}{l:List Bool}(h:BoolsB w b l){i:Nat}(hi:i<l.length):w.cell? ⟨b,i,none⟩=some (.bool (l.getD i false)):=by
 refine(cell_block h _).trans (List.getElem?_toArray.trans ?_)
 rw[List.getElem?_map,gD,gE hi];rfl
theorem BoolsB.set{w:World}{b:Nat}{l:List Bool}(h:BoolsB w b l)(i:Nat)(v:Bool):BoolsB (w.setCell ⟨b,i,none⟩ (.bool v)) b (l.set i v):=by
 have:=block_set h i (.bool v)
 unfold BoolsB
 rw[this]
 simp[List.map_set]
theorem IntsB.getC{w:World}{b:Nat}{l:List Int}(h:IntsB w b l){i:Nat}(hi:i<l.length):w.cell? ⟨b,i,none⟩=some (.int .i64 (l.getD i 0)):=by
 refine(cell_block h _).trans (List.getElem?_toArray.trans ?_)
 rw[List.getElem?_map,gD,gE hi];rfl
theorem IntsB.setC{w:World}{b:Nat}{l:List Int}(h:IntsB w b l)(i:Nat)(v:Int):IntsB (w.setCell ⟨b,i,none⟩ (.int .i64 v)) b (l.set i v):=by
 have:=block_set h i (.int .i64 v)
 unfold IntsB
 rw[this]
 simp[List.map_set]
def StA(C:List Value)(W:World)(B g1 g2:Nat)(s:St):Prop:=∃FS ES AS,C=stCells s FS ES AS∧StRows W B s FS ES AS∧∀k,(FS.ownBlock=some k∨ES.ownBlock=some k∨(0<s.answers.length∧AS.ownBlock=some k))→B≤k∧k<W.heap.size∧k≠g1∧k≠g2
section
variable {C:List Value}{W W' :World}{B g1 g2:Nat}{s:St}
theorem StA.cells(h:StA C W B g1 g2 s):CellsSt C W B s:=by
 obtain⟨FS,ES,AS,h1,h2,-⟩:=h
 exact⟨FS,ES,AS,h1,h2⟩
theorem rows_at{FS ES AS:Value}(h:StRows W B s FS ES AS){k:Nat}(hk:FS.ownBlock=some k∨ES.ownBlock=some k∨(0<s.answers.length∧AS.ownBlock=some k)):B≤k∧k<W.heap.size:=by
 rcases hk with hk|hk|⟨h0,hk⟩
 ·exact World.ownsRow.lt h.fr k hk
 ·exact World.ownsRow.lt h.ev k hk
 ·obtain⟨A,cap,h1,-,h3⟩:=h.an
  obtain⟨b,o,cur,rfl,h5,h6,-⟩:=h3 h0
  rw[h1] at hk
  have e:b=k:=by simpa [Value.ownBlock] using hk
  subst e
  exact⟨h5,block_lt h6⟩
theorem StA.new(h:CellsSt C W B s)(h1:g1<B)(h2:g2<B):StA C W B g1 g2 s:=by
 obtain⟨FS,ES,AS,e,hr⟩:=h
 exact⟨FS,ES,AS,e,hr,fun k hk=>by have:=rows_at hr hk;exact⟨this.1,this.2,by omega,by omega⟩⟩
theorem StA.old(h:CellsSt C W B s)(h1:W.heap.size≤g1)(h2:W.heap.size≤g2):StA C W B g1 g2 s:=by
 obtain⟨FS,ES,AS,e,hr⟩:=h
 exact⟨FS,ES,AS,e,hr,fun k hk=>by have:=rows_at hr hk;exact⟨this.1,this.2,by omega,by omega⟩⟩
theorem StA.base{B' :Nat}(h:StA C W B g1 g2 s)(hB:B' ≤B):StA C W B' g1 g2 s:=by
 obtain⟨FS,ES,AS,e,hr,hk⟩:=h
 exact⟨FS,ES,AS,e,hr.base hB,fun k hh=>by have:=hk k hh;exact⟨by omega,this.2⟩⟩
theorem StA.same(h:StA C W B g1 g2 s)(hs:W.heap.size≤W'.heap.size)(hk:∀k,B≤k→k<W.heap.size→k≠g1→k≠g2→W'.heap[k]? =W.heap[k]?):StA C W' B g1 g2 s:=by
 obtain⟨FS,ES,AS,e,hr,ha⟩:=h
 have key:∀k,(FS.ownBlock=some k∨ES.ownBlock=some k∨(0<s.answers.length∧AS.ownBlock=some k))→W'.heap[k]? =W.heap[k]? :=fun k hh=>by
  obtain⟨a1,a2,a3,a4⟩:=ha k hh
  exact hk k a1 a2 a3 a4
 refine⟨FS,ES,AS,e,⟨own_of hr.fr (fun b hb=>key b (.inl hb)),own_of hr.ev (fun b hb=>key b (.inr (.inl hb))),?_,hr.ne⟩,fun k hh=>by obtain⟨a1,a2,a3⟩:=ha k hh;exact⟨a1,by omega,a3⟩⟩
 obtain⟨A,cap,h1,h2,h3⟩:=hr.an
 refine⟨A,cap,h1,h2,fun h0=> ?_⟩
 obtain⟨b,o,cur,h4,h5,h6,h7⟩:=h3 h0
 exact⟨b,o,cur,h4,h5,(key b (.inr (.inr ⟨h0,by rw[h1,h4];rfl⟩))).trans h6,h7⟩
end
structure FW(w0 w1 W W' :World):Prop where
 base:Below w0.heap.size W W'
 own:∀k,w1.heap.size≤k→k<W.heap.size→W'.heap[k]? =W.heap[k]?
theorem FW.of{w0 w1 W W' :World}(hb:Below W.heap.size W W')(h:w0.heap.size≤W.heap.size):FW w0 w1 W W' :=⟨hb.mono h,fun k _ hk=>hb.block k hk⟩
structure FoM(w0 w1 w5 W:World)(bS ge gm:Nat)(C:List Value)(s:St)(E:List Int)(D:List Bool):Prop where
 base:Below w0.heap.size w0 W
 size:w5.heap.size≤W.heap.size
 kept:∀k,w1.heap.size≤k→k<w5.heap.size→k≠bS→k≠ge→k≠gm→W.heap[k]? =w5.heap[k]?
 box:W.heap[bS]? =some (.cells C.toArray 36 (0,0))
 st:StA C W w1.heap.size ge gm s
 env:IntsB W ge E
 made:BoolsB W gm D
structure FoA(w0 w1 w5:World)(bS ge gm:Nat):Prop where
 l0:w0.heap.size≤w1.heap.size
 l1:w1.heap.size≤bS
 l2:bS<ge
 l3:ge<gm
 l4:gm<w5.heap.size
section
variable {w0 w1 w5 W W' :World}{bS ge gm B g1 g2:Nat}{C:List Value}{s:St}{E:List Int}{D:List Bool}
theorem FoM.keeps(h:FoM w0 w1 w5 W bS ge gm C s E D)(hb:Below W.heap.size W W'):FoM w0 w1 w5 W' bS ge gm C s E D:=
 ⟨h.base.trans (hb.mono h.base.size),Nat.le_trans h.size hb.size,fun k h1 h2 h3 h4 h5=>(hb.block k (Nat.lt_of_lt_of_le h2 h.size)).trans (h.kept k h1 h2 h3 h4 h5),(hb.block _ (block_lt h.box)).trans h.box,h.st.same hb.size (fun k _ hk _ _=>hb.block k hk),(hb.block _ (block_lt h.env)).trans h.env,(hb.block _ (block_lt h.made)).trans h.made⟩
theorem FoM.watch(h:FoM w0 w1 w5 W bS ge gm C s E D)(a:FoA w0 w1 w5 bS ge gm)(hf:FW w0 w1 W W'):FoM w0 w1 w5 W' bS ge gm C s E D:=by
 obtain⟨l0,l1,l2,l3,l4⟩:=a
 have hs:=hf.base.size
 have h5:=h.size
 exact⟨h.base.trans hf.base,Nat.le_trans h.size hs,fun k h1 h2 h3 h4 h5=>(hf.own k h1 (by omega)).trans (h.kept k h1 h2 h3 h4 h5),(hf.own _ l1 (block_lt h.box)).trans h.box,h.st.same hs (fun k hB hk _ _=>hf.own k hB hk),(hf.own _ (by omega) (block_lt h.env)).trans h.env,(hf.own _ (by omega) (block_lt h.made)).trans h.made⟩
theorem heap_ne(w:World){b k:Nat}(h:k≠b)(i:Nat)(v:Value):(w.setCell ⟨b,i,none⟩ v).heap[k]? =w.heap[k]? :=by
 have hs:(w.setCell ⟨b,i,none⟩ v).heap.size=w.heap.size:=by simp
 by_cases hk:k<w.heap.size
 ·rw[Array.getElem?_eq_getElem hk]
  exact block_set_ne (Array.getElem?_eq_getElem hk) (fun e=>h e.symm) i v
 ·rw[Array.getElem?_eq_none (by omega),Array.getElem?_eq_none (by omega)]
theorem FoM.setE(h:FoM w0 w1 w5 W bS ge gm C s E D)(a:FoA w0 w1 w5 bS ge gm)(i:Nat)(v:Int):FoM w0 w1 w5 (W.setCell ⟨ge,i,none⟩ (.int .i64 v)) bS ge gm C s (E.set i v) D:=by
 obtain⟨l0,l1,l2,l3,l4⟩:=a
 refine⟨h.base.setCell (by show _≤ge;omega) _,by simpa using h.size,fun k h1 h2 h3 h4 h5=>(heap_ne W h4 i _).trans (h.kept k h1 h2 h3 h4 h5),(heap_ne W (by omega) i _).trans h.box,h.st.same (by simp) (fun k _ _ hk _=>heap_ne W hk i _),h.env.setC i v,(heap_ne W (by omega) i _).trans h.made⟩
theorem FoM.setD(h:FoM w0 w1 w5 W bS ge gm C s E D)(a:FoA w0 w1 w5 bS ge gm)(i:Nat)(v:Bool):FoM w0 w1 w5 (W.setCell ⟨gm,i,none⟩ (.bool v)) bS ge gm C s E (D.set i v):=by
 obtain⟨l0,l1,l2,l3,l4⟩:=a
 refine⟨h.base.setCell (by show _≤gm;omega) _,by simpa using h.size,fun k h1 h2 h3 h4 h5=>(heap_ne W h5 i _).trans (h.kept k h1 h2 h3 h4 h5),(heap_ne W (by omega) i _).trans h.box,h.st.same (by simp) (fun k _ _ _ hk=>heap_ne W hk i _),(heap_ne W (by omega) i _).trans h.env,h.made.set i v⟩
theorem heaps_ne{b k:Nat}(h:k≠b)(w:World)(vs:List Value)(i:Nat):(w.setCells b i vs).heap[k]? =w.heap[k]? :=by
 have hs:(w.setCells b i vs).heap.size=w.heap.size:=size_setCells b vs w i
 by_cases hk:k<w.heap.size
 ·rw[Array.getElem?_eq_getElem hk]
  exact block_setCells_ne vs (Array.getElem?_eq_getElem hk) (fun e=>h e.symm) i
 ·rw[Array.getElem?_eq_none (by omega),Array.getElem?_eq_none (by omega)]
theorem FoM.next(h:FoM w0 w1 w5 W bS ge gm C s E D)(a:FoA w0 w1 w5 bS ge gm){W9:World}{C2:List Value}{s2:St}(hb:Below W.heap.size W W9)(hC:CellsSt C2 W9 W.heap.size s2)(hl:C.length=C2.length):FoM w0 w1 w5 (W9.setCells bS 0 C2) bS ge gm C2 s2 E D:=by
 have h9:=h.keeps hb
 obtain⟨l0,l1,l2,l3,l4⟩:=a
 have h5:=h.size
 refine⟨below_setCells (by omega) _ _ _ h9.base,by rw[size_setCells];exact h9.size,fun k h1 h2 h3 h4 h5=>(heaps_ne h3 W9 C2 0).trans (h9.kept k h1 h2 h3 h4 h5),block_full h9.box C2 (by simp[hl]),((StA.new hC (g1:=ge) (g2:=gm) (by omega) (by omega)).same (W' :=W9.setCells bS 0 C2) (by rw[size_setCells];exact Nat.le_refl _) (fun k hk _ _ _=>heaps_ne (by omega) W9 C2 0)).base (by omega),(heaps_ne (by omega) W9 C2 0).trans h9.env,(heaps_ne (by omega) W9 C2 0).trans h9.made⟩
theorem StA.setE(h:StA C W B g1 g2 s)(i:Nat)(v:Value):StA C (W.setCell ⟨g1,i,none⟩ v) B g1 g2 s:=h.same (by simp) (fun k _ _ hk _=>heap_ne W hk i v)
theorem StA.setD(h:StA C W B g1 g2 s)(i:Nat)(v:Value):StA C (W.setCell ⟨g2,i,none⟩ v) B g1 g2 s:=h.same (by simp) (fun k _ _ _ hk=>heap_ne W hk i v)
theorem FoM.put(h:FoM w0 w1 w5 W bS ge gm C s E D)(a:FoA w0 w1 w5 bS ge gm){C2:List Value}{s2:St}(hB:bS<B)(hC:StA C2 W B ge gm s2)(hl:C.length=C2.length):FoM w0 w1 w5 (W.setCells bS 0 C2) bS ge gm C2 s2 E D:=by
 obtain⟨l0,l1,l2,l3,l4⟩:=a
 exact⟨below_setCells (by omega) _ _ _ h.base,by rw[size_setCells];exact h.size,fun k h1 h2 h3 h4 h5=>(heaps_ne h3 W C2 0).trans (h.kept k h1 h2 h3 h4 h5),block_full h.box C2 (by simp[hl]),(hC.same (W' :=W.setCells bS 0 C2) (by rw[size_setCells];exact Nat.le_refl _) (fun k hk _ _ _=>heaps_ne (by omega) W C2 0)).base (by omega),(heaps_ne (by omega) W C2 0).trans h.env,(heaps_ne (by omega) W C2 0).trans h.made⟩
theorem FoM.cell(h:FoM w0 w1 w5 W bS ge gm C s E D)(i:Nat):W.cell? ⟨bS,i,none⟩=C[i]? :=(cell_block h.box i).trans List.getElem?_toArray
theorem FoM.sb(h:FoM w0 w1 w5 W bS ge gm C s E D)(a:FoA w0 w1 w5 bS ge gm){wB:World}{b:Nat}{c:SC}{z:SB}{V:SK→Value}(hz:SbAt wB b c z V)(h1:bS<b)(hb:Below wB.heap.size wB w5)(h2:wB.heap.size≤ge):SbAt W b c z V:=by
 obtain⟨l0,l1,l2,l3,l4⟩:=a
 have key:∀k,b≤k→k<wB.heap.size→W.heap[k]? =wB.heap[k]? :=fun k hk hl=>(h.kept k (by omega) (by have:=hb.size;omega) (by omega) (by omega) (by omega)).trans (hb.block k hl)
 exact⟨(key b (Nat.le_refl _) (block_lt hz.box)).trans hz.box,hz.own.same fun k hk hl _=>key k (by omega) hl⟩
theorem FoM.bl(h:FoM w0 w1 w5 W bS ge gm C s E D)(a:FoA w0 w1 w5 bS ge gm){wB:World}{g B:Nat}{bs:List BR}(hz:BlkB wB g B bs)(h1:bS<g)(hb:Below wB.heap.size wB w5)(h2:wB.heap.size≤ge):BlkB W g B bs:=by
 obtain⟨l0,l1,l2,l3,l4⟩:=a
 have key:∀k,g≤k→k<wB.heap.size→W.heap[k]? =wB.heap[k]? :=fun k hk hl=>(h.kept k (by omega) (by have:=hb.size;omega) (by omega) (by omega) (by omega)).trans (hb.block k hl)
 have hlt:=hz.lt
 exact⟨(key g (Nat.le_refl _) (block_lt hz.blk)).trans hz.blk,⟨fun q r c hq=>own_of (hz.rows.own q r c hq) fun k hk=>by have:=hz.rows.lt hq c k hk;exact key k (by omega) this.2,hz.rows.ap⟩,hz.lt⟩
theorem FoM.old(h:FoM w0 w1 w5 W bS ge gm C s E D){k:Nat}{o:Obj}(hk:w5.heap[k]? =some o)(h1:w1.heap.size≤k)(h2:k≠bS)(h3:k≠ge)(h4:k≠gm):W.heap[k]? =some o:=
 (h.kept k h1 (block_lt hk) h2 h3 h4).trans hk
end
theorem fr_reg(f:Fr){i:Nat}(hi:i<f.regs.length):(frCell f)[2+i]? =some (.int .i64 (f.regs.getD i 0)):=by
 unfold frCell
 rw[List.getElem?_append_right (by simp),List.getElem?_map,gD]
 simp only[List.length_cons,List.length_nil,Nat.zero_add,Nat.reduceAdd,Nat.add_sub_cancel_left]
 rw[gE hi];rfl
theorem make_envN(N:Nat)(hN:N≤10000)(w:World):(Instr.makeSlice 24 (.int .i64 (N:Int)) (.int .i64 (N:Int))).run Tryd.prog w= .ok (.slice (some ⟨w.heap.size,0,none⟩) N N) (w.alloc (.cells (madeCells #[.int .i64 0] N) 3)):=by
 have:=run_make_row' (P:=Tryd.prog) 24 3 (.int .i64 0) 8 Tryd.underlying24 infoInt rfl .i64 .i64 N (by omega) (by omega) w
 exact this
theorem infoBool2:(Tryd.prog.info? 4).map (fun i=>(i.zero,i.size,i.bytes))=some (some (.bool false),1,1):=by kernel_rfl
theorem make_madeN(N:Nat)(hN:N≤10000)(w:World):(Instr.makeSlice 32 (.int .i64 (N:Int)) (.int .i64 (N:Int))).run Tryd.prog w= .ok (.slice (some ⟨w.heap.size,0,none⟩) N N) (w.alloc (.cells (madeCells #[.bool false] N) 4)):=by
 have:=run_make_row' (P:=Tryd.prog) 32 4 (.bool false) 1 Tryd.underlying32 infoBool2 rfl .i64 .i64 N (by omega) (by omega) w
 exact this
theorem made_boolsF(w:World)(n:Nat):BoolsB (w.alloc (.cells (madeCells #[.bool false] n) 4)) w.heap.size (List.replicate n false):=by
 unfold BoolsB
 rw[heap_alloc_new]
 congr 2
 apply Array.ext_getElem?
 intro i
 simp only[madeCells,List.map_replicate]
 by_cases h:i<n
 ·simp[h,Nat.mod_one]
 ·simp[h]
end Go.Proofs.YtedcjapmmnbamaaDoor
