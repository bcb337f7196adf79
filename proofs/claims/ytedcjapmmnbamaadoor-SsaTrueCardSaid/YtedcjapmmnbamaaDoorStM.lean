/-
  How states lie in memory: frames, events, answers in rows; the engine's block. Facts on cells; what keeps it.
-/
import Derived.Test.YtedcjapmmnbamaaDoorFnS
import Derived.Test.YtedcjapmmnbamaaDoorRw
import Derived.Laws.OwnMore
import Derived.OneCell
import Derived.WalkSmall
import Derived.Deep.MidRow
namespace Go.Proofs.YtedcjapmmnbamaaDoor
open Go.RowKit Tier
def frCell(f:Fr):List Value:=[.int .i64 f.fn, .int .i64 f.pc]++f.regs.map (Value.int .i64)
def frCells(l:List Fr):List Value:=l.flatMap frCell
def intsV(l:List Int):List Value:=l.map (Value.int .i64)
def stCells(s:St)(FS ES AS:Value):List Value:=[.int .i64 s.status, .int .i64 s.value,FS]++intsV s.mem++[.int .i64 s.fuel,ES,AS]
theorem frCell_length{f:Fr}(h:f.regs.length=12):(frCell f).length=14:=by simp[frCell,h]
theorem frCells_length{l:List Fr}(h:∀f∈l,f.regs.length=12):(frCells l).length=l.length*14:=by
 induction l with
 |nil=>rfl
 |cons f l ih=>
  have h1:=frCell_length (h f (by simp))
  have h2:=ih (fun g hg=>h g (by simp[hg]))
  simp only[frCells,List.flatMap_cons,List.length_append,List.length_cons] at h2⊢
  rw[h1,h2];omega
theorem frCells_append(l m:List Fr):frCells (l++m)=frCells l++frCells m:=by simp[frCells]
theorem frCells_one(f:Fr):frCells [f]=frCell f:=by simp[frCells]
theorem frCells_get{l:List Fr}(h:∀f∈l,f.regs.length=12){i j:Nat}{f:Fr}(hf:l[i]? =some f)(hj:j<14):(frCells l)[i*14+j]? =(frCell f)[j]? :=by
 rw[frCells,flat_get frCell 14 l (fun x hx=>frCell_length (h x hx)) i j hj,hf];rfl
theorem frCell_reg{f:Fr}(h:f.regs.length=12){r:Int}(h0:0≤r)(h1:r<12):(frCell f)[2+r.toNat]? =some (.int .i64 (f.reg r)):=by
 unfold frCell Fr.reg
 rw[List.getElem?_append_right (by simp)]
 simp only[List.length_cons,List.length_nil,Nat.zero_add,Nat.reduceAdd,Nat.add_sub_cancel_left,List.getElem?_map]
 rw[gD,gE (by omega)]
 rfl
theorem stCells_length{s:St}(h:s.mem.length=16)(FS ES AS:Value):(stCells s FS ES AS).length=22:=by simp[stCells,intsV,h]
def NumAt(w:World)(B:Nat)(v:Value)(l:List Int):Prop:=
 ∃A cap,v= .slice A l.length cap∧l.length≤cap∧(0<l.length→∃b o cur,A=some ⟨b,o,none⟩∧B≤b∧w.heap[b]? =some (.cells cur 3 (0,0))∧∀(i:Nat) (x:Int),l[i]? =some x→cur[o+i]? =some (.int .i64 x))
structure StRows(w:World)(B:Nat)(s:St)(FS ES AS:Value):Prop where
 fr:w.ownsRow B 42 14 FS s.frames.length (frCells s.frames)
 ev:w.ownsRow B 3 1 ES s.events.length (intsV s.events)
 an:NumAt w B AS s.answers
 ne:0<s.answers.length→∀k,ES.ownBlock=some k→AS.ownBlock≠some k
section
variable {w w' :World}{B:Nat}{v:Value}{l:List Int}{s:St}{FS ES AS:Value}
theorem NumAt.keeps(h:NumAt w B v l)(hb:∀(k:Nat) (o:Obj),w.heap[k]? =some o→w'.heap[k]? =some o):NumAt w' B v l:=by
 obtain⟨A,cap,h1,h2,h3⟩:=h
 refine⟨A,cap,h1,h2,fun hl=> ?_⟩
 obtain⟨b,o,cur,h4,h5,h6,h7⟩:=h3 hl
 exact⟨b,o,cur,h4,h5,hb b _ h6,h7⟩
theorem NumAt.keeps1(h:NumAt w B v l)(hb:∀(k:Nat) (o:Obj),v.ownBlock=some k→w.heap[k]? =some o→w'.heap[k]? =some o):NumAt w' B v l:=by
 obtain⟨A,cap,h1,h2,h3⟩:=h
 refine⟨A,cap,h1,h2,fun hl=> ?_⟩
 obtain⟨b,o,cur,h4,h5,h6,h7⟩:=h3 hl
 exact⟨b,o,cur,h4,h5,hb b _ (by rw[h1,h4];rfl) h6,h7⟩
theorem below_block{B:Nat}(hb:Below B w w'){k:Nat}(hk:k<B){o:Obj}(h:w.heap[k]? =some o):w'.heap[k]? =some o:=(hb.block k hk).trans h
theorem NumAt.below(h:NumAt w B v l)(hb:Below w.heap.size w w'):NumAt w' B v l:=h.keeps fun k _o hk=>(hb.block k (Array.getElem?_eq_some_iff.1 hk).1).trans hk
theorem NumAt.base{B' :Nat}(h:NumAt w B v l)(hB:B' ≤B):NumAt w B' v l:=by
 obtain⟨A,cap,h1,h2,h3⟩:=h
 refine⟨A,cap,h1,h2,fun hl=> ?_⟩
 obtain⟨b,o,cur,h4,h5,h6,h7⟩:=h3 hl
 exact⟨b,o,cur,h4,by omega,h6,h7⟩
theorem own_base0{B B' :Nat}{e:TypeId}{size:Nat}{v:Value}{n:Nat}{xs:List Value}(h:w.ownsRow B e size v n xs)(hB:B' ≤B):w.ownsRow B' e size v n xs:=by
 obtain⟨h1,h2⟩:=h
 refine⟨h1,?_⟩
 rcases h2 with h2|⟨g,cap,cur,hv,hg,r⟩
 ·exact .inl h2
 ·exact .inr ⟨g,cap,cur,hv,Nat.le_trans hB hg,r⟩
theorem StRows.below(h:StRows w B s FS ES AS)(hb:Below w.heap.size w w'):StRows w' B s FS ES AS:=⟨own_below h.fr hb,own_below h.ev hb,h.an.below hb,h.ne⟩
theorem StRows.base{B' :Nat}(h:StRows w B s FS ES AS)(hB:B' ≤B):StRows w B' s FS ES AS:=⟨own_base0 h.fr hB,own_base0 h.ev hB,h.an.base hB,h.ne⟩
theorem num_own(h:w.ownsRow B 3 1 v l.length (intsV l)):NumAt w B v l:=by
 rcases h.2 with⟨rfl,h0⟩|⟨g,cap,cur,rfl,hg,hh,hn,hc,hs,ht⟩
 ·exact⟨none,0,by rw[h0],by omega,by omega⟩
 ·refine⟨_,cap,rfl,hn,fun _=>⟨g,0,cur,rfl,hg,hh,fun i x hx=> ?_⟩⟩
  have hi:i<l.length:=(gI.1 hx).1
  have:=congrArg (·[i]?) ht
  simp only[List.getElem?_take,Nat.mul_one,if_pos hi,intsV,List.getElem?_map,hx,Option.map_some] at this
  rw[Nat.zero_add]
  simpa using this
theorem fr_slice(h:w.ownsRow B 42 14 FS s.frames.length (frCells s.frames)){f:Fr}{i:Nat}(hf:s.frames[i]? =some f):
 ∃g cap,FS= .slice (some ⟨g,0,none⟩) s.frames.length cap∧B≤g∧g<w.heap.size∧s.frames.length≤cap∧∀j,j<s.frames.length*14→w.cell? ⟨g,j,none⟩=(frCells s.frames)[j]? :=by
 have hi:i<s.frames.length:=(gI.1 hf).1
 rcases h.2 with⟨-,h0⟩|⟨g,cap,cur,rfl,hg,hh,hn,hc,hs,ht⟩
 ·omega
 ·exact⟨g,cap,rfl,hg,(Array.getElem?_eq_some_iff.1 hh).1,hn,fun j hj=>h.cellAt j hj⟩
end
structure EngAt(w0 w:World)(E:Nat)(pv:Value)(s:St)(FS ES AS:Value):Prop where
 blk:w.heap[E]? =some (.cells (stCells s FS ES AS++[pv]).toArray 124 (0,0))
 rows:StRows w w0.heap.size s FS ES AS
 base:w0.heap.size≤E
 below:Below w0.heap.size w0 w
def StVal(w:World)(B:Nat)(v:Value)(s:St):Prop:=∃FS ES AS,v= .agg (stCells s FS ES AS).toArray∧StRows w B s FS ES AS
theorem StVal.below{w w' :World}{B:Nat}{v:Value}{s:St}(h:StVal w B v s)(hb:Below w.heap.size w w'):StVal w' B v s:=by
 obtain⟨FS,ES,AS,h1,h2⟩:=h
 exact⟨FS,ES,AS,h1,h2.below hb⟩
end Go.Proofs.YtedcjapmmnbamaaDoor
