import Derived.Test.YtedcjapmmnbamaaDoorSsP
import Derived.Test.YtedcjapmmnbamaaDoorSsO
import Derived.Test.YtedcjapmmnbamaaDoorFnS
namespace Go.Proofs.YtedcjapmmnbamaaDoor
open Go.RowKit Tier
theorem infoPart:(Tryd.prog.info? 75).map (fun i=>(i.zero,i.size,i.bytes))=some (some (.agg #[.int .i64 0, .slice none 0 0, .slice none 0 0, .int .i64 0, .int .i64 0, .int .i64 0, .int .i64 0, .int .i64 0, .int .i64 0, .int .i64 0, .int .i64 0, .int .i64 0, .int .i64 0, .int .i64 0, .int .i64 0]),15,152):=by kernel_rfl
theorem infoReg:(Tryd.prog.info? 40).map (fun i=>(i.zero,i.size,i.bytes))=some (some (.agg #[.int .i64 0, .int .i64 0, .int .i64 0, .int .i64 0, .int .i64 0, .int .i64 0, .int .i64 0, .int .i64 0, .int .i64 0, .int .i64 0, .int .i64 0, .int .i64 0]),12,96):=by kernel_rfl
def zR:List Int:=List.replicate 12 0
def zPart:PartS:=⟨0,[],[],zR⟩
theorem zPart_cells:zPart.cells (.slice none 0 0) (.slice none 0 0)=[.int .i64 0, .slice none 0 0, .slice none 0 0, .int .i64 0, .int .i64 0, .int .i64 0, .int .i64 0, .int .i64 0, .int .i64 0, .int .i64 0, .int .i64 0, .int .i64 0, .int .i64 0, .int .i64 0, .int .i64 0]:=rfl
theorem made_flat(z:Array Value)(n m:Nat)(hm:m=z.size):madeCells z (n*m)=((List.range n).flatMap fun _=>z.toList).toArray:=by
 subst hm
 apply Array.ext_getElem?
 intro i
 by_cases h0:z.size=0
 ·have e1:((List.range n).flatMap fun _=>z.toList)=[]:=by
   rw[List.flatMap_eq_nil_iff]
   intro x _
   exact List.eq_nil_of_length_eq_zero (by simpa using h0)
  rw[e1]
  unfold madeCells
  rw[h0]
  simp
 by_cases hi:i<n*z.size
 ·have hd:=Nat.div_add_mod i z.size
  have hmm:=Nat.mod_lt i (by omega:0<z.size)
  have hq:i / z.size<n:=Nat.div_lt_of_lt_mul (by rw[Nat.mul_comm];exact hi)
  have h1:=flat_at (f:=fun _=>z.toList) (m:=n) (n:=z.size) (i:=i / z.size) (t:=i % z.size) (fun _ _=>by simp) hq hmm
  rw[show i / z.size*z.size+i % z.size=i by rw[Nat.mul_comm];exact hd] at h1
  have e1:((List.range n).flatMap fun _=>z.toList).toArray[i]? =z.toList[i % z.size]? :=by rw[List.getElem?_toArray];exact h1
  rw[e1]
  unfold madeCells
  rw[Array.getElem?_map,Array.getElem?_range,if_pos hi]
  simp only[Option.map_some]
  rw[getElem!_pos z (i % z.size) hmm,Array.getElem?_toList,Array.getElem?_eq_getElem hmm]
 ·have hl:=flat_len (f:=fun _=>z.toList) (m:=n) (n:=z.size) (fun _ _=>by simp)
  rw[Array.getElem?_eq_none (by rw[size_madeCells];omega),Array.getElem?_eq_none (by rw[List.size_toArray,hl];omega)]
def nilV:Value:= .slice none 0 0
theorem made_parts(n:Nat):madeCells #[.int .i64 0, .slice none 0 0, .slice none 0 0, .int .i64 0, .int .i64 0, .int .i64 0, .int .i64 0, .int .i64 0, .int .i64 0, .int .i64 0, .int .i64 0, .int .i64 0, .int .i64 0, .int .i64 0, .int .i64 0] (n*15)=(partsCells (List.replicate n zPart) (fun _=>nilV) (fun _=>nilV)).toArray:=by
 refine(made_flat _ n 15 rfl).trans ?_
 congr 1
 unfold partsCells
 rw[List.length_replicate]
 refine(flat_same fun i hi=> ?_).symm
 rw[gD,List.getElem?_replicate,if_pos hi];rfl
theorem made_regs(n:Nat):madeCells #[.int .i64 0, .int .i64 0, .int .i64 0, .int .i64 0, .int .i64 0, .int .i64 0, .int .i64 0, .int .i64 0, .int .i64 0, .int .i64 0, .int .i64 0, .int .i64 0] (n*12)=(regCells (List.replicate n zR)).toArray:=by
 refine(made_flat _ n 12 rfl).trans ?_
 congr 1
 unfold regCells
 rw[List.length_replicate]
 refine(flat_same fun i hi=> ?_).symm
 rw[gD,List.getElem?_replicate,if_pos hi];rfl
theorem make_parts(N:Nat)(hN:N≤40)(w:World):(Instr.makeSlice 48 (.int .i64 (N:Int)) (.int .i64 (N:Int))).run Tryd.prog w= .ok (.slice (some ⟨w.heap.size,0,none⟩) N N) (w.alloc (.cells (partsCells (List.replicate N zPart) (fun _=>nilV) (fun _=>nilV)).toArray 75)):=by
 obtain⟨i,hi,hzz⟩:=Option.map_eq_some_iff.1 infoPart
 simp only[Prod.mk.injEq] at hzz
 obtain⟨hz,hs,hb⟩:=hzz
 have hr:=run_make (P:=Tryd.prog) w 48 75 i _ Tryd.underlying48 hi hz .i64 .i64 N N (by omega) (Int.le_refl _) (by rw[hb];omega) (by omega)
 simp only[Int.toNat_natCast,hs] at hr
 rw[←made_parts]
 exact hr
theorem make_regs(N:Nat)(hN:N≤40)(w:World):(Instr.makeSlice 96 (.int .i64 (N:Int)) (.int .i64 (N:Int))).run Tryd.prog w= .ok (.slice (some ⟨w.heap.size,0,none⟩) N N) (w.alloc (.cells (regCells (List.replicate N zR)).toArray 40)):=by
 obtain⟨i,hi,hzz⟩:=Option.map_eq_some_iff.1 infoReg
 simp only[Prod.mk.injEq] at hzz
 obtain⟨hz,hs,hb⟩:=hzz
 have hr:=run_make (P:=Tryd.prog) w 96 40 i _ Tryd.underlying96 hi hz .i64 .i64 N N (by omega) (Int.le_refl _) (by rw[hb];omega) (by omega)
 simp only[Int.toNat_natCast,hs] at hr
 rw[←made_regs]
 exact hr
def sb0:SB:=⟨[],[],[],[]⟩
def vn:SK→Value:=fun _=>nilV
theorem SbAt.start(w:World)(c:SC):SbAt (w.alloc (.cells (c.cells vn).toArray 98)) w.heap.size c sb0 vn:=by
 refine⟨heap_alloc_new _ _,⟨fun k=> ?_,fun j k hjk g hg=> ?_⟩⟩
 ·cases k<;>exact World.ownsRow_nil _ _ _ _
 ·rw[rowsOf_v] at hg;simp[vn,nilV,Value.ownBlock] at hg
theorem SbAt.mkParts{w:World}{b:Nat}{c:SC}(h:SbAt w b c sb0 vn)(n:Nat)(hn:n≤40)(op:Int):
 SbAt ((w.alloc (.cells (partsCells (List.replicate n zPart) (fun _=>nilV) (fun _=>nilV)).toArray 75)).setCells b 7 [.int .i64 op, .int .i64 0, .slice (some ⟨w.heap.size,0,none⟩) n n]) b {c with op:=op,ov:=0} ⟨[],[],[],List.replicate n zPart⟩ (putV vn .parts (.slice (some ⟨w.heap.size,0,none⟩) n n)):=by
 have hbl:=h.lt
 have hl:(partsCells (List.replicate n zPart) (fun _=>nilV) (fun _=>nilV)).length=n*15:=by
  rw[parts_xs_len (s:=⟨[],[],[],List.replicate n zPart⟩) (fun x hx=>by rw[(List.mem_replicate.1 hx).2];rfl)]
  simp
 have h1:=h.own.made (by omega) .parts 75 15 n _ hl (by unfold maxLen;omega)
 have hb1:(w.alloc (.cells (partsCells (List.replicate n zPart) (fun _=>nilV) (fun _=>nilV)).toArray 75)).heap[b]? =some (.cells (c.cells vn).toArray 98 (0,0)):=(Below.heap_alloc _ _ _ hbl).trans h.box
 refine⟨?_,?_⟩
 ·exact block_put (block_put (block_put hb1 rfl) rfl) rfl
 ·have e:rowsOf ⟨[],[],[],List.replicate n zPart⟩ (putV vn .parts (.slice (some ⟨w.heap.size,0,none⟩) n n))=putK (rowsOf sb0 vn) .parts ⟨75,15, .slice (some ⟨w.heap.size,0,none⟩) n n,n,partsCells (List.replicate n zPart) (fun _=>nilV) (fun _=>nilV)⟩:=by
   funext k
   have hp:∀i,(⟨[],[],[],List.replicate n zPart⟩:SB).part i=zPart∨(⟨[],[],[],List.replicate n zPart⟩:SB).part i=noPart:=fun i=>by
    unfold SB.part
    rw[gD,List.getElem?_replicate]
    by_cases h:i<n
    ·rw[if_pos h];exact .inl rfl
    ·rw[if_neg h];exact .inr rfl
   cases k with
   |parts=>rw[putK_self];exact RowC.eq' rfl rfl rfl (by simp[rowsOf]) rfl
   |phis i=>
    rw[putK_ne _ (by simp)]
    refine RowC.eq' rfl rfl rfl ?_ ?_
    ·show((⟨[],[],[],List.replicate n zPart⟩:SB).part i).phis.length=0
     rcases hp i with e|e<;>rw[e]<;>rfl
    ·show phiCells ((⟨[],[],[],List.replicate n zPart⟩:SB).part i).phis _=[]
     rcases hp i with e|e<;>rw[e]<;>rfl
   |ins i=>
    rw[putK_ne _ (by simp)]
    refine RowC.eq' rfl rfl rfl ?_ ?_
    ·show((⟨[],[],[],List.replicate n zPart⟩:SB).part i).ins.length=0
     rcases hp i with e|e<;>rw[e]<;>rfl
    ·show insCells ((⟨[],[],[],List.replicate n zPart⟩:SB).part i).ins=[]
     rcases hp i with e|e<;>rw[e]<;>rfl
   |args i k=>
    rw[putK_ne _ (by simp)]
    refine RowC.eq' rfl rfl rfl ?_ ?_
    ·show((((⟨[],[],[],List.replicate n zPart⟩:SB).part i).phis.getD k noPhi).args).length=0
     rcases hp i with e|e<;>rw[e]<;>rfl
    ·show intsV ((((⟨[],[],[],List.replicate n zPart⟩:SB).part i).phis.getD k noPhi).args)=[]
     rcases hp i with e|e<;>rw[e]<;>rfl
   |_=>rw[putK_ne _ (by simp)];exact RowC.eq' rfl rfl rfl rfl rfl
  rw[e]
  refine OwnK.setsOut h1 (fun k hk=> ?_) _ _
  have:=(h1.lt hk).1
  omega
theorem SbAt.mkEnds{w:World}{b:Nat}{c:SC}{s:SB}{V:SK→Value}(h:SbAt w b c s V)(n:Nat)(hn:n≤40):
 SbAt ((w.alloc (.cells (regCells (List.replicate n zR)).toArray 40)).setCell ⟨b,10,none⟩ (.slice (some ⟨w.heap.size,0,none⟩) n n)) b c {s with ends:=List.replicate n zR} (putV V .ends (.slice (some ⟨w.heap.size,0,none⟩) n n)):=by
 have hbl:=h.lt
 have hl:(regCells (List.replicate n zR)).length=n*12:=by
  rw[regs_len (fun x hx=>by rw[(List.mem_replicate.1 hx).2];rfl)];simp
 have h1:=h.own.made (by omega) .ends 40 12 n _ hl (by unfold maxLen;omega)
 have hb1:(w.alloc (.cells (regCells (List.replicate n zR)).toArray 40)).heap[b]? =some (.cells (c.cells V).toArray 98 (0,0)):=(Below.heap_alloc _ _ _ hbl).trans h.box
 refine⟨block_put hb1 rfl,?_⟩
 have e:rowsOf {s with ends:=List.replicate n zR} (putV V .ends (.slice (some ⟨w.heap.size,0,none⟩) n n))=putK (rowsOf s V) .ends ⟨40,12, .slice (some ⟨w.heap.size,0,none⟩) n n,n,regCells (List.replicate n zR)⟩:=by
  funext k
  by_cases ek:k= .ends
  ·subst ek;rw[putK_self];exact RowC.eq' rfl rfl rfl (by simp[rowsOf]) rfl
  ·rw[putK_ne _ ek];cases k<;>first|rfl|exact absurd rfl ek
 rw[e]
 exact h1.setOut (fun k hk=>by have:=(h1.lt hk).1;omega) _ _
theorem SbAt.mkBegan{w:World}{b:Nat}{c:SC}{s:SB}{V:SK→Value}(h:SbAt w b c s V)(n:Nat)(hn:n≤40):
 SbAt ((w.alloc (.cells (regCells (List.replicate n zR)).toArray 40)).setCell ⟨b,12,none⟩ (.slice (some ⟨w.heap.size,0,none⟩) n n)) b c {s with began:=List.replicate n zR} (putV V .began (.slice (some ⟨w.heap.size,0,none⟩) n n)):=by
 have hbl:=h.lt
 have hl:(regCells (List.replicate n zR)).length=n*12:=by
  rw[regs_len (fun x hx=>by rw[(List.mem_replicate.1 hx).2];rfl)];simp
 have h1:=h.own.made (by omega) .began 40 12 n _ hl (by unfold maxLen;omega)
 have hb1:(w.alloc (.cells (regCells (List.replicate n zR)).toArray 40)).heap[b]? =some (.cells (c.cells V).toArray 98 (0,0)):=(Below.heap_alloc _ _ _ hbl).trans h.box
 refine⟨block_put hb1 rfl,?_⟩
 have e:rowsOf {s with began:=List.replicate n zR} (putV V .began (.slice (some ⟨w.heap.size,0,none⟩) n n))=putK (rowsOf s V) .began ⟨40,12, .slice (some ⟨w.heap.size,0,none⟩) n n,n,regCells (List.replicate n zR)⟩:=by
  funext k
  by_cases ek:k= .began
  ·subst ek;rw[putK_self];exact RowC.eq' rfl rfl rfl (by simp[rowsOf]) rfl
  ·rw[putK_ne _ ek];cases k<;>first|rfl|exact absurd rfl ek
 rw[e]
 exact h1.setOut (fun k hk=>by have:=(h1.lt hk).1;omega) _ _
def SB.blk(s:SB)(i:Nat):SB:=s.mod i {s.part i with block:=(i:Int)}
theorem SbAt.setBlk{w:World}{b:Nat}{c:SC}{s:SB}{V:SK→Value}(h:SbAt w b c s V)(hs:∀x∈s.parts,x.inn.length=12){i:Nat}(hi:i<s.parts.length){g n cap:Nat}(hv:V .parts= .slice (some ⟨g,0,none⟩) n cap):
 SbAt (w.setCell ⟨g,i*15,none⟩ (.int .i64 (i:Int))) b c (s.blk i) V∧FrS w b V (w.setCell ⟨g,i*15,none⟩ (.int .i64 (i:Int))) V:=by
 refine h.setRow .parts hv _ _ ?_ ?_
 ·show _<(partsCells s.parts _ _).length
  rw[parts_xs_len hs]
  have:(i+1)*15≤s.parts.length*15:=Nat.mul_le_mul_right 15 (by omega)
  omega
 ·refine rows_mod hi _ _ _ _ ?_ ⟨rfl,?_⟩ ⟨rfl,?_⟩ (fun t=> ?_) (.inl rfl)
  ·rw[if_pos rfl]
   unfold partsCells
   rw[List.length_set]
   symm
   have h0:=flat_set (f:=fun i=>(s.parts.getD i noPart).cells (V (.phis i)) (V (.ins i))) (f' :=fun j=>((s.parts.set i {s.part i with block:=(i:Int)}).getD j noPart).cells (V (.phis j)) (V (.ins j))) (t:=0) (fun k hk=>part_len hs hk _ _) hi (by omega) (.int .i64 (i:Int)) (fun k hk=>by rw[getD_set _ hi,if_neg hk]) (by rw[getD_set _ hi,if_pos rfl];rfl)
   exact h0
  ·rw[if_neg (by simp)]
  ·rw[if_neg (by simp)]
  ·rw[if_neg (by simp)];exact⟨rfl,rfl⟩
def jn(bs:List BR)(i:Nat):Bool:=decide (((prevL bs i).length:Int)>1)
def bldE(bs:List BR)(s:SB)(i:Nat):List Int:=s.ends.getD ((prevL bs i).getD 0 0).toNat []
def bldX(F:Fnc)(O:List Nat)(bs:List BR)(s:SB)(i:Nat):ES:=entTo (jn bs i) i (O.getD (hdA F i) 0) (bldE bs s i) s.same F.regs.toNat
def bldY(p:List Fnc)(F:Fnc)(O:List Nat)(bs:List BR)(s:SB)(i:Nat):BSt:=bodTo p F (hdA F i) (bldX F O bs s i).R (bldX F O bs s i).S (toF F (hdA F i)-hdA F i)
def bldStep(p:List Fnc)(F:Fnc)(O:List Nat)(bs:List BR)(s:SB)(i:Nat):SB:=
 ⟨(bldY p F O bs s i).S,s.ends.set i (bldY p F O bs s i).R,s.began.set i (bldX F O bs s i).R,s.parts.set i ⟨(i:Int),(s.part i).phis++(bldX F O bs s i).P,(s.part i).ins++(bldY p F O bs s i).I,(s.part i).inn⟩⟩
def SB.beg(s:SB)(i:Nat)(R:List Int):SB:={s with began:=s.began.set i R}
theorem bldStep_eq(p:List Fnc)(F:Fnc)(O:List Nat)(bs:List BR)(s:SB){i:Nat}(hi:i<s.parts.length):
 {(((s.blk i).ent i (bldX F O bs s i)).beg i (bldX F O bs s i).R).bod i (bldY p F O bs s i) with ends:=s.ends.set i (bldY p F O bs s i).R}=bldStep p F O bs s i:=by
 have h1:(((s.blk i).ent i (bldX F O bs s i)).beg i (bldX F O bs s i).R).part i=⟨(i:Int),(s.part i).phis++(bldX F O bs s i).P,(s.part i).ins,(s.part i).inn⟩:=by
  have h2:=ent_part (s.blk i) (i:=i) (by show i<(s.parts.set i _).length;rw[List.length_set];exact hi) (bldX F O bs s i)
  show((s.blk i).ent i (bldX F O bs s i)).part i=_
  rw[h2]
  unfold SB.blk
  rw[mod_part hi,if_pos rfl]
 unfold SB.bod
 rw[h1]
 unfold bldStep SB.beg SB.ent SB.blk SB.mod
 simp only[List.set_set]
def bld0(N P:Nat):SB:=⟨natI (List.range P),List.replicate N zR,List.replicate N zR,List.replicate N zPart⟩
def bldTo(p:List Fnc)(F:Fnc)(O:List Nat)(bs:List BR)(l:List Nat)(t:Nat):SB:=(l.take t).foldl (bldStep p F O bs) (bld0 bs.length F.params.toNat)
theorem bldTo_succ(p:List Fnc)(F:Fnc)(O:List Nat)(bs:List BR)(l:List Nat){t i:Nat}(h:l[t]? =some i):bldTo p F O bs l (t+1)=bldStep p F O bs (bldTo p F O bs l t) i:=by
 have ht:=(gI.1 h).1
 unfold bldTo
 rw[List.take_succ_eq_append_getElem ht,List.foldl_append,(gI.1 h).2];rfl
def Self(S:List Int):Prop:=∀v,v<S.length→S[v]? =some (v:Int)
theorem Self.push{S:List Int}(h:Self S):Self (S++[(S.length:Int)]):=fun v hv=>by
 rw[List.length_append,List.length_singleton] at hv
 by_cases e:v=S.length
 ·subst e;rw[List.getElem?_append_right (Nat.le_refl _)];simp
 ·rw[List.getElem?_append_left (by omega)];exact h v (by omega)
theorem getD_snoc'{α:Type}(l:List α)(x d:α){k:Nat}(hk:k<(l++[x]).length):(l++[x]).getD k d=if k<l.length then l.getD k d else x:=by
 rw[getD_snoc]
 rw[List.length_append,List.length_singleton] at hk
 by_cases e:k<l.length
 ·rw[if_neg (by omega),if_pos e]
 ·rw[if_pos (by omega),if_neg e]
structure EntR(J:Bool)(i L:Nat)(E S:List Int)(n:Nat)(x:ES):Prop where
 rl:x.R.length=12
 sl:x.S.length=S.length+x.P.length
 self:Self S→Self x.S
 jn:J=false→x.P=[]
 pid:∀k,k<x.P.length→(x.P.getD k noPhi).id=((S.length+k:Nat):Int)∧(x.P.getD k noPhi).args=[]
 preg:∀k,k<x.P.length→∃r:Nat,(x.P.getD k noPhi).reg=r∧r<n∧L.testBit r=true∧x.R.getD r 0=(x.P.getD k noPhi).id
 pinc:∀k k',k<k' →k' <x.P.length→(x.P.getD k noPhi).reg<(x.P.getD k' noPhi).reg
 dead:∀r,r<12→¬(r<n∧L.testBit r=true)→x.R.getD r 0= -1
 val:∀r,r<n→L.testBit r=true→J=false→x.R.getD r 0=if i=0 then(r:Int) else E.getD r 0
 vj:J=true→∀r,r<n→L.testBit r=true→∃k,k<x.P.length∧(x.P.getD k noPhi).reg=r∧(x.P.getD k noPhi).id=x.R.getD r 0
theorem ent_facts(J:Bool)(i L:Nat)(E S:List Int):∀n,n≤12→EntR J i L E S n (entTo J i L E S n)
 |0,_=>by
  have e:entTo J i L E S 0=⟨List.replicate 12 (-1),[],S⟩:=rfl
  rw[e]
  refine⟨by simp,by simp,fun h=>h,fun _=>rfl,fun k hk=>by simp at hk,fun k hk=>by simp at hk,fun k k' _ hk=>by simp at hk,fun r hr _=> ?_,fun r hr=>by omega,fun _ r hr=>by omega⟩
  show(List.replicate 12 (-1:Int)).getD r 0= -1
  rw[gD,List.getElem?_replicate,if_pos hr];rfl
 |n+1,hn=>by
  have h:=ent_facts J i L E S n (by omega)
  rw[entTo_succ]
  generalize entTo J i L E S n=x at h
  unfold entStep
  by_cases hb:L.testBit n=true
  ·rw[if_pos hb]
   cases J with
   |true=>
    rw[if_pos rfl]
    have hR:∀r,(x.R.set n (x.S.length:Int)).getD r 0=if r=n then(x.S.length:Int) else x.R.getD r 0:=getD_set _ (by rw[h.rl];omega) _ _
    refine⟨by show(x.R.set n _).length=12;rw[List.length_set];exact h.rl,?_,fun hs=>(h.self hs).push,fun e=>by simp at e,fun k hk=> ?_,fun k hk=> ?_,fun k k' hkk hk=> ?_,fun r hr hd=> ?_,fun r hr hl e=>by simp at e,fun _ r hr hl=> ?_⟩
    ·show(x.S++[_]).length=S.length+(x.P++[_]).length
     rw[List.length_append,List.length_append,h.sl];simp;omega
    ·show((x.P++[_]).getD k noPhi).id=_∧_
     have hk' :k<(x.P++[(⟨(n:Int),(x.S.length:Int),[]⟩:PhiS)]).length:=hk
     rw[getD_snoc' _ _ _ hk']
     by_cases e:k<x.P.length
     ·rw[if_pos e];exact h.pid k e
     ·rw[if_neg e]
      rw[List.length_append,List.length_singleton] at hk'
      refine⟨?_,rfl⟩
      show(x.S.length:Int)=_
      rw[h.sl];omega
    ·have hk' :k<(x.P++[(⟨(n:Int),(x.S.length:Int),[]⟩:PhiS)]).length:=hk
     dsimp only
     rw[getD_snoc' _ _ _ hk']
     by_cases e:k<x.P.length
     ·rw[if_pos e]
      obtain⟨r,h1,h2,h3,h4⟩:=h.preg k e
      exact⟨r,h1,by omega,h3,by rw[hR,if_neg (by omega)];exact h4⟩
     ·rw[if_neg e]
      exact⟨n,rfl,by omega,hb,by rw[hR,if_pos rfl]⟩
    ·have hk' :k' <(x.P++[(⟨(n:Int),(x.S.length:Int),[]⟩:PhiS)]).length:=hk
     show((x.P++[_]).getD k noPhi).reg<((x.P++[_]).getD k' noPhi).reg
     rw[getD_snoc' _ _ _ hk',getD_snoc' _ _ _ (by omega)]
     rw[List.length_append,List.length_singleton] at hk'
     rw[if_pos (by omega)]
     by_cases e:k' <x.P.length
     ·rw[if_pos e];exact h.pinc k k' hkk e
     ·rw[if_neg e]
      obtain⟨r,h1,h2,-⟩:=h.preg k (by omega)
      rw[h1]
      show(r:Int)<(n:Int)
      omega
    ·show(x.R.set n _).getD r 0= -1
     rw[hR,if_neg (fun e=>hd ⟨by omega,by rw[e];exact hb⟩)]
     exact h.dead r hr (fun e=>hd ⟨by omega,e.2⟩)
    ·dsimp only
     by_cases e:r=n
     ·subst e
      refine⟨x.P.length,by simp,?_,?_⟩
      ·rw[getD_snoc,if_pos rfl]
      ·rw[getD_snoc,if_pos rfl,hR,if_pos rfl]
     ·obtain⟨k,h1,h2,h3⟩:=h.vj rfl r (by omega) hl
      exact⟨k,by rw[List.length_append];omega,by rw[getD_snoc,if_neg (by omega)];exact h2,by rw[getD_snoc,if_neg (by omega),hR,if_neg e];exact h3⟩
   |false=>
    rw[if_neg (by simp)]
    have hP:=h.jn rfl
    have hR:∀r,(x.R.set n (if i=0 then(n:Int) else E.getD n 0)).getD r 0=if r=n then(if i=0 then(n:Int) else E.getD n 0) else x.R.getD r 0:=getD_set _ (by rw[h.rl];omega) _ _
    refine⟨by show(x.R.set n _).length=12;rw[List.length_set];exact h.rl,h.sl,h.self,fun _=>hP,h.pid,fun k hk=> ?_,h.pinc,fun r hr hd=> ?_,fun r hr hl _=> ?_,fun e=>by simp at e⟩
    ·rw[show(⟨x.R.set n _,x.P,x.S⟩:ES).P=x.P from rfl,hP] at hk
     simp at hk
    ·show(x.R.set n _).getD r 0= -1
     rw[hR,if_neg (fun e=>hd ⟨by omega,by rw[e];exact hb⟩)]
     exact h.dead r hr (fun e=>hd ⟨by omega,e.2⟩)
    ·show(x.R.set n _).getD r 0=_
     rw[hR]
     by_cases e:r=n
     ·subst e;rw[if_pos rfl]
     ·rw[if_neg e];exact h.val r (by omega) hl rfl
  ·rw[if_neg hb]
   refine⟨h.rl,h.sl,h.self,h.jn,h.pid,fun k hk=> ?_,h.pinc,fun r hr hd=>h.dead r hr (fun e=>hd ⟨by omega,e.2⟩),fun r hr hl hj=>h.val r ?_ hl hj,fun hj r hr hl=>h.vj hj r ?_ hl⟩
   ·obtain⟨r,h1,h2,h3⟩:=h.preg k hk
    exact⟨r,h1,by omega,h3⟩
   ·have:r≠n:=fun e=>hb (by rw[←e];exact hl)
    omega
   ·have:r≠n:=fun e=>hb (by rw[←e];exact hl)
    omega
structure BodR(p:List Fnc)(F:Fnc)(a:Nat)(R S:List Int)(n:Nat)(y:BSt):Prop where
 rl:y.R.length=12
 il:y.I.length=n
 sl:S.length≤y.S.length
 sn:y.S.length≤S.length+n
 self:Self S→Self y.S
 op:∀t,t<n→(y.I.getD t noIns).op=(insAt F (a+t)).op∧(y.I.getD t noIns).imm=(insAt F (a+t)).imm∧(y.I.getD t noIns).pc=((a+t:Nat):Int)
 set:∀t,t<n→setsB (insAt F (a+t))=true→∃v:Nat,(y.I.getD t noIns).id=v∧S.length≤v∧v<y.S.length
 non:∀t,t<n→setsB (insAt F (a+t))=false→(y.I.getD t noIns).id= -1
 inc:∀t t',t<t' →t' <n→0≤(y.I.getD t' noIns).id→(y.I.getD t noIns).id<(y.I.getD t' noIns).id
 cov:∀v,S.length≤v→v<y.S.length→∃t,t<n∧(y.I.getD t noIns).id=(v:Int)
 rng:(∀v∈R,-1≤v∧v<S.length)→(∀v∈y.R,-1≤v∧v<y.S.length)∧∀t,t<n→-1≤(y.I.getD t noIns).a∧(y.I.getD t noIns).a<y.S.length∧-1≤(y.I.getD t noIns).b∧(y.I.getD t noIns).b<y.S.length
theorem getD_mem12{R:List Int}(hR:R.length=12){r:Nat}(hr:r<12):R.getD r 0∈R:=by
 rw[gD,gE (by omega)];exact List.getElem_mem _
theorem bod_facts(p:List Fnc)(F:Fnc)(a:Nat){R:List Int}(hR:R.length=12)(S:List Int):∀n,(∀t,t<n→0≤(insAt F (a+t)).a∧(insAt F (a+t)).a<12∧0≤(insAt F (a+t)).b∧(insAt F (a+t)).b<12)→BodR p F a R S n (bodTo p F a R S n)
 |0,_=>by
  have e:bodTo p F a R S 0=⟨R,[],S⟩:=rfl
  rw[e]
  exact⟨hR,rfl,Nat.le_refl _,Nat.le_refl _,fun h=>h,fun t ht=>by omega,fun t ht=>by omega,fun t ht=>by omega,fun t t' _ ht=>by omega,fun v h1 h2=>by have h2:v<S.length:=h2;omega,fun h=>⟨h,fun t ht=>by omega⟩⟩
 |n+1,hab=>by
  have h:=bod_facts p F a hR S n (fun t ht=>hab t (by omega))
  obtain⟨a1,a2,b1,b2⟩:=hab n (by omega)
  rw[bodTo_succ]
  generalize bodTo p F a R S n=y at h
  unfold bodStep
  have hI:∀(x:InsS) (t:Nat),t<n+1→(y.I++[x]).getD t noIns=if t<n then y.I.getD t noIns else x:=fun x t ht=>by
   rw[getD_snoc' _ _ _ (by rw[List.length_append,h.il,List.length_singleton];exact ht),h.il]
  have hva:(∀v∈R,-1≤v∧v<S.length)→∀id,-1≤(insV p (insAt F (a+n)) y.R (a+n) id).a∧(insV p (insAt F (a+n)) y.R (a+n) id).a<y.S.length∧-1≤(insV p (insAt F (a+n)) y.R (a+n) id).b∧(insV p (insAt F (a+n)) y.R (a+n) id).b<y.S.length:=fun hr id=>by
   have h1:=(h.rng hr).1
   unfold insV
   dsimp only
   refine⟨?_,?_,?_,?_⟩<;>split
   ·exact(h1 _ (getD_mem12 h.rl (by omega))).1
   ·omega
   ·exact(h1 _ (getD_mem12 h.rl (by omega))).2
   ·omega
   ·exact(h1 _ (getD_mem12 h.rl (by omega))).1
   ·omega
   ·exact(h1 _ (getD_mem12 h.rl (by omega))).2
   ·omega
  by_cases hs:setsB (insAt F (a+n))=true
  ·rw[if_pos hs]
   have hl:(y.S++[(y.S.length:Int)]).length=y.S.length+1:=by simp
   refine⟨by show(y.R.set _ _).length=12;rw[List.length_set];exact h.rl,by show(y.I++[_]).length=n+1;rw[List.length_append,h.il];rfl,by show S.length≤(y.S++[_]).length;rw[hl];have:=h.sl;omega,by show(y.S++[_]).length≤_;rw[hl];have:=h.sn;omega,fun hS=>(h.self hS).push,fun t ht=> ?_,fun t ht hst=> ?_,fun t ht hst=> ?_,fun t t' htt ht=> ?_,fun v h1 h2=> ?_,fun hr=>⟨fun v hv=> ?_,fun t ht=> ?_⟩⟩
   ·show((y.I++[_]).getD t noIns).op=_∧((y.I++[_]).getD t noIns).imm=_∧((y.I++[_]).getD t noIns).pc=_
    rw[hI _ t ht]
    by_cases e:t<n
    ·rw[if_pos e];exact h.op t e
    ·obtain rfl:t=n:=by omega
     rw[if_neg e];exact⟨rfl,rfl,rfl⟩
   ·dsimp only
    rw[hI _ t ht,hl]
    by_cases e:t<n
    ·rw[if_pos e]
     obtain⟨v,h1,h2,h3⟩:=h.set t e hst
     exact⟨v,h1,h2,by omega⟩
    ·rw[if_neg e];exact⟨y.S.length,rfl,h.sl,by omega⟩
   ·show((y.I++[_]).getD t noIns).id= -1
    rw[hI _ t ht]
    by_cases e:t<n
    ·rw[if_pos e];exact h.non t e hst
    ·obtain rfl:t=n:=by omega
     rw[hs] at hst;simp at hst
   ·show 0≤((y.I++[_]).getD t' noIns).id→((y.I++[_]).getD t noIns).id<((y.I++[_]).getD t' noIns).id
    rw[hI _ t (by omega),hI _ t' ht,if_pos (show t<n by omega)]
    by_cases e:t' <n
    ·rw[if_pos e];exact h.inc t t' htt e
    ·rw[if_neg e]
     intro _
     show _<(y.S.length:Int)
     cases hst:setsB (insAt F (a+t)) with
     |true=>
      obtain⟨v,h1,h2,h3⟩:=h.set t (by omega) hst
      rw[h1];omega
     |false=>rw[h.non t (by omega) hst];omega
   ·have h2:v<(y.S++[(y.S.length:Int)]).length:=h2
    rw[hl] at h2
    dsimp only
    by_cases e:v<y.S.length
    ·obtain⟨t,h3,h4⟩:=h.cov v h1 e
     exact⟨t,by omega,by rw[hI _ t (by omega),if_pos h3];exact h4⟩
    ·obtain rfl:v=y.S.length:=by omega
     exact⟨n,by omega,by rw[hI _ n (by omega),if_neg (by omega)];rfl⟩
   ·show -1≤v∧v<((y.S++[(y.S.length:Int)]).length:Int)
    rw[hl]
    rcases List.mem_or_eq_of_mem_set (show v∈y.R.set _ _ from hv) with h1|h1
    ·have:=(h.rng hr).1 v h1;omega
    ·rw[h1];omega
   ·show -1≤((y.I++[_]).getD t noIns).a∧((y.I++[_]).getD t noIns).a<((y.S++[(y.S.length:Int)]).length:Int)∧-1≤((y.I++[_]).getD t noIns).b∧((y.I++[_]).getD t noIns).b<((y.S++[(y.S.length:Int)]).length:Int)
    rw[hI _ t ht,hl]
    by_cases e:t<n
    ·rw[if_pos e]
     have:=(h.rng hr).2 t e
     omega
    ·rw[if_neg e]
     have:=hva hr (y.S.length:Int)
     omega
  ·rw[if_neg hs]
   have hs' :setsB (insAt F (a+n))=false:=by simpa using hs
   refine⟨h.rl,by show(y.I++[_]).length=n+1;rw[List.length_append,h.il];rfl,h.sl,Nat.le_succ_of_le h.sn,h.self,fun t ht=> ?_,fun t ht hst=> ?_,fun t ht hst=> ?_,fun t t' htt ht=> ?_,fun v h1 h2=> ?_,fun hr=>⟨(h.rng hr).1,fun t ht=> ?_⟩⟩
   ·show((y.I++[_]).getD t noIns).op=_∧((y.I++[_]).getD t noIns).imm=_∧((y.I++[_]).getD t noIns).pc=_
    rw[hI _ t ht]
    by_cases e:t<n
    ·rw[if_pos e];exact h.op t e
    ·obtain rfl:t=n:=by omega
     rw[if_neg e];exact⟨rfl,rfl,rfl⟩
   ·dsimp only
    rw[hI _ t ht]
    by_cases e:t<n
    ·rw[if_pos e];exact h.set t e hst
    ·obtain rfl:t=n:=by omega
     rw[hs'] at hst;simp at hst
   ·show((y.I++[_]).getD t noIns).id= -1
    rw[hI _ t ht]
    by_cases e:t<n
    ·rw[if_pos e];exact h.non t e hst
    ·rw[if_neg e];rfl
   ·show 0≤((y.I++[_]).getD t' noIns).id→((y.I++[_]).getD t noIns).id<((y.I++[_]).getD t' noIns).id
    rw[hI _ t (by omega),hI _ t' ht,if_pos (show t<n by omega)]
    by_cases e:t' <n
    ·rw[if_pos e];exact h.inc t t' htt e
    ·rw[if_neg e]
     intro h0
     have h0:(0:Int)≤-1:=h0
     omega
   ·obtain⟨t,h3,h4⟩:=h.cov v h1 h2
    exact⟨t,by omega,by show((y.I++[_]).getD t noIns).id=_;rw[hI _ t (by omega),if_pos h3];exact h4⟩
   ·show -1≤((y.I++[_]).getD t noIns).a∧((y.I++[_]).getD t noIns).a<(y.S.length:Int)∧-1≤((y.I++[_]).getD t noIns).b∧((y.I++[_]).getD t noIns).b<(y.S.length:Int)
    rw[hI _ t ht]
    by_cases e:t<n
    ·rw[if_pos e];exact(h.rng hr).2 t e
    ·rw[if_neg e];exact hva hr (-1)
theorem there_mid{W:World}{b o n:Nat}{cs:Array Value}{t:TypeId}(h:W.heap[b]? =some (.cells cs t (0,0)))(hn:o+n≤cs.size):W.there b o n:=fun j hj=>by
 rw[cell_block h,frozen_block h,Array.getElem?_eq_getElem (by omega)]
 exact⟨rfl,rfl⟩
theorem SbAt.setsLow{w:World}{b:Nat}{c:SC}{s:SB}{V:SK→Value}(h:SbAt w b c s V){L:Nat}(hL:L<b)(o:Nat)(vs:List Value):SbAt (w.setCells L o vs) b c s V:=
 ⟨(setCells_far (by omega) vs o).trans h.box,h.own.setsOut (fun k e=>by have:=(h.own.lt e).1;omega) vs o⟩
theorem infoSsa:(Tryd.prog.info? 50).map (·.size)=some 3:=by kernel_rfl
structure RndOk(bs:List BR)(s:SB)(i:Nat):Prop where
 lt:i<bs.length
 len:s.same.length≤80000
 n:s.parts.length=bs.length
 ne:s.ends.length=bs.length
 nb:s.began.length=bs.length
 inn:∀x∈s.parts,x.inn.length=12
 e12:∀x∈s.ends,x.length=12
 b12:∀x∈s.began,x.length=12
 phis:(s.part i).phis.length≤50
 ins:(s.part i).ins.length≤50
 ends:jn bs i=false→i≠0→∃q:Nat,prevL bs i=[(q:Int)]∧s.ends[q]? =some (bldE bs s i)
structure FinOk(F:Fnc)(bs:List BR)(s:SB):Prop where
 n:s.parts.length=bs.length
 ne:s.ends.length=bs.length
 e12:∀x∈s.ends,x.length=12
 inn:∀x∈s.parts,x.inn.length=12
 phis:∀i,(s.part i).phis.length≤100
 reg:∀i k,k<(s.part i).phis.length→∃r:Nat,(s.phi i k).reg=r∧r<12
 arg:∀i k,s.arg i k=[]
 prev:∀i,(prevL bs i).length≤300∧∀q∈prevL bs i,-1≤q∧q<bs.length
 cls:∀s2,ClsR s s2 (prevL bs) s.parts.length 0 0→PhisOk s2∧AllR s2.same∧s2.same.length≤100000∧s2.parts.length≤100∧(∀x∈s2.parts,x.inn.length=12)∧(∀i,(s2.part i).phis.length≤100)∧(∀i k,(s2.arg i k).length≤300)∧∀l,Shr s2 l→CntOk {s2 with same:=l} F.params.toNat
def ordL(F:Fnc)(bs:List BR)(K:Nat):List Nat:=(ordTo (fun i=>nxI F (hdA F i)) bs.length K).l
structure BldF(p:List Fnc)(F:Fnc)(O:List Nat)(bs:List BR):Prop where
 nx:∀i,i<bs.length→∀n∈nxI F (hdA F i),n<bs.length
 n40:∀i,i<bs.length→(nxI F (hdA F i)).length≤40
 n0:0<bs.length
 le:bs.length≤40
 ol:∀K,(ordL F bs K).length≤bs.length
 rnd:∀K,(ordL F bs K).length=K→∀t i,(ordL F bs K)[t]? =some i→RndOk bs (bldTo p F O bs (ordL F bs K) t) i
 fin:∀K,(ordL F bs K).length=K→FinOk F bs (bldTo p F O bs (ordL F bs K) K)
structure Built(p:List Fnc)(F:Fnc)(O:List Nat)(bs:List BR)(K:Nat)(s2:SB)(l:List Int)(s:SB):Prop where
 lok:LiveOk p F O
 bok:BlkOk F bs
 ord:(ordL F bs K).length=K
 cls:ClsR (bldTo p F O bs (ordL F bs K) K) s2 (prevL bs) bs.length 0 0
 shr:Shr s2 l
 sw:(∃n,l=itS s2 n)∧swP s2 l s2.parts.length=l
 done:∀i k,i<bs.length→k<(s2.part i).phis.length→DoneP s2 l i k
 same:s.same=l
 len:s.parts.length=bs.length
 part:∀j,j<bs.length→s.part j=⟨(s2.part j).block,(keepF {s2 with same:=l} j).phis.map (toPhi l (numF F.params.toNat (allG {s2 with same:=l} bs.length)).1),(s2.part j).ins.map (toIns l (numF F.params.toNat (allG {s2 with same:=l} bs.length)).1),(s2.began.getD j []).map (toV l (numF F.params.toNat (allG {s2 with same:=l} bs.length)).1)⟩
def BuildRet(p:List Fnc)(F:Fnc)(B:Nat)(e:Ending)(w' :World):Prop:=∃b c s V O bs K s2 l,e= .returned (.tuple #[.agg #[.int .i64 F.params, .int .i64 ((F.params.toNat+(allG {s2 with same:=l} bs.length).length:Nat):Int),V .parts], .int .i64 0])∧B≤b∧SbAt w' b c s V∧Built p F O bs K s2 l s
set_option maxRecDepth 100000 in
set_option maxHeartbeats 8000000 in
theorem build_any(p:List Fnc)(A:Option Addr)(cap k:Nat)(F:Fnc)(w:World)(ht:Tab w)(hp:ProgAt w (.slice A p.length cap) p)(hk:checkP p=0)(hf:p[k]? =some F)(hbf:∀O bs,LiveOk p F O→BlkOk F bs→BldF p F O bs):
 Calls Tryd.prog 12 #[.agg #[.slice A p.length cap], .int .i64 (k:Int)] w fun e w' =>BuildRet p F w.heap.size e w' ∧Below w.heap.size w w' :=by
 have hR:=right_of hk
 have hFm:=gM hf
 have hfo:=hR.ok.fn F hFm
 have hkl:=(gI.1 hf).1
 obtain⟨A0,cap0,hA0,hA⟩:=hp.slice
 simp only[Value.slice.injEq,true_and] at hA0
 obtain⟨gf,hAg,hg,hfn⟩:=hA (by omega)
 obtain⟨rfl,rfl⟩:=hA0
 subst hAg
 obtain⟨u,hu,d0,d1,d2⟩:=hfn k F hf
 have HBL:=Lib.hid (fun(W:World) (h1:Tab W) (h2:ProgAt W (.slice (some ⟨gf,0,none⟩) p.length cap) p)=>blocks_any p (some ⟨gf,0,none⟩) cap k F W h1 h2 hk hf)
 have HLV:=Lib.hid (fun(W:World) (h1:Tab W) (h2:ProgAt W (.slice (some ⟨gf,0,none⟩) p.length cap) p)=>live_any p (some ⟨gf,0,none⟩) cap k F W h1 h2 hk hf)
 have HT:=Lib.hid ht
 have HP:=Lib.hid hp
 have HU:=Lib.hid hu
 have HBF:=Lib.hid hbf
 have HFO:=Lib.hid hfo
 have HK:=Lib.hid hk
 have HF:=Lib.hid hf
 obtain⟨P,hP⟩:∃n:Nat,F.params=n:=⟨F.params.toNat,by have:=hfo.p1;omega⟩
 obtain⟨rg,hrg⟩:∃r,F.regs=r:=⟨_,rfl⟩
 have hP12:P≤12:=by have h1:=hfo.p2;have h2:=hfo.r2;omega
 rw[hP] at d0
 rw[hrg] at d1
 have HPP:=Lib.hid hP
 have HRR:=Lib.hid hrg
 obtain⟨NF,hNF⟩:∃n,p.length=n:=⟨_,rfl⟩
 have hk1:(k:Int)<NF:=by omega
 have hk0:(0:Int)≤k:=by omega
 have HNF:=Lib.hid hNF
 obtain⟨H,hH⟩:∃H,(hdL F).length=H:=⟨_,rfl⟩
 have HH:=Lib.hid hH
 rw[hNF] at HP HBL HLV
 have HD:=Lib.hid (show w.cell? ⟨gf,k*3,none⟩=some (.int .i64 (P:Int))∧w.cell? ⟨gf,k*3+1,none⟩=some (.int .i64 rg)∧w.cell? ⟨gf,k*3+2,none⟩=some u from⟨d0,d1,d2⟩)
 rw[hNF]
 clear ht hp hu hbf hfo hk hf hP hrg hNF hH hA hfn hkl hFm hR d0 d1 d2
 have HB1:=Lib.hid (((Below.refl w.heap.size w).alloc (Nat.le_refl _) (.cells #[.slice (some ⟨gf,0,none⟩) NF cap] 29)).alloc (by simp) (.cells #[.int .i64 0, .int .i64 0, .slice none 0 0] 50))
 go_enter Tryd.func12,Tryd.ntmps12
 go_wp2_with fail
 obtain⟨M,hM⟩:∃n,F.code.length=n:=⟨_,rfl⟩
 obtain⟨FA,fcap,hu2,-⟩:=HU.out.slice
 rw[hM] at hu2
 subst hu2
 have HMM:=Lib.hid hM
 clear hM
 obtain⟨w1,hw1⟩:∃W,(w.alloc (.cells #[.slice (some ⟨gf,0,none⟩) NF cap] 29)).alloc (.cells #[.int .i64 0, .int .i64 0, .slice none 0 0] 50)=W:=⟨_,rfl⟩
 have HXP:Hid (w1.heap[w.heap.size]? =some (.cells #[.slice (some ⟨gf,0,none⟩) NF cap] 29 (0,0))):=Lib.hid (hw1▸(Below.heap_alloc _ _ _ (by simp)).trans (heap_alloc_new _ _))
 have HXO:Hid (w1.heap[w.heap.size+1]? =some (.cells #[.int .i64 0, .int .i64 0, .slice none 0 0] 50 (0,0))):=Lib.hid (hw1▸(by have h:=heap_alloc_new (w.alloc (.cells #[.slice (some ⟨gf,0,none⟩) NF cap] 29)) (.cells #[.int .i64 0, .int .i64 0, .slice none 0 0] 50);simpa using h))
 have HS1:Hid (w1.heap.size=w.heap.size+2):=Lib.hid (hw1▸by simp)
 rw[hw1] at HB1⊢
 clear hw1
 obtain⟨Lp,hLp⟩:∃n,w.heap.size=n:=⟨_,rfl⟩
 have HLP:=Lib.hid hLp
 have q0:w1.cell? ⟨Lp,0,none⟩=some (.slice (some ⟨gf,0,none⟩) NF cap):=hLp▸cell_block HXP.out 0
 have z0:Lp<w1.heap.size:=hLp▸block_lt HXP.out
 rw[hLp]
 rw[hLp] at HXP HXO HS1
 clear hLp
 go_wp2_with (first|(go_at_call 18;go_must (refine(HBL.out w1 (HT.out.keeps HB1.out) (HP.out.keeps HB1.out)).mono ?_;rintro e w2 ⟨⟨gb,Bb,bs,rfl,hgb,hblk,hbok⟩,hb2⟩;rw[HH.out];have HB2:=Lib.hid hb2;have HGB:=Lib.hid hgb;have HBLK:=Lib.hid hblk;have HBOK:=Lib.hid hbok;have q2:w2.cell? ⟨Lp,0,none⟩=some (.slice (some ⟨gf,0,none⟩) NF cap):=(hb2.cell (p:=⟨Lp,_,none⟩) z0).trans q0;have z2:=Nat.lt_of_lt_of_le z0 hb2.size;clear hb2 hgb hblk hbok q0))|(go_at_call 24;go_must (refine(HLV.out w2 (HT.out.keeps (HB1.out.trans (HB2.out.mono HB1.out.size))) (HP.out.keeps (HB1.out.trans (HB2.out.mono HB1.out.size)))).mono ?_;rintro e w3 ⟨⟨lb,O,rfl,hlb,hint,hlok⟩,hb3⟩;rw[HMM.out];have HB3:=Lib.hid hb3;have HLB:=Lib.hid hlb;have HINT:=Lib.hid hint;have HLOK:=Lib.hid hlok;have HBW3:=Lib.hid (HB1.out.trans ((HB2.out.trans (hb3.mono HB2.out.size)).mono HB1.out.size));have q3:w3.cell? ⟨Lp,0,none⟩=some (.slice (some ⟨gf,0,none⟩) NF cap):=(hb3.cell (p:=⟨Lp,_,none⟩) z2).trans q2;have z3:=Nat.lt_of_lt_of_le z2 hb3.size;have d0:=(HBW3.out.cell (p:=⟨gf,_,none⟩) hg).trans HD.out.1;have d1:=(HBW3.out.cell (p:=⟨gf,_,none⟩) hg).trans HD.out.2.1;have d2:=(HBW3.out.cell (p:=⟨gf,_,none⟩) hg).trans HD.out.2.2;have zgf:=Nat.lt_of_lt_of_le hg HBW3.out.size;clear hb3 hlb hint hlok q2)))
 obtain⟨w4,hw4⟩:∃W,w3.alloc (.cells #[.int .i64 (P:Int), .int .i64 rg, .slice FA M fcap] 60)=W:=⟨_,rfl⟩
 have HB34:Hid (Below w3.heap.size w3 w4):=Lib.hid (hw4▸(Below.refl _ _).alloc (Nat.le_refl _) _)
 have HXF:Hid (w4.heap[w3.heap.size]? =some (.cells #[.int .i64 (P:Int), .int .i64 rg, .slice FA M fcap] 60 (0,0))):=Lib.hid (hw4▸heap_alloc_new _ _)
 have hs4:w3.heap.size+1=w4.heap.size:=by rw[←hw4];simp
 obtain⟨c0,hc0⟩:∃c:SC,(⟨.slice (some ⟨gf,0,none⟩) NF cap,(P:Int),rg, .slice FA M fcap,(k:Int), .slice (some ⟨gb,0,none⟩) H H, .slice (some ⟨lb,0,none⟩) M M,0,0⟩:SC)=c:=⟨_,rfl⟩
 obtain⟨c,hc⟩:∃c:SC,({c0 with op:=(P:Int),ov:=0}:SC)=c:=⟨_,rfl⟩
 have hbl:bs.length=H:=by rw[HBOK.out.len,HH.out]
 have HBW4:Hid (Below w.heap.size w w4):=Lib.hid (HBW3.out.trans (HB34.out.mono HBW3.out.size))
 have HRO:Hid (SRo w4 c p k F bs O):=Lib.hid ⟨HT.out.keeps HBW4.out,HK.out,HF.out,⟨some ⟨gf,0,none⟩,cap,by rw[←hc,←hc0,HNF.out],by rw[HNF.out];exact HP.out.keeps HBW4.out⟩,⟨gb,Bb,by rw[←hc,←hc0,hbl],HBLK.out.keeps (HB3.out.trans (HB34.out.mono HB3.out.size))⟩,⟨lb,by rw[←hc,←hc0,HMM.out],HINT.out.keeps HB34.out⟩,by rw[←hc,←hc0];exact HU.out.keeps HBW4.out,by rw[←hc,←hc0,HPP.out],by rw[←hc,←hc0,HRR.out],by rw[←hc,←hc0],HBOK.out,HLOK.out⟩
 obtain⟨w5,hw5⟩:∃W,w4.alloc (.cells #[.slice (some ⟨gf,0,none⟩) NF cap, .int .i64 (P:Int), .int .i64 rg, .slice FA M fcap, .int .i64 (k:Int), .slice (some ⟨gb,0,none⟩) H H, .slice (some ⟨lb,0,none⟩) M M, .int .i64 0, .int .i64 0, .slice none 0 0, .slice none 0 0, .slice none 0 0, .slice none 0 0] 98)=W:=⟨_,rfl⟩
 have hSB5:SbAt w5 w4.heap.size c0 sb0 vn:=by rw[←hw5,←hc0];exact SbAt.start w4 (⟨.slice (some ⟨gf,0,none⟩) NF cap,(P:Int),rg, .slice FA M fcap,(k:Int), .slice (some ⟨gb,0,none⟩) H H, .slice (some ⟨lb,0,none⟩) M M,0,0⟩:SC)
 have HB45:Hid (Below w4.heap.size w4 w5):=Lib.hid (hw5▸(Below.refl _ _).alloc (Nat.le_refl _) _)
 rw[hw4,hw5,hs4]
 obtain⟨Lf,hLf⟩:∃n,w3.heap.size=n:=⟨_,rfl⟩
 obtain⟨b,hb⟩:∃n,w4.heap.size=n:=⟨_,rfl⟩
 rw[hLf,hb]
 rw[hLf] at HXF hs4
 rw[hb] at hSB5 hs4
 have HB4:=Lib.hid hb
 have HLF:=Lib.hid (show Lf<b by omega)
 have HBL:=Lib.hid hbl
 have hPZ:=HBF.out O bs HLOK.out HBOK.out
 have HPZ:=Lib.hid hPZ
 have hH40:H≤40:=by rw[←hbl];exact hPZ.le
 have hH1:0<H:=by rw[←hbl];exact hPZ.n0
 have HSB5:=Lib.hid hSB5
 have zLf5:Lf<w5.heap.size:=Nat.lt_of_lt_of_le (block_lt HXF.out) HB45.out.size
 have q5:w5.cell? ⟨Lf,0,none⟩=some (.int .i64 (P:Int)):=(HB45.out.cell (p:=⟨Lf,_,none⟩) (block_lt HXF.out)).trans (cell_block HXF.out 0)
 have zb5:=hSB5.lt
 have HLFB:Hid (b≠Lf):=Lib.hid (by omega)
 have hmkp:=make_parts H hH40
 have hmkr:=make_regs H hH40
 have HTH:Hid ((w5.drew.alloc (.cells (partsCells (List.replicate H zPart) (fun _=>nilV) (fun _=>nilV)).toArray 75)).there b 7 3):=Lib.hid (there_mid (t:=98) ((Below.heap_alloc _ _ _ (by simpa using zb5)).trans hSB5.box) (by show 7+3≤13;omega))
 have HS6:Hid (SbAt ((w5.drew.alloc (.cells (partsCells (List.replicate H zPart) (fun _=>nilV) (fun _=>nilV)).toArray 75)).setCells b 7 [.int .i64 (P:Int), .int .i64 0, .slice (some ⟨w5.heap.size,0,none⟩) H H]) b c ⟨[],[],[],List.replicate H zPart⟩ (putV vn .parts (.slice (some ⟨w5.heap.size,0,none⟩) H H))):=Lib.hid (hc▸(hSB5.keeps (Below.refl _ _).drew).mkParts H hH40 (P:Int))
 have HB14:Hid (Below w1.heap.size w1 w4):=Lib.hid (HB2.out.trans ((HB3.out.trans (HB34.out.mono HB3.out.size)).mono HB2.out.size))
 have HLO:Hid (Lp+1<w4.heap.size):=Lib.hid (Nat.lt_of_lt_of_le (block_lt HXO.out) HB14.out.size)
 have HXO4:Hid (w4.heap[Lp+1]? =some (.cells #[.int .i64 0, .int .i64 0, .slice none 0 0] 50 (0,0))):=Lib.hid ((HB14.out.block _ (block_lt HXO.out)).trans HXO.out)
 have HCOP:Hid (c.op=(P:Int)):=Lib.hid (by rw[←hc])
 clear hw4 hw5 hs4 hc0 hLf hb hbl hPZ hSB5 q3 z3 d0 d1 d2 zgf z0 z2 hc
 refine wp_region_held_drew (S:=fun w' =>w'.cell? ⟨Lf,0,none⟩=some (.int .i64 (P:Int))) (by kernel_rfl) q5 (fun hHeld=> ?_)
 refine wpAnyH_take (i:=0) (v:= .pointer (some ⟨b,0,none⟩)) rfl (by kernel_rfl) (by kernel_rfl) (by kernel_rfl) (fun _ _ _ h=>h) (Or.inl ⟨by rfl,?_⟩) hHeld ?_
 ·intro w hSw
  simp only[qg]
  go_simp
 simp only[Act.put,qs]
 refine wpAnyH_take (i:=1) (v:= .pointer (some ⟨Lf,0,none⟩)) rfl (by kernel_rfl) (by kernel_rfl) (by kernel_rfl) (fun _ _ _ h=>h) (Or.inl ⟨by rfl,?_⟩) hHeld ?_
 ·intro w hSw
  simp only[qg]
  go_simp
 simp only[Act.put,qs]
 refine wpAnyH_take (i:=2) (v:= .int .i64 (P:Int)) rfl (by kernel_rfl) (by kernel_rfl) (by kernel_rfl) (fun _ _ _ h=>h) (Or.inl ⟨by rfl,?_⟩) hHeld ?_
 ·intro w hSw
  have p0:=hSw
  simp only[qg]
  go_simp
 simp only[Act.put,qs]
 refine wpAnyH_take (i:=3) (v:= .slice (some ⟨gb,0,none⟩) H H) rfl (by kernel_rfl) (by kernel_rfl) (by kernel_rfl) (fun _ _ _ h=>h) (Or.inl ⟨by rfl,?_⟩) hHeld ?_
 ·intro w hSw
  simp only[qg]
  go_simp
 simp only[Act.put,qs]
 refine wpAnyH_take (i:=4) (v:= .int .i64 (H:Int)) rfl (by kernel_rfl) (by kernel_rfl) (by kernel_rfl) (fun _ _ _ h=>h) (Or.inl ⟨by rfl,?_⟩) hHeld ?_
 ·intro w hSw
  simp only[qg]
  go_simp
 simp only[Act.put,qs]
 refine wpAnyH_ready (rs:=[5]) (by kernel_rfl) (by simp) ?_
 refine AllReadyH.cons rfl (fun K hK=> ?_) AllReadyH.nil
 simp only[qg]
 go_simp
 refine hK.out _ _ (((((Below.refl w5.heap.size w5).drew.alloc (Nat.le_refl _) _).cell (p:=⟨Lf,_,none⟩) zLf5)).trans q5) (fun hHeld=> ?_)
 clear hK K
 refine wpAnyH_take (i:=6) (v:= .agg #[.int .i64 (P:Int), .int .i64 0, .slice (some ⟨w5.heap.size,0,none⟩) H H]) rfl (by kernel_rfl) (by kernel_rfl) (by kernel_rfl) (fun _ _ _ h=>h) (Or.inl ⟨by rfl,?_⟩) hHeld ?_
 ·intro w hSw
  simp only[qg]
  go_simp
 simp only[Act.put,qs]
 refine wpAnyH_take (i:=7) (v:= .pointer (some ⟨b,0,none⟩)) rfl (by kernel_rfl) (by kernel_rfl) (by kernel_rfl) (fun _ _ _ h=>h) (Or.inl ⟨by rfl,?_⟩) hHeld ?_
 ·intro w hSw
  simp only[qg]
  go_simp
 simp only[Act.put,qs]
 refine wpAnyH_take (i:=8) (v:= .pointer (some ⟨b,7,none⟩)) rfl (by kernel_rfl) (by kernel_rfl) (by kernel_rfl) (fun _ _ _ h=>h) (Or.inl ⟨by rfl,?_⟩) hHeld ?_
 ·intro w hSw
  simp only[qg]
  go_simp
 simp only[Act.put,qs]
 refine wpAnyH_ready (rs:=[9]) (by kernel_rfl) (by simp) ?_
 refine AllReadyH.cons rfl (fun K hK=> ?_) AllReadyH.nil
 simp only[qg]
 refine wp_store_mid 50 _ _ (by rfl) b 7 #[.int .i64 (P:Int), .int .i64 0, .slice (some ⟨w5.heap.size,0,none⟩) H H] (by rfl) (by rfl) HTH.out infoSsa (by simp[Value.oneCell']) ?_
 refine hK.out _ _ ((World.cell?_setCells_out _ _ _ _ _ (fun e _=>absurd e HLFB.out.symm)).trans hHeld) (fun hHeld=> ?_)
 clear hK K
 clear hHeld
 refine wpAnyH_done (by kernel_rfl) ?_ _
 obtain⟨w6,hw6⟩:∃W,(w5.alloc (.cells (partsCells (List.replicate H zPart) (fun _=>nilV) (fun _=>nilV)).toArray 75)).drew.setCells b 7 #[.int .i64 (P:Int), .int .i64 0, .slice (some ⟨w5.heap.size,0,none⟩) H H].toList=W:=⟨_,rfl⟩
 have hSB6:SbAt w6 b c ⟨[],[],[],List.replicate H zPart⟩ (putV vn .parts (.slice (some ⟨w5.heap.size,0,none⟩) H H)):=by rw[←hw6];exact HS6.out
 have HB56:Hid (Below w4.heap.size w4 w6):=Lib.hid (by rw[←hw6];exact below_setCells (Nat.le_of_eq HB4.out) _ _ _ ((HB45.out.alloc HB45.out.size _).drew))
 rw[hw6]
 have q6:w6.cell? ⟨Lf,0,none⟩=some (.int .i64 (P:Int)):=(HB56.out.cell (p:=⟨Lf,_,none⟩) (block_lt HXF.out)).trans (cell_block HXF.out 0)
 have zLf6:Lf<w6.heap.size:=Nat.lt_of_lt_of_le (block_lt HXF.out) HB56.out.size
 have k10:w6.cell? ⟨b,10,none⟩=some (.slice none 0 0):=hSB6.cell 10
 have k12:w6.cell? ⟨b,12,none⟩=some (.slice none 0 0):=hSB6.cell 12
 have fb6:=frozen_block hSB6.box
 have zb6:=hSB6.lt
 have HSB6:=Lib.hid hSB6
 clear hw6 hSB6 q5 zLf5 zb5 HS6 HSB5 hHeld
 go_wp2_with fail
 obtain⟨w7,hw7⟩:∃W,(((w6.setCell ⟨b,10,none⟩ (.slice (some ⟨w6.heap.size,0,none⟩) H H)).setCell ⟨b,12,none⟩ (.slice (some ⟨w6.heap.size+1,0,none⟩) H H)).alloc (.cells (regCells (List.replicate H zR)).toArray 40)).alloc (.cells (regCells (List.replicate H zR)).toArray 40)=W:=⟨_,rfl⟩
 obtain⟨V7,hV7⟩:∃V,putV (putV (putV vn .parts (.slice (some ⟨w5.heap.size,0,none⟩) H H)) .ends (.slice (some ⟨w6.heap.size,0,none⟩) H H)) .began (.slice (some ⟨w6.heap.size+1,0,none⟩) H H)=V:=⟨_,rfl⟩
 have hSB7:SbAt w7 b c ⟨[],List.replicate H zR,List.replicate H zR,List.replicate H zPart⟩ V7:=by
  have h9:=(HSB6.out.mkEnds H hH40).mkBegan H hH40
  rw[World.setCell_alloc_past _ _ _ _ zb6] at h9
  rw[World.setCell_alloc_past _ _ _ _ (by simpa [World.setCell] using Nat.lt_succ_of_lt zb6),World.setCell_alloc_past _ _ _ _ (by simpa [World.setCell] using zb6)] at h9
  have es:((w6.setCell ⟨b,10,none⟩ (.slice (some ⟨w6.heap.size,0,none⟩) H H)).alloc (.cells (regCells (List.replicate H zR)).toArray 40)).heap.size=w6.heap.size+1:=by simp[World.setCell]
  rw[es,hw7,hV7] at h9
  exact h9
 have HBW7:Hid (Below w4.heap.size w4 w7):=Lib.hid (by
  rw[←hw7]
  have hq:w4.heap.size≤w6.heap.size:=HB56.out.size
  exact(((HB56.out.setCell (Nat.le_of_eq HB4.out) _).setCell (Nat.le_of_eq HB4.out) _).alloc (by simpa [World.setCell] using hq) _).alloc (by simp[World.setCell];omega) _)
 rw[hw7]
 have hX7:SbX w7 V7 b c w7 ⟨natI (List.range 0),List.replicate H zR,List.replicate H zR,List.replicate H zPart⟩ V7 []:=SbX.start hSB7
 have HX7:=Lib.hid hX7
 clear hw7 hV7 hSB7 hX7 k10 k12 fb6 zb6 q6 zLf6 HSB6 hmkp hmkr
 go_loopw [65] (fun v65 wr=>∃(j:Nat) (V' :SK→Value),j≤P∧v65= .int .i64 (j:Int)∧SbX w7 V7 b c wr ⟨natI (List.range j),List.replicate H zR,List.replicate H zR,List.replicate H zPart⟩ V' []) (fun v65 _=>P-(intOf v65).toNat)
 case atStart=>exact⟨0,V7,by omega,rfl,HX7.out⟩
 case round=>
  obtain⟨j,V8,hj,rfl,hX⟩:=hrel
  clear HX7
  by_cases hjP:j=P
  ·have hjP' :=hjP.symm
   subst hjP'
   obtain⟨w8,hw8⟩:∃wo:World,wo=wr:=⟨_,rfl⟩
   subst hw8
   have HX8:=Lib.hid hX
   have HBW8:Hid (Below w4.heap.size w4 w8):=Lib.hid (HBW7.out.trans (hX.fr.below.mono (Nat.le_of_eq HB4.out)))
   have HPZ2:=Lib.hid (show BldF p F O bs from HPZ.out)
   have HOR:=Lib.hid (order_any w4 p k F bs O b c _ V8 w8 HRO.out (Nat.le_of_eq HB4.out) HBW8.out hX.sb HPZ.out.nx HPZ.out.n40 HPZ.out.n0 HPZ.out.le)
   clear hX hjP
   go_wp2_with (first|(go_at_call 28;go_must (refine HOR.out.mono ?_;rintro e w9 ⟨⟨K,Ao,cao,rfl,hK,hrow⟩,hb9⟩;have HK9:=Lib.hid (show(ordL F bs K).length=K from hK);have HROW:=Lib.hid hrow;have HB9:=Lib.hid hb9;clear hK hrow hb9)))
   have HX9:Hid (SbX w9 V8 b c w9 (bldTo p F O bs (ordL F bs K) 0) V8 []):=Lib.hid (by
    have h:=SbX.start (HX8.out.sb.keeps HB9.out)
    have e:bldTo p F O bs (ordL F bs K) 0=⟨natI (List.range P),List.replicate H zR,List.replicate H zR,List.replicate H zPart⟩:=by
     unfold bldTo bld0
     rw[HBL.out,HPP.out,Int.toNat_natCast];rfl
    rw[e];exact h)
   have HBW9:Hid (Below w4.heap.size w4 w9):=Lib.hid (HBW8.out.trans (HB9.out.mono HBW8.out.size))
   obtain⟨V9,hV9⟩:∃V,V8=V:=⟨_,rfl⟩
   subst hV9
   obtain⟨Ap,cp,hvp,-,hpA⟩:=HX9.out.sb.rowV .parts (n:=H) (by show(List.replicate bs.length zPart).length=H;rw[List.length_replicate,HBL.out])
   obtain⟨gp,rfl,-,-⟩:=hpA hH1
   obtain⟨Aq,cq,hvq,-,hqA⟩:=HX9.out.sb.rowV .began (n:=H) (by show(List.replicate bs.length zR).length=H;rw[List.length_replicate,HBL.out])
   obtain⟨gq,rfl,-,-⟩:=hqA hH1
   have HPV:=Lib.hid hvp
   have HQ:=Lib.hid hvq
   obtain⟨Ao',cao',hAo,hAo2⟩:=own_slice HROW.out
   simp only[Value.slice.injEq,true_and] at hAo
   obtain⟨rfl,rfl⟩:=hAo
   have HOC:Hid (0<K→∃g,Ao=some ⟨g,0,none⟩∧w8.heap.size+1≤g∧g<w9.heap.size∧∀t i:Nat,(ordL F bs K)[t]? =some i→w9.cell? ⟨g,t,none⟩=some (.int .i64 (i:Int))):=Lib.hid (fun h0=>by
    obtain⟨g,hg1,hg2,hg3⟩:=hAo2 h0
    refine⟨g,hg1,(World.ownsRow.lt HROW.out g (by rw[hg1];rfl)).1,hg2,fun t i hti=> ?_⟩
    have htl:=(gI.1 hti).1
    rw[HK9.out] at htl
    refine(hg3 t (by omega)).trans ?_
    show((natI (ordL F bs K)).map _)[t]? =_
    unfold natI
    rw[List.getElem?_map,List.getElem?_map,hti];rfl)
   have hK40:K≤40:=by have h1:=HPZ.out.ol K;have h2:=HPZ.out.le;have h3:=HK9.out;omega
   have HV8S:=Lib.hid (fun(key:SK) (g:Nat) (h:(V8 key).ownBlock=some g)=>(HX8.out.sb.rlt key h).2)
   clear hvp hpA hvq hqA hAo2
   go_loopw [73] (fun v73 wr=>∃(t:Nat) (V' :SK→Value),t≤K∧v73= .int .i64 (t:Int)∧SbX w9 V8 b c wr (bldTo p F O bs (ordL F bs K) t) V' []∧V' .parts=V8 .parts∧V' .ends=V8 .ends∧V' .began=V8 .began) (fun v73 _=>K-(intOf v73).toNat)
   case atStart=>exact⟨0,V8,by omega,rfl,HX9.out,rfl,rfl,rfl⟩
   case round=>
    obtain⟨t,V1,ht,rfl,hX,hv1,hv2,hv3⟩:=hrel
    clear HX9
    have HX:=Lib.hid hX
    have HV:=Lib.hid (show V1 .parts=V8 .parts∧V1 .ends=V8 .ends∧V1 .began=V8 .began from⟨hv1,hv2,hv3⟩)
    by_cases htK:t=K
    ·have htK' :=htK.symm
     subst htK'
     have hfin:=HPZ.out.fin K HK9.out
     obtain⟨s,hs⟩:∃s,bldTo p F O bs (ordL F bs K) K=s:=⟨_,rfl⟩
     rw[hs] at hfin hX
     have hcl:=close_any w4 p k F bs O b c s V1 wr HRO.out (Nat.le_of_eq HB4.out) (HBW9.out.trans (hX.fr.below.mono (Nat.le_of_eq HB4.out))) hX.sb hfin.n (by rw[HBL.out];omega) hfin.ne hfin.e12 hfin.inn hfin.phis hfin.reg hfin.arg hfin.prev
     have HCL:=Lib.hid hcl
     have HFIN:=Lib.hid hfin
     have HST:=Lib.hid hs
     have HXS:=Lib.hid hX
     have HSH:=Lib.hid (fun(W:World) (s2:SB) (V2:SK→Value) (h:SbAt W b c s2 V2) (hc:ClsR s s2 (prevL bs) s.parts.length 0 0)=>(by
      obtain⟨g1,g2,g3,g4,g5,g6,g7,-⟩:=HFIN.out.cls s2 hc
      exact shrink_any b c s2 V2 W h g1 g2 g3 g4 g5 g6 g7:Calls Tryd.prog 32 #[.pointer (some ⟨b,0,none⟩)] W fun e w' =>∃l,e= .returned (.tuple #[])∧(Shr s2 l∧(∃n,l=itS s2 n)∧swP s2 l s2.parts.length=l)∧(∀i k,i<s2.parts.length→k<(s2.part i).phis.length→DoneP s2 l i k)∧SbAt w' b c {s2 with same:=l} V2∧FrS W b V2 w' V2))
     have HCN:=Lib.hid (fun(W:World) (s2:SB) (l:List Int) (V2:SK→Value) (h:SbAt W b c {s2 with same:=l} V2) (hc:ClsR s s2 (prevL bs) s.parts.length 0 0) (hl:Shr s2 l)=>count_any b c {s2 with same:=l} V2 W F.params.toNat h (by rw[HRO.out.params,HPP.out];simp) ((HFIN.out.cls s2 hc).2.2.2.2.2.2.2 l hl))
     have HOP:Hid (c.op=(P:Int)):=Lib.hid HCOP.out
     clear hX hs hfin hcl hv1 hv2 hv3 htK HX
     go_wp2_with (first|(refine wpList_store_mid (by rfl) 50 _ _ (by rfl) (Lp+1) 0 #[.int .i64 (P:Int), .int .i64 vx, .slice A4 H c4] (by rfl) (by rfl) (there_mid HBX13.out (by show 0+3≤3;omega)) infoSsa (by simp[Value.oneCell']) ?_)|(have tok:=HX3;go_at_call 33;go_must (refine(HCN.out _ _ _ _ tok.out.sb HC2.out HL3.out).mono ?_;rintro e w13 ⟨s4,V4,rfl,h1,h2,h3,h4,h5⟩;have HX4:=Lib.hid (show SbAt w13 b _ s4 V4∧Below b w9 w13 from⟨h1,(tok.out.fr.trans h2).below⟩);have HE4:=Lib.hid (show s4.same=_∧s4.parts.length=_∧_ from⟨h3,h4,h5⟩);obtain⟨vx,hvx⟩:∃x:Int,((F.params.toNat+(allG {s2 with same:=l} s2.parts.length).length:Nat):Int)=x:=⟨_,rfl⟩;have HVX:=Lib.hid hvx;obtain⟨A4,c4,hv4,-,-⟩:=h1.rowV .parts (n:=H) (by show s4.parts.length=H;rw[h4,HC2.out.len,HFIN.out.n,HBL.out]);have HV4:=Lib.hid hv4;have k7:w13.cell? ⟨b,7,none⟩=some (.int .i64 (P:Int)):=(h1.cell 7).trans (by show some (Value.int .i64 c.op)=_;rw[HOP.out]);have k8:w13.cell? ⟨b,8,none⟩=some (.int .i64 vx):=(h1.cell 8).trans (by show some (Value.int .i64 _)=_;rw[←hvx]);have k9:w13.cell? ⟨b,9,none⟩=some (.slice A4 H c4):=(h1.cell 9).trans (by show some (V4 .parts)=_;rw[hv4]);have zb13:=h1.lt;have HB13:=Lib.hid (HBW9.out.trans (HX4.out.2.mono (Nat.le_of_eq HB4.out)));have bx13:=(HB13.out.block (Lp+1) HLO.out).trans HXO4.out;have HBX13:=Lib.hid bx13;have zLo:=block_lt bx13;clear h1 h2 h3 h4 h5 hvx hv4 bx13))|(have tok:=HX2;go_at_call 32;go_must (refine(HSH.out _ _ _ tok.out.sb HC2.out).mono ?_;rintro e w12 ⟨l,rfl,h1,h2,h3,h4⟩;have HL3:=Lib.hid h1.1;have HSW3:=Lib.hid h1.2;have HD3:=Lib.hid h2;have HX3:=Lib.hid (tok.out.call h3 h4);clear h1 h2 h3 h4))|(go_at_call 31;go_must (refine HCL.out.mono ?_;rintro e w11 ⟨s2,V2,rfl,h1,h2,h3⟩;have HX2:=Lib.hid (HXS.out.call h1 h2);have HC2:=Lib.hid h3;clear h1 h2 h3)))
     have hrd:=run_loadVar_mid (P:=Tryd.prog) _ _ _ 50 [.int .i64 (P:Int), .int .i64 vx, .slice A4 H c4] _ (World.rangeAt_setCells_same w13 (Lp+1) 0 [.int .i64 (P:Int), .int .i64 vx, .slice A4 H c4] (there_mid HBX13.out (by show 0+3≤3;omega))) Tryd.underlying50 (by rfl) infoSsa
     have hn2:s2.parts.length=bs.length:=by rw[HC2.out.len,HFIN.out.n]
     refine bodyPost_ret (v:= .tuple #[.agg #[.int .i64 (P:Int), .int .i64 vx, .slice A4 H c4], .int .i64 0]) (results_cell2 Tryd.results12 _ _ _ _ _ ?_ hrd) rfl ⟨⟨b,_,s4,V4,O,bs,K,s2,l,by rw[←HVX.out,HPP.out,HV4.out,hn2],by rw[←HB4.out];exact HBW4.out.size,HX4.out.1.setsLow (by have h1:=HLO.out;have h2:=HB4.out;omega) 0 _,HLOK.out,HBOK.out,HK9.out,by rw[HST.out,←HFIN.out.n];exact HC2.out,HL3.out,HSW3.out,fun i k hi hk=>HD3.out i k (by rw[hn2];exact hi) hk,HE4.out.1,by rw[HE4.out.2.1];exact hn2,fun j hj=>by
      have h:=HE4.out.2.2 j (by show j<s2.parts.length;rw[hn2];exact hj)
      rw[h]
      rw[←hn2]
      rfl⟩,below_setCells (by rw[HLP.out];omega) _ _ _ (HBW4.out.trans (HB13.out.mono HBW4.out.size))⟩
     rfl
    ·have ht1:t<K:=by omega
     have ht2:(t:Int)<K:=by omega
     have ht3:(0:Int)≤t:=by omega
     obtain⟨go,rfl,hgo1,hgo2,hgo3⟩:=HOC.out (by omega)
     obtain⟨i,hi⟩:∃i,(ordL F bs K)[t]? =some i:=⟨_,gE (by rw[HK9.out];exact ht1)⟩
     have hrnd:=HPZ.out.rnd K HK9.out t i hi
     obtain⟨s,hs⟩:∃s,bldTo p F O bs (ordL F bs K) t=s:=⟨_,rfl⟩
     rw[hs] at hrnd hX
     have hkept:=hX.fr.kept go hgo2 (by have:=HX8.out.sb.lt;omega) (fun key e=>by have:=HV8S.out key go e;omega)
     have co:wr.cell? ⟨go,t,none⟩=some (.int .i64 (i:Int)):=(World.cell?_of_block (a:=⟨go,t,none⟩) hkept).trans (hgo3 t i hi)
     have zgo:go<wr.heap.size:=Nat.lt_of_lt_of_le hgo2 hX.fr.size
     have HIP:Hid (i<s.parts.length):=Lib.hid (by rw[hrnd.n];exact hrnd.lt)
     have hvp:V1 .parts= .slice (some ⟨gp,0,none⟩) H cp:=hv1.trans HPV.out
     have k9:wr.cell? ⟨b,9,none⟩=some (.slice (some ⟨gp,0,none⟩) H cp):=(hX.sb.cell 9).trans (by show some (V1 .parts)=_;rw[hvp])
     have zb:=hX.sb.lt
     have zgp:=(hX.sb.rlt .parts (g:=gp) (by rw[hvp];rfl)).2
     have fgp:=(hX.sb.own.free .parts (by rw[rowsOf_v];exact hvp) (i*15)).1
     have c0:∃v0,wr.cell? ⟨gp,i*15,none⟩=some (.int .i64 v0):=⟨(s.part i).block,hX.sb.own.cell .parts (by rw[rowsOf_v];exact hvp) (by
      show(partsCells s.parts _ _)[i*15]? =_
      unfold partsCells
      have h:=flat_at (f:=fun j=>(s.parts.getD j noPart).cells (V1 (.phis j)) (V1 (.ins j))) (t:=0) (fun k hk=>part_len hrnd.inn hk _ _) HIP.out (by omega)
      exact h)⟩
     obtain⟨v0,c0⟩:=c0
     have hi1:i<H:=by have:=hrnd.lt;rw[HBL.out] at this;exact this
     have hi2:(i:Int)<H:=by omega
     have hi3:(0:Int)≤i:=by omega
     obtain⟨w10,hw10⟩:∃W,wr.setCell ⟨gp,i*15,none⟩ (.int .i64 (i:Int))=W:=⟨_,rfl⟩
     have hX10:SbX w9 V8 b c w10 (s.blk i) V1 []:=by
      obtain⟨f1,f2⟩:=hX.sb.setBlk hrnd.inn HIP.out hvp
      rw[←hw10];exact hX.call f1 f2
     have k12:w10.cell? ⟨b,12,none⟩=some (.slice (some ⟨gq,0,none⟩) H cq):=(hX10.sb.cell 12).trans (by show some (V1 .began)=_;rw[hv3,HQ.out])
     have zb10:=hX10.sb.lt
     obtain⟨r,hr⟩:∃r,bs[i]? =some r:=⟨_,gE hrnd.lt⟩
     have hprl:prevL bs i=r.pl:=by unfold prevL;rw[hr];rfl
     have HEN:=Lib.hid (fun(W:World) (h:SbX w9 V8 b c W (s.blk i) V1 []) (hb:Below w4.heap.size w4 W)=>enter_any w4 p k F bs O b c (s.blk i) V1 W HRO.out (Nat.le_of_eq HB4.out) hb h.sb (by show s.same.length≤90000;have:=hrnd.len;omega) (mod_inn hrnd.inn (show(s.part i).inn.length=12 from hrnd.inn _ (by unfold SB.part;rw[gD,gE HIP.out];exact List.getElem_mem _))) hrnd.e12 hr (by show i<(s.parts.set i _).length;rw[List.length_set];exact HIP.out) (by
      have hpi:(s.blk i).part i={s.part i with block:=(i:Int)}:=by unfold SB.blk;rw[mod_part HIP.out,if_pos rfl]
      rw[hpi];have:=hrnd.phis;show(s.part i).phis.length≤100;omega) (jn bs i) (by unfold jn;rw[hprl]) (bldE bs s i) (by rw[←hprl];exact hrnd.ends))
     have HX10:=Lib.hid (show SbX w9 V8 b c w10.drew (s.blk i) V1 []∧Below w4.heap.size w4 w10.drew from⟨hX10.keeps (Below.refl _ _).drew,(HBW9.out.trans (hX10.fr.below.mono (Nat.le_of_eq HB4.out))).drew⟩)
     have HR12:Hid ((bldX F O bs s i).R.length=12∧(intsV (bldX F O bs s i).R).toArray.size=12):=Lib.hid (by
      have h:=(entTo_len (jn bs i) i (O.getD (hdA F i) 0) (bldE bs s i) s.same F.regs.toNat).1
      have h2:(bldX F O bs s i).R.length=12:=h
      exact⟨h2,by simp[intsV,h2]⟩)
     have HRND:=Lib.hid hrnd
     have HST:=Lib.hid hs
     have HLT:=Lib.hid hi
     have HR:=Lib.hid hr
     clear hX hv1 hv2 hv3 hi hrnd hs hkept hvp hX10 hr hprl hgo3 HX
     go_wp2_with fail
     clear hw10 k9 c0 fgp zgp zb co zgo
     refine wp_region_held_drew (S:=fun w' =>w'.cell? ⟨b,12,none⟩=some (.slice (some ⟨gq,0,none⟩) H cq)) (by kernel_rfl) k12 (fun hHeld=> ?_)
     clear k12 zb10
     refine wpAnyH_take (i:=0) (v:= .pointer (some ⟨b,0,none⟩)) rfl (by kernel_rfl) (by kernel_rfl) (by kernel_rfl) (fun _ _ _ h=>h) (Or.inl ⟨by rfl,?_⟩) hHeld ?_
     ·intro w hSw
      simp only[qg]
      go_simp
     simp only[Act.put,qs]
     refine wpAnyH_take (i:=1) (v:= .pointer (some ⟨b,0,none⟩)) rfl (by kernel_rfl) (by kernel_rfl) (by kernel_rfl) (fun _ _ _ h=>h) (Or.inl ⟨by rfl,?_⟩) hHeld ?_
     ·intro w hSw
      simp only[qg]
      go_simp
     simp only[Act.put,qs]
     refine wpAnyH_take (i:=2) (v:= .pointer (some ⟨b,12,none⟩)) rfl (by kernel_rfl) (by kernel_rfl) (by kernel_rfl) (fun _ _ _ h=>h) (Or.inl ⟨by rfl,?_⟩) hHeld ?_
     ·intro w hSw
      simp only[qg]
      go_simp
     simp only[Act.put,qs]
     refine wpAnyH_take (i:=3) (v:= .slice (some ⟨gq,0,none⟩) H cq) rfl (by kernel_rfl) (by kernel_rfl) (by kernel_rfl) (fun _ _ _ h=>h) (Or.inl ⟨by rfl,?_⟩) hHeld ?_
     ·intro w hSw
      have p0:=hSw
      simp only[qg]
      go_simp
     simp only[Act.put,qs]
     refine wpAnyH_take (i:=4) (v:= .int .i64 (i:Int)) rfl (by kernel_rfl) (by kernel_rfl) (by kernel_rfl) (fun _ _ _ h=>h) (Or.inl ⟨by rfl,?_⟩) hHeld ?_
     ·intro w hSw
      simp only[qg]
      go_simp
     simp only[Act.put,qs]
     refine wpAnyH_take (i:=5) (v:= .pointer (some ⟨b,0,none⟩)) rfl (by kernel_rfl) (by kernel_rfl) (by kernel_rfl) (fun _ _ _ h=>h) (Or.inl ⟨by rfl,?_⟩) hHeld ?_
     ·intro w hSw
      simp only[qg]
      go_simp
     simp only[Act.put,qs]
     refine wpAnyH_take (i:=6) (v:= .int .i64 (i:Int)) rfl (by kernel_rfl) (by kernel_rfl) (by kernel_rfl) (fun _ _ _ h=>h) (Or.inl ⟨by rfl,?_⟩) hHeld ?_
     ·intro w hSw
      simp only[qg]
      go_simp
     simp only[Act.put,qs]
     refine wpAnyH_ready (rs:=[7]) (by kernel_rfl) (by simp) ?_
     refine AllReadyH.cons rfl (fun K hK=> ?_) AllReadyH.nil
     simp only[qg]
     go_simp
     refine(HEN.out _ HX10.out.1 HX10.out.2).mono ?_
     rintro e w11 ⟨V2,rfl,h1,h2,h3,h4,h5⟩
     have HX11:=Lib.hid ((HX10.out.1).call h1 h2)
     have HV11:=Lib.hid (show V2 .parts=V8 .parts∧V2 .ends=V8 .ends∧V2 .began=V8 .began from⟨h3.trans HV.out.1,h4.trans HV.out.2.1,h5.trans HV.out.2.2⟩)
     have HVQ:Hid (V2 .began= .slice (some ⟨gq,0,none⟩) H cq):=Lib.hid (HV11.out.2.2.trans HQ.out)
     have HS11:=Lib.hid (show w11.cell? ⟨b,12,none⟩=some (.slice (some ⟨gq,0,none⟩) H cq) from(h1.cell 12).trans (by show some (V2 .began)=_;rw[HVQ.out]))
     have HTH:=Lib.hid (own_there' h1.own .began (by rw[rowsOf_v];exact HVQ.out) (o:=i*12) (m:=(intsV (bldX F O bs s i).R).toArray.size) (by
      show _≤(regCells s.began).length
      rw[regs_len HRND.out.b12,HRND.out.nb,HBL.out,HR12.out.2]
      have h9:(i+1)*12≤H*12:=Nat.mul_le_mul_right 12 (by omega)
      omega))
     have HGB:Hid (gq≠b):=Lib.hid (by have:=(h1.rlt .began (g:=gq) (by rw[HVQ.out];rfl)).1;omega)
     clear h1 h2 h3 h4 h5
     refine hK.out _ _ HS11.out (fun hHeld=> ?_)
     clear hK K
     refine wpAnyH_take (i:=8) (v:= .pointer (some ⟨gq,i*12,none⟩)) rfl (by kernel_rfl) (by kernel_rfl) (by kernel_rfl) (fun _ _ _ h=>h) (Or.inl ⟨by rfl,?_⟩) hHeld ?_
     ·intro w hSw
      simp only[qg]
      go_simp
     simp only[Act.put,qs]
     refine wpAnyH_ready (rs:=[9]) (by kernel_rfl) (by simp) ?_
     refine AllReadyH.cons rfl (fun K hK=> ?_) AllReadyH.nil
     simp only[qg]
     refine wp_store_mid 40 _ _ (by rfl) gq (i*12) (intsV (bldX F O bs s i).R).toArray (by rfl) (by rfl) HTH.out (by simpa using boxI_info HR12.out.1) (boxI_one _) ?_
     refine hK.out _ _ ((World.cell?_setCells_out _ _ _ _ _ (fun e _=>absurd e (HGB.out.symm))).trans HS11.out) (fun hHeld=> ?_)
     clear hK K
     clear hHeld
     refine wpAnyH_done (by kernel_rfl) ?_ _
     obtain⟨w12,hw12⟩:∃W,w11.setCells gq (i*12) (intsV (bldX F O bs s i).R).toArray.toList=W:=⟨_,rfl⟩
     have hX12:SbX w9 V8 b c w12 (((s.blk i).ent i (bldX F O bs s i)).beg i (bldX F O bs s i).R) V2 []:=by
      obtain⟨f1,f2⟩:=HX11.out.sb.setBegan (i:=i) (R:=(bldX F O bs s i).R) HRND.out.b12 (by show i<s.began.length;rw[HRND.out.nb];exact HRND.out.lt) HR12.out.1 HVQ.out
      rw[←hw12]
      exact HX11.out.call f1 f2
     rw[hw12]
     have hrng:w12.rangeAt gq (i*12) (intsV (bldX F O bs s i).R):=by
      have h:=hX12.sb.beganRange (i:=i) (fun x hx=>by
       rcases List.mem_or_eq_of_mem_set (show x∈s.began.set i (bldX F O bs s i).R from hx) with h|h
       ·exact HRND.out.b12 x h
       ·rw[h];exact HR12.out.1) (by show i<(s.began.set i (bldX F O bs s i).R).length;rw[List.length_set,HRND.out.nb];exact HRND.out.lt) HVQ.out
      have e:(((s.blk i).ent i (bldX F O bs s i)).beg i (bldX F O bs s i).R).began.getD i []=(bldX F O bs s i).R:=by
       show(s.began.set i (bldX F O bs s i).R).getD i []=_
       rw[getD_set _ (by rw[HRND.out.nb];exact HRND.out.lt),if_pos rfl]
      rw[e] at h;exact h
     have HRG:=Lib.hid hrng
     have k12:w12.cell? ⟨b,12,none⟩=some (.slice (some ⟨gq,0,none⟩) H cq):=(hX12.sb.cell 12).trans (by show some (V2 .began)=_;rw[HVQ.out])
     have zb12:=hX12.sb.lt
     have zq12:=(hX12.sb.rlt .began (g:=gq) (by rw[HVQ.out];rfl)).2
     have HX12:=Lib.hid hX12
     have HBO:=Lib.hid (body_any w4 p k F bs O b c _ V2 w12 HRO.out (Nat.le_of_eq HB4.out) (HBW9.out.trans (hX12.fr.below.mono (Nat.le_of_eq HB4.out))) hX12.sb (by
      show(bldX F O bs s i).S.length≤90000
      have h1:=(entTo_len (jn bs i) i (O.getD (hdA F i) 0) (bldE bs s i) s.same F.regs.toNat).2.1
      have h2:=HRND.out.len
      have h3:=HFO.out.r2
      show(entTo _ _ _ _ _ _).S.length≤_
      omega) (fun x hx=>by
      have h1:(((s.blk i).ent i (bldX F O bs s i)).beg i (bldX F O bs s i).R).parts=(s.parts.set i {s.part i with block:=(i:Int)}).set i {(s.blk i).part i with phis:=((s.blk i).part i).phis++(bldX F O bs s i).P}:=rfl
      rw[h1] at hx
      have hpi:(s.blk i).part i={s.part i with block:=(i:Int)}:=by unfold SB.blk;rw[mod_part HIP.out,if_pos rfl]
      have h12:(s.part i).inn.length=12:=HRND.out.inn _ (by unfold SB.part;rw[gD,gE HIP.out];exact List.getElem_mem _)
      rcases List.mem_or_eq_of_mem_set hx with h|h
      ·rcases List.mem_or_eq_of_mem_set h with h|h
       ·exact HRND.out.inn x h
       ·rw[h];exact h12
      ·rw[h,hpi];exact h12) HRND.out.e12 HR.out (by
      show i<((s.parts.set i _).set i _).length
      rw[List.length_set,List.length_set];exact HIP.out) (by show i<s.ends.length;rw[HRND.out.ne];exact HRND.out.lt) (by
      have h2:=ent_part (s.blk i) (i:=i) (by show i<(s.parts.set i _).length;rw[List.length_set];exact HIP.out) (bldX F O bs s i)
      have hpi:(s.blk i).part i={s.part i with block:=(i:Int)}:=by unfold SB.blk;rw[mod_part HIP.out,if_pos rfl]
      show(((s.blk i).ent i (bldX F O bs s i)).part i).ins.length≤100
      rw[h2,hpi]
      have:=HRND.out.ins
      show(s.part i).ins.length≤100
      omega) (bldX F O bs s i).R HR12.out.1)
     clear hw12 hX12 hrng hHeld
     go_wp2_with (first|(go_at_call 30;go_must (refine HBO.out.mono ?_;rintro e w13 ⟨V3,rfl,h1,h2,h3,h4,h5⟩;have HX13:=Lib.hid (HX12.out.call h1 h2);have HV13:=Lib.hid (show V3 .parts=V8 .parts∧V3 .ends=V8 .ends∧V3 .began=V8 .began from⟨h3.trans HV11.out.1,h4.trans HV11.out.2.1,h5.trans HV11.out.2.2⟩);clear h1 h2 h3 h4 h5 k12 zb12 zq12))|(refine wpList_load_mid (by rfl) 40 _ (by rfl) gq (i*12) (by rfl) (intsV (bldX F O bs s i).R) _ HRG.out Tryd.underlying40 (by rfl) (boxI_info HR12.out.1) ?_))
     go_roundw
     case rel=>exact⟨t+1,V3,by omega,by go_num,by rw[bldTo_succ p F O bs _ HLT.out,HST.out,←bldStep_eq p F O bs s HIP.out];exact HX13.out,HV13.out.1,HV13.out.2.1,HV13.out.2.2⟩
     case measure=>simp[intOf];omega
  ·have hj1:j<P:=by omega
   have hj2:(j:Int)<P:=by omega
   have hj3:(0:Int)≤j:=by omega
   have hvl:=value_any b c _ V8 wr hX.sb (by show(natI (List.range j)).length≤100000;simp[natI];omega)
   have HVA:=Lib.hid hvl
   have HX:=Lib.hid hX
   have HNR:Hid (natI (List.range j)++[((natI (List.range j)).length:Int)]=natI (List.range (j+1))):=Lib.hid (by
    unfold natI
    rw[List.range_succ,List.map_append,List.length_map,List.length_range];rfl)
   clear hX hvl
   go_wp2_with (first|(go_at_call 27;go_must (refine HVA.out.mono ?_;rintro e w8 ⟨rfl,v8,h1,h2⟩;have HX8:=Lib.hid (HX.out.call h1 h2);clear h1 h2)))
   go_roundw
   case rel=>exact⟨j+1,_,by omega,by go_num,by rw[←HNR.out];exact HX8.out⟩
   case measure=>simp[intOf];omega
end Go.Proofs.YtedcjapmmnbamaaDoor
namespace Tier
def Behind(nx:Nat→List Nat)(l:List Nat):Prop:=∀t,1≤t→t<l.length→∃u,u<t∧l.getD t 0∈nx (l.getD u 0)
theorem snoc_getD(l:List Nat)(x:Nat){j:Nat}(h:j<l.length):(l++[x]).getD j 0=l.getD j 0:=by
 rw[gD,gD,List.getElem?_append_left h]
theorem fold_behind{nx:Nat→List Nat}{e u:Nat}:∀(ns:List Nat) {x:OS},(∀n∈ns,n∈nx e)→u<x.l.length→x.l.getD u 0=e→Behind nx x.l→Behind nx (ns.foldl ordIn x).l
 |[],_,_,_,_,h=>h
 |n::ns,x,hn,hu,he,h=>by
  rw[List.foldl_cons]
  unfold ordIn
  split
  ·exact fold_behind ns (fun m hm=>hn m (.tail _ hm)) hu he h
  ·refine fold_behind ns (x:=⟨x.seen.set n true,x.l++[n]⟩) (fun m hm=>hn m (.tail _ hm)) (by show u<(x.l++[n]).length;rw[List.length_append];omega) (by show(x.l++[n]).getD u 0=e;rw[snoc_getD _ _ hu];exact he) (fun t h1 h2=> ?_)
   have h2:t<(x.l++[n]).length:=h2
   rw[List.length_append,List.length_singleton] at h2
   show∃u,u<t∧(x.l++[n]).getD t 0∈nx ((x.l++[n]).getD u 0)
   by_cases e1:t<x.l.length
   ·obtain⟨v,h3,h4⟩:=h t h1 e1
    exact⟨v,h3,by rw[snoc_getD _ _ e1,snoc_getD _ _ (by omega)];exact h4⟩
   ·have e2:t=x.l.length:=by omega
    refine⟨u,by omega,?_⟩
    rw[snoc_getD _ _ hu,he]
    have e3:(x.l++[n]).getD t 0=n:=by rw[e2,gD,List.getElem?_append_right (Nat.le_refl _)];simp
    rw[e3];exact hn n (.head _)
theorem ord_facts{nx:Nat→List Nat}{N:Nat}(hN:0<N)(hnx:∀i,i<N→∀n∈nx i,n<N):∀k,OInv N (ordTo nx N k)∧Behind nx (ordTo nx N k).l∧∀u,u<k→u<(ordTo nx N k).l.length→∀n∈nx ((ordTo nx N k).l.getD u 0),n∈(ordTo nx N k).l
 |0=>by
  have e:ordTo nx N 0=⟨(List.replicate N false).set 0 true,[0]⟩:=rfl
  rw[e]
  exact⟨OInv.start hN,fun t h1 h2=>by have h2:t<[0].length:=h2;simp at h2;omega,fun u hu=>by omega⟩
 |k+1=>by
  obtain⟨h1,h2,h3⟩:=ord_facts hN hnx k
  rw[ordTo_succ]
  generalize ordTo nx N k=x at h1 h2 h3
  unfold ordStep
  obtain⟨z,hz⟩:=h1.fst
  have hl1:0<x.l.length:=by rw[hz];simp
  obtain⟨u,hu,he⟩:∃u,u<x.l.length∧x.l.getD u 0=x.l.getD k 0:=by
   by_cases e:k<x.l.length
   ·exact⟨k,e,rfl⟩
   ·refine⟨0,hl1,?_⟩
    rw[gD (i:=k),List.getElem?_eq_none (by omega),hz];rfl
  have hem:x.l.getD k 0∈x.l:=by
   rw[←he,gD,gE hu];exact List.getElem_mem _
  have heN:=((h1.mem _).1 hem).1
  have hns:=hnx _ heN
  refine⟨h1.fold _ hns,fold_behind _ (fun n hn=>hn) hu he h2,fun v hv hvl n hn=> ?_⟩
  obtain⟨t,ht⟩:=fold_pre (nx (x.l.getD k 0)) x
  rw[ht] at hvl hn⊢
  by_cases ev:v<x.l.length
  ·have e1:(x.l++t).getD v 0=x.l.getD v 0:=by
    rw[gD,gD,List.getElem?_append_left ev]
   rw[e1] at hn
   by_cases evk:v=k
   ·subst evk
    have:=fold_seen _ h1 hns n hn
    rw[ht] at this;exact this
   ·exact List.mem_append_left _ (h3 v (by omega) ev n hn)
  ·exfalso
   have hk:x.l.length≤k:=by omega
   have hk0:x.l.getD k 0=0:=by rw[gD,List.getElem?_eq_none hk];rfl
   have h0:∀n∈nx (x.l.getD k 0),n∈x.l:=fun n hn=>by
    have:=h3 0 (by omega) hl1 n (by
     have e0:x.l.getD 0 0=0:=by rw[hz];rfl
     rw[e0,←hk0];exact hn)
    exact this
   have hd:=fold_done _ h1 h0
   rw[hd] at ht
   have:t.length=0:=by
    have:=congrArg List.length ht
    rw[List.length_append] at this;omega
   rw[List.length_append] at hvl
   omega
end Tier
namespace Go.Proofs.YtedcjapmmnbamaaDoor
open Go.RowKit Tier
section
variable {p:List Fnc}{F:Fnc}
theorem nxI_lt2(hp:Right p)(hF:F∈p){a i:Nat}(ha:a∈hdL F)(h:i∈nxI F a):i<(hdL F).length:=by
 unfold nxI at h
 rw[List.mem_map] at h
 obtain⟨m,hm,rfl⟩:=h
 exact(gI.1 (posH_get (nxN_head hp hF ha hm))).1
theorem hdA_mem2{q:Nat}(h:q<(hdL F).length):hdA F q∈hdL F∧(hdL F)[q]? =some (hdA F q):=by
 have h1:(hdL F)[q]? =some (hdL F)[q]:=gE h
 rw[hdA_eq h1]
 exact⟨List.getElem_mem h,h1⟩
theorem posH_hdA2{q:Nat}(h:q<(hdL F).length):posH F (hdA F q)=q:=(posH_of (hdA_mem2 h).2).symm
theorem hdA_posH2{n:Nat}(h:n∈hdL F):hdA F (posH F n)=n:=hdA_eq (posH_get h)
theorem blocks_ind(hp:Right p)(hF:F∈p){C:Nat→Prop}(h0:C 0)(hs:∀q,q<(hdL F).length→C q→∀n∈nxI F (hdA F q),C n):∀i,i<(hdL F).length→C i:=by
 have key:∀n,Path F n→∃a,a∈hdL F∧a≤n∧n<toF F a∧C (posH F a):=fun n h=>by
  induction h with
  |zero=>
   have hz:=zero_head hp hF
   have hm:=gM hz
   exact⟨0,hm,Nat.le_refl _,(toF_spec hp hF hm).1,by rw[←posH_of hz];exact h0⟩
  |step hq hx hn ih=>
   rename_i q n x
   obtain⟨a,ha,h1,h2,h3⟩:=ih
   by_cases he:q+1<toF F a
   ·have ho:=cov_end hp hF ha h1 he
    rw[insAt_eq hx] at ho
    have h5:nextL x q=[q+1]:=by unfold nextL;rw[if_neg (by omega),if_neg (by omega),if_neg (by omega)]
    rw[h5] at hn
    obtain rfl:=List.mem_singleton.1 hn
    exact⟨a,ha,by omega,he,h3⟩
   ·have hT:toF F a=q+1:=by omega
    have hm:n∈nxN F a:=by
     unfold nxN
     rw[hT,Nat.add_sub_cancel,insAt_eq hx]
     exact(nextS_mem _ _ _).2 hn
    have hnh:=nxN_head hp hF ha hm
    refine⟨n,hnh,Nat.le_refl _,(toF_spec hp hF hnh).1,hs _ (gI.1 (posH_get ha)).1 h3 _ ?_⟩
    rw[hdA_posH2 ha]
    exact List.mem_map.2 ⟨n,hm,rfl⟩
 intro i hi
 obtain⟨hm,hg⟩:=hdA_mem2 hi
 obtain⟨hl,hr⟩:=head_rch hp hF hm
 obtain⟨a,ha,h1,h2,h3⟩:=key _ (rch_path hp hF hr)
 have he:=cov_one hp hF ha hm h1 h2 (Nat.le_refl _) (toF_spec hp hF hm).1
 rw[he,posH_hdA2 hi] at h3
 exact h3
theorem useA_reads{x:Ins}(h:useA p x=true):(readsM x (parOf p x)).testBit x.a.toNat=true:=by
 unfold useA takesA at h
 simp only[Bool.and_eq_true,Bool.not_eq_true',Bool.or_eq_false_iff,beq_eq_false_iff_ne,ne_eq,Bool.or_eq_true,bne_iff_ne,decide_eq_true_eq] at h
 exact reads_a (by omega) (by omega) (fun e=>by omega)
theorem useB_reads{x:Ins}(h:useB p x=true):(readsM x (parOf p x)).testBit x.b.toNat=true:=by
 unfold useB takesB at h
 simp only[Bool.and_eq_true,Bool.not_eq_true',Bool.or_eq_false_iff,beq_eq_false_iff_ne,ne_eq,Bool.or_eq_true,bne_iff_ne,decide_eq_true_eq] at h
 exact reads_b (by omega) (by omega) (fun e=>by omega)
theorem bod_live{O:List Nat}(hp:Right p)(hF:F∈p)(hO:LiveOk p F O){a:Nat}(ha:a∈hdL F){R:List Int}(hR:R.length=12)(S:List Int)(h0:∀r,(O.getD a 0).testBit r=true→0≤R.getD r 0):∀n,a+n≤toF F a→
 (∀m,((n=0∧m=a)∨(0<n∧m∈nextL (insAt F (a+n-1)) (a+n-1)))→∀r,(O.getD m 0).testBit r=true→0≤(bodTo p F a R S n).R.getD r 0)∧
 ∀t,t<n→(useA p (insAt F (a+t))=true→0≤((bodTo p F a R S n).I.getD t noIns).a)∧(useA p (insAt F (a+t))=false→((bodTo p F a R S n).I.getD t noIns).a= -1)∧(useB p (insAt F (a+t))=true→0≤((bodTo p F a R S n).I.getD t noIns).b)∧(useB p (insAt F (a+t))=false→((bodTo p F a R S n).I.getD t noIns).b= -1)
 |0,_=>⟨fun m hm r hr=>by
  rcases hm with⟨_,rfl⟩|⟨h,_⟩
  ·exact h0 r hr
  ·omega,fun t ht=>by omega⟩
 |n+1,hn=>by
  obtain⟨h1,h2⟩:=bod_live hp hF hO ha hR S h0 n (by omega)
  obtain⟨hl1,hl2,hl3⟩:=bodTo_len p F a hR S n
  rw[bodTo_succ]
  generalize bodTo p F a R S n=y at h1 h2 hl1 hl2 hl3
  have hpr:rchB F (a+n)=true:=cov_rch hp hF ha (by omega) (by omega)
  have hpl:a+n<F.code.length:=by have:=(toF_spec hp hF ha).2.1;omega
  have hx:F.code[a+n]? =some (insAt F (a+n)):=by unfold insAt;rw[gD,gE hpl];rfl
  have hio:=(hp.ok.fn F hF).ins _ (gM hx)
  have hr12:=(hp.ok.fn F hF).r2
  obtain⟨hp1,hp2⟩:=hO.pre (a+n) _ hpr hx
  have hlive:∀r,(O.getD (a+n) 0).testBit r=true→0≤y.R.getD r 0:=by
   refine h1 (a+n) ?_
   by_cases e:n=0
   ·subst e;exact .inl ⟨rfl,rfl⟩
   ·right
    have ho:=cov_end hp hF ha (pc:=a+n-1) (by omega) (by omega)
    refine⟨by omega,?_⟩
    unfold nextL
    rw[if_neg (by omega),if_neg (by omega),if_neg (by omega),show a+n-1+1=a+n by omega]
    exact .head _
  generalize hxx:insAt F (a+n)=x at hx hio hp1 hp2
  have d1:=hio.dst1
  have d2:=hio.dst2
  have hstep:bodStep p F y (a+n)=if setsB x=true then⟨y.R.set x.dst.toNat (y.S.length:Int),y.I++[insV p x y.R (a+n) (y.S.length:Int)],y.S++[(y.S.length:Int)]⟩ else⟨y.R,y.I++[insV p x y.R (a+n) (-1)],y.S⟩:=by
   unfold bodStep
   rw[hxx]
  have hI:∀(z:InsS) (t:Nat),t<n+1→(y.I++[z]).getD t noIns=if t<n then y.I.getD t noIns else z:=fun z t ht=>by
   rw[getD_snoc' _ _ _ (by rw[List.length_append,hl3,List.length_singleton];exact ht),hl3]
  have hv:∀id,(useA p x=true→0≤(insV p x y.R (a+n) id).a)∧(useA p x=false→(insV p x y.R (a+n) id).a= -1)∧(useB p x=true→0≤(insV p x y.R (a+n) id).b)∧(useB p x=false→(insV p x y.R (a+n) id).b= -1):=fun id=>by
   unfold insV
   dsimp only
   refine⟨fun h=> ?_,fun h=> ?_,fun h=> ?_,fun h=> ?_⟩
   ·rw[if_pos h];exact hlive _ (hp2 _ (useA_reads h))
   ·rw[if_neg (by rw[h];decide)]
   ·rw[if_pos h];exact hlive _ (hp2 _ (useB_reads h))
   ·rw[if_neg (by rw[h];decide)]
  rw[hstep]
  cases hs:setsB x with
  |true=>
   rw[if_pos rfl]
   refine⟨fun m hm r hr=> ?_,fun t ht=> ?_⟩
   ·rcases hm with⟨h,_⟩|⟨_,hm⟩
    ·omega
    ·rw[show a+(n+1)-1=a+n by omega,hxx] at hm
     show 0≤(y.R.set x.dst.toNat _).getD r 0
     rw[getD_set _ (by omega)]
     by_cases e:r=x.dst.toNat
     ·rw[if_pos e];omega
     ·rw[if_neg e]
      refine hlive r (hp1 m hm r hr ?_)
      unfold setM
      rw[if_pos hs,pow_bit]
      simpa using fun e' :x.dst.toNat=r=>e e'.symm
   ·show(_→0≤((y.I++[_]).getD t noIns).a)∧(_→((y.I++[_]).getD t noIns).a= -1)∧(_→0≤((y.I++[_]).getD t noIns).b)∧(_→((y.I++[_]).getD t noIns).b= -1)
    rw[hI _ t ht]
    by_cases e:t<n
    ·rw[if_pos e];exact h2 t e
    ·obtain rfl:t=n:=by omega
     rw[if_neg e,hxx];exact hv _
  |false=>
   rw[if_neg (by simp)]
   refine⟨fun m hm r hr=> ?_,fun t ht=> ?_⟩
   ·rcases hm with⟨h,_⟩|⟨_,hm⟩
    ·omega
    ·rw[show a+(n+1)-1=a+n by omega,hxx] at hm
     refine hlive r (hp1 m hm r hr ?_)
     unfold setM
     rw[if_neg (by rw[hs];decide)];simp
   ·show(_→0≤((y.I++[_]).getD t noIns).a)∧(_→((y.I++[_]).getD t noIns).a= -1)∧(_→0≤((y.I++[_]).getD t noIns).b)∧(_→((y.I++[_]).getD t noIns).b= -1)
    rw[hI _ t ht]
    by_cases e:t<n
    ·rw[if_pos e];exact h2 t e
    ·obtain rfl:t=n:=by omega
     rw[if_neg e,hxx];exact hv _
end
structure PartOk(p:List Fnc)(F:Fnc)(O:List Nat)(bs:List BR)(j:Nat)(x:PartS)(B E:List Int)(lo hi:Nat):Prop where
 block:x.block=(j:Int)
 inn:x.inn=zR
 phl:x.phis.length≤12
 phj:jn bs j=false→x.phis=[]
 pid:∀k,k<x.phis.length→(x.phis.getD k noPhi).id=((lo+k:Nat):Int)∧(x.phis.getD k noPhi).args=[]
 preg:∀k,k<x.phis.length→∃r:Nat,(x.phis.getD k noPhi).reg=r∧r<12∧r<F.regs.toNat∧(O.getD (hdA F j) 0).testBit r=true∧B.getD r 0=(x.phis.getD k noPhi).id
 pinc:∀k k',k<k' →k' <x.phis.length→(x.phis.getD k noPhi).reg<(x.phis.getD k' noPhi).reg
 plo:lo+x.phis.length≤hi
 il:x.ins.length=toF F (hdA F j)-hdA F j
 op:∀t,t<x.ins.length→(x.ins.getD t noIns).op=(insAt F (hdA F j+t)).op∧(x.ins.getD t noIns).imm=(insAt F (hdA F j+t)).imm∧(x.ins.getD t noIns).pc=((hdA F j+t:Nat):Int)
 set:∀t,t<x.ins.length→setsB (insAt F (hdA F j+t))=true→∃v:Nat,(x.ins.getD t noIns).id=v∧lo+x.phis.length≤v∧v<hi
 non:∀t,t<x.ins.length→setsB (insAt F (hdA F j+t))=false→(x.ins.getD t noIns).id= -1
 inc:∀t t',t<t' →t' <x.ins.length→0≤(x.ins.getD t' noIns).id→(x.ins.getD t noIns).id<(x.ins.getD t' noIns).id
 cov:∀v,lo≤v→v<hi→(∃k,k<x.phis.length∧(x.phis.getD k noPhi).id=(v:Int))∨∃t,t<x.ins.length∧(x.ins.getD t noIns).id=(v:Int)
 red:∀t,t<x.ins.length→(useA p (insAt F (hdA F j+t))=true→0≤(x.ins.getD t noIns).a)∧(useA p (insAt F (hdA F j+t))=false→(x.ins.getD t noIns).a= -1)∧(useB p (insAt F (hdA F j+t))=true→0≤(x.ins.getD t noIns).b)∧(useB p (insAt F (hdA F j+t))=false→(x.ins.getD t noIns).b= -1)
 ab:∀t,t<x.ins.length→-1≤(x.ins.getD t noIns).a∧(x.ins.getD t noIns).a<hi∧-1≤(x.ins.getD t noIns).b∧(x.ins.getD t noIns).b<hi
 b12:B.length=12
 e12:E.length=12
 live:∀r,(O.getD (hdA F j) 0).testBit r=true→0≤B.getD r 0
 dead:∀r,r<12→(O.getD (hdA F j) 0).testBit r=false→B.getD r 0= -1
 bv:∀v∈B,-1≤v∧v<hi
 ev:∀v∈E,-1≤v∧v<hi
 elive:∀n∈nxI F (hdA F j),∀r,(O.getD (hdA F n) 0).testBit r=true→0≤E.getD r 0
 vj:jn bs j=true→∀r,(O.getD (hdA F j) 0).testBit r=true→∃k,k<x.phis.length∧(x.phis.getD k noPhi).reg=r∧(x.phis.getD k noPhi).id=B.getD r 0
section
variable {p:List Fnc}{F:Fnc}{O:List Nat}{bs:List BR}
theorem live_regs(hk:checkP p=0)(hF:F∈p)(hO:LiveOk p F O){pc r:Nat}(hr:rchB F pc=true)(h:(O.getD pc 0).testBit r=true):r<F.regs.toNat:=by
 have hp:=right_of hk
 obtain⟨m,hm⟩:=rch_of hr
 have h1:=hO.sure hk hF hm r h
 have h2:=sure_regs (hp.ok.fn F hF) pc m hm
 by_cases e:r<F.regs.toNat
 ·exact e
 ·have:=Nat.testBit_lt_two_pow (x:=m) (i:=r) (Nat.lt_of_lt_of_le h2 (Nat.pow_le_pow_right (by omega) (by omega)))
  rw[this] at h1;simp at h1
theorem live_entry(hk:checkP p=0)(hF:F∈p)(hO:LiveOk p F O){r:Nat}(h:(O.getD 0 0).testBit r=true):r<F.params.toNat:=by
 have hp:=right_of hk
 have hfo:=hp.ok.fn F hF
 have h1:=hO.sure hk hF (sure_zero hfo.cok hfo.p2) r h
 rw[Nat.testBit_two_pow_sub_one] at h1
 simpa using h1
theorem turn_ok(hk:checkP p=0)(hF:F∈p)(hO:LiveOk p F O){s:SB}{i:Nat}(hi:i<(hdL F).length)(hpi:s.part i=zPart)(hin:i<s.parts.length)
 (hE:jn bs i=false→i≠0→(∀v∈bldE bs s i,-1≤v∧v<s.same.length)∧(bldE bs s i).length=12∧∀r,(O.getD (hdA F i) 0).testBit r=true→0≤(bldE bs s i).getD r 0) (hP:F.params.toNat≤s.same.length):
 PartOk p F O bs i ((bldStep p F O bs s i).part i) (bldX F O bs s i).R (bldY p F O bs s i).R s.same.length (bldStep p F O bs s i).same.length:=by
 have hp:=right_of hk
 have hfo:=hp.ok.fn F hF
 obtain⟨ham,hag⟩:=hdA_mem2 hi
 obtain⟨hal,har⟩:=head_rch hp hF ham
 have hr12:=hfo.r2
 have hr1:=hfo.r1
 have hz:=toF_spec hp hF ham
 have hX:=ent_facts (jn bs i) i (O.getD (hdA F i) 0) (bldE bs s i) s.same F.regs.toNat (by omega)
 have hXe:entTo (jn bs i) i (O.getD (hdA F i) 0) (bldE bs s i) s.same F.regs.toNat=bldX F O bs s i:=rfl
 rw[hXe] at hX
 have hab:∀t,t<toF F (hdA F i)-hdA F i→0≤(insAt F (hdA F i+t)).a∧(insAt F (hdA F i+t)).a<12∧0≤(insAt F (hdA F i+t)).b∧(insAt F (hdA F i+t)).b<12:=fun t ht=>by
  have hpl:hdA F i+t<F.code.length:=by omega
  have hio:=hfo.ins (insAt F (hdA F i+t)) (by unfold insAt;rw[gD,gE hpl];exact List.getElem_mem _)
  have:=hio.a1;have:=hio.a2;have:=hio.b1;have:=hio.b2
  exact⟨by omega,by omega,by omega,by omega⟩
 have hY:=bod_facts p F (hdA F i) hX.rl (bldX F O bs s i).S (toF F (hdA F i)-hdA F i) hab
 have hYe:bodTo p F (hdA F i) (bldX F O bs s i).R (bldX F O bs s i).S (toF F (hdA F i)-hdA F i)=bldY p F O bs s i:=rfl
 rw[hYe] at hY
 have hlr:∀r,(O.getD (hdA F i) 0).testBit r=true→r<F.regs.toNat:=fun r h=>live_regs hk hF hO har h
 have hlive:∀r,(O.getD (hdA F i) 0).testBit r=true→0≤(bldX F O bs s i).R.getD r 0:=fun r h=>by
  cases hj:jn bs i with
  |true=>
   obtain⟨k,h1,h2,h3⟩:=hX.vj hj r (hlr r h) h
   rw[←h3,(hX.pid k h1).1];omega
  |false=>
   rw[hX.val r (hlr r h) h hj]
   by_cases e:i=0
   ·rw[if_pos e];omega
   ·rw[if_neg e];exact(hE hj e).2.2 r h
 have hL:=bod_live hp hF hO ham hX.rl (bldX F O bs s i).S hlive (toF F (hdA F i)-hdA F i) (by omega)
 rw[hYe] at hL
 have hsl:(bldX F O bs s i).S.length=s.same.length+(bldX F O bs s i).P.length:=hX.sl
 have hbv:∀v∈(bldX F O bs s i).R,-1≤v∧v<(bldX F O bs s i).S.length:=fun v hv=>by
  obtain⟨r,hr,rfl⟩:=List.getElem_of_mem hv
  have hr' :r<12:=by rw[←hX.rl];exact hr
  have e:(bldX F O bs s i).R[r]=(bldX F O bs s i).R.getD r 0:=by rw[gD,gE hr];rfl
  rw[e]
  cases hb:(O.getD (hdA F i) 0).testBit r with
  |false=>rw[hX.dead r hr' (fun h=>by rw[hb] at h;simp at h)];omega
  |true=>
   cases hj:jn bs i with
   |true=>
    obtain⟨k,h1,h2,h3⟩:=hX.vj hj r (hlr r hb) hb
    rw[←h3,(hX.pid k h1).1];omega
   |false=>
    rw[hX.val r (hlr r hb) hb hj]
    by_cases e:i=0
    ·rw[if_pos e]
     subst e
     have h0:hdA F 0=0:=hdA_eq (zero_head hp hF)
     rw[h0] at hb
     have:=live_entry hk hF hO hb
     omega
    ·rw[if_neg e]
     obtain⟨h1,h2,-⟩:=hE hj e
     have:=h1 _ (getD_mem12 h2 hr')
     omega
 have hpart:(bldStep p F O bs s i).part i=⟨(i:Int),(bldX F O bs s i).P,(bldY p F O bs s i).I,zR⟩:=by
  have h:=part_set s hin ⟨(i:Int),(s.part i).phis++(bldX F O bs s i).P,(s.part i).ins++(bldY p F O bs s i).I,(s.part i).inn⟩ i
  rw[if_pos rfl] at h
  show SB.part ⟨_,_,_,s.parts.set i _⟩ i=_
  have h2:SB.part ⟨(bldY p F O bs s i).S,s.ends.set i (bldY p F O bs s i).R,s.began.set i (bldX F O bs s i).R,s.parts.set i ⟨(i:Int),(s.part i).phis++(bldX F O bs s i).P,(s.part i).ins++(bldY p F O bs s i).I,(s.part i).inn⟩⟩ i=⟨(i:Int),(s.part i).phis++(bldX F O bs s i).P,(s.part i).ins++(bldY p F O bs s i).I,(s.part i).inn⟩:=h
  rw[h2,hpi];rfl
 have hS:(bldStep p F O bs s i).same.length=(bldY p F O bs s i).S.length:=rfl
 rw[hpart,hS]
 have hys:=hY.sl
 have hPl:(bldX F O bs s i).P.length≤12:=by
  have:=(entTo_len (jn bs i) i (O.getD (hdA F i) 0) (bldE bs s i) s.same F.regs.toNat).2.2
  rw[hXe] at this;omega
 refine⟨rfl,rfl,hPl,hX.jn,hX.pid,fun k hk' => ?_,hX.pinc,by dsimp only;omega,hY.il,fun t ht=> ?_,fun t ht hs=> ?_,fun t ht hs=> ?_,fun t t' h1 h2=> ?_,fun v h1 h2=> ?_,fun t ht=> ?_,fun t ht=> ?_,hX.rl,hY.rl,hlive,fun r hr hb=>hX.dead r hr (fun h=>by rw[hb] at h;simp at h),fun v hv=> ?_,(hY.rng hbv).1,fun n hn r hr=> ?_,fun hj r hr=> ?_⟩
 ·obtain⟨r,h1,h2,h3,h4⟩:=hX.preg k hk'
  exact⟨r,h1,by omega,h2,h3,h4⟩
 ·exact hY.op t (by rw[←hY.il];exact ht)
 ·obtain⟨v,h1,h2,h3⟩:=hY.set t (by rw[←hY.il];exact ht) hs
  exact⟨v,h1,by dsimp only;omega,h3⟩
 ·exact hY.non t (by rw[←hY.il];exact ht) hs
 ·exact hY.inc t t' h1 (by rw[←hY.il];exact h2)
 ·by_cases e:v<(bldX F O bs s i).S.length
  ·left
   refine⟨v-s.same.length,by dsimp only;omega,?_⟩
   rw[(hX.pid _ (by omega)).1];omega
  ·right
   obtain⟨t,h3,h4⟩:=hY.cov v (by omega) h2
   exact⟨t,by show t<(bldY p F O bs s i).I.length;rw[hY.il];exact h3,h4⟩
 ·exact hL.2 t (by rw[←hY.il];exact ht)
 ·exact(hY.rng hbv).2 t (by rw[←hY.il];exact ht)
 ·have:=hbv v hv;omega
 ·have hn0:=nxI_lt2 hp hF ham hn
  unfold nxI at hn
  obtain⟨m,hm,rfl⟩:=List.mem_map.1 hn
  rw[hdA_posH2 (nxN_head hp hF ham hm)] at hr
  refine hL.1 m (.inr ⟨by omega,?_⟩) r hr
  have e:hdA F i+(toF F (hdA F i)-hdA F i)-1=toF F (hdA F i)-1:=by omega
  rw[e]
  unfold nxN at hm
  exact(nextS_mem _ _ _).1 hm
 ·exact hX.vj hj r (hlr r hr) hr
end
structure BInv(p:List Fnc)(F:Fnc)(O:List Nat)(bs:List BR)(l:List Nat)(t:Nat)(s:SB):Prop where
 n:s.parts.length=bs.length
 ne:s.ends.length=bs.length
 nb:s.began.length=bs.length
 inn:∀x∈s.parts,x.inn.length=12
 e12:∀x∈s.ends,x.length=12
 b12:∀x∈s.began,x.length=12
 self:Self s.same
 ge:F.params.toNat≤s.same.length
 le:s.same.length≤F.params.toNat+60*t
 un:∀j,j<bs.length→j∉l.take t→s.part j=zPart
 vis:∀u,u<t→∀j,l[u]? =some j→PartOk p F O bs j (s.part j) (s.began.getD j []) (s.ends.getD j []) (bldTo p F O bs l u).same.length (bldTo p F O bs l (u+1)).same.length∧(bldTo p F O bs l (u+1)).same.length≤s.same.length
section
variable {p:List Fnc}{F:Fnc}{O:List Nat}{bs:List BR}{l:List Nat}{t:Nat}{s:SB}
theorem prevL_eq(hb:BlkOk F bs){i:Nat}(hi:i<bs.length):prevL bs i=prevF F i:=by
 unfold prevL
 rw[gE hi]
 exact(hb.at_ i _ (gE hi)).2.2.2
theorem prevL_none{i:Nat}(hi:¬i<bs.length):prevL bs i=[]:=by
 unfold prevL
 rw[List.getElem?_eq_none (by omega)];rfl
theorem BInv.start(N:Nat)(_hN:bs.length=N):BInv p F O bs l 0 (bldTo p F O bs l 0):=by
 have e:bldTo p F O bs l 0=bld0 bs.length F.params.toNat:=rfl
 rw[e]
 refine⟨by simp[bld0],by simp[bld0],by simp[bld0],fun x hx=> ?_,fun x hx=> ?_,fun x hx=> ?_,fun v hv=> ?_,by simp[bld0,natI],by simp[bld0,natI],fun j hj _=> ?_,fun u hu=>by omega⟩
 ·rw[(List.mem_replicate.1 (show x∈List.replicate bs.length zPart from hx)).2];rfl
 ·rw[(List.mem_replicate.1 (show x∈List.replicate bs.length zR from hx)).2];rfl
 ·rw[(List.mem_replicate.1 (show x∈List.replicate bs.length zR from hx)).2];rfl
 ·have hv:v<(natI (List.range F.params.toNat)).length:=hv
  show(natI (List.range F.params.toNat))[v]? =_
  unfold natI at hv⊢
  rw[List.length_map,List.length_range] at hv
  rw[List.getElem?_map,List.getElem?_range hv];rfl
 ·show(List.replicate bs.length zPart).getD j noPart=zPart
  rw[gD,List.getElem?_replicate,if_pos hj];rfl
theorem BInv.single(hk:checkP p=0)(_hF:F∈p)(hb:BlkOk F bs)(_hl:l.Nodup)(hlm:∀j∈l,j<bs.length)(h00:l.getD 0 0=0)(hbe:Behind (fun i=>nxI F (hdA F i)) l)(h:BInv p F O bs l t s){i:Nat}(hi:l[t]? =some i)(hj:jn bs i=false)(h0:i≠0):
 ∃q u:Nat,u<t∧l[u]? =some q∧prevL bs i=[(q:Int)]∧i∈nxI F (hdA F q):=by
 have hp:=right_of hk
 have htl:=(gI.1 hi).1
 have hiB:=hlm i (gM hi)
 have ht1:1≤t:=by
  by_cases e:t=0
  ·subst e
   rw[gD,hi] at h00
   exact absurd h00 h0
  ·omega
 obtain⟨u,hu,hn⟩:=hbe t ht1 htl
 have hut:u<l.length:=by omega
 have e1:l.getD t 0=i:=by rw[gD,hi];rfl
 have e2:l[u]? =some (l.getD u 0):=by rw[gD,gE hut];rfl
 rw[e1] at hn
 have hqB:=hlm _ (gM e2)
 refine⟨l.getD u 0,u,hu,e2,?_,hn⟩
 rw[prevL_eq hb hiB]
 have hm:((l.getD u 0:Nat):Int)∈prevF F i:=prevF_mem.2 (.inr ⟨_,by rw[←hb.len];exact hqB,hn,rfl⟩)
 unfold jn at hj
 rw[prevL_eq hb hiB] at hj
 have hlen:¬((prevF F i).length:Int)>1:=by simpa using hj
 cases hpf:prevF F i with
 |nil=>rw[hpf] at hm;simp at hm
 |cons a r=>
  rw[hpf] at hlen hm
  cases r with
  |nil=>rw[List.mem_singleton.1 hm]
  |cons b r=>simp at hlen;omega
theorem BInv.step(hk:checkP p=0)(hF:F∈p)(hO:LiveOk p F O)(hb:BlkOk F bs)(hl:l.Nodup)(hlm:∀j∈l,j<bs.length)(h00:l.getD 0 0=0)(hbe:Behind (fun i=>nxI F (hdA F i)) l)(hs:bldTo p F O bs l t=s)(h:BInv p F O bs l t s){i:Nat}(hi:l[t]? =some i):BInv p F O bs l (t+1) (bldStep p F O bs s i):=by
 have hp:=right_of hk
 have hiB:=hlm i (gM hi)
 have hiH:i<(hdL F).length:=by rw[←hb.len];exact hiB
 have htl:=(gI.1 hi).1
 have hnt:∀u,u<t→∀j,l[u]? =some j→j≠i:=fun u hu j hj e=>by
  subst e
  have:=(List.getElem_inj (h₀:=(gI.1 hj).1) (h₁:=htl) hl).1 (by rw[(gI.1 hj).2,(gI.1 hi).2])
  omega
 have hni:i∉l.take t:=fun hm=>by
  obtain⟨u,hu,e⟩:=List.getElem_of_mem hm
  rw[List.length_take] at hu
  rw[List.getElem_take] at e
  exact hnt u (by omega) i (by rw[gE (by omega),e]) rfl
 have hz:=h.un i hiB hni
 have hin:i<s.parts.length:=by rw[h.n];exact hiB
 have hX:=ent_facts (jn bs i) i (O.getD (hdA F i) 0) (bldE bs s i) s.same F.regs.toNat (by have:=(hp.ok.fn F hF).r2;omega)
 have hXe:entTo (jn bs i) i (O.getD (hdA F i) 0) (bldE bs s i) s.same F.regs.toNat=bldX F O bs s i:=rfl
 rw[hXe] at hX
 have hE:jn bs i=false→i≠0→(∀v∈bldE bs s i,-1≤v∧v<s.same.length)∧(bldE bs s i).length=12∧∀r,(O.getD (hdA F i) 0).testBit r=true→0≤(bldE bs s i).getD r 0:=fun hj h0=>by
  obtain⟨q,u,hu,hq,hpl,hn⟩:=h.single hk hF hb hl hlm h00 hbe hi hj h0
  obtain⟨hpo,hle⟩:=h.vis u hu q hq
  have e:bldE bs s i=s.ends.getD q []:=by
   unfold bldE
   rw[hpl]
   show s.ends.getD ((q:Int).toNat) []=_
   rw[Int.toNat_natCast]
  rw[e]
  exact⟨fun v hv=>by have:=hpo.ev v hv;omega,hpo.e12,fun r hr=>hpo.elive i hn r hr⟩
 have hT:=turn_ok hk hF hO hiH hz hin hE h.ge
 obtain⟨ham,-⟩:=hdA_mem2 hiH
 have hsp:=toF_spec hp hF ham
 have hc2:=(hp.ok.fn F hF).c2
 have hyl:=bodTo_len p F (hdA F i) hX.rl (bldX F O bs s i).S (toF F (hdA F i)-hdA F i)
 have hYe:bodTo p F (hdA F i) (bldX F O bs s i).R (bldX F O bs s i).S (toF F (hdA F i)-hdA F i)=bldY p F O bs s i:=rfl
 rw[hYe] at hyl
 have hxl:=(entTo_len (jn bs i) i (O.getD (hdA F i) 0) (bldE bs s i) s.same F.regs.toNat).2.1
 rw[hXe] at hxl
 have hr2:=(hp.ok.fn F hF).r2
 have hpl2:=hT.plo
 have hS:(bldStep p F O bs s i).same=(bldY p F O bs s i).S:=rfl
 have hab:∀t,t<toF F (hdA F i)-hdA F i→0≤(insAt F (hdA F i+t)).a∧(insAt F (hdA F i+t)).a<12∧0≤(insAt F (hdA F i+t)).b∧(insAt F (hdA F i+t)).b<12:=fun t ht=>by
  have hpl:hdA F i+t<F.code.length:=by omega
  have hio:=(hp.ok.fn F hF).ins (insAt F (hdA F i+t)) (by unfold insAt;rw[gD,gE hpl];exact List.getElem_mem _)
  have:=hio.a1;have:=hio.a2;have:=hio.b1;have:=hio.b2
  exact⟨by omega,by omega,by omega,by omega⟩
 have hY:=bod_facts p F (hdA F i) hX.rl (bldX F O bs s i).S (toF F (hdA F i)-hdA F i) hab
 rw[hYe] at hY
 have hge:s.same.length≤(bldStep p F O bs s i).same.length:=by omega
 have hpj:∀j,j≠i→(bldStep p F O bs s i).part j=s.part j:=fun j hj=>by
  have h:=part_set s hin ⟨(i:Int),(s.part i).phis++(bldX F O bs s i).P,(s.part i).ins++(bldY p F O bs s i).I,(s.part i).inn⟩ j
  rw[if_neg hj] at h
  exact h
 have hej:∀j,(bldStep p F O bs s i).ends.getD j []=if j=i then(bldY p F O bs s i).R else s.ends.getD j []:=fun j=>getD_set _ (by rw[h.ne];exact hiB) _ _ j
 have hbj:∀j,(bldStep p F O bs s i).began.getD j []=if j=i then(bldX F O bs s i).R else s.began.getD j []:=fun j=>getD_set _ (by rw[h.nb];exact hiB) _ _ j
 refine⟨by show(s.parts.set _ _).length=_;rw[List.length_set];exact h.n,by show(s.ends.set _ _).length=_;rw[List.length_set];exact h.ne,by show(s.began.set _ _).length=_;rw[List.length_set];exact h.nb,fun x hx=> ?_,fun x hx=> ?_,fun x hx=> ?_,?_,by have:=h.ge;omega,by have:=h.le;rw[hS];omega,fun j hj hm=> ?_,fun u hu j hj=> ?_⟩
 ·rcases List.mem_or_eq_of_mem_set (show x∈s.parts.set i _ from hx) with h1|h1
  ·exact h.inn x h1
  ·rw[h1]
   show(s.part i).inn.length=12
   rw[hz];rfl
 ·rcases List.mem_or_eq_of_mem_set (show x∈s.ends.set i _ from hx) with h1|h1
  ·exact h.e12 x h1
  ·rw[h1];exact hY.rl
 ·rcases List.mem_or_eq_of_mem_set (show x∈s.began.set i _ from hx) with h1|h1
  ·exact h.b12 x h1
  ·rw[h1];exact hX.rl
 ·exact hY.self (hX.self h.self)
 ·rw[List.take_succ_eq_append_getElem htl,(gI.1 hi).2] at hm
  have hji:j≠i:=fun e=>hm (by rw[e];simp)
  rw[hpj j hji]
  exact h.un j hj (fun hm' =>hm (List.mem_append_left _ hm'))
 ·by_cases e:u=t
  ·subst e
   obtain rfl:=Option.some.inj (hi.symm.trans hj)
   rw[bldTo_succ p F O bs l hi,hs,hej,if_pos rfl,hbj,if_pos rfl]
   exact⟨hT,Nat.le_refl _⟩
  ·have hji:=hnt u (by omega) j hj
   obtain⟨h1,h2⟩:=h.vis u (by omega) j hj
   rw[hpj j hji,hej,if_neg hji,hbj,if_neg hji]
   exact⟨h1,by omega⟩
theorem binv(hk:checkP p=0)(hF:F∈p)(hO:LiveOk p F O)(hb:BlkOk F bs)(hl:l.Nodup)(hlm:∀j∈l,j<bs.length)(h00:l.getD 0 0=0)(hbe:Behind (fun i=>nxI F (hdA F i)) l):∀t,t≤l.length→BInv p F O bs l t (bldTo p F O bs l t)
 |0,_=>BInv.start _ rfl
 |t+1,ht=>by
  have hi:l[t]? =some (l[t]'(by omega)):=gE _
  rw[bldTo_succ p F O bs l hi]
  exact(binv hk hF hO hb hl hlm h00 hbe t (by omega)).step hk hF hO hb hl hlm h00 hbe rfl hi
structure OrdOk(F:Fnc)(bs:List BR)(l:List Nat):Prop where
 nodup:l.Nodup
 lt:∀j∈l,j<bs.length
 fst:l.getD 0 0=0
 beh:Behind (fun i=>nxI F (hdA F i)) l
theorem bs_pos(hk:checkP p=0)(hF:F∈p)(hb:BlkOk F bs):0<bs.length:=by
 rw[hb.len];exact(gI.1 (zero_head (right_of hk) hF)).1
theorem nx_lt(hk:checkP p=0)(hF:F∈p)(hb:BlkOk F bs):∀i,i<bs.length→∀n∈nxI F (hdA F i),n<bs.length:=fun i hi n hn=>by
 rw[hb.len] at hi⊢
 exact nxI_lt2 (right_of hk) hF (hdA_mem2 hi).1 hn
theorem ord_ok(hk:checkP p=0)(hF:F∈p)(hb:BlkOk F bs)(K:Nat):OrdOk F bs (ordL F bs K)∧(ordL F bs K).length≤bs.length:=by
 obtain⟨h1,h2,-⟩:=ord_facts (bs_pos hk hF hb) (nx_lt hk hF hb) K
 obtain⟨z,hz⟩:=h1.fst
 exact⟨⟨h1.nodup,fun j hj=>((h1.mem j).1 hj).1,by show(ordTo _ _ K).l.getD 0 0=0;rw[hz];rfl,h2⟩,h1.le⟩
theorem ord_all(hk:checkP p=0)(hF:F∈p)(hb:BlkOk F bs){K:Nat}(hK:(ordL F bs K).length=K):∀i,i<bs.length→i∈ordL F bs K:=by
 obtain⟨h1,h2,h3⟩:=ord_facts (bs_pos hk hF hb) (nx_lt hk hF hb) K
 intro i hi
 refine blocks_ind (right_of hk) hF (C:=fun i=>i∈ordL F bs K) ?_ (fun q hq hc n hn=> ?_) i (by rw[←hb.len];exact hi)
 ·obtain⟨z,hz⟩:=h1.fst
  show 0∈(ordTo _ _ K).l
  rw[hz];exact .head _
 ·obtain⟨u,hu,e⟩:=List.getElem_of_mem hc
  have hu' :u<(ordTo (fun i=>nxI F (hdA F i)) bs.length K).l.length:=hu
  refine h3 u (by rw[←hK];exact hu) hu' n ?_
  have e2:(ordTo (fun i=>nxI F (hdA F i)) bs.length K).l.getD u 0=q:=by
   rw[gD,gE hu'];exact e
  rw[e2];exact hn
theorem all_parts(hk:checkP p=0)(hF:F∈p)(hO:LiveOk p F O)(hb:BlkOk F bs){K:Nat}(hK:(ordL F bs K).length=K)(hs:bldTo p F O bs (ordL F bs K) K=s):BInv p F O bs (ordL F bs K) K s∧∀j,j<bs.length→∃u,u<K∧(ordL F bs K)[u]? =some j∧PartOk p F O bs j (s.part j) (s.began.getD j []) (s.ends.getD j []) (bldTo p F O bs (ordL F bs K) u).same.length (bldTo p F O bs (ordL F bs K) (u+1)).same.length∧(bldTo p F O bs (ordL F bs K) (u+1)).same.length≤s.same.length:=by
 obtain⟨h1,h2⟩:=ord_ok hk hF hb K
 have hB:=binv hk hF hO hb h1.nodup h1.lt h1.fst h1.beh K (by rw[hK];exact Nat.le_refl _)
 rw[hs] at hB
 refine⟨hB,fun j hj=> ?_⟩
 obtain⟨u,hu,e⟩:=List.getElem_of_mem (ord_all hk hF hb hK j hj)
 have hu2:(ordL F bs K)[u]? =some j:=by rw[gE hu,e]
 rw[hK] at hu
 obtain⟨h3,h4⟩:=hB.vis u hu j hu2
 exact⟨u,hu,hu2,h3,h4⟩
end
section
variable {p:List Fnc}{F:Fnc}{O:List Nat}{bs:List BR}{l:List Nat}{s s2:SB}{K:Nat}
theorem part_none{s:SB}{i:Nat}(h:¬i<s.parts.length):s.part i=noPart:=by
 unfold SB.part
 rw[gD,List.getElem?_eq_none (by omega)];rfl
theorem phi_none{s:SB}{i k:Nat}(h:¬k<(s.part i).phis.length):s.phi i k=noPhi:=by
 unfold SB.phi
 rw[gD,List.getElem?_eq_none (by omega)];rfl
theorem prevF_len300(hk:checkP p=0)(hF:F∈p)(hb:BlkOk F bs)(hle:bs.length≤40)(i:Nat):(prevL bs i).length≤300∧∀q∈prevL bs i,-1≤q∧q<bs.length:=by
 by_cases hi:i<bs.length
 ·have hp:=right_of hk
  have hr:∀q∈prevF F i,-1≤q∧q<bs.length:=fun q hq=>by
   rcases prevF_mem.1 hq with⟨_,rfl⟩|⟨z,hz,_,rfl⟩
   ·omega
   ·rw[←hb.len] at hz;omega
  rw[prevL_eq hb hi]
  refine⟨?_,hr⟩
  have h1:=prevF_sorted hp hF i
  have h2:(prevF F i).Nodup:=h1.imp (fun h=>by omega)
  have h3:prevF F i ⊆ (-1:Int)::(List.range bs.length).map fun(n:Nat)=>(n:Int):=fun q hq=>by
   obtain⟨h4,h5⟩:=hr q hq
   by_cases e:q= -1
   ·rw[e];exact .head _
   ·exact .tail _ (List.mem_map.2 ⟨q.toNat,List.mem_range.2 (by omega),by omega⟩)
  have h6:=h2.length_le_of_subset h3
  simp at h6
  omega
 ·rw[prevL_none hi];exact⟨by simp,fun q hq=>by simp at hq⟩
theorem bs_le(hk:checkP p=0)(hF:F∈p)(hb:BlkOk F bs):bs.length≤40:=by
 have h1:=hdTo_len F F.code.length
 have h2:hdTo F F.code.length=hdL F:=rfl
 have h3:=((right_of hk).ok.fn F hF).c2
 rw[hb.len,←h2];omega
theorem comes_ok(hk:checkP p=0)(hF:F∈p)(hO:LiveOk p F O)(hb:BlkOk F bs)(hK:(ordL F bs K).length=K)(hs:bldTo p F O bs (ordL F bs K) K=s){i:Nat}(hi:i<bs.length){r:Nat}(hr:r<12)(hlv:(O.getD (hdA F i) 0).testBit r=true){q:Int}(hq:q∈prevL bs i):0≤comes s.ends q r∧comes s.ends q r<s.same.length:=by
 obtain⟨hB,hv⟩:=all_parts hk hF hO hb hK hs
 rw[prevL_eq hb hi] at hq
 unfold comes
 rcases prevF_mem.1 hq with⟨rfl,rfl⟩|⟨z,hz,hn,rfl⟩
 ·rw[if_neg (by omega)]
  have h0:hdA F 0=0:=hdA_eq (zero_head (right_of hk) hF)
  rw[h0] at hlv
  have h1:=live_entry hk hF hO hlv
  have:=hB.ge
  omega
 ·rw[if_pos (by omega),Int.toNat_natCast,Int.toNat_natCast]
  obtain⟨u,hu,-,hpo,hle⟩:=hv z (by rw[hb.len];exact hz)
  have h1:=hpo.ev _ (getD_mem12 hpo.e12 hr)
  have h2:=hpo.elive i hn r hlv
  omega
theorem fin_ok(hk:checkP p=0)(hF:F∈p)(hO:LiveOk p F O)(hb:BlkOk F bs)(hK:(ordL F bs K).length=K)(hs:bldTo p F O bs (ordL F bs K) K=s):FinOk F bs s:=by
 obtain⟨hB,hv⟩:=all_parts hk hF hO hb hK hs
 have hp:=right_of hk
 have hle:=bs_le hk hF hb
 have hK40:K≤40:=by have:=(ord_ok hk hF hb K).2;omega
 have hP2:=(hp.ok.fn F hF).p2
 have hnone:∀i,¬i<bs.length→s.part i=noPart:=fun i hi=>part_none (by rw[hB.n];exact hi)
 have hphl:∀i,(s.part i).phis.length≤12:=fun i=>by
  by_cases hi:i<bs.length
  ·obtain⟨u,-,-,hpo,-⟩:=hv i hi
   exact hpo.phl
  ·rw[hnone i hi];simp[noPart]
 have hin:∀i k,k<(s.part i).phis.length→i<bs.length:=fun i k hkk=>by
  by_cases hi:i<bs.length
  ·exact hi
  ·rw[hnone i hi] at hkk;simp[noPart] at hkk
 have hslen:s.same.length≤3000:=by have:=hB.le;omega
 refine⟨hB.n,hB.ne,hB.e12,hB.inn,fun i=>Nat.le_trans (hphl i) (by omega),fun i k hkk=> ?_,fun i k=> ?_,fun i=>prevF_len300 hk hF hb hle i,fun s2 hc=> ?_⟩
 ·obtain⟨u,-,-,hpo,-⟩:=hv i (hin i k hkk)
  obtain⟨r,h1,h2,-⟩:=hpo.preg k hkk
  exact⟨r,h1,h2⟩
 ·by_cases hkk:k<(s.part i).phis.length
  ·obtain⟨u,-,-,hpo,-⟩:=hv i (hin i k hkk)
   exact(hpo.pid k hkk).2
  ·show(s.phi i k).args=[]
   rw[phi_none hkk];rfl
 ·rw[hB.n] at hc
  have hn2:s2.parts.length=bs.length:=by rw[hc.len,hB.n]
  have hal:∀v,v<s.same.length→s.same[v]? =some (v:Int):=hB.self
  have hpl2:∀i,(s2.part i).phis.length=(s.part i).phis.length:=fun i=>(hc.part i).2.2.2
  have hag:∀i k,k<(s.part i).phis.length→s2.arg i k=fullA s.ends (prevL bs i) (s.phi i k).reg:=fun i k hkk=>by
   have h1:=hc.arg i k hkk
   rw[if_pos (.inl (hin i k hkk))] at h1
   have h2:s.arg i k=[]:=by
    obtain⟨u,-,-,hpo,-⟩:=hv i (hin i k hkk)
    exact(hpo.pid k hkk).2
   rw[h1,h2];rfl
  have hok2:PhisOk s2:=by
   refine⟨fun i k hi hkk=> ?_,fun i k hi hkk a ha=> ?_⟩
   ·rw[hn2] at hi
    rw[hpl2] at hkk
    obtain⟨u,-,-,hpo,hl2⟩:=hv i hi
    have h1:=(hpo.pid k hkk).1
    have h2:=hpo.plo
    exact⟨_,(hc.phi i k).2.trans h1,by rw[hc.same];omega⟩
   ·rw[hn2] at hi
    rw[hpl2] at hkk
    have ha:a∈s2.arg i k:=ha
    rw[hag i k hkk] at ha
    unfold fullA at ha
    obtain⟨q,hq,rfl⟩:=List.mem_map.1 ha
    obtain⟨u,-,-,hpo,-⟩:=hv i hi
    obtain⟨r,h1,h2,h3,h4,-⟩:=hpo.preg k hkk
    have h1:(s.phi i k).reg=(r:Int):=h1
    have h5:=comes_ok hk hF hO hb hK hs hi h2 h4 hq
    rw[h1,hc.same]
    omega
  have hallr:AllR s2.same:=fun v hvl=>⟨0,v, .root (by rw[hc.same] at hvl⊢;exact hal v hvl)⟩
  have hinn2:∀x∈s2.parts,x.inn.length=12:=fun x hx=>by
   obtain⟨j,hj,rfl⟩:=List.getElem_of_mem hx
   have h2:s2.part j=s2.parts[j]:=by unfold SB.part;rw[gD,gE hj];rfl
   rw[←h2,(hc.part j).2.2.1]
   exact hB.inn _ (by unfold SB.part;rw[gD,gE (show j<s.parts.length by rw[hB.n,←hn2];exact hj)];exact List.getElem_mem _)
  have harg2:∀i k,(s2.arg i k).length≤300:=fun i k=>by
   by_cases hkk:k<(s.part i).phis.length
   ·rw[hag i k hkk]
    unfold fullA
    rw[List.length_map];exact(prevF_len300 hk hF hb hle i).1
   ·show((s2.phi i k).args).length≤300
    rw[phi_none (by rw[hpl2];exact hkk)];simp[noPhi]
  refine⟨hok2,hallr,by rw[hc.same];omega,by rw[hn2];omega,hinn2,fun i=>by rw[hpl2];exact Nat.le_trans (hphl i) (by omega),harg2,fun l hl=> ?_⟩
  have hll:l.length=s.same.length:=by rw[hl.len,hc.same]
  have hpart:∀i,({s2 with same:=l}:SB).part i=s2.part i:=fun _=>rfl
  refine⟨hl.all hok2 hallr,by show l.length≤_;omega,hinn2,by show s2.parts.length≤100;omega,by omega,fun i=> ?_,fun i=> ?_,fun i k=>harg2 i k,fun i k hi hkk=> ?_,fun i k hi hkk a ha=> ?_,fun i k hi hkk=> ?_,?_,?_,?_⟩
  ·rw[hpart,hpl2];exact Nat.le_trans (hphl i) (by omega)
  ·rw[hpart,(hc.part i).2.1]
   by_cases hi:i<bs.length
   ·obtain⟨u,-,-,hpo,-⟩:=hv i hi
    rw[hpo.il]
    have:=(toF_spec hp hF (hdA_mem2 (show i<(hdL F).length by rw[←hb.len];exact hi)).1).2.1
    have:=(hp.ok.fn F hF).c2
    omega
   ·rw[hnone i hi];simp[noPart]
  ·obtain⟨d,h1,h2⟩:=hok2.id i k hi hkk
   exact⟨d,h1,by show d<l.length;rw[hll,←hc.same];exact h2⟩
  ·have:=(hok2.arg i k hi hkk a ha).2
   show a<(l.length:Int)
   rw[hll,←hc.same];exact this
  ·have hi:i<s2.parts.length:=hi
   rw[hn2] at hi
   obtain⟨u,-,-,hpo,hl2⟩:=hv i hi
   have e:({s2 with same:=l}:SB).insA i k=(s.part i).ins.getD k noIns:=by
    show(s2.part i).ins.getD k noIns=_
    rw[(hc.part i).2.1]
   have hkk:k<(s2.part i).ins.length:=hkk
   rw[(hc.part i).2.1] at hkk
   rw[e]
   show _<(l.length:Int)∧_<(l.length:Int)∧_<(l.length:Int)
   rw[hll]
   have h1:=hpo.ab k hkk
   refine⟨?_,by omega,by omega⟩
   cases hst:setsB (insAt F (hdA F i+k)) with
   |true=>
    obtain⟨v,h3,h4,h5⟩:=hpo.set k hkk hst
    rw[h3];omega
   |false=>rw[hpo.non k hkk hst];omega
  ·show s2.began.length=s2.parts.length
   rw[hc.began,hn2,hB.nb]
  ·show∀x∈s2.began,_
   rw[hc.began];exact hB.b12
  ·show∀x∈s2.began,∀a∈x,a<(l.length:Int)
   rw[hc.began,hll]
   intro x hx a ha
   obtain⟨j,hj,rfl⟩:=List.getElem_of_mem hx
   obtain⟨u,-,-,hpo,hl2⟩:=hv j (by rw[←hB.nb];exact hj)
   have e:s.began.getD j []=s.began[j]:=by rw[gD,gE hj];rfl
   rw[e] at hpo
   have:=hpo.bv a ha
   omega
theorem bldF(hk:checkP p=0)(hF:F∈p)(hO:LiveOk p F O)(hb:BlkOk F bs):BldF p F O bs:=by
 have hp:=right_of hk
 have hle:=bs_le hk hF hb
 refine⟨nx_lt hk hF hb,fun i hi=> ?_,bs_pos hk hF hb,hle,fun K=>(ord_ok hk hF hb K).2,fun K hK t i hi=> ?_,fun K hK=>fin_ok hk hF hO hb hK rfl⟩
 ·unfold nxI nxN
  rw[List.length_map]
  unfold nextS
  repeat' split
  all_goals simp
 ·obtain⟨h1,h2⟩:=ord_ok hk hF hb K
  have htl:=(gI.1 hi).1
  have hB:=binv hk hF hO hb h1.nodup h1.lt h1.fst h1.beh t (by omega)
  have hiB:=h1.lt i (gM hi)
  have hni:i∉(ordL F bs K).take t:=fun hm=>by
   obtain⟨u,hu,e⟩:=List.getElem_of_mem hm
   rw[List.length_take] at hu
   rw[List.getElem_take] at e
   have:=(List.getElem_inj (h₀:=show u<(ordL F bs K).length by omega) (h₁:=htl) h1.nodup).1 (by rw[e,(gI.1 hi).2])
   omega
  have hz:=hB.un i hiB hni
  have hP2:=(hp.ok.fn F hF).p2
  refine⟨hiB,by have:=hB.le;omega,hB.n,hB.ne,hB.nb,hB.inn,hB.e12,hB.b12,by rw[hz];simp[zPart],by rw[hz];simp[zPart],fun hj h0=> ?_⟩
  obtain⟨q,u,hu,hq,hpl,hn⟩:=hB.single hk hF hb h1.nodup h1.lt h1.fst h1.beh hi hj h0
  refine⟨q,hpl,?_⟩
  have hqB:=h1.lt q (gM hq)
  unfold bldE
  rw[hpl]
  show _=some ((bldTo p F O bs (ordL F bs K) t).ends.getD ((q:Int).toNat) [])
  rw[Int.toNat_natCast,gD,gE (by rw[hB.ne];exact hqB)];rfl
theorem build_all(A:Option Addr)(cap k:Nat)(w:World)(ht:Tab w)(hpr:ProgAt w (.slice A p.length cap) p)(hk:checkP p=0)(hf:p[k]? =some F):
 Calls Tryd.prog 12 #[.agg #[.slice A p.length cap], .int .i64 (k:Int)] w fun e w' =>BuildRet p F w.heap.size e w' ∧Below w.heap.size w w' :=
 build_any p A cap k F w ht hpr hk hf (fun _ _ hO hb=>bldF hk (gM hf) hO hb)
end
def lowB(p:List Fnc)(F:Fnc)(O:List Nat)(bs:List BR)(K j:Nat):Nat:=(bldTo p F O bs (ordL F bs K) ((ordL F bs K).idxOf j)).same.length
def higB(p:List Fnc)(F:Fnc)(O:List Nat)(bs:List BR)(K j:Nat):Nat:=(bldTo p F O bs (ordL F bs K) ((ordL F bs K).idxOf j+1)).same.length
structure Raw(p:List Fnc)(F:Fnc)(O:List Nat)(bs:List BR)(K:Nat)(s:SB):Prop where
 inv:BInv p F O bs (ordL F bs K) K s
 part:∀j,j<bs.length→PartOk p F O bs j (s.part j) (s.began.getD j []) (s.ends.getD j []) (lowB p F O bs K j) (higB p F O bs K j)
 le:∀j,j<bs.length→higB p F O bs K j≤s.same.length
 ge:∀j,j<bs.length→F.params.toNat≤lowB p F O bs K j
 ap:∀j j',j<bs.length→j' <bs.length→j≠j' →higB p F O bs K j≤lowB p F O bs K j' ∨higB p F O bs K j' ≤lowB p F O bs K j
section
variable {p:List Fnc}{F:Fnc}{O:List Nat}{bs:List BR}{l:List Int}{s s1 s2:SB}{K:Nat}
theorem raw(hk:checkP p=0)(hF:F∈p)(hO:LiveOk p F O)(hb:BlkOk F bs)(hK:(ordL F bs K).length=K)(hs:bldTo p F O bs (ordL F bs K) K=s):Raw p F O bs K s:=by
 obtain⟨hB,-⟩:=all_parts hk hF hO hb hK hs
 obtain⟨h1,h2⟩:=ord_ok hk hF hb K
 have hidx:∀j,j<bs.length→(ordL F bs K).idxOf j<K∧(ordL F bs K)[(ordL F bs K).idxOf j]? =some j:=fun j hj=>by
  have hm:=ord_all hk hF hb hK j hj
  have hl:=List.idxOf_lt_length_of_mem hm
  exact⟨Nat.lt_of_lt_of_eq hl hK,by rw[gE hl,List.getElem_idxOf]⟩
 have hmono:∀u u',u<u' →u' <K→∀j,(ordL F bs K)[u]? =some j→(bldTo p F O bs (ordL F bs K) (u+1)).same.length≤(bldTo p F O bs (ordL F bs K) u').same.length:=fun u u' hu hu' j hj=>
  ((binv hk hF hO hb h1.nodup h1.lt h1.fst h1.beh u' (by rw[hK];omega)).vis u hu j hj).2
 refine⟨hB,fun j hj=> ?_,fun j hj=> ?_,fun j hj=> ?_,fun j j' hj hj' hne=> ?_⟩
 ·obtain⟨h3,h4⟩:=hidx j hj
  exact(hB.vis _ h3 j h4).1
 ·obtain⟨h3,h4⟩:=hidx j hj
  exact(hB.vis _ h3 j h4).2
 ·obtain⟨h3,h4⟩:=hidx j hj
  exact(binv hk hF hO hb h1.nodup h1.lt h1.fst h1.beh _ (by rw[hK];omega)).ge
 ·obtain⟨h3,h4⟩:=hidx j hj
  obtain⟨h5,h6⟩:=hidx j' hj'
  rcases Nat.lt_trichotomy ((ordL F bs K).idxOf j) ((ordL F bs K).idxOf j') with h|h|h
  ·exact .inl (hmono _ _ h h5 j h4)
  ·rw[h] at h4
   exact absurd (Option.some.inj (h4.symm.trans h6)) hne
  ·exact .inr (hmono _ _ h h3 j' h6)
theorem numF_out(P:Nat)(v:Nat):∀(G:List Nat),v∉G→(numF P G).1 v=if v<P then(v:Int) else 0:=fun G=>by
 induction G using List.rec with
 |nil=>intro _;rfl
 |cons a G ih=>
  intro h
  have key:∀(G:List Nat) (x:(Nat→Int)×Nat),v∉G→(G.foldl (fun(x:(Nat→Int)×Nat) v=>(putN x.1 v (x.2:Int),x.2+1)) x).1 v=x.1 v:=fun G=>by
   induction G with
   |nil=>intro x _;rfl
   |cons b G ih2=>
    intro x hb
    rw[List.foldl_cons,ih2 _ (fun hm=>hb (.tail _ hm))]
    show(if v=b then(x.2:Int) else x.1 v)=x.1 v
    rw[if_neg (fun e=>hb (by rw[e];exact .head _))]
  exact key (a::G) _ h
theorem numF_get(P:Nat):∀(G:List Nat),G.Nodup→∀k (hk:k<G.length),(numF P G).1 (G[k])=((P+k:Nat):Int):=fun G=>by
 have key:∀(n:Nat) (G:List Nat),G.length=n→G.Nodup→∀k (hk:k<G.length),(numF P G).1 (G[k])=((P+k:Nat):Int):=fun n=>by
  induction n with
  |zero=>intro G hl _ k hk;omega
  |succ n ih=>
   intro G hl hn k hk
   obtain⟨G',v,rfl⟩:∃G' v,G=G' ++[v]:=⟨G.dropLast,G.getLast (by intro e;subst e;simp at hl),(List.dropLast_concat_getLast _).symm⟩
   rw[List.length_append,List.length_singleton] at hl hk
   obtain⟨h1,-,h3⟩:=List.nodup_append.1 hn
   rw[numF_snoc]
   dsimp only
   unfold putN
   by_cases e:k<G'.length
   ·rw[List.getElem_append_left e,if_neg (fun e2=>h3 _ (List.getElem_mem e) v (by simp) e2)]
    exact ih G' (by omega) h1 k e
   ·obtain rfl:k=G'.length:=by omega
    rw[List.getElem_append_right (Nat.le_refl _)]
    simp only[Nat.sub_self,List.getElem_singleton,if_true]
    rw[numF_nx]
 exact key G.length G rfl
theorem numF_range(P:Nat)(G:List Nat)(hn:G.Nodup)(v:Nat):0≤(numF P G).1 v∧((v∈G∨v<P)→(numF P G).1 v<((P+G.length:Nat):Int)):=by
 by_cases h:v∈G
 ·obtain⟨k,hk,rfl⟩:=List.getElem_of_mem h
  rw[numF_get P G hn k hk]
  exact⟨by omega,fun _=>by omega⟩
 ·rw[numF_out P v G h]
  by_cases e:v<P
  ·rw[if_pos e];exact⟨by omega,fun _=>by omega⟩
  ·rw[if_neg e];exact⟨by omega,fun h2=>by rcases h2 with h2|h2;exact absurd h2 h;exact absurd h2 e⟩
theorem Shr.out(h:Shr s2 l){v:Nat}(hv:∀i k,i<s2.parts.length→k<(s2.part i).phis.length→(s2.phi i k).id≠(v:Int)):l[v]? =s2.same[v]? :=by
 induction h with
 |base=>rfl
 | @step l i k d x _ hi hk hd _ _ ih=>
  rw[List.getElem?_set,if_neg (fun e=>hv i k hi hk (by rw[hd,e])),ih]
structure BuiltX(p:List Fnc)(F:Fnc)(O:List Nat)(bs:List BR)(K:Nat)(s1 s2:SB)(l:List Int)(s:SB):Prop where
 b:Built p F O bs K s2 l s
 hk:checkP p=0
 hF:F∈p
 hs:bldTo p F O bs (ordL F bs K) K=s1
theorem BuiltX.raw(h:BuiltX p F O bs K s1 s2 l s):Raw p F O bs K s1:=Proofs.YtedcjapmmnbamaaDoor.raw h.hk h.hF h.b.lok h.b.bok h.b.ord h.hs
theorem BuiltX.cls(h:BuiltX p F O bs K s1 s2 l s):ClsR s1 s2 (prevL bs) bs.length 0 0:=h.hs▸h.b.cls
theorem BuiltX.n2(h:BuiltX p F O bs K s1 s2 l s):s2.parts.length=bs.length:=by rw[h.cls.len,h.raw.inv.n]
theorem BuiltX.phl(h:BuiltX p F O bs K s1 s2 l s)(i:Nat):(s2.part i).phis.length=(s1.part i).phis.length:=(h.cls.part i).2.2.2
theorem BuiltX.ins(h:BuiltX p F O bs K s1 s2 l s)(i:Nat):(s2.part i).ins=(s1.part i).ins:=(h.cls.part i).2.1
theorem BuiltX.len(h:BuiltX p F O bs K s1 s2 l s):l.length=s1.same.length:=by rw[h.b.shr.len,h.cls.same]
theorem BuiltX.fin(h:BuiltX p F O bs K s1 s2 l s):FinOk F bs s1:=fin_ok h.hk h.hF h.b.lok h.b.bok h.b.ord h.hs
theorem BuiltX.cnt(h:BuiltX p F O bs K s1 s2 l s):CntOk {s2 with same:=l} F.params.toNat:=((h.fin.cls s2 (by rw[h.raw.inv.n];exact h.cls)).2.2.2.2.2.2.2) l h.b.shr
theorem BuiltX.all(h:BuiltX p F O bs K s1 s2 l s):AllR l:=h.cnt.all
theorem BuiltX.pid(h:BuiltX p F O bs K s1 s2 l s){i k:Nat}(hi:i<bs.length)(hk:k<(s2.part i).phis.length):(s2.phi i k).id=((lowB p F O bs K i+k:Nat):Int):=by
 rw[(h.cls.phi i k).2]
 exact((h.raw.part i hi).pid k (by rw[←h.phl];exact hk)).1
theorem BuiltX.insA(h:BuiltX p F O bs K s1 s2 l s)(i t:Nat):({s2 with same:=l}:SB).insA i t=(s1.part i).ins.getD t noIns:=by
 show(s2.part i).ins.getD t noIns=_
 rw[h.ins]
theorem BuiltX.iroot(h:BuiltX p F O bs K s1 s2 l s){i t:Nat}(hi:i<bs.length)(ht:t<(s1.part i).ins.length){v:Nat}(hv:((s1.part i).ins.getD t noIns).id=v):l[v]? =some (v:Int)∧lowB p F O bs K i+(s1.part i).phis.length≤v∧v<higB p F O bs K i:=by
 have hp:=h.raw.part i hi
 have hrg:lowB p F O bs K i+(s1.part i).phis.length≤v∧v<higB p F O bs K i:=by
  cases hst:setsB (insAt F (hdA F i+t)) with
  |true=>
   obtain⟨u,h1,h2,h3⟩:=hp.set t ht hst
   rw[hv] at h1
   have e:=Int.ofNat_inj.1 h1
   omega
  |false=>
   rw[hp.non t ht hst] at hv;omega
 refine⟨?_,hrg⟩
 rw[h.b.shr.out (v:=v) (fun i' k hi' hk' e=> ?_),h.cls.same]
 ·exact h.raw.inv.self v (by have:=h.raw.le i hi;omega)
 ·rw[h.n2] at hi'
  rw[h.pid hi' hk'] at e
  have e:=Int.ofNat_inj.1 e
  have h1:=(h.raw.part i' hi').plo
  rw[h.phl] at hk'
  by_cases e2:i' =i
  ·subst e2;omega
  ·rcases h.raw.ap i' i hi' hi e2 with h2|h2<;>omega
theorem keptK_mem{s:SB}{i k t:Nat}:t∈keptK s i k↔t<k∧s.same[(s.phi i t).id.toNat]? =some (s.phi i t).id:=by
 unfold keptK
 rw[List.mem_filter,List.mem_range];simp
theorem BuiltX.partG(h:BuiltX p F O bs K s1 s2 l s){i:Nat}(hi:i<bs.length):(partG {s2 with same:=l} i).Pairwise (· < ·)∧∀v∈partG {s2 with same:=l} i,lowB p F O bs K i≤v∧v<higB p F O bs K i:=by
 have hp:=h.raw.part i hi
 have h1:∀t∈keptK ({s2 with same:=l}:SB) i (s2.part i).phis.length,t<(s2.part i).phis.length∧(({s2 with same:=l}:SB).phi i t).id.toNat=lowB p F O bs K i+t:=fun t ht=>by
  have h2:=keptK_lt _ _ _ t ht
  refine⟨h2,?_⟩
  show(s2.phi i t).id.toNat=_
  rw[h.pid hi h2];omega
 have h2:∀v∈phiG ({s2 with same:=l}:SB) i (s2.part i).phis.length,lowB p F O bs K i≤v∧v<lowB p F O bs K i+(s1.part i).phis.length:=fun v hv=>by
  obtain⟨t,ht,rfl⟩:=List.mem_map.1 hv
  obtain⟨h3,h4⟩:=h1 t ht
  rw[h4,←h.phl];omega
 have hinm:∀m,m≤(s1.part i).ins.length→(insG ({s2 with same:=l}:SB) i m).Pairwise (· < ·)∧∀v∈insG ({s2 with same:=l}:SB) i m,∃t,t<m∧((s1.part i).ins.getD t noIns).id=(v:Int):=fun m=>by
  induction m with
  |zero=>intro _;exact⟨List.Pairwise.nil,fun v hv=>by cases hv⟩
  |succ m ih=>
   intro hm
   obtain⟨h3,h4⟩:=ih (by omega)
   rw[insG_succ,h.insA]
   by_cases h0:0≤((s1.part i).ins.getD m noIns).id
   ·rw[if_pos h0]
    refine⟨List.pairwise_append.2 ⟨h3,by simp,fun a ha b hb=> ?_⟩,fun v hv=> ?_⟩
    ·obtain⟨t,ht,e⟩:=h4 a ha
     have hb:b=((s1.part i).ins.getD m noIns).id.toNat:=by simpa using hb
     have:=hp.inc t m ht (by omega) h0
     rw[e] at this
     omega
    ·rcases List.mem_append.1 hv with hv|hv
     ·obtain⟨t,ht,e⟩:=h4 v hv
      exact⟨t,by omega,e⟩
     ·have hv:v=((s1.part i).ins.getD m noIns).id.toNat:=by simpa using hv
      exact⟨m,by omega,by omega⟩
   ·rw[if_neg h0,List.append_nil]
    exact⟨h3,fun v hv=>by obtain⟨t,ht,e⟩:=h4 v hv;exact⟨t,by omega,e⟩⟩
 have hml:(({s2 with same:=l}:SB).part i).ins.length=(s1.part i).ins.length:=by
  show(s2.part i).ins.length=_
  rw[h.ins]
 obtain⟨h5,h6⟩:=hinm (s1.part i).ins.length (Nat.le_refl _)
 have h7:∀v∈insG ({s2 with same:=l}:SB) i (s1.part i).ins.length,lowB p F O bs K i+(s1.part i).phis.length≤v∧v<higB p F O bs K i:=fun v hv=>by
  obtain⟨t,ht,e⟩:=h6 v hv
  exact(h.iroot hi ht e).2
 have hpl:=hp.plo
 unfold Proofs.YtedcjapmmnbamaaDoor.partG
 rw[hml]
 refine⟨List.pairwise_append.2 ⟨?_,h5,fun a ha b hb=> ?_⟩,fun v hv=> ?_⟩
 ·unfold phiG
  rw[List.pairwise_map]
  refine List.Pairwise.imp_of_mem (fun{a b} ha hb hab=> ?_) (keptK_sorted _ _ _)
  have h8:=(h1 a ha).2
  have h9:=(h1 b hb).2
  show(({s2 with same:=l}:SB).phi i a).id.toNat<(({s2 with same:=l}:SB).phi i b).id.toNat
  rw[h8,h9];omega
 ·have:=(h2 a ha).2
  have:=(h7 b hb).1
  omega
 ·rcases List.mem_append.1 hv with hv|hv
  ·have:=h2 v hv;omega
  ·have:=h7 v hv;omega
theorem BuiltX.nodup(h:BuiltX p F O bs K s1 s2 l s){n:Nat}(hn:n≤bs.length):(allG {s2 with same:=l} n).Nodup∧∀v∈allG {s2 with same:=l} n,∃i,i<n∧lowB p F O bs K i≤v∧v<higB p F O bs K i:=by
 refine⟨?_,fun v hv=> ?_⟩
 ·unfold allG List.Nodup
  rw[List.pairwise_flatMap]
  refine⟨fun i hi=>(h.partG (by have:=List.mem_range.1 hi;omega)).1.imp (fun h=>by omega),?_⟩
  refine List.Pairwise.imp_of_mem (fun{a b} ha hb hab x hx y hy e=> ?_) List.pairwise_lt_range
  have ha' :=List.mem_range.1 ha
  have hb' :=List.mem_range.1 hb
  have h1:=(h.partG (i:=a) (by omega)).2 x hx
  have h2:=(h.partG (i:=b) (by omega)).2 y hy
  subst e
  rcases h.raw.ap a b (by omega) (by omega) (by omega) with h3|h3<;>omega
 ·unfold allG at hv
  obtain⟨i,hi,hv⟩:=List.mem_flatMap.1 hv
  have hi:=List.mem_range.1 hi
  exact⟨i,hi,(h.partG (by omega)).2 v hv⟩
end
section
variable {p:List Fnc}{F:Fnc}{O:List Nat}{bs:List BR}{l:List Int}{s s1 s2:SB}{K:Nat}
theorem BuiltX.given(h:BuiltX p F O bs K s1 s2 l s){v:Nat}(hv:l[v]? =some (v:Int)):v∈allG {s2 with same:=l} bs.length∨v<F.params.toNat:=by
 have hvl:v<s1.same.length:=by rw[←h.len];exact(gI.1 hv).1
 by_cases hP:v<F.params.toNat
 ·exact .inr hP
 left
 have key:∀u,u≤K→v<(bldTo p F O bs (ordL F bs K) u).same.length→∃u',u' <u∧(bldTo p F O bs (ordL F bs K) u').same.length≤v∧v<(bldTo p F O bs (ordL F bs K) (u' +1)).same.length:=fun u=>by
  induction u with
  |zero=>
   intro _ hv0
   exfalso
   have e:(bldTo p F O bs (ordL F bs K) 0).same=natI (List.range F.params.toNat):=rfl
   rw[e] at hv0
   simp[natI] at hv0
   omega
  |succ u ih=>
   intro hu hv0
   by_cases e:v<(bldTo p F O bs (ordL F bs K) u).same.length
   ·obtain⟨u',h1,h2⟩:=ih (by omega) e
    exact⟨u',by omega,h2⟩
   ·exact⟨u,by omega,by omega,hv0⟩
 obtain⟨u,hu,h1,h2⟩:=key K (Nat.le_refl _) (by rw[h.hs];exact hvl)
 have hul:u<(ordL F bs K).length:=by rw[h.b.ord];exact hu
 obtain⟨ho,-⟩:=ord_ok h.hk h.hF h.b.bok K
 have hj:=ho.lt _ (List.getElem_mem hul)
 have hidx:(ordL F bs K).idxOf ((ordL F bs K)[u])=u:=by
  have h3:=List.idxOf_lt_length_of_mem (List.getElem_mem hul)
  have h4:(ordL F bs K)[(ordL F bs K).idxOf ((ordL F bs K)[u])]=(ordL F bs K)[u]:=List.getElem_idxOf h3
  exact(List.getElem_inj (h₀:=h3) (h₁:=hul) ho.nodup).1 h4
 obtain⟨j,hje⟩:∃j,(ordL F bs K)[u]=j:=⟨_,rfl⟩
 rw[hje] at hj hidx
 have hlo:lowB p F O bs K j≤v:=by unfold lowB;rw[hidx];exact h1
 have hhi:v<higB p F O bs K j:=by unfold higB;rw[hidx];exact h2
 have hp:=h.raw.part j hj
 unfold allG
 refine List.mem_flatMap.2 ⟨j,List.mem_range.2 hj,?_⟩
 unfold Proofs.YtedcjapmmnbamaaDoor.partG
 rcases hp.cov v hlo hhi with⟨k,hk,hid⟩|⟨t,ht,hid⟩
 ·refine List.mem_append_left _ ?_
  have e:(({s2 with same:=l}:SB).phi j k).id=(v:Int):=((h.cls.phi j k).2).trans hid
  refine List.mem_map.2 ⟨k,keptK_mem.2 ⟨?_,?_⟩,?_⟩
  ·show k<(s2.part j).phis.length
   rw[h.phl];exact hk
  ·rw[e,Int.toNat_natCast];exact hv
  ·rw[e,Int.toNat_natCast]
 ·refine List.mem_append_right _ ?_
  have e:(({s2 with same:=l}:SB).insA j t).id=(v:Int):=by rw[h.insA];exact hid
  unfold insG
  refine List.mem_map.2 ⟨t,List.mem_filter.2 ⟨List.mem_range.2 ?_,?_⟩,?_⟩
  ·show t<(s2.part j).ins.length
   rw[h.ins];exact ht
  ·rw[e];simp
  ·rw[e,Int.toNat_natCast]
def valN(F:Fnc)(bs:List BR)(s2:SB)(l:List Int):Nat:=F.params.toNat+(allG {s2 with same:=l} bs.length).length
noncomputable def numM(F:Fnc)(bs:List BR)(s2:SB)(l:List Int):Nat→Int:=(numF F.params.toNat (allG {s2 with same:=l} bs.length)).1
theorem BuiltX.toV_ge(h:BuiltX p F O bs K s1 s2 l s){v:Int}(hv:0≤v)(hl:v<l.length):0≤toV l (numM F bs s2 l) v∧toV l (numM F bs s2 l) v<(valN F bs s2 l:Int):=by
 unfold toV
 rw[if_neg (by omega)]
 have hn:=(h.nodup (Nat.le_refl _)).1
 obtain⟨h1,h2⟩:=numF_range F.params.toNat _ hn (rt l v.toNat)
 exact⟨h1,h2 (h.given (h.all.root (by omega)))⟩
theorem toV_neg{l:List Int}{M:Nat→Int}{v:Int}(hv:v<0):toV l M v=v:=if_pos hv
theorem allG_pre(s:SB){i n:Nat}(h:i≤n):∃r,allG s n=allG s i++r:=by
 induction n with
 |zero=>exact⟨[],by rw[show i=0 by omega];simp⟩
 |succ n ih=>
  by_cases e:i=n+1
  ·exact⟨[],by rw[e];simp⟩
  ·obtain⟨r,hr⟩:=ih (by omega)
   exact⟨r++partG s n,by rw[allG_succ,hr,List.append_assoc]⟩
theorem BuiltX.num(h:BuiltX p F O bs K s1 s2 l s){i k:Nat}(hi:i<bs.length)(hk:k<(Proofs.YtedcjapmmnbamaaDoor.partG {s2 with same:=l} i).length):numM F bs s2 l ((Proofs.YtedcjapmmnbamaaDoor.partG {s2 with same:=l} i)[k])=((F.params.toNat+(allG {s2 with same:=l} i).length+k:Nat):Int):=by
 obtain⟨r,hr⟩:=allG_pre {s2 with same:=l} (show i+1≤bs.length from hi)
 rw[allG_succ,List.append_assoc] at hr
 have hn:=(h.nodup (Nat.le_refl _)).1
 have hl:(allG {s2 with same:=l} i).length+k<(allG {s2 with same:=l} bs.length).length:=by
  rw[hr,List.length_append,List.length_append];omega
 have h1:=numF_get F.params.toNat _ hn _ hl
 have e:(allG {s2 with same:=l} bs.length)[(allG {s2 with same:=l} i).length+k]=(Proofs.YtedcjapmmnbamaaDoor.partG {s2 with same:=l} i)[k]:=by
  have h2:(allG {s2 with same:=l} bs.length)[(allG {s2 with same:=l} i).length+k]? =(Proofs.YtedcjapmmnbamaaDoor.partG {s2 with same:=l} i)[k]? :=by
   rw[hr,List.getElem?_append_right (by omega),Nat.add_sub_cancel_left,List.getElem?_append_left hk]
  rw[gE hl,gE hk] at h2
  exact Option.some.inj h2
 rw[e] at h1
 unfold numM
 rw[h1];omega
structure FinP(p:List Fnc)(F:Fnc)(O:List Nat)(bs:List BR)(s:SB)(vals:Nat)(g:Nat→Nat)(c:Nat→Nat→Nat):Prop where
 len:s.parts.length=bs.length
 inn:∀x∈s.parts,x.inn.length=12
 block:∀i,i<bs.length→(s.part i).block=(i:Int)
 il:∀i,i<bs.length→(s.part i).ins.length=toF F (hdA F i)-hdA F i
 phl:∀i,i<bs.length→(s.part i).phis.length≤12
 pid:∀i k,i<bs.length→k<(s.part i).phis.length→(s.phi i k).id=((F.params.toNat+g i+k:Nat):Int)∧(s.phi i k).args.length=(prevL bs i).length
 preg:∀i k,i<bs.length→k<(s.part i).phis.length→∃r:Nat,(s.phi i k).reg=r∧r<12∧(O.getD (hdA F i) 0).testBit r=true∧(s.part i).inn.getD r 0=(s.phi i k).id
 pinc:∀i k,i<bs.length→k+1<(s.part i).phis.length→(s.phi i k).reg<(s.phi i (k+1)).reg
 pjn:∀i,i<bs.length→0<(s.part i).phis.length→1<(prevL bs i).length
 parg:∀i k,i<bs.length→k<(s.part i).phis.length→∀a∈(s.phi i k).args,0≤a∧a<vals
 iop:∀i t,i<bs.length→t<(s.part i).ins.length→(s.insA i t).op=(insAt F (hdA F i+t)).op∧(s.insA i t).imm=(insAt F (hdA F i+t)).imm∧(s.insA i t).pc=((hdA F i+t:Nat):Int)
 iid:∀i t,i<bs.length→t<(s.part i).ins.length→(0≤(s.insA i t).id→(s.insA i t).id=((F.params.toNat+g i+(s.part i).phis.length+c i t:Nat):Int)∧c i (t+1)=c i t+1)∧((s.insA i t).id<0→c i (t+1)=c i t)
 iset:∀i t,i<bs.length→t<(s.part i).ins.length→(0≤(s.insA i t).id↔setsB (insAt F (hdA F i+t))=true)
 ia:∀i t,i<bs.length→t<(s.part i).ins.length→(0≤(s.insA i t).a↔useA p (insAt F (hdA F i+t))=true)∧(s.insA i t).a<vals
 ib:∀i t,i<bs.length→t<(s.part i).ins.length→(0≤(s.insA i t).b↔useB p (insAt F (hdA F i+t))=true)∧(s.insA i t).b<vals
 innl:∀i r,i<bs.length→r<12→(0≤(s.part i).inn.getD r 0↔(O.getD (hdA F i) 0).testBit r=true)∧-1≤(s.part i).inn.getD r 0∧(s.part i).inn.getD r 0<vals
 g0:g 0=0
 c0:∀i,c i 0=0
 gs:∀i,i<bs.length→g (i+1)=g i+(s.part i).phis.length+c i (s.part i).ins.length
 vals:vals=F.params.toNat+g bs.length
theorem getD_map{α β:Type}(f:α→β)(l:List α)(d:α)(d' :β){k:Nat}(hk:k<l.length):(l.map f).getD k d' =f (l.getD k d):=by
 rw[gD,gD,List.getElem?_map,gE hk];rfl
theorem BuiltX.finP(h:BuiltX p F O bs K s1 s2 l s):FinP p F O bs s (valN F bs s2 l) (fun i=>(allG {s2 with same:=l} i).length) (fun i t=>(insG {s2 with same:=l} i t).length):=by
 have hM:(numF F.params.toNat (allG {s2 with same:=l} bs.length)).1=numM F bs s2 l:=rfl
 have hpt:∀j,j<bs.length→s.part j=⟨(s2.part j).block,(keepF {s2 with same:=l} j).phis.map (toPhi l (numM F bs s2 l)),(s2.part j).ins.map (toIns l (numM F bs s2 l)),(s2.began.getD j []).map (toV l (numM F bs s2 l))⟩:=h.b.part
 have hlen:=h.len
 have hkl:∀i,(keepF {s2 with same:=l} i).phis.length=(keptK {s2 with same:=l} i (s2.part i).phis.length).length:=fun i=>by
  unfold keepF;rw[List.length_map];rfl
 have hph:∀i k,i<bs.length→k<(s.part i).phis.length→∃t,t<(s1.part i).phis.length∧(keptK {s2 with same:=l} i (s2.part i).phis.length)[k]? =some t∧s.phi i k=toPhi l (numM F bs s2 l) (s2.phi i t)∧l[lowB p F O bs K i+t]? =some ((lowB p F O bs K i+t:Nat):Int):=fun i k hi hk=>by
  rw[hpt i hi] at hk
  simp only[List.length_map] at hk
  have hk2:k<(keptK {s2 with same:=l} i (s2.part i).phis.length).length:=by rw[←hkl];exact hk
  have hm:=keptK_mem.1 (List.getElem_mem hk2)
  refine⟨_,by rw[←h.phl];exact hm.1,gE hk2,?_,?_⟩
  ·unfold SB.phi
   rw[hpt i hi]
   dsimp only
   rw[getD_map _ _ noPhi _ hk]
   congr 1
   unfold keepF
   show(List.map (SB.phi {s2 with same:=l} i) (keptK {s2 with same:=l} i (s2.part i).phis.length)).getD k noPhi=_
   rw[getD_map _ _ 0 _ hk2,gD,gE hk2];rfl
  ·have h2:=hm.2
   have e:(({s2 with same:=l}:SB).phi i (keptK {s2 with same:=l} i (s2.part i).phis.length)[k]).id=((lowB p F O bs K i+(keptK {s2 with same:=l} i (s2.part i).phis.length)[k]:Nat):Int):=h.pid hi hm.1
   rw[e,Int.toNat_natCast] at h2
   exact h2
 have hins:∀i t,i<bs.length→t<(s1.part i).ins.length→s.insA i t=toIns l (numM F bs s2 l) ((s1.part i).ins.getD t noIns):=fun i t hi ht=>by
  unfold SB.insA
  rw[hpt i hi]
  dsimp only
  rw[h.ins,getD_map _ _ noIns _ ht]
 have hil:∀i,i<bs.length→(s.part i).ins.length=(s1.part i).ins.length:=fun i hi=>by
  rw[hpt i hi]
  dsimp only
  rw[List.length_map,h.ins]
 have hpl:∀i,i<bs.length→(s.part i).phis.length=(keptK {s2 with same:=l} i (s2.part i).phis.length).length:=fun i hi=>by
  rw[hpt i hi]
  dsimp only
  rw[List.length_map,hkl]
 have hphG:∀i,(phiG {s2 with same:=l} i (s2.part i).phis.length).length=(keptK {s2 with same:=l} i (s2.part i).phis.length).length:=fun i=>by
  unfold phiG;rw[List.length_map]
 have hidv:∀i t,i<bs.length→t<(s1.part i).ins.length→((s1.part i).ins.getD t noIns).id<0→toV l (numM F bs s2 l) ((s1.part i).ins.getD t noIns).id<0:=fun i t _ _ h0=>by rw[toV_neg h0];exact h0
 have hidp:∀i t,i<bs.length→t<(s1.part i).ins.length→0≤((s1.part i).ins.getD t noIns).id→toV l (numM F bs s2 l) ((s1.part i).ins.getD t noIns).id=((F.params.toNat+(allG {s2 with same:=l} i).length+(keptK {s2 with same:=l} i (s2.part i).phis.length).length+(insG {s2 with same:=l} i t).length:Nat):Int)∧(insG {s2 with same:=l} i (t+1)).length=(insG {s2 with same:=l} i t).length+1:=fun i t hi ht h0=>by
  obtain⟨v,hv⟩:∃v:Nat,((s1.part i).ins.getD t noIns).id=v:=⟨((s1.part i).ins.getD t noIns).id.toNat,by omega⟩
  have hsu:=insG_succ {s2 with same:=l} i t
  rw[h.insA,if_pos h0,hv,Int.toNat_natCast] at hsu
  refine⟨?_,by rw[hsu,List.length_append];rfl⟩
  obtain⟨r1,-⟩:=h.iroot hi ht hv
  rw[hv]
  unfold toV
  rw[if_neg (by omega),Int.toNat_natCast,rt_root r1]
  have hpre:∀m,t+1≤m→∃r,insG {s2 with same:=l} i m=insG {s2 with same:=l} i (t+1)++r:=fun m hm=>by
   induction m with
   |zero=>omega
   |succ m ih=>
    by_cases e:m=t
    ·subst e;exact⟨[],by simp⟩
    ·obtain⟨r,hr⟩:=ih (by omega)
     exact⟨_,by rw[insG_succ,hr,List.append_assoc]⟩
  obtain⟨r,hr⟩:=hpre (s2.part i).ins.length (by rw[h.ins];exact ht)
  have hg:(Proofs.YtedcjapmmnbamaaDoor.partG {s2 with same:=l} i)[(keptK {s2 with same:=l} i (s2.part i).phis.length).length+(insG {s2 with same:=l} i t).length]? =some v:=by
   unfold Proofs.YtedcjapmmnbamaaDoor.partG
   show(phiG {s2 with same:=l} i (s2.part i).phis.length++insG {s2 with same:=l} i (s2.part i).ins.length)[_]? =_
   rw[List.getElem?_append_right (by rw[hphG];omega),hphG,Nat.add_sub_cancel_left,hr,hsu,List.append_assoc,List.getElem?_append_right (Nat.le_refl _),Nat.sub_self];rfl
  obtain⟨hgl,hge⟩:=gI.1 hg
  have h3:=h.num hi hgl
  rw[hge] at h3
  rw[h3];omega
 have hab:∀i t,i<bs.length→t<(s1.part i).ins.length→∀v,(v=((s1.part i).ins.getD t noIns).a∨v=((s1.part i).ins.getD t noIns).b)→-1≤v∧v<l.length:=fun i t hi ht v hv=>by
  have hp:=(h.raw.part i hi).ab t ht
  have:=h.raw.le i hi
  rcases hv with rfl|rfl<;>omega
 have htv:∀v:Int,-1≤v→v<l.length→(0≤toV l (numM F bs s2 l) v↔0≤v)∧-1≤toV l (numM F bs s2 l) v∧toV l (numM F bs s2 l) v<(valN F bs s2 l:Int):=fun v h1 h2=>by
  by_cases h0:0≤v
  ·have:=h.toV_ge h0 h2
   exact⟨⟨fun _=>h0,fun _=>this.1⟩,by omega,this.2⟩
  ·rw[toV_neg (by omega)]
   exact⟨Iff.rfl,h1,by omega⟩
 refine⟨h.b.len,fun x hx=> ?_,fun i hi=> ?_,fun i hi=> ?_,fun i hi=> ?_,fun i k hi hk=> ?_,fun i k hi hk=> ?_,fun i k hi hk=> ?_,fun i hi h0=> ?_,fun i k hi hk a ha=> ?_,fun i t hi ht=> ?_,fun i t hi ht=> ?_,fun i t hi ht=> ?_,fun i t hi ht=> ?_,fun i t hi ht=> ?_,fun i r hi hr=> ?_,rfl,fun i=>rfl,fun i hi=> ?_,rfl⟩
 ·obtain⟨j,hj,rfl⟩:=List.getElem_of_mem hx
  have hj' :j<bs.length:=by rw[←h.b.len];exact hj
  have e:s.part j=s.parts[j]:=by unfold SB.part;rw[gD,gE hj];rfl
  rw[←e,hpt j hj']
  show(List.map _ _).length=12
  rw[List.length_map,h.cls.began]
  exact(h.raw.part j hj').b12
 ·rw[hpt i hi]
  show(s2.part i).block=_
  rw[(h.cls.part i).1];exact(h.raw.part i hi).block
 ·rw[hil i hi];exact(h.raw.part i hi).il
 ·rw[hpl i hi]
  have:=keptK_len {s2 with same:=l} i (s2.part i).phis.length
  have:=(h.raw.part i hi).phl
  have:=h.phl i
  omega
 ·obtain⟨t,h1,h2,h3,h4⟩:=hph i k hi hk
  rw[h3]
  refine⟨?_,?_⟩
  ·show toV l (numM F bs s2 l) (s2.phi i t).id=_
   rw[h.pid hi (by rw[h.phl];exact h1)]
   unfold toV
   rw[if_neg (by omega),Int.toNat_natCast,rt_root h4]
   have hg:(Proofs.YtedcjapmmnbamaaDoor.partG {s2 with same:=l} i)[k]? =some (lowB p F O bs K i+t):=by
    obtain⟨h5,h6⟩:=gI.1 h2
    unfold Proofs.YtedcjapmmnbamaaDoor.partG
    show(phiG {s2 with same:=l} i (s2.part i).phis.length++_)[k]? =_
    rw[List.getElem?_append_left (by rw[hphG];exact h5)]
    unfold phiG
    rw[List.getElem?_map,h2]
    show some (s2.phi i t).id.toNat=_
    rw[h.pid hi (by rw[h.phl];exact h1),Int.toNat_natCast]
   obtain⟨hgl,hge⟩:=gI.1 hg
   have h7:=h.num hi hgl
   rw[hge] at h7
   rw[h7]
  ·show((s2.phi i t).args.map _).length=_
   rw[List.length_map]
   have h5:=h.cls.arg i t h1
   rw[if_pos (.inl hi),h.fin.arg] at h5
   show(s2.arg i t).length=_
   rw[h5]
   unfold fullA
   simp
 ·obtain⟨t,h1,h2,h3,h4⟩:=hph i k hi hk
  obtain⟨r,r1,r2,r3,r4,r5⟩:=(h.raw.part i hi).preg t h1
  refine⟨r,?_,r2,r4,?_⟩
  ·rw[h3]
   show(s2.phi i t).reg=_
   rw[(h.cls.phi i t).1];exact r1
  ·rw[h3,hpt i hi]
   show((s2.began.getD i []).map _).getD r 0=toV l (numM F bs s2 l) (s2.phi i t).id
   rw[h.cls.began,getD_map _ _ 0 _ (by rw[(h.raw.part i hi).b12];exact r2),r5,(h.cls.phi i t).2];rfl
 ·obtain⟨t,h1,h2,h3,h4⟩:=hph i k hi (by omega)
  obtain⟨t',h1',h2',h3',h4'⟩:=hph i (k+1) hi hk
  rw[h3,h3']
  show(s2.phi i t).reg<(s2.phi i t').reg
  rw[(h.cls.phi i t).1,(h.cls.phi i t').1]
  refine(h.raw.part i hi).pinc t t' ?_ h1'
  obtain⟨a1,a2⟩:=gI.1 h2
  obtain⟨b1,b2⟩:=gI.1 h2'
  have:=List.pairwise_iff_getElem.1 (keptK_sorted {s2 with same:=l} i (s2.part i).phis.length) k (k+1) a1 b1 (by omega)
  rw[a2,b2] at this
  exact this
 ·obtain⟨t,h1,-⟩:=hph i 0 hi h0
  cases hj:jn bs i with
  |false=>
   have:=(h.raw.part i hi).phj hj
   rw[this] at h1;simp at h1
  |true=>
   unfold jn at hj
   have:=of_decide_eq_true hj
   omega
 ·obtain⟨t,h1,h2,h3,h4⟩:=hph i k hi hk
  rw[h3] at ha
  obtain⟨a',ha',rfl⟩:=List.mem_map.1 (show a∈(s2.phi i t).args.map (toV l (numM F bs s2 l)) from ha)
  have h5:=h.cls.arg i t h1
  rw[if_pos (.inl hi),h.fin.arg] at h5
  have ha' :a' ∈s2.arg i t:=ha'
  rw[h5] at ha'
  unfold fullA at ha'
  obtain⟨q,hq,rfl⟩:=List.mem_map.1 (by simpa using ha')
  obtain⟨r,r1,r2,r3,r4,r5⟩:=(h.raw.part i hi).preg t h1
  have r1:(s1.phi i t).reg=(r:Int):=r1
  have h6:=comes_ok h.hk h.hF h.b.lok h.b.bok h.b.ord h.hs hi r2 r4 hq
  rw[r1]
  exact h.toV_ge h6.1 (by rw[hlen];exact h6.2)
 ·rw[hil i hi] at ht
  rw[hins i t hi ht]
  exact(h.raw.part i hi).op t ht
 ·rw[hil i hi] at ht
  rw[hins i t hi ht,hpl i hi]
  show(0≤toV l (numM F bs s2 l) _→toV l (numM F bs s2 l) _=_∧_)∧(toV l (numM F bs s2 l) _<0→_)
  by_cases h0:0≤((s1.part i).ins.getD t noIns).id
  ·obtain⟨h1,h2⟩:=hidp i t hi ht h0
   exact⟨fun _=>⟨h1,h2⟩,fun h3=>by rw[h1] at h3;omega⟩
  ·have h1:=hidv i t hi ht (by omega)
   refine⟨fun h2=>by omega,fun _=> ?_⟩
   have hsu:=insG_succ {s2 with same:=l} i t
   rw[h.insA,if_neg h0,List.append_nil] at hsu
   show(insG _ _ _).length=(insG _ _ _).length
   rw[hsu]
 ·rw[hil i hi] at ht
  rw[hins i t hi ht]
  show 0≤toV l (numM F bs s2 l) _↔_
  cases hst:setsB (insAt F (hdA F i+t)) with
  |true=>
   obtain⟨v,h1,-⟩:=(h.raw.part i hi).set t ht hst
   have:=(hidp i t hi ht (by omega)).1
   exact⟨fun _=>rfl,fun _=>by rw[this];omega⟩
  |false=>
   have h1:=(h.raw.part i hi).non t ht hst
   have:=hidv i t hi ht (by omega)
   exact⟨fun h2=>by omega,fun h2=>by simp at h2⟩
 ·rw[hil i hi] at ht
  rw[hins i t hi ht]
  obtain⟨h1,h2⟩:=hab i t hi ht _ (.inl rfl)
  obtain⟨h3,h4,h5⟩:=htv _ h1 h2
  obtain⟨r1,r2,-,-⟩:=(h.raw.part i hi).red t ht
  refine⟨?_,h5⟩
  show 0≤toV l (numM F bs s2 l) _↔_
  rw[h3]
  cases hu:useA p (insAt F (hdA F i+t)) with
  |true=>exact⟨fun _=>rfl,fun _=>r1 hu⟩
  |false=>exact⟨fun h6=>by rw[r2 hu] at h6;omega,fun h6=>by simp at h6⟩
 ·rw[hil i hi] at ht
  rw[hins i t hi ht]
  obtain⟨h1,h2⟩:=hab i t hi ht _ (.inr rfl)
  obtain⟨h3,h4,h5⟩:=htv _ h1 h2
  obtain⟨-,-,r1,r2⟩:=(h.raw.part i hi).red t ht
  refine⟨?_,h5⟩
  show 0≤toV l (numM F bs s2 l) _↔_
  rw[h3]
  cases hu:useB p (insAt F (hdA F i+t)) with
  |true=>exact⟨fun _=>rfl,fun _=>r1 hu⟩
  |false=>exact⟨fun h6=>by rw[r2 hu] at h6;omega,fun h6=>by simp at h6⟩
 ·rw[hpt i hi]
  show(0≤((s2.began.getD i []).map _).getD r 0↔_)∧-1≤((s2.began.getD i []).map _).getD r 0∧((s2.began.getD i []).map _).getD r 0<_
  have hp:=h.raw.part i hi
  rw[h.cls.began,getD_map _ _ 0 _ (by rw[hp.b12];exact hr)]
  have hb:=hp.bv _ (getD_mem12 hp.b12 hr)
  have:=h.raw.le i hi
  obtain⟨h3,h4,h5⟩:=htv _ hb.1 (by omega)
  refine⟨?_,h4,h5⟩
  rw[h3]
  cases hl:(O.getD (hdA F i) 0).testBit r with
  |true=>exact⟨fun _=>rfl,fun _=>hp.live r hl⟩
  |false=>exact⟨fun h6=>by rw[hp.dead r hr hl] at h6;omega,fun h6=>by simp at h6⟩
 ·show(allG _ (i+1)).length=_
  rw[allG_succ,List.length_append]
  unfold Proofs.YtedcjapmmnbamaaDoor.partG
  rw[List.length_append,hpl i hi,hil i hi]
  show _+((phiG {s2 with same:=l} i (s2.part i).phis.length).length+(insG {s2 with same:=l} i (s2.part i).ins.length).length)=_
  rw[hphG,h.ins];omega
end
end Go.Proofs.YtedcjapmmnbamaaDoor
