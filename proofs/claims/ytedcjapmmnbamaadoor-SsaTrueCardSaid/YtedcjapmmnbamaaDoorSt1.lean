import Derived.Test.YtedcjapmmnbamaaDoorCl
import Derived.Deep.AppendLies
import Derived.StillTailTactics
import Derived.BigQuiet
namespace Go.Proofs.YtedcjapmmnbamaaDoor
open Go.RowKit Tier
section
variable (s:St)(FS ES AS:Value)
theorem stC_0:(stCells s FS ES AS)[0]? =some (.int .i64 s.status):=rfl
theorem stC_1:(stCells s FS ES AS)[1]? =some (.int .i64 s.value):=rfl
theorem stC_2:(stCells s FS ES AS)[2]? =some FS:=rfl
variable {s}(h:s.mem.length=16)
include h
theorem stC_mem{i:Nat}(hi:i<16):(stCells s FS ES AS)[3+i]? =some (.int .i64 (s.mem.getD i 0)):=by
 unfold stCells intsV
 rw[List.getElem?_append_left (by simp[h];omega),List.getElem?_append_right (by simp)]
 simp only[List.length_cons,List.length_nil]
 rw[show 3+i-(0+1+1+1)=i by omega,List.getElem?_map,gD,gE (by omega)]
 rfl
theorem stC_hi(j:Nat):(stCells s FS ES AS)[19+j]? =[Value.int .i64 s.fuel,ES,AS][j]? :=by
 unfold stCells intsV
 rw[List.getElem?_append_right (by simp[h])]
 simp[h]
theorem stC_19:(stCells s FS ES AS)[19]? =some (.int .i64 s.fuel):=stC_hi FS ES AS h 0
theorem stC_20:(stCells s FS ES AS)[20]? =some ES:=stC_hi FS ES AS h 1
theorem stC_21:(stCells s FS ES AS)[21]? =some AS:=stC_hi FS ES AS h 2
theorem stS_hi(j:Nat)(v:Value):(stCells s FS ES AS).set (19+j) v=[.int .i64 s.status, .int .i64 s.value,FS]++intsV s.mem++[Value.int .i64 s.fuel,ES,AS].set j v:=by
 unfold stCells intsV
 rw[List.set_append_right _ _ (by simp[h])]
 simp[h]
theorem stS_19(n:Int):(stCells s FS ES AS).set 19 (.int .i64 n)=stCells {s with fuel:=n} FS ES AS:=stS_hi FS ES AS h 0 _
theorem stS_20(v:Value):(stCells s FS ES AS).set 20 v=stCells s FS v AS:=stS_hi FS ES AS h 1 _
theorem stS_21(v:Value):(stCells s FS ES AS).set 21 v=stCells s FS ES v:=stS_hi FS ES AS h 2 _
theorem stS_mem{i:Nat}(hi:i<16)(n:Int):(stCells s FS ES AS).set (3+i) (.int .i64 n)=stCells {s with mem:=s.mem.set i n} FS ES AS:=by
 unfold stCells intsV
 rw[List.set_append_left _ _ (by simp[h];omega),List.set_append_right _ _ (by simp)]
 simp only[List.length_cons,List.length_nil]
 rw[show 3+i-(0+1+1+1)=i by omega,List.map_set]
omit h
theorem stS_0(n:Int):(stCells s FS ES AS).set 0 (.int .i64 n)=stCells {s with status:=n} FS ES AS:=rfl
theorem stS_1(n:Int):(stCells s FS ES AS).set 1 (.int .i64 n)=stCells {s with value:=n} FS ES AS:=rfl
theorem stS_2(v:Value):(stCells s FS ES AS).set 2 v=stCells s v ES AS:=rfl
end
theorem slice_one{w:World}{B:Nat}{e:TypeId}{size:Nat}{v:Value}{n:Nat}{xs:List Value}(h:w.ownsRow B e size v n xs):v.oneCell' =true:=by
 rcases h.2 with⟨rfl,-⟩|⟨g,cap,cur,rfl,-⟩<;>rfl
theorem num_one{w:World}{B:Nat}{v:Value}{l:List Int}(h:NumAt w B v l):v.oneCell' =true:=by
 obtain⟨A,cap,rfl,-⟩:=h;rfl
theorem stC_one'{s:St}{FS ES AS:Value}(h1:FS.oneCell' =true)(h2:ES.oneCell' =true)(h3:AS.oneCell' =true):(stCells s FS ES AS).toArray.all (·.oneCell')=true:=all_oneCell_toArray (fun v hv=>by
 unfold stCells intsV at hv
 simp only[List.mem_append,List.mem_cons,List.mem_map,List.not_mem_nil,or_false] at hv
 rcases hv with((rfl|rfl|rfl)|⟨a,-,rfl⟩)|rfl|rfl|rfl
 ·rfl
 ·rfl
 ·exact h1
 ·rfl
 ·rfl
 ·exact h2
 ·exact h3)
theorem stC_one{w:World}{B:Nat}{s:St}{FS ES AS:Value}(h:StRows w B s FS ES AS):(stCells s FS ES AS).toArray.all (·.oneCell')=true:=stC_one' (slice_one h.fr) (slice_one h.ev) (num_one h.an)
theorem frCells_cell{l:List Fr}:∀u∈frCells l,u.oneCell' =true:=fun u hu=>by
 unfold frCells frCell at hu
 simp only[List.mem_flatMap,List.mem_append,List.mem_cons,List.mem_map,List.not_mem_nil,or_false] at hu
 obtain⟨f,-,(rfl|rfl)|⟨a,-,rfl⟩⟩:=hu<;>rfl
def zeroS:St:=⟨0,0,[],List.replicate 16 0,0,[],[]⟩
def zeroV:List Value:=stCells zeroS (.slice none 0 0) (.slice none 0 0) (.slice none 0 0)
theorem zeroV_length:zeroV.length=22:=rfl
theorem zeroV_one:zeroV.toArray.all (·.oneCell')=true:=stC_one' rfl rfl rfl
set_option maxRecDepth 100000 in
theorem zero_st(W:World):(zeroValue 36).run Tryd.prog W= .ok (.agg zeroV.toArray) W:=by kernel_rfl
theorem info_st{C:List Value}(h:C.length=22):(Tryd.prog.info? 36).map (·.size)=some C.length:=by rw[h];kernel_rfl
set_option maxHeartbeats 4000000 in
set_option maxRecDepth 100000 in
theorem own_any{B:Nat}(s:St)(FS ES AS:Value)(w:World)(hr:StRows w B s FS ES AS)(hm:s.mem.length=16)(hd:s.frames.length≤8)(he:s.events.length≤1000000)(ha:s.answers.length≤1000000):
 Calls Tryd.prog 47 #[.agg (stCells s FS ES AS).toArray] w fun e w' =>(∃v,e= .returned v∧StVal w' w.heap.size v s)∧Below w.heap.size w w' :=by
 have HR:=Lib.hid hr
 have HM:=Lib.hid hm
 have hz:=zero_st
 have HL:=Lib.hid (stCells_length hm FS ES AS)
 have HE:=Lib.hid he
 have HA:=Lib.hid ha
 have HD:=Lib.hid hd
 clear hr hm hd he ha
 have H2:=Lib.hid (stC_2 s FS ES AS)
 have H20:=Lib.hid (stC_20 FS ES AS HM.out)
 have H21:=Lib.hid (stC_21 FS ES AS HM.out)
 have HS:=Lib.hid (fun(F E A:Value)=>show(((stCells s FS ES AS).set 2 F).set 20 E).set 21 A=stCells s F E A by rw[stS_2,stS_20 F ES AS HM.out,stS_21 F E AS HM.out])
 have H1:=Lib.hid (stC_one' (s:=s) (slice_one HR.out.fr) (slice_one HR.out.ev) (num_one HR.out.an))
 have HB:=Lib.hid (fun(F E A:Value)=>info_st (stCells_length HM.out F E A))
 generalize stCells s FS ES AS=C at *
 have q2:=H2.out
 go_enter Tryd.func47,Tryd.ntmps47
 go_wp2_with fail
 have hb1:=Lib.hid (((Below.refl w.heap.size w).alloc (Nat.le_refl _) (.cells C.toArray 36)).alloc (by simp) (.cells zeroV.toArray 36))
 refine(clone_fr _ (own_below HR.out.fr hb1.out) frCells_cell HD.out).mono ?_
 rintro e w2 ⟨⟨F,rfl,hF⟩,hb2⟩
 have HB2:=Lib.hid ((hb2.block w.heap.size (by simp;omega)).trans (block_alloc (heap_alloc_new w (.cells C.toArray 36)) (.cells zeroV.toArray 36)))
 have HZ2:=Lib.hid ((hb2.block (w.heap.size+1) (by simp)).trans (heap_alloc_new1 w (.cells C.toArray 36) (.cells zeroV.toArray 36)))
 have HW2:=Lib.hid (hb1.out.trans (hb2.mono (by simp;omega)))
 have HF:=Lib.hid (own_base0 hF (by simp:w.heap.size+2≤_))
 obtain⟨FA,Fc,hFv,-⟩:=own_slice hF
 subst hFv
 have c2:=cell_block HB2.out 20
 have f2:=frozen_block HB2.out 2
 have d2:=cell_block HB2.out 2
 rw[List.getElem?_toArray,H2.out] at d2
 rw[List.getElem?_toArray,H20.out] at c2
 have z2:=block_lt HZ2.out
 clear hb2 hF q2 hb1
 go_wp2_with fail
 obtain⟨w3,hw3⟩:∃w3,w2.setCell ⟨w.heap.size,2,none⟩ (.slice FA s.frames.length Fc)=w3:=⟨_,rfl⟩
 rw[hw3]
 have HB3:Hid (w3.heap[w.heap.size]? =some (.cells (C.set 2 (.slice FA s.frames.length Fc)).toArray 36 (0,0))):=Lib.hid (by rw[←hw3];exact block_put HB2.out rfl)
 have HZ3:Hid (w3.heap[w.heap.size+1]? =some (.cells zeroV.toArray 36 (0,0))):=Lib.hid (by rw[←hw3];exact block_set_ne HZ2.out (by omega) _ _)
 have HW3:Hid (Below w.heap.size w w3):=Lib.hid (by rw[←hw3];exact HW2.out.setCell (Nat.le_refl _) _)
 have HF3:Hid (w3.ownsRow (w.heap.size+2) 42 14 (.slice FA s.frames.length Fc) s.frames.length (frCells s.frames)):=Lib.hid (by rw[←hw3];exact ownsRow_setCell_below HF.out (by simp) _)
 clear hw3 HB2 HZ2 HW2 HF c2 f2 d2 z2
 have z3:=block_lt HZ3.out
 refine(clone_num w3 ((num_own HR.out.ev).below HW3.out) HE.out).mono ?_
 rintro e w4 ⟨⟨E,rfl,hE⟩,hb4⟩
 have HE4:=Lib.hid (own_base0 hE (by omega:w.heap.size+2≤_))
 obtain⟨EA,Ec,hEv,-⟩:=own_slice hE
 subst hEv
 have HEB:=Lib.hid hE.lt
 have HB4:=Lib.hid ((hb4.block w.heap.size (by omega)).trans HB3.out)
 have HZ4:=Lib.hid ((hb4.block (w.heap.size+1) (by omega)).trans HZ3.out)
 have HW4:=Lib.hid (HW3.out.trans (hb4.mono (by omega)))
 have HF4:=Lib.hid (own_below HF3.out hb4)
 have c21:=cell_block HB4.out 21
 have f20:=frozen_block HB4.out 20
 have d20:=cell_block HB4.out 20
 rw[List.getElem?_toArray,List.getElem?_set_ne (by omega),H20.out] at d20
 rw[List.getElem?_toArray,List.getElem?_set_ne (by omega),H21.out] at c21
 have z4:=block_lt HZ4.out
 clear hb4 hE HB3 HZ3 HW3 HF3
 go_wp2_with fail
 obtain⟨w5,hw5⟩:∃w5,w4.setCell ⟨w.heap.size,20,none⟩ (.slice EA s.events.length Ec)=w5:=⟨_,rfl⟩
 rw[hw5]
 have HB5:Hid (w5.heap[w.heap.size]? =some (.cells ((C.set 2 (.slice FA s.frames.length Fc)).set 20 (.slice EA s.events.length Ec)).toArray 36 (0,0))):=Lib.hid (by rw[←hw5];exact block_put HB4.out rfl)
 have HZ5:Hid (w5.heap[w.heap.size+1]? =some (.cells zeroV.toArray 36 (0,0))):=Lib.hid (by rw[←hw5];exact block_set_ne HZ4.out (by omega) _ _)
 have HW5:Hid (Below w.heap.size w w5):=Lib.hid (by rw[←hw5];exact HW4.out.setCell (Nat.le_refl _) _)
 have HF5:Hid (w5.ownsRow (w.heap.size+2) 42 14 (.slice FA s.frames.length Fc) s.frames.length (frCells s.frames)):=Lib.hid (by rw[←hw5];exact ownsRow_setCell_below HF4.out (by simp) _)
 have HE5:Hid (w5.ownsRow (w.heap.size+2) 3 1 (.slice EA s.events.length Ec) s.events.length (intsV s.events)):=Lib.hid (by rw[←hw5];exact ownsRow_setCell_below HE4.out (by simp) _)
 have HEB5:Hid (∀k,(Value.slice EA s.events.length Ec).ownBlock=some k→k<w5.heap.size):=Lib.hid (fun k hk=>HE5.out.lt k hk|>.2)
 clear hw5 HB4 HZ4 HW4 HF4 HE4 HEB c21 f20 d20 z4 z3
 have z5:=block_lt HZ5.out
 refine(clone_num w5 (HR.out.an.below HW5.out) HA.out).mono ?_
 rintro e w6 ⟨⟨A,rfl,hA⟩,hb6⟩
 have HA6:=Lib.hid (own_base0 hA (by omega:w.heap.size+2≤_))
 obtain⟨AA,Ac,hAv,-⟩:=own_slice hA
 subst hAv
 have HNE:Hid (∀k,(Value.slice EA s.events.length Ec).ownBlock=some k→(Value.slice AA s.answers.length Ac).ownBlock≠some k):=Lib.hid (fun k hk hk' =>by have h1:=HEB5.out k hk;have h2:=(hA.lt k hk').1;omega)
 have HB6:=Lib.hid ((hb6.block w.heap.size (by omega)).trans HB5.out)
 have HZ6:=Lib.hid ((hb6.block (w.heap.size+1) (by omega)).trans HZ5.out)
 have HW6:=Lib.hid (HW5.out.trans (hb6.mono (by omega)))
 have HF6:=Lib.hid (own_below HF5.out hb6)
 have HE6:=Lib.hid (own_below HE5.out hb6)
 have f21:=frozen_block HB6.out 21
 have d21:=cell_block HB6.out 21
 rw[List.getElem?_toArray,List.getElem?_set_ne (by omega),List.getElem?_set_ne (by omega),H21.out] at d21
 have z6:=block_lt HZ6.out
 clear hb6 hA HB5 HZ5 HW5 HF5 HE5 HEB5 z5
 have H7:=Lib.hid (fun(w7:World) (h:w6.setCell ⟨w.heap.size,21,none⟩ (.slice AA s.answers.length Ac)=w7)=>(⟨by rw[←h,←HS.out];exact block_put HB6.out rfl,by rw[←h];exact block_set_ne HZ6.out (by omega) _ _,by rw[←h];exact HW6.out.setCell (Nat.le_refl _) _,by rw[←h];exact ownsRow_setCell_below HF6.out (by simp) _,by rw[←h];exact ownsRow_setCell_below HE6.out (by simp) _,by rw[←h];exact ownsRow_setCell_below HA6.out (by simp) _⟩:
  w7.heap[w.heap.size]? =some (.cells (stCells s (.slice FA s.frames.length Fc) (.slice EA s.events.length Ec) (.slice AA s.answers.length Ac)).toArray 36 (0,0))∧w7.heap[w.heap.size+1]? =some (.cells zeroV.toArray 36 (0,0))∧Below w.heap.size w w7∧
  w7.ownsRow (w.heap.size+2) 42 14 (.slice FA s.frames.length Fc) s.frames.length (frCells s.frames)∧w7.ownsRow (w.heap.size+2) 3 1 (.slice EA s.events.length Ec) s.events.length (intsV s.events)∧w7.ownsRow (w.heap.size+2) 3 1 (.slice AA s.answers.length Ac) s.answers.length (intsV s.answers)))
 have HDL:=Lib.hid (stCells_length HM.out (.slice FA s.frames.length Fc) (.slice EA s.events.length Ec) (.slice AA s.answers.length Ac))
 have HDI:=Lib.hid (HB.out (.slice FA s.frames.length Fc) (.slice EA s.events.length Ec) (.slice AA s.answers.length Ac))
 have HD1:=Lib.hid (stC_one' (s:=s) (FS:= .slice FA s.frames.length Fc) (ES:= .slice EA s.events.length Ec) (AS:= .slice AA s.answers.length Ac) rfl rfl rfl)
 clear HB6 HZ6 HW6 HF6 HE6 HA6 HR HB HL H1 H2 H20 H21 HS HD HE HA HM
 have HDE:=Lib.hid (Eq.refl (stCells s (.slice FA s.frames.length Fc) (.slice EA s.events.length Ec) (.slice AA s.answers.length Ac)))
 generalize hD:stCells s (.slice FA s.frames.length Fc) (.slice EA s.events.length Ec) (.slice AA s.answers.length Ac)=D at *
 clear HDE
 have HDE:=Lib.hid hD
 clear hD
 have HDZ:=Lib.hid (show D.length≤zeroV.toArray.size by rw[HDL.out];exact Nat.le_refl _)
 go_wp2_with (first
  |(obtain⟨w7,hw7⟩:∃w7,w6.setCell ⟨w.heap.size,21,none⟩ (.slice AA s.answers.length Ac)=w7:=⟨_,rfl⟩;rw[hw7];have HW7:=Lib.hid (H7.out w7 hw7);have HTH:=Lib.hid (there_block (n:=D.length) HW7.out.2.1 HDZ.out);clear hw7 f21 d21;refine wpList_load_mid (by rfl) 36 _ (by rfl) w.heap.size 0 (by rfl) D _ (range_block HW7.out.1) Tryd.underlying36 (by rfl) HDI.out ?_)
  |(refine wpList_store_mid (by rfl) 36 _ _ (by rfl) (w.heap.size+1) 0 D.toArray (by rfl) (by rfl) HTH.out (by simpa using HDI.out) HD1.out ?_))
 have hrd:=run_loadVar_mid (P:=Tryd.prog) _ _ _ 36 D _ (World.rangeAt_setCells_same w7 (w.heap.size+1) 0 D HTH.out) Tryd.underlying36 (by rfl) HDI.out
 refine bodyPost_ret (v:= .agg D.toArray) (results_cell1 Tryd.results47 _ _ _ _ _ ?_ hrd) rfl ⟨⟨_,rfl, .slice FA s.frames.length Fc, .slice EA s.events.length Ec, .slice AA s.answers.length Ac,by rw[HDE.out],?_⟩,?_⟩
 ·rfl
 ·refine StRows.base (B:=w.heap.size+2) ⟨?_,?_,?_,fun _=>HNE.out⟩ (by omega)
  ·exact ownsRow_setCells_below HW7.out.2.2.2.1 (by omega) _ _
  ·exact ownsRow_setCells_below HW7.out.2.2.2.2.1 (by omega) _ _
  ·exact num_own (ownsRow_setCells_below HW7.out.2.2.2.2.2 (by omega) _ _)
 ·exact below_setCells (by simp) _ _ _ HW7.out.2.2.1
section
variable {w0 w w' :World}{E B:Nat}{pv FS ES AS:Value}{s:St}
theorem eng_ne60:(42:TypeId)≠124:=by decide
theorem eng_ne3:(3:TypeId)≠124:=by decide
theorem own_type{e t:TypeId}{size:Nat}{v:Value}{n:Nat}{xs:List Value}(h:w.ownsRow B e size v n xs){k:Nat}{c:Array Value}{fz:Nat×Nat}(hk:w.heap[k]? =some (.cells c t fz))(ht:e≠t):v.ownBlock≠some k:=by
 intro he
 rcases h.2 with⟨rfl,-⟩|⟨g,cap,cur,rfl,hg,hh,-⟩
 ·cases he
 ·obtain rfl:g=k:=by simpa [Value.ownBlock] using he
  rw[hh] at hk
  simp only[Option.some.injEq,Obj.cells.injEq] at hk
  exact ht hk.2.1
theorem num_type{t:TypeId}{v:Value}{l:List Int}(h:NumAt w B v l)(hl:0<l.length){k:Nat}{c:Array Value}{fz:Nat×Nat}(hk:w.heap[k]? =some (.cells c t fz))(ht:3≠t):v.ownBlock≠some k:=by
 intro he
 obtain⟨A,cap,rfl,-,h3⟩:=h
 obtain⟨b,o,cur,rfl,-,h6,-⟩:=h3 hl
 obtain rfl:b=k:=by simpa [Value.ownBlock] using he
 rw[h6] at hk
 simp only[Option.some.injEq,Obj.cells.injEq] at hk
 exact ht hk.2.1
theorem NumAt.set{v:Value}{l:List Int}(h:NumAt w B v l){k:Nat}(hk:0<l.length→v.ownBlock≠some k)(i:Nat)(u:Value):NumAt (w.setCell ⟨k,i,none⟩ u) B v l:=by
 obtain⟨A,cap,rfl,h2,h3⟩:=h
 refine⟨A,cap,rfl,h2,fun hl=> ?_⟩
 obtain⟨b,o,cur,rfl,h5,h6,h7⟩:=h3 hl
 exact⟨b,o,cur,rfl,h5,block_set_ne h6 (fun e=>hk hl (by rw[e];rfl)) _ _,h7⟩
theorem StRows.set(h:StRows w B s FS ES AS){k:Nat}{c:Array Value}{fz:Nat×Nat}{t:TypeId}(hk:w.heap[k]? =some (.cells c t fz))(h1:42≠t)(h2:3≠t)(i:Nat)(u:Value):StRows (w.setCell ⟨k,i,none⟩ u) B s FS ES AS:=
 ⟨ownsRow_setCell_other h.fr (own_type h.fr hk h1) u,ownsRow_setCell_other h.ev (own_type h.ev hk h2) u,h.an.set (fun hl=>num_type h.an hl hk h2) i u,h.ne⟩
theorem EngAt.lt(h:EngAt w0 w E pv s FS ES AS):E<w.heap.size:=block_lt h.blk
theorem EngAt.frozen(h:EngAt w0 w E pv s FS ES AS)(i:Nat):w.frozen? ⟨E,i,none⟩=false:=frozen_block h.blk i
theorem EngAt.cellC(h:EngAt w0 w E pv s FS ES AS)(hm:s.mem.length=16){i:Nat}(hi:i<22):w.cell? ⟨E,i,none⟩=(stCells s FS ES AS)[i]? :=by
 rw[cell_block h.blk,List.getElem?_toArray,List.getElem?_append_left (by rw[stCells_length hm];exact hi)]
theorem EngAt.cellP(h:EngAt w0 w E pv s FS ES AS)(hm:s.mem.length=16):w.cell? ⟨E,22,none⟩=some pv:=by
 rw[cell_block h.blk,List.getElem?_toArray,List.getElem?_append_right (by rw[stCells_length hm];exact Nat.le_refl _),stCells_length hm];rfl
theorem EngAt.cellM(h:EngAt w0 w E pv s FS ES AS)(hm:s.mem.length=16){i:Nat}(hi:i<16):w.cell? ⟨E,3+i,none⟩=some (.int .i64 (s.mem.getD i 0)):=by
 rw[h.cellC hm (by omega),stC_mem FS ES AS hm hi]
theorem EngAt.set(h:EngAt w0 w E pv s FS ES AS)(hm:s.mem.length=16){i:Nat}(hi:i<22){v:Value}{s' :St}{FS' ES' AS' :Value}(he:(stCells s FS ES AS).set i v=stCells s' FS' ES' AS')(hr:StRows (w.setCell ⟨E,i,none⟩ v) w0.heap.size s' FS' ES' AS'):
 EngAt w0 (w.setCell ⟨E,i,none⟩ v) E pv s' FS' ES' AS' :=by
 refine⟨block_put h.blk ?_,hr,h.base,h.below.setCell h.base v⟩
 rw[List.set_append_left _ _ (by rw[stCells_length hm];exact hi),he]
theorem EngAt.set'(h:EngAt w0 w E pv s FS ES AS)(hm:s.mem.length=16){i:Nat}(hi:i<22){v:Value}{s' :St}(he:(stCells s FS ES AS).set i v=stCells s' FS ES AS)(h1:s'.frames=s.frames)(h2:s'.events=s.events)(h3:s'.answers=s.answers):
 EngAt w0 (w.setCell ⟨E,i,none⟩ v) E pv s' FS ES AS:=by
 have:=h.rows.set h.blk eng_ne60 eng_ne3 i v
 exact h.set hm hi he ⟨by rw[h1];exact this.fr,by rw[h2];exact this.ev,by rw[h3];exact this.an,by rw[h3];exact this.ne⟩
def KeptI(w w' :World):Prop:=∀(k:Nat) (c:Array Value) (fz:Nat×Nat),w.heap[k]? =some (.cells c 58 fz)→w'.heap[k]? =some (.cells c 58 fz)
end
theorem eng_told{w0 w w2:World}{E:Nat}{pv FS ES AS:Value}{s:St}(h:EngAt w0 w E pv s FS ES AS)(hm:s.mem.length=16){o:Obj}{g cap:Nat}{a:Int}
 (hown:w2.ownsRow w0.heap.size 3 1 (.slice (some ⟨g,0,none⟩) (s.events.length+1) cap) (s.events.length+1) (intsV s.events++[.int .i64 a])) (hg:(w.alloc o).grownBy w2 ES.ownBlock) (hat:ES.ownBlock=some g∨g=w.heap.size+1):
 w2.frozen? ⟨E,20,none⟩=false∧w2.cell? ⟨E,20,none⟩=some ES∧∀w3,w2.setCell ⟨E,20,none⟩ (.slice (some ⟨g,0,none⟩) (s.events.length+1) cap)=w3→
  EngAt w0 w3 E pv {s with events:=s.events++[a]} FS (.slice (some ⟨g,0,none⟩) (s.events.length+1) cap) AS∧KeptI w w3:=by
 have hE:ES.ownBlock≠some E:=own_type h.rows.ev h.blk eng_ne3
 have keep:∀(k:Nat) (ob:Obj),w.heap[k]? =some ob→ES.ownBlock≠some k→w2.heap[k]? =some ob:=fun k ob hk hne=>
  (hg.block k (by have:=block_lt hk;simp;omega) (fun e=>hne e.symm)).trans (block_alloc hk o)
 have hblk:=keep E _ h.blk hE
 refine⟨frozen_block hblk 20,?_,?_⟩
 ·rw[cell_block hblk,←cell_block h.blk,h.cellC hm (by omega),stC_20 FS ES AS hm]
 ·intro w3 hw3
  have hl:(s.events++[a]).length=s.events.length+1:=by simp
  have hiv:intsV (s.events++[a])=intsV s.events++[.int .i64 a]:=by simp[intsV]
  have hfr:w2.ownsRow w0.heap.size 42 14 FS s.frames.length (frCells s.frames):=by
   refine(h.rows.fr.alloc o).kept hg ?_
   rcases h.rows.fr.2 with⟨hf,-⟩|⟨g',c',cur,hf,-,hh,-⟩
   ·rw[hf];exact .inl rfl
   ·right
    intro e
    have e' :ES.ownBlock=some g' :=by rw[←e,hf];rfl
    exact own_type h.rows.ev hh (by decide) e'
  have han:NumAt w2 w0.heap.size AS s.answers:=by
   obtain⟨A,c,rfl,h2,h3⟩:=h.rows.an
   refine⟨A,c,rfl,h2,fun hl=> ?_⟩
   obtain⟨b,o',cur,rfl,h5,h6,h7⟩:=h3 hl
   exact⟨b,o',cur,rfl,h5,keep b _ h6 (fun e=>h.rows.ne hl b e rfl),h7⟩
  have hrows:StRows w2 w0.heap.size {s with events:=s.events++[a]} FS (.slice (some ⟨g,0,none⟩) (s.events.length+1) cap) AS:=by
   refine⟨hfr,by simpa only[hl,hiv] using hown,han,fun hl k hk he=> ?_⟩
   obtain rfl:g=k:=by simpa [Value.ownBlock] using hk
   rcases hat with hat|rfl
   ·exact h.rows.ne hl g hat he
   ·obtain⟨A,c,rfl,-,h3⟩:=h.rows.an
    obtain⟨b,o',cur,rfl,-,h6,-⟩:=h3 hl
    have:=block_lt h6
    have:b=w.heap.size+1:=by simpa [Value.ownBlock] using he
    omega
  have hbel:Below w0.heap.size w0 w2:=(h.below.alloc h.below.size o).grown hg (by have:=h.below.size;simp;omega) (fun k hk=>by
   have:=h.rows.ev.lt k hk
   omega)
  subst hw3
  refine⟨⟨block_put hblk ?_,hrows.set hblk eng_ne60 eng_ne3 20 _,h.base,hbel.setCell h.base _⟩,fun k c fz hk=> ?_⟩
  ·rw[List.set_append_left _ _ (by rw[stCells_length hm];omega),stS_20 FS ES AS hm];rfl
  ·have hke:k≠E:=fun e=>by
    subst e
    rw[h.blk] at hk
    simp only[Option.some.injEq,Obj.cells.injEq] at hk
    exact absurd hk.2.1 (by decide)
   exact block_set_ne (keep k _ hk (own_type h.rows.ev hk (by decide))) (fun e=>hke e.symm) _ _
theorem KeptI.set{w w' :World}(h:KeptI w w'){k:Nat}{c:Array Value}{fz:Nat×Nat}{t:TypeId}(hk:w'.heap[k]? =some (.cells c t fz))(ht:t≠58)(i:Nat)(u:Value):KeptI w (w'.setCell ⟨k,i,none⟩ u):=fun j c' fz' hj=>by
 have h1:=h j c' fz' hj
 refine block_set_ne h1 (fun e=> ?_) _ _
 subst e
 rw[hk] at h1
 simp only[Option.some.injEq,Obj.cells.injEq] at h1
 exact ht h1.2.1
theorem eng_took{w0 w:World}{E b o Ac:Nat}{pv FS ES:Value}{s:St}(h:EngAt w0 w E pv s FS ES (.slice (some ⟨b,o,none⟩) s.answers.length Ac))(hm:s.mem.length=16)(hl:0<s.answers.length):
 w.cell? ⟨b,o,none⟩=some (.int .i64 (s.answers.headD 0))∧∀(d:Addr) (c' :Nat),(1<s.answers.length→d=⟨b,o+1,none⟩)→s.answers.length-1≤c' →EngAt w0 (w.setCell ⟨E,21,none⟩ (.slice (some d) (s.answers.length-1) c')) E pv {s with answers:=s.answers.tail} FS ES (.slice (some d) (s.answers.length-1) c'):=by
 obtain⟨A,c,hA,hc,h3⟩:=h.rows.an
 obtain⟨b',o',cur,hA',hb,hblk,hcur⟩:=h3 hl
 simp only[Value.slice.injEq,true_and] at hA
 obtain⟨hA1,hA2⟩:=hA
 rw[←hA1] at hA'
 simp only[Option.some.injEq,Addr.mk.injEq,and_true] at hA'
 obtain⟨rfl,rfl⟩:=hA'
 obtain⟨x,xs,hx⟩:∃x xs,s.answers=x::xs:=by
  cases hs:s.answers with
  |nil=>rw[hs] at hl;cases hl
  |cons x xs=>exact⟨x,xs,rfl⟩
 have hne:b≠E:=fun e=>by
  subst e
  rw[h.blk] at hblk
  simp only[Option.some.injEq,Obj.cells.injEq] at hblk
  exact absurd hblk.2.1 (by decide)
 refine⟨?_,fun d c' hd hc' => ?_⟩
 ·rw[cell_block hblk]
  have:=hcur 0 x (by rw[hx];rfl)
  rw[Nat.add_zero] at this
  rw[this,hx];rfl
 have h0:=h.rows.set h.blk eng_ne60 eng_ne3 21 (.slice (some d) (s.answers.length-1) c')
 have htl:s.answers.tail.length=s.answers.length-1:=List.length_tail
 refine h.set hm (by omega) (stS_21 _ _ _ hm _) ⟨h0.fr,h0.ev,⟨some d,c',?_,?_,fun ht=> ?_⟩,fun ht k hk e=> ?_⟩
 ·show Value.slice _ _ _= .slice _ s.answers.tail.length _
  rw[htl]
 ·show s.answers.tail.length≤_
  rw[htl];exact hc'
 ·have ht' :0<s.answers.tail.length:=ht
  refine⟨b,o+1,cur,by rw[hd (by omega)],hb,block_set_ne hblk (fun e=>hne e.symm) _ _,fun i y hy=> ?_⟩
  have:=hcur (i+1) y (by rw[hx] at hy⊢;exact hy)
  rw[show o+1+i=o+(i+1) by omega];exact this
 ·have ht' :0<s.answers.tail.length:=ht
  rw[hd (by omega)] at e
  exact h.rows.ne hl k hk (by simpa [Value.ownBlock] using e)
theorem halt_any{w0 w:World}{E:Nat}{pv FS ES AS:Value}{s:St}(h:EngAt w0 w E pv s FS ES AS)(hm:s.mem.length=16)(n:Int):
 Calls Tryd.prog 78 #[.pointer (some ⟨E,0,none⟩), .int .i64 n] w fun e w' =>e= .returned (.tuple #[])∧EngAt w0 w' E pv {s with status:=n} FS ES AS:=by
 have q0:=h.cellC hm (i:=0) (by omega)
 rw[stC_0] at q0
 have f0:=h.frozen 0
 have HX:=Lib.hid (h.set' hm (i:=0) (by omega) (v:= .int .i64 n) (s' :={s with status:=n}) (stS_0 (s:=s) FS ES AS n) rfl rfl rfl)
 clear h
 go_enter Tryd.func78,Tryd.ntmps78
 go_wp2_with fail
 exact bodyPost_end (v:= .tuple #[]) (by simp[results,Tryd.results78,go_sem]) rfl ⟨rfl,HX.out⟩
set_option maxRecDepth 100000 in
set_option maxHeartbeats 4000000 in
theorem answer_any{w0 w:World}{E:Nat}{pv FS ES AS:Value}{s:St}(h:EngAt w0 w E pv s FS ES AS)(hm:s.mem.length=16)(he:s.events.length≤1000000)(a:Int):
 Calls Tryd.prog 81 #[.pointer (some ⟨E,0,none⟩), .int .i64 a] w fun e w' =>e= .returned (.int .i64 (s.answers.headD 0))∧(∃ES' AS',EngAt w0 w' E pv {s with events:=s.events++[a],answers:=s.answers.tail} FS ES' AS')∧KeptI w w' :=by
 obtain⟨i0,hi,hz0,hz1,hz2⟩:=info_parts infoIn
 have q20:=h.cellC hm (i:=20) (by omega)
 rw[stC_20 FS ES AS hm] at q20
 have f20:=h.frozen 20
 obtain⟨EA,Ec,hEv,-⟩:=own_slice h.rows.ev
 subst hEv
 obtain⟨AA,Ac,hAv,hcap,h3⟩:=h.rows.an
 subst hAv
 have H3:=Lib.hid h3
 clear h3
 obtain⟨n,hn⟩:∃n,s.answers.length=n:=⟨_,rfl⟩
 rw[hn] at hcap
 have HH:=Lib.hid h
 have HM:=Lib.hid hm
 have HN:=Lib.hid hn
 clear h hm
 have step1:∀(w3:World) (g cap:Nat),EngAt w0 w3 E pv {s with events:=s.events++[a]} FS (.slice (some ⟨g,0,none⟩) (s.events.length+1) cap) (.slice AA s.answers.length Ac)→w3.cell? ⟨E,21,none⟩=some (.slice AA n Ac):=fun w3 g cap h=>by
  have q:=h.cellC (s:={s with events:=s.events++[a]}) HM.out (i:=21) (by omega)
  rw[stC_21 (s:={s with events:=s.events++[a]}) _ _ _ HM.out] at q
  rw[q,HN.out]
 have S1:=Lib.hid step1
 clear step1 hn
 by_cases hz:n=0
 ·subst hz
  have HA:=Lib.hid (List.eq_nil_of_length_eq_zero HN.out)
  go_enter Tryd.func81,Tryd.ntmps81
  go_wp2_with (at_builtin;go_must (refine wpList_append_lies _ rfl _ _ 24 rfl w0.heap.size 3 i0 _ 1 8 Tryd.underlying24 hi hz0 hz1 hz2 rfl (by decide) (.slice EA s.events.length Ec) s.events.length (intsV s.events) rfl (HH.out.rows.ev.alloc _) ⟨w.heap.size,0,none⟩ 1 1 [.int .i64 a] rfl rfl (World.news_of_block (cs:= #[.int .i64 a]) (t:=3) (fr:=(0,0)) (heap_alloc_new _ _)) (by simp[Value.oneCell']) (by decide) (by unfold maxLen;omega) (by omega) (by have:=HH.out.below.size;simp;omega) _ rfl ?_))
  intro g cap w2 hown hgr hat _
  obtain⟨f3,q3,hstep⟩:=eng_told HH.out HM.out hown hgr hat
  have HSTEP:=Lib.hid hstep
  clear hstep hown hgr hat f20 q20 hi hz0 hz1 hz2
  go_wp2_with (obtain⟨w3,hw3⟩:∃w3,w2.setCell ⟨E,20,none⟩ (.slice (some ⟨g,0,none⟩) (s.events.length+1) cap)=w3:=⟨_,rfl⟩;rw[hw3];have HX:=Lib.hid (HSTEP.out w3 hw3);have q21:=S1.out w3 g cap HX.out.1;clear hw3 f3 q3)
  go_ret
  refine⟨ret_int (by rw[HA.out];rfl),⟨.slice (some ⟨g,0,none⟩) (s.events.length+1) cap, .slice AA s.answers.length Ac,?_⟩,HX.out.2⟩
  have e:s.answers.tail=s.answers:=by rw[HA.out];rfl
  rw[e]
  exact HX.out.1
 ·obtain⟨b,o,cur,hAA,hbb,hblk,hcur⟩:=H3.out (by have:=HN.out;omega)
  subst hAA
  have n1:1≤n:=by omega
  have HT:=Lib.hid (fun(w3:World) (g cap:Nat) (h:EngAt w0 w3 E pv {s with events:=s.events++[a]} FS (.slice (some ⟨g,0,none⟩) (s.events.length+1) cap) (.slice (some ⟨b,o,none⟩) s.answers.length Ac))=>eng_took (s:={s with events:=s.events++[a]}) h HM.out (by have:=HN.out;show 0<s.answers.length;omega))
  have hz' :((n:Int)==0)=false:=by simpa using hz
  have hz2' :(1:Int)≤n:=by omega
  clear hblk hcur H3
  go_enter Tryd.func81,Tryd.ntmps81
  go_wp2_with (at_builtin;go_must (refine wpList_append_lies _ rfl _ _ 24 rfl w0.heap.size 3 i0 _ 1 8 Tryd.underlying24 hi hz0 hz1 hz2 rfl (by decide) (.slice EA s.events.length Ec) s.events.length (intsV s.events) rfl (HH.out.rows.ev.alloc _) ⟨w.heap.size,0,none⟩ 1 1 [.int .i64 a] rfl rfl (World.news_of_block (cs:= #[.int .i64 a]) (t:=3) (fr:=(0,0)) (heap_alloc_new _ _)) (by simp[Value.oneCell']) (by decide) (by unfold maxLen;omega) (by omega) (by have:=HH.out.below.size;simp;omega) _ rfl ?_))
  intro g cap w2 hown hgr hat _
  obtain⟨f3,q3,hstep⟩:=eng_told HH.out HM.out hown hgr hat
  have HSTEP:=Lib.hid hstep
  clear hstep hown hgr hat f20 q20 hi hz0 hz1 hz2
  go_wp2_with (obtain⟨w3,hw3⟩:∃w3,w2.setCell ⟨E,20,none⟩ (.slice (some ⟨g,0,none⟩) (s.events.length+1) cap)=w3:=⟨_,rfl⟩;rw[hw3];have HX:=Lib.hid (HSTEP.out w3 hw3);have q21:=S1.out w3 g cap HX.out.1;have HT3:=Lib.hid (HT.out w3 g cap HX.out.1);have qb:=HT3.out.1;have f21:=HX.out.1.frozen 21;clear hw3 f3 q3)
  all_goals go_ret
  all_goals (
   have hb:=HT3.out.2
   have hb2:=fun v=>HX.out.2.set HX.out.1.blk (by decide) 21 v
   rw[HN.out] at hb)
  ·exact⟨rfl,⟨_,_,hb ⟨b,o,none⟩ 0 (fun _=>by omega) (by omega)⟩,hb2 _⟩
  ·exact⟨rfl,⟨_,_,hb ⟨b,o+1,none⟩ (Ac-1) (fun _=>rfl) (by omega)⟩,hb2 _⟩
section
variable {w0 w:World}{E:Nat}{pv FS ES AS:Value}{s:St}
theorem EngAt.frames(h:EngAt w0 w E pv s FS ES AS){k:Nat}(hk:s.frames.length=k+1)(hr:∀f∈s.frames,f.regs.length=12):
 ∃g cap,FS= .slice (some ⟨g,0,none⟩) (k+1) cap∧k+1≤cap∧g≠E∧g<w.heap.size∧w0.heap.size≤g∧w.ownsRow w0.heap.size 42 14 (.slice (some ⟨g,0,none⟩) (k+1) cap) (k+1) (frCells s.frames)∧
  (∀i f j,s.frames[i]? =some f→j<14→w.cell? ⟨g,i*14+j,none⟩=(frCell f)[j]?)∧∀j,w.frozen? ⟨g,j,none⟩=false:=by
 have hf:=h.rows.fr
 rw[hk] at hf
 rcases hf.2 with⟨-,h0⟩|⟨g,cap,cur,rfl,hg,hh,hn,hc,hs,ht⟩
 ·omega
 ·refine⟨g,cap,rfl,hn,fun e=> ?_,block_lt hh,hg,hf,fun i f j hi hj=> ?_,fun j=>frozen_block hh j⟩
  ·subst e
   rw[h.blk] at hh
   simp only[Option.some.injEq,Obj.cells.injEq] at hh
   exact absurd hh.2.1 (by decide)
  ·have hil:i<s.frames.length:=(gI.1 hi).1
   rw[hf.cellAt _ (by omega),frCells_get hr hi hj]
theorem EngAt.fcell{g n cap:Nat}(h:EngAt w0 w E pv s (.slice (some ⟨g,0,none⟩) n cap) ES AS)(hr:∀f∈s.frames,f.regs.length=12){i j:Nat}{f:Fr}(hi:s.frames[i]? =some f)(hj:j<14):w.cell? ⟨g,i*14+j,none⟩=(frCell f)[j]? :=by
 have hil:i<s.frames.length:=(gI.1 hi).1
 obtain⟨g',cap',e1,-,-,-,-,-,hc,-⟩:=h.frames (k:=s.frames.length-1) (by omega) hr
 simp only[Value.slice.injEq,Option.some.injEq,Addr.mk.injEq,and_true] at e1
 obtain⟨rfl,-,-⟩:=e1
 exact hc i f j hi hj
theorem EngAt.ffrozen{g n cap:Nat}(h:EngAt w0 w E pv s (.slice (some ⟨g,0,none⟩) n cap) ES AS)(hr:∀f∈s.frames,f.regs.length=12)(hl:0<s.frames.length)(j:Nat):w.frozen? ⟨g,j,none⟩=false:=by
 obtain⟨g',cap',e1,-,-,-,-,-,-,hc⟩:=h.frames (k:=s.frames.length-1) (by omega) hr
 simp only[Value.slice.injEq,Option.some.injEq,Addr.mk.injEq,and_true] at e1
 obtain⟨rfl,-,-⟩:=e1
 exact hc j
theorem EngAt.pop{g cap:Nat}{fs:List Fr}{f:Fr}(h:EngAt w0 w E pv s (.slice (some ⟨g,0,none⟩) (fs.length+1) cap) ES AS)(hm:s.mem.length=16)(hf:s.frames=fs++[f])(hr:∀f∈s.frames,f.regs.length=12):
 EngAt w0 (w.setCell ⟨E,2,none⟩ (.slice (some ⟨g,0,none⟩) fs.length cap)) E pv {s with frames:=fs} (.slice (some ⟨g,0,none⟩) fs.length cap) ES AS:=by
 have h0:=h.rows.set h.blk eng_ne60 eng_ne3 2 (.slice (some ⟨g,0,none⟩) fs.length cap)
 refine h.set hm (by omega) (stS_2 (s:=s) _ _ _ _) ⟨?_,h0.ev,h0.an,h0.ne⟩
 have h1:=h0.fr
 rw[hf,frCells_append] at h1
 simp only[List.length_append,List.length_cons,List.length_nil,Nat.zero_add] at h1
 exact ownsRow_pop (frCells_length fun f hf' =>hr f (by rw[hf];simp[hf'])) h1
theorem EngAt.frame{g cap:Nat}{fs gs:List Fr}{f f' :Fr}{j:Nat}{v:Value}(h:EngAt w0 w E pv s (.slice (some ⟨g,0,none⟩) s.frames.length cap) ES AS)(hf:s.frames=fs++f::gs)(hr:∀f∈s.frames,f.regs.length=12)(hj:j<14)(he:(frCell f).set j v=frCell f'):
 EngAt w0 (w.setCell ⟨g,fs.length*14+j,none⟩ v) E pv {s with frames:=fs++f' ::gs} (.slice (some ⟨g,0,none⟩) s.frames.length cap) ES AS:=by
 obtain⟨g',cap',e1,-,hgE,hgl,hgb,hown,-,-⟩:=h.frames (k:=fs.length+gs.length) (by rw[hf];simp;omega) hr
 simp only[Value.slice.injEq,Option.some.injEq,Addr.mk.injEq,and_true] at e1
 obtain⟨rfl,e2,rfl⟩:=e1
 have hblk:=h.rows.fr
 rcases hblk.2 with⟨h',-⟩|⟨g'',c'',cur,h',-,hh,-⟩
 ·cases h'
 ·simp only[Value.slice.injEq,Option.some.injEq,Addr.mk.injEq,and_true,true_and] at h'
  obtain⟨rfl,rfl⟩:=h'
  have hl1:(frCells fs).length=fs.length*14:=frCells_length fun x hx=>hr x (by rw[hf];simp[hx])
  have hl2:(frCell f).length=14:=frCell_length (hr f (by rw[hf];simp))
  refine⟨block_set_ne h.blk hgE _ _,⟨?_,ownsRow_setCell_other h.rows.ev (own_type h.rows.ev hh (by decide)) _,h.rows.an.set (fun hl=>num_type h.rows.an hl hh (by decide)) _ _,h.rows.ne⟩,h.base,h.below.setCell hgb _⟩
  have h1:=(hblk.stored (fs.length*14+j) v).1
  have hlen:(fs++f' ::gs).length=s.frames.length:=by rw[hf];simp
  have hce:(frCells s.frames).set (fs.length*14+j) v=frCells (fs++f' ::gs):=by
   rw[hf,frCells_append,frCells_append,List.set_append_right _ _ (by omega),hl1,Nat.add_sub_cancel_left]
   congr 1
   show(frCell f++frCells gs).set j v=frCell f' ++frCells gs
   rw[List.set_append_left _ _ (by omega),he]
  rw[hce] at h1
  show(w.setCell _ v).ownsRow _ _ _ _ (fs++f' ::gs).length _
  rw[hlen]
  exact h1
theorem frCell_put(f:Fr)(r:Int)(n:Int):(frCell f).set (2+r.toNat) (.int .i64 n)=frCell (f.put r n):=by
 unfold frCell Fr.put
 rw[List.set_append_right _ _ (by simp)]
 simp[List.map_set]
theorem EngAt.drew(h:EngAt w0 w E pv s FS ES AS):EngAt w0 w.drew E pv s FS ES AS:=⟨h.blk,⟨h.rows.fr,h.rows.ev,h.rows.an,h.rows.ne⟩,h.base,h.below.drew⟩
theorem EngAt.drewN(h:EngAt w0 w E pv s FS ES AS)(n:Nat):EngAt w0 (w.drewN n) E pv s FS ES AS:=⟨h.blk,⟨h.rows.fr,h.rows.ev,h.rows.an,h.rows.ne⟩,h.base,⟨h.below.os,h.below.tape,h.below.output,h.below.size,h.below.block⟩⟩
theorem frCell_pc(f:Fr)(n:Int):(frCell f).set 1 (.int .i64 n)=frCell (f.at n):=rfl
end
set_option maxRecDepth 100000 in
set_option maxHeartbeats 4000000 in
theorem ret_last{w0 w:World}{E:Nat}{pv FS ES AS:Value}{s:St}(h:EngAt w0 w E pv s FS ES AS)(hm:s.mem.length=16){f:Fr}(hf:s.frames=[f])(hr:∀f∈s.frames,f.regs.length=12)(v:Int):
 Calls Tryd.prog 82 #[.pointer (some ⟨E,0,none⟩), .int .i64 v] w fun e w' =>e= .returned (.tuple #[])∧∃FS',EngAt w0 w' E pv {s with frames:=[],value:=v,status:=1} FS' ES AS:=by
 obtain⟨g,cap,rfl,hcap,hgE,hgl,hgb,hown,hcell,hfz⟩:=h.frames (k:=0) (by rw[hf];rfl) hr
 have q2:=h.cellC hm (i:=2) (by omega)
 rw[stC_2,Nat.zero_add] at q2
 rw[Nat.zero_add] at hcap
 have hk:IntKind.i64.wrap 0=0:=by decide
 have hk2:(0:Int)≤cap:=by omega
 have f2:=h.frozen 2
 have HP:=Lib.hid (EngAt.pop (fs:=[]) (f:=f) h.drew hm (by rw[hf];rfl) hr)
 have HM:=Lib.hid hm
 clear h hown hcell hfz hr
 go_enter Tryd.func82,Tryd.ntmps82
 go_wp2_with fail
 go_still_tail 17,(by kernel_rfl)
 change wpList _ _ _ _ _ w.drew
 have c0:w.drew.cell? ⟨E,2,none⟩=some (.slice (some ⟨g,0,none⟩) 1 cap):=q2
 have e0:w.drew.frozen? ⟨E,2,none⟩=false:=f2
 clear q2 f2
 obtain⟨wd,hwd⟩:∃wd,w.drew=wd:=⟨_,rfl⟩
 rw[hwd] at HP c0 e0⊢
 have H1:=Lib.hid (fun(w1:World) (h:wd.setCell ⟨E,2,none⟩ (.slice (some ⟨g,0,none⟩) 0 cap)=w1)=>(by rw[←h];exact HP.out:EngAt w0 w1 E pv {s with frames:=[]} (.slice (some ⟨g,0,none⟩) 0 cap) ES AS))
 clear hwd HP
 go_wp2_with (first
  |(obtain⟨w1,hw1⟩:∃w1,wd.setCell ⟨E,2,none⟩ (.slice (some ⟨g,0,none⟩) 0 cap)=w1:=⟨_,rfl⟩;rw[hw1];have HX1:=Lib.hid (H1.out w1 hw1);clear hw1 H1 c0 e0;have r2:=(HX1.out.cellC HM.out (i:=2) (by omega)).trans (stC_2 _ _ _ _);have r1:=(HX1.out.cellC HM.out (i:=1) (by omega)).trans (stC_1 _ _ _ _);have f1:=HX1.out.frozen 1)
  |(go_at_call 78;go_must (refine(halt_any (HX1.out.set' HM.out (i:=1) (by omega) (v:= .int .i64 v) (s' :={s with frames:=[],value:=v}) (stS_1 (s:={s with frames:=[]}) _ _ _ v) rfl rfl rfl) HM.out 1).mono ?_;rintro e w2 ⟨rfl,h2⟩)))
 exact bodyPost_ret (v:= .tuple #[]) (by simp[results,Tryd.results82,go_sem]) rfl ⟨rfl,_,h2⟩
theorem ins_at{p:List Fnc}{w:World}{pv:Value}(hP:ProgAt w pv p){u:Fr}(hu:FrOk p u):
 ∃pg PC CA cap cg M,pv= .slice (some ⟨pg,0,none⟩) p.length PC∧pg<w.heap.size∧u.fn<p.length∧w.cell? ⟨pg,u.fn.toNat*3,none⟩=some (.int .i64 (fnOf p u.fn).params)∧w.cell? ⟨pg,u.fn.toNat*3+2,none⟩=some (.slice CA M cap)∧CA=some ⟨cg,0,none⟩∧cg<w.heap.size∧M=(fnOf p u.fn).code.length∧u.pc<M∧
  w.cell? ⟨cg,u.pc.toNat*5,none⟩=some (.int .i64 (insOf p u).op)∧w.cell? ⟨cg,u.pc.toNat*5+1,none⟩=some (.int .i64 (insOf p u).dst)∧w.cell? ⟨cg,u.pc.toNat*5+2,none⟩=some (.int .i64 (insOf p u).a)∧w.cell? ⟨cg,u.pc.toNat*5+3,none⟩=some (.int .i64 (insOf p u).b)∧w.cell? ⟨cg,u.pc.toNat*5+4,none⟩=some (.int .i64 (insOf p u).imm):=by
 obtain⟨F,m,h1,h2,-,h4⟩:=hu.parts
 have hl:u.fn.toNat<p.length:=(gI.1 h1).1
 have h0:=hu.fn0
 have h0' :=hu.pc0
 have hfl:u.fn<(p.length:Int):=by omega
 obtain⟨A,PC,hv,hA⟩:=hP.slice
 obtain⟨pg,rfl,hpg,hfn⟩:=hA (by omega)
 obtain⟨x,hx,d0,-,d2⟩:=hfn _ _ h1
 obtain⟨CA,cap,hxv,hC⟩:=hx.slice
 have hl2:u.pc.toNat<F.code.length:=(gI.1 h4).1
 have hpl:u.pc<(F.code.length:Int):=by omega
 obtain⟨cg,rfl,hcg,hin⟩:=hC (by omega)
 obtain⟨e0,e1,e2,e3,e4⟩:=hin _ _ h4
 exact⟨pg,PC,_,cap,cg,F.code.length,hv,hpg,hfl,by rw[d0,h2],by rw[d2,hxv],rfl,hcg,by rw[h2],hpl,e0,e1,e2,e3,e4⟩
set_option maxRecDepth 100000 in
set_option maxHeartbeats 4000000 in
theorem ret_up{p:List Fnc}(hp:Right p){w0 w:World}{E:Nat}{pv FS ES AS:Value}{s:St}(h:EngAt w0 w E pv s FS ES AS)(hP:ProgAt w0 pv p)(hm:s.mem.length=16){gs:List Fr}{u f:Fr}(hf:s.frames=gs++[u]++[f])(hr:∀f∈s.frames,f.regs.length=12)(hu:FrOk p u)(hl:gs.length≤8)(v:Int):
 Calls Tryd.prog 82 #[.pointer (some ⟨E,0,none⟩), .int .i64 v] w fun e w' =>e= .returned (.tuple #[])∧∃FS',EngAt w0 w' E pv {s with frames:=gs++[retFr p u v]} FS' ES AS:=by
 obtain⟨k,hk⟩:∃k,gs.length=k:=⟨_,rfl⟩
 obtain⟨g,cap,rfl,hcap,hgE,hgl,hgb,hown,hcell,hfz⟩:=h.frames (k:=k+1) (by rw[hf];simp[hk]) hr
 have q2:=h.cellC hm (i:=2) (by omega)
 rw[stC_2] at q2
 have f2:=h.frozen 2
 have hk1:IntKind.i64.wrap ((k:Int)+1)=k+1:=by rw[IntKind.wrap_i64];omega
 have hk2:IntKind.i64.wrap (k:Int)=k:=by rw[IntKind.wrap_i64];omega
 have hk3:(k:Int)+1≤cap:=by omega
 have hk4:(0:Int)≤(k:Int)+1:=by omega
 have HR:Hid (∀f∈gs++[u],f.regs.length=12):=Lib.hid (fun x hx=>hr x (by rw[hf];simp at hx⊢;rcases hx with h|h<;>simp[h]))
 have HP:=Lib.hid (EngAt.pop (fs:=gs++[u]) (f:=f) (g:=g) (cap:=cap) (by have:=h.drew;simpa [hk] using this) hm (by rw[hf]) hr)
 have HM:=Lib.hid hm
 have HO:=Lib.hid (hp.ins hu)
 have HD:Hid ((insOf p u).dst<12):=Lib.hid (by have:=(hp.ins hu).dst2;have:=(hp.fnok hu).r2;omega)
 obtain⟨pg,PC,CA,ccap,cg,M,rfl,hpg,hfn1,-,d2,rfl,hcg,hM,hpc1,-,d5,-⟩:=ins_at hP hu
 have hM2:M≤40:=by have:=(hp.fnok hu).c2;omega
 clear hM
 have hk5:((k:Int)+1==0)=false:=by simp;omega
 have hfn0:=hu.fn0
 have hpc0:=hu.pc0
 have hk6:(k:Int)<k+1:=by omega
 have hk7:(0:Int)≤k:=by omega
 generalize p.length=N at *
 have hf1:u.fn.toNat<N:=by omega
 have D2:=Lib.hid d2
 have D5:=Lib.hid d5
 clear h hown hcell hfz hr d2 d5
 have H1:=Lib.hid (fun(wd w1:World) (h0:w.drew=wd) (h:wd.setCell ⟨E,2,none⟩ (.slice (some ⟨g,0,none⟩) (k+1) cap)=w1)=>(by rw[←h,←h0];simpa [hk] using HP.out:EngAt w0 w1 E (.slice (some ⟨pg,0,none⟩) N PC) {s with frames:=gs++[u]} (.slice (some ⟨g,0,none⟩) (k+1) cap) ES AS))
 clear HP
 go_enter Tryd.func82,Tryd.ntmps82
 go_wp2_with fail
 go_still_tail 17,(by kernel_rfl)
 change wpList _ _ _ _ _ w.drew
 have c0:w.drew.cell? ⟨E,2,none⟩=some (.slice (some ⟨g,0,none⟩) (k+1+1) cap):=q2
 have e0:w.drew.frozen? ⟨E,2,none⟩=false:=f2
 clear q2 f2
 obtain⟨wd,hwd⟩:∃wd,w.drew=wd:=⟨_,rfl⟩
 have H2:=Lib.hid (fun w1=>H1.out wd w1 hwd)
 rw[hwd] at c0 e0⊢
 clear hwd H1
 go_wp2_with (obtain⟨w1,hw1⟩:∃w1,wd.setCell ⟨E,2,none⟩ (.slice (some ⟨g,0,none⟩) (k+1) cap)=w1:=⟨_,rfl⟩;rw[hw1];have HX1:=Lib.hid (H2.out w1 hw1);clear hw1 H2 c0 e0;have r2:=(HX1.out.cellC HM.out (i:=2) (by omega)).trans (stC_2 _ _ _ _))
 go_quiet (fail)
 rename_i nq
 have HX2' :=Lib.hid (HX1.out.drewN nq)
 obtain⟨w2,hw2⟩:∃w2,w1.drewN nq=w2:=⟨_,rfl⟩
 rw[hw2] at HX2' ⊢
 clear hw2 HX1 r2
 have HX2:=Lib.hid (HX2'.out.drew)
 have rP:=HX2'.out.cellP HM.out
 have hiu:(gs++[u])[k]? =some u:=by simp[←hk]
 have g0:=(HX2'.out.fcell HR.out hiu (j:=0) (by omega)).trans (show _=some (Value.int .i64 u.fn) from rfl)
 have g1:=(HX2'.out.fcell HR.out hiu (j:=1) (by omega)).trans (show _=some (Value.int .i64 u.pc) from rfl)
 rw[Nat.add_zero] at g0
 have D2' :=(HX2'.out.below.cell (p:=⟨pg,u.fn.toNat*3+2,none⟩) hpg).trans D2.out
 have D5' :=(HX2'.out.below.cell (p:=⟨cg,u.pc.toNat*5+1,none⟩) hcg).trans D5.out
 have o1:=HO.out.dst1
 have o2:(insOf p u).dst<12:=HD.out
 go_wp2_with fail
 go_still_tail 24,(by kernel_rfl)
 change wpList _ _ _ _ _ w2.drew
 obtain⟨w3,hw3⟩:∃w3,w2.drew=w3:=⟨_,rfl⟩
 rw[hw3] at HX2⊢
 clear hw3 rP g0 g1 D2' D5' HX2' D2 D5
 have gd:=(HX2.out.fcell HR.out hiu (j:=2+(insOf p u).dst.toNat) (by omega)).trans (frCell_reg (HR.out u (by simp)) o1 o2)
 have gf:=HX2.out.ffrozen HR.out (by simp) (k*14+(2+(insOf p u).dst.toNat))
 rw[←Nat.add_assoc] at gd gf
 have hur:=HR.out u (by simp)
 have H4:=Lib.hid (fun(w4:World) (h:w3.setCell ⟨g,k*14+2+(insOf p u).dst.toNat,none⟩ (.int .i64 v)=w4)=>(by
  have:=(show EngAt w0 w3 E (.slice (some ⟨pg,0,none⟩) N PC) {s with frames:=gs++[u]} (.slice (some ⟨g,0,none⟩) ({s with frames:=gs++[u]}:St).frames.length cap) ES AS by simpa [hk] using HX2.out).frame (fs:=gs) (gs:=[]) (f:=u) rfl HR.out (j:=2+(insOf p u).dst.toNat) (by omega) (frCell_put u (insOf p u).dst v)
  rw[←Nat.add_assoc,hk] at this
  rw[←h]
  simpa [hk] using this:EngAt w0 w4 E (.slice (some ⟨pg,0,none⟩) N PC) {s with frames:=gs++[u.put (insOf p u).dst v]} (.slice (some ⟨g,0,none⟩) (k+1) cap) ES AS))
 have HRP:Hid (∀f∈gs++[u.put (insOf p u).dst v],f.regs.length=12):=Lib.hid (fun x hx=>by
  rcases List.mem_append.1 hx with h|h
  ·exact HR.out x (by simp[h])
  ·rw[List.mem_singleton.1 h,put_len];exact hur)
 have hip:(gs++[u.put (insOf p u).dst v])[k]? =some (u.put (insOf p u).dst v):=by simp[←hk]
 have hpw:IntKind.i64.wrap (u.pc+1)=u.pc+1:=by rw[IntKind.wrap_i64];omega
 have HF:=Lib.hid (fun(w4:World) (h:EngAt w0 w4 E (.slice (some ⟨pg,0,none⟩) N PC) {s with frames:=gs++[u.put (insOf p u).dst v]} (.slice (some ⟨g,0,none⟩) (k+1) cap) ES AS)=>(⟨(h.fcell HRP.out hip (j:=1) (by omega)).trans (show _=some (Value.int .i64 u.pc) from rfl),h.ffrozen HRP.out (by simp) _⟩:w4.cell? ⟨g,k*14+1,none⟩=some (.int .i64 u.pc)∧w4.frozen? ⟨g,k*14+1,none⟩=false))
 clear HX2
 go_wp2_with (obtain⟨w4,hw4⟩:∃w4,w3.setCell ⟨g,k*14+2+(insOf p u).dst.toNat,none⟩ (.int .i64 v)=w4:=⟨_,rfl⟩;rw[hw4];have HX4:=Lib.hid (H4.out w4 hw4);clear hw4 H4 gd gf;obtain⟨gp,gq⟩:=HF.out w4 HX4.out)
 have h5:=(show EngAt w0 w4 E (.slice (some ⟨pg,0,none⟩) N PC) {s with frames:=gs++[u.put (insOf p u).dst v]} (.slice (some ⟨g,0,none⟩) ({s with frames:=gs++[u.put (insOf p u).dst v]}:St).frames.length cap) ES AS by simpa [hk] using HX4.out).frame (fs:=gs) (gs:=[]) (f:=u.put (insOf p u).dst v) rfl HRP.out (j:=1) (by omega) (frCell_pc _ (u.pc+1))
 rw[hk] at h5
 exact bodyPost_end (v:= .tuple #[]) (by simp[results,Tryd.results82,go_sem]) rfl ⟨rfl,_,h5⟩
end Go.Proofs.YtedcjapmmnbamaaDoor
