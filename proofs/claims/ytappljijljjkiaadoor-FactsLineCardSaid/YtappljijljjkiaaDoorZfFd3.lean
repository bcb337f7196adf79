import Derived.Test.YtappljijljjkiaaDoorZfFd2
namespace Go.Proofs.YtappljijljjkiaaDoor
open Go.RowKit Tier
def CutAtF(R:Act→World→Prop):Exit→Act→World→Prop
 | .normal,a,w=>R a w
 |_,_,_=>False
theorem region_cutF{α β:Type}{P:Program}{id:Nat}{ops:Array Oper}{Q:Exit→Act→World→Prop}{a:Act}{w:World}(f:α→β→Act)(R:α→β→World→Prop)(h1:(Code.region id ops true).wp P (CutAtF fun a' w' =>∃x y,a' =f x y∧R x y w') a w)(h2:∀x y w',R x y w' →Q .normal (f x y) w'):(Code.region id ops true).wp P Q a w:=
 Code.wp_mono (fun e a' w' hh=>by cases e<;>first|exact(by obtain⟨x,y,rfl,h⟩:=(show∃x y,a' =f x y∧R x y w' from hh);exact h2 x y w' h)|exact(hh:False).elim) h1
theorem fact_put{W:World}{g:Nat}{x y:Int}(h:W.heap[g]? =some (.cells #[.int .i64 x, .int .i64 y] 58 (0,0)))(k v:Int):(W.setCells g 0 [.int .i64 k, .int .i64 v]).heap[g]? =some (.cells #[.int .i64 k, .int .i64 v] 58 (0,0)):=
 block_put (block_put (cs:=[.int .i64 x, .int .i64 y]) h rfl) rfl
theorem below_setsC{B:Nat}{W0:World}{b:Nat}(hb:B≤b):∀(vs:List Value) (o:Nat) {W:World},Below B W0 W→Below B W0 (W.setCells b o vs)
 |[],_,_,h=>h
 |v::vs,o,_,h=>below_setsC hb vs (o+1) (h.setCell hb v)
set_option maxRecDepth 100000 in
set_option maxHeartbeats 8000000 in
theorem make_any(b:Nat)(h:SH)(ne:Nat)(x:SV)(op id a c imm pc:Int)(w:World)(hs:SolAt w b h ne x)(ha:a<h.n)(hc:c<h.n):Calls Tryd.prog 84 #[.pointer (some ⟨b,0,none⟩), .agg #[.int .i64 op, .int .i64 id, .int .i64 a, .int .i64 c, .int .i64 imm, .int .i64 pc]] w fun e w' =>e= .returned (FactS.val (makeF op imm (ofF x.F a) (ofF x.F c)))∧Below w.heap.size w w' :=by
 obtain⟨w1,hw1⟩:∃W,(w.alloc (.cells #[.int .i64 op, .int .i64 id, .int .i64 a, .int .i64 c, .int .i64 imm, .int .i64 pc] 80)).alloc (.cells #[.int .i64 0, .int .i64 0] 58)=W:=⟨_,rfl⟩
 have hb1:Below w.heap.size w w1:=hw1▸((Below.refl _ _).alloc (Nat.le_refl _) _).alloc (by simp) _
 have hx1:w1.heap[w.heap.size]? =some (.cells #[.int .i64 op, .int .i64 id, .int .i64 a, .int .i64 c, .int .i64 imm, .int .i64 pc] 80 (0,0)):=hw1▸(Below.heap_alloc _ _ _ (by simp)).trans (heap_alloc_new _ _)
 have hr1:w1.heap[w.heap.size+1]? =some (.cells #[.int .i64 0, .int .i64 0] 58 (0,0)):=hw1▸(by have h:=heap_alloc_new (w.alloc (.cells #[.int .i64 op, .int .i64 id, .int .i64 a, .int .i64 c, .int .i64 imm, .int .i64 pc] 80)) (.cells #[.int .i64 0, .int .i64 0] 58);simpa using h)
 have HB1:=Lib.hid hb1
 obtain⟨w2,hw2⟩:∃W,w1.drew=W:=⟨_,rfl⟩
 have hb2:Below w1.heap.size w1 w2:=hw2▸(Below.refl _ _).drew
 have HB2:=Lib.hid hb2
 have hs2:=(hs.keeps hb1).keeps hb2
 have HX2:=Lib.hid ((hb2.block _ (block_lt hx1)).trans hx1)
 have HR2:=Lib.hid ((hb2.block _ (block_lt hr1)).trans hr1)
 have HOA:=Lib.hid (fun(W:World) (hb:Below w2.heap.size w2 W)=>of_any b h ne x a W (hs2.keeps hb) ha)
 have HOC:=Lib.hid (fun(W:World) (hb:Below w2.heap.size w2 W)=>of_any b h ne x c W (hs2.keeps hb) hc)
 have KX0:=Lib.hid (fun(W:World) (hb:Below w2.heap.size w2 W)=>(by
  have hx:=(hb.block _ (block_lt HX2.out)).trans HX2.out
  exact⟨cell_block hx 0,cell_block hx 2,cell_block hx 3,cell_block hx 4,block_lt hx⟩:W.cell? ⟨w.heap.size,0,none⟩=some (.int .i64 op)∧W.cell? ⟨w.heap.size,2,none⟩=some (.int .i64 a)∧W.cell? ⟨w.heap.size,3,none⟩=some (.int .i64 c)∧W.cell? ⟨w.heap.size,4,none⟩=some (.int .i64 imm)∧w.heap.size<W.heap.size))
 have KX:=Lib.hid (fun(W:World) (hb:Below w2.heap.size w2 W)=>(⟨(KX0.out W hb).2.1,(KX0.out W hb).2.2.1⟩:W.cell? ⟨w.heap.size,2,none⟩=some (.int .i64 a)∧W.cell? ⟨w.heap.size,3,none⟩=some (.int .i64 c)))
 obtain⟨⟨p,q⟩,hfa⟩:∃f,ofF x.F a=f:=⟨_,rfl⟩
 obtain⟨⟨r,t⟩,hfc⟩:∃f,ofF x.F c=f:=⟨_,rfl⟩
 rw[hfa] at HOA
 rw[hfc] at HOC
 rw[hfa,hfc]
 obtain⟨L3,hL3⟩:∃n,w.heap.size=n:=⟨_,rfl⟩
 have HL3:=Lib.hid hL3
 have hL4:w.heap.size+1=L3+1:=by rw[hL3]
 rw[hL3] at KX KX0 HX2 HR2
 clear hb1 hx1 hr1 hb2 hs hs2 hfa hfc
 go_enter Tryd.func84,Tryd.ntmps84
 go_upto_region 1 with fail
 clear hw1 hL3 hL4
 apply region_cutF (α:=Nat) (β:=Nat) (R:=fun L5 L6 W=>Below w2.heap.size w2 W∧W.heap[L5]? =some (.cells #[.int .i64 p, .int .i64 q] 58 (0,0))∧W.heap[L6]? =some (.cells #[.int .i64 r, .int .i64 t] 58 (0,0))∧w2.heap.size≤L5∧w2.heap.size≤L6∧L5≠L6)
 case h1=>
  refine wp_region_held_drew (S:=fun W=>W.cell? ⟨L3,2,none⟩=some (.int .i64 a)∧W.cell? ⟨L3,3,none⟩=some (.int .i64 c)) (by kernel_rfl) (by rw[hw2];exact KX.out _ (Below.refl _ _)) (fun hHeld=> ?_)
  rw[hw2] at *
  refine wpAnyH_take (i:=0) (v:= .pointer (some ⟨b,0,none⟩)) rfl (by kernel_rfl) (by kernel_rfl) (by kernel_rfl) (fun _ _ _ h=>h) (Or.inl ⟨by rfl,?_⟩) hHeld ?_
  ·intro w hSw
   simp only[qg]
   go_simp
  simp only[Act.put,qs]
  refine wpAnyH_take (i:=1) (v:= .pointer (some ⟨L3,2,none⟩)) rfl (by kernel_rfl) (by kernel_rfl) (by kernel_rfl) (fun _ _ _ h=>h) (Or.inl ⟨by rfl,?_⟩) hHeld ?_
  ·intro w hSw
   simp only[qg]
   go_simp
  simp only[Act.put,qs]
  refine wpAnyH_take (i:=2) (v:= .int .i64 a) rfl (by kernel_rfl) (by kernel_rfl) (by kernel_rfl) (fun _ _ _ h=>h) (Or.inl ⟨by rfl,?_⟩) hHeld ?_
  ·intro w hSw
   have q:=hSw.1
   simp only[qg]
   go_simp
  simp only[Act.put,qs]
  refine wpAnyH_take (i:=4) (v:= .pointer (some ⟨b,0,none⟩)) rfl (by kernel_rfl) (by kernel_rfl) (by kernel_rfl) (fun _ _ _ h=>h) (Or.inl ⟨by rfl,?_⟩) hHeld ?_
  ·intro w hSw
   simp only[qg]
   go_simp
  simp only[Act.put,qs]
  refine wpAnyH_take (i:=5) (v:= .pointer (some ⟨L3,3,none⟩)) rfl (by kernel_rfl) (by kernel_rfl) (by kernel_rfl) (fun _ _ _ h=>h) (Or.inl ⟨by rfl,?_⟩) hHeld ?_
  ·intro w hSw
   simp only[qg]
   go_simp
  simp only[Act.put,qs]
  refine wpAnyH_take (i:=6) (v:= .int .i64 c) rfl (by kernel_rfl) (by kernel_rfl) (by kernel_rfl) (fun _ _ _ h=>h) (Or.inl ⟨by rfl,?_⟩) hHeld ?_
  ·intro w hSw
   have q:=hSw.2
   simp only[qg]
   go_simp
  simp only[Act.put,qs]
  refine wpAnyH_ready (rs:=[3,8,9]) (by kernel_rfl) (by simp) ?_
  refine AllReadyH.cons rfl (fun K hK=> ?_) (AllReadyH.cons rfl (fun K hK=> ?_) (AllReadyH.cons rfl (fun K hK=> ?_) (AllReadyH.nil)))
  ·simp only[qg]
   go_simp
   refine(HOA.out _ (Below.refl w2.heap.size w2)).mono ?_
   rintro e x1 ⟨rfl,hb⟩
   have b1:=((Below.refl w2.heap.size w2)).trans (hb.mono ((Below.refl w2.heap.size w2)).size)
   refine hK.out _ _ (KX.out _ b1) (fun hHeld=> ?_)
   clear hK K hb
   refine wpAnyH_ready (rs:=[7,8,9]) (by kernel_rfl) (by simp) ?_
   refine AllReadyH.cons rfl (fun K hK=> ?_) (AllReadyH.cons rfl (fun K hK=> ?_) (AllReadyH.cons rfl (fun K hK=> ?_) (AllReadyH.nil)))
   ·simp only[qg]
    go_simp
    refine(HOC.out _ b1).mono ?_
    rintro e x2 ⟨rfl,hb⟩
    have b2:=(b1).trans (hb.mono (b1).size)
    refine hK.out _ _ (KX.out _ b2) (fun hHeld=> ?_)
    clear hK K hb
    refine wpAnyH_ready (rs:=[8,9]) (by kernel_rfl) (by simp) ?_
    refine AllReadyH.cons rfl (fun K hK=> ?_) (AllReadyH.cons rfl (fun K hK=> ?_) (AllReadyH.nil))
    ·simp only[qg]
     go_simp
     have b3:=(b2).alloc (b2).size (.cells #[.int .i64 0, .int .i64 0] 58)
     have g53:=heap_alloc_new x2 (.cells #[.int .i64 0, .int .i64 0] 58)
     have z53:=(b2).size
     refine hK.out _ _ (KX.out _ b3) (fun hHeld=> ?_)
     clear hK K
     generalize(x2.alloc (.cells #[.int .i64 0, .int .i64 0] 58))=x3 at *
     refine wpAnyH_ready (rs:=[9]) (by kernel_rfl) (by simp) ?_
     refine AllReadyH.cons rfl (fun K hK=> ?_) AllReadyH.nil
     simp only[qg]
     go_simp
     have b4:=(b3).alloc (b3).size (.cells #[.int .i64 0, .int .i64 0] 58)
     have g54:=(Below.heap_alloc _ (.cells #[.int .i64 0, .int .i64 0] 58) _ (block_lt g53)).trans g53
     have g64:=heap_alloc_new x3 (.cells #[.int .i64 0, .int .i64 0] 58)
     have z64:=(b3).size
     have ne4:x2.heap.size≠x3.heap.size:=Nat.ne_of_lt (block_lt g53)
     refine hK.out _ _ (KX.out _ b4) (fun hHeld=> ?_)
     clear hK K
     generalize(x3.alloc (.cells #[.int .i64 0, .int .i64 0] 58))=x4 at *
     refine wpAnyH_ready (rs:=[10]) (by kernel_rfl) (by simp) ?_
     refine AllReadyH.cons rfl (fun K hK=> ?_) AllReadyH.nil
     simp only[qg]
     rw[if_pos (by rfl)]
     refine wp_store_mid 58 _ _ (by rfl) (x2.heap.size) 0 #[.int .i64 p, .int .i64 q] (by rfl) (by rfl) (there_block g54 (Nat.le_refl 2)) (by kernel_rfl) (by simp[Value.oneCell']) ?_
     have b5:=below_setsC z53 [.int .i64 p, .int .i64 q] 0 (b4)
     have g55:=fact_put g54 p q
     have g65:=block_setCells_ne [.int .i64 p, .int .i64 q] g64 ne4 0
     refine hK.out _ _ (KX.out _ b5) (fun hHeld=> ?_)
     clear hK K
     generalize(x4.setCells (x2.heap.size) 0 [.int .i64 p, .int .i64 q])=x5 at *
     refine wpAnyH_ready (rs:=[11]) (by kernel_rfl) (by simp) ?_
     refine AllReadyH.cons rfl (fun K hK=> ?_) AllReadyH.nil
     simp only[qg]
     rw[if_pos (by rfl)]
     refine wp_store_mid 58 _ _ (by rfl) (x3.heap.size) 0 #[.int .i64 r, .int .i64 t] (by rfl) (by rfl) (there_block g65 (Nat.le_refl 2)) (by kernel_rfl) (by simp[Value.oneCell']) ?_
     have b6:=below_setsC z64 [.int .i64 r, .int .i64 t] 0 (b5)
     have g66:=fact_put g65 r t
     have g56:=block_setCells_ne [.int .i64 r, .int .i64 t] g55 (fun e=>ne4 e.symm) 0
     refine hK.out _ _ (KX.out _ b6) (fun hHeld=> ?_)
     clear hK K
     generalize(x5.setCells (x3.heap.size) 0 [.int .i64 r, .int .i64 t])=x6 at *
     clear hHeld
     refine wpAnyH_done (by kernel_rfl) ?_ _
     generalize x2.heap.size=L5 at *
     generalize x3.heap.size=L6 at *
     exact⟨_,_,rfl,b6,g56,g66,z53,z64,ne4⟩
    ·simp only[qg]
     go_simp
     have b7:=(b2).alloc (b2).size (.cells #[.int .i64 0, .int .i64 0] 58)
     have g67:=heap_alloc_new x2 (.cells #[.int .i64 0, .int .i64 0] 58)
     have z67:=(b2).size
     refine hK.out _ _ (KX.out _ b7) (fun hHeld=> ?_)
     clear hK K
     generalize(x2.alloc (.cells #[.int .i64 0, .int .i64 0] 58))=x7 at *
     refine wpAnyH_ready (rs:=[8]) (by kernel_rfl) (by simp) ?_
     refine AllReadyH.cons rfl (fun K hK=> ?_) AllReadyH.nil
     simp only[qg]
     go_simp
     have b8:=(b7).alloc (b7).size (.cells #[.int .i64 0, .int .i64 0] 58)
     have g68:=(Below.heap_alloc _ (.cells #[.int .i64 0, .int .i64 0] 58) _ (block_lt g67)).trans g67
     have g58:=heap_alloc_new x7 (.cells #[.int .i64 0, .int .i64 0] 58)
     have z58:=(b7).size
     have ne8:x7.heap.size≠x2.heap.size:=Nat.ne_of_gt (block_lt g67)
     refine hK.out _ _ (KX.out _ b8) (fun hHeld=> ?_)
     clear hK K
     generalize(x7.alloc (.cells #[.int .i64 0, .int .i64 0] 58))=x8 at *
     refine wpAnyH_ready (rs:=[10]) (by kernel_rfl) (by simp) ?_
     refine AllReadyH.cons rfl (fun K hK=> ?_) AllReadyH.nil
     simp only[qg]
     rw[if_pos (by rfl)]
     refine wp_store_mid 58 _ _ (by rfl) (x7.heap.size) 0 #[.int .i64 p, .int .i64 q] (by rfl) (by rfl) (there_block g58 (Nat.le_refl 2)) (by kernel_rfl) (by simp[Value.oneCell']) ?_
     have b9:=below_setsC z58 [.int .i64 p, .int .i64 q] 0 (b8)
     have g59:=fact_put g58 p q
     have g69:=block_setCells_ne [.int .i64 p, .int .i64 q] g68 ne8 0
     refine hK.out _ _ (KX.out _ b9) (fun hHeld=> ?_)
     clear hK K
     generalize(x8.setCells (x7.heap.size) 0 [.int .i64 p, .int .i64 q])=x9 at *
     refine wpAnyH_ready (rs:=[11]) (by kernel_rfl) (by simp) ?_
     refine AllReadyH.cons rfl (fun K hK=> ?_) AllReadyH.nil
     simp only[qg]
     rw[if_pos (by rfl)]
     refine wp_store_mid 58 _ _ (by rfl) (x2.heap.size) 0 #[.int .i64 r, .int .i64 t] (by rfl) (by rfl) (there_block g69 (Nat.le_refl 2)) (by kernel_rfl) (by simp[Value.oneCell']) ?_
     have b10:=below_setsC z67 [.int .i64 r, .int .i64 t] 0 (b9)
     have g610:=fact_put g69 r t
     have g510:=block_setCells_ne [.int .i64 r, .int .i64 t] g59 (fun e=>ne8 e.symm) 0
     refine hK.out _ _ (KX.out _ b10) (fun hHeld=> ?_)
     clear hK K
     generalize(x9.setCells (x2.heap.size) 0 [.int .i64 r, .int .i64 t])=x10 at *
     clear hHeld
     refine wpAnyH_done (by kernel_rfl) ?_ _
     generalize x7.heap.size=L5 at *
     generalize x2.heap.size=L6 at *
     exact⟨_,_,rfl,b10,g510,g610,z58,z67,ne8⟩
   ·simp only[qg]
    go_simp
    have b11:=(b1).alloc (b1).size (.cells #[.int .i64 0, .int .i64 0] 58)
    have g511:=heap_alloc_new x1 (.cells #[.int .i64 0, .int .i64 0] 58)
    have z511:=(b1).size
    refine hK.out _ _ (KX.out _ b11) (fun hHeld=> ?_)
    clear hK K
    generalize(x1.alloc (.cells #[.int .i64 0, .int .i64 0] 58))=x11 at *
    refine wpAnyH_ready (rs:=[7,9]) (by kernel_rfl) (by simp) ?_
    refine AllReadyH.cons rfl (fun K hK=> ?_) (AllReadyH.cons rfl (fun K hK=> ?_) (AllReadyH.nil))
    ·simp only[qg]
     go_simp
     refine(HOC.out _ b11).mono ?_
     rintro e x12 ⟨rfl,hb⟩
     have b12:=(b11).trans (hb.mono (b11).size)
     have g512:=(hb.block _ (block_lt g511)).trans g511
     refine hK.out _ _ (KX.out _ b12) (fun hHeld=> ?_)
     clear hK K hb
     refine wpAnyH_ready (rs:=[9]) (by kernel_rfl) (by simp) ?_
     refine AllReadyH.cons rfl (fun K hK=> ?_) AllReadyH.nil
     simp only[qg]
     go_simp
     have b13:=(b12).alloc (b12).size (.cells #[.int .i64 0, .int .i64 0] 58)
     have g513:=(Below.heap_alloc _ (.cells #[.int .i64 0, .int .i64 0] 58) _ (block_lt g512)).trans g512
     have g613:=heap_alloc_new x12 (.cells #[.int .i64 0, .int .i64 0] 58)
     have z613:=(b12).size
     have ne13:x1.heap.size≠x12.heap.size:=Nat.ne_of_lt (block_lt g512)
     refine hK.out _ _ (KX.out _ b13) (fun hHeld=> ?_)
     clear hK K
     generalize(x12.alloc (.cells #[.int .i64 0, .int .i64 0] 58))=x13 at *
     refine wpAnyH_ready (rs:=[10]) (by kernel_rfl) (by simp) ?_
     refine AllReadyH.cons rfl (fun K hK=> ?_) AllReadyH.nil
     simp only[qg]
     rw[if_pos (by rfl)]
     refine wp_store_mid 58 _ _ (by rfl) (x1.heap.size) 0 #[.int .i64 p, .int .i64 q] (by rfl) (by rfl) (there_block g513 (Nat.le_refl 2)) (by kernel_rfl) (by simp[Value.oneCell']) ?_
     have b14:=below_setsC z511 [.int .i64 p, .int .i64 q] 0 (b13)
     have g514:=fact_put g513 p q
     have g614:=block_setCells_ne [.int .i64 p, .int .i64 q] g613 ne13 0
     refine hK.out _ _ (KX.out _ b14) (fun hHeld=> ?_)
     clear hK K
     generalize(x13.setCells (x1.heap.size) 0 [.int .i64 p, .int .i64 q])=x14 at *
     refine wpAnyH_ready (rs:=[11]) (by kernel_rfl) (by simp) ?_
     refine AllReadyH.cons rfl (fun K hK=> ?_) AllReadyH.nil
     simp only[qg]
     rw[if_pos (by rfl)]
     refine wp_store_mid 58 _ _ (by rfl) (x12.heap.size) 0 #[.int .i64 r, .int .i64 t] (by rfl) (by rfl) (there_block g614 (Nat.le_refl 2)) (by kernel_rfl) (by simp[Value.oneCell']) ?_
     have b15:=below_setsC z613 [.int .i64 r, .int .i64 t] 0 (b14)
     have g615:=fact_put g614 r t
     have g515:=block_setCells_ne [.int .i64 r, .int .i64 t] g514 (fun e=>ne13 e.symm) 0
     refine hK.out _ _ (KX.out _ b15) (fun hHeld=> ?_)
     clear hK K
     generalize(x14.setCells (x12.heap.size) 0 [.int .i64 r, .int .i64 t])=x15 at *
     clear hHeld
     refine wpAnyH_done (by kernel_rfl) ?_ _
     generalize x1.heap.size=L5 at *
     generalize x12.heap.size=L6 at *
     exact⟨_,_,rfl,b15,g515,g615,z511,z613,ne13⟩
    ·simp only[qg]
     go_simp
     have b16:=(b11).alloc (b11).size (.cells #[.int .i64 0, .int .i64 0] 58)
     have g516:=(Below.heap_alloc _ (.cells #[.int .i64 0, .int .i64 0] 58) _ (block_lt g511)).trans g511
     have g616:=heap_alloc_new x11 (.cells #[.int .i64 0, .int .i64 0] 58)
     have z616:=(b11).size
     have ne16:x1.heap.size≠x11.heap.size:=Nat.ne_of_lt (block_lt g511)
     refine hK.out _ _ (KX.out _ b16) (fun hHeld=> ?_)
     clear hK K
     generalize(x11.alloc (.cells #[.int .i64 0, .int .i64 0] 58))=x16 at *
     refine wpAnyH_ready (rs:=[7]) (by kernel_rfl) (by simp) ?_
     refine AllReadyH.cons rfl (fun K hK=> ?_) AllReadyH.nil
     simp only[qg]
     go_simp
     refine(HOC.out _ b16).mono ?_
     rintro e x17 ⟨rfl,hb⟩
     have b17:=(b16).trans (hb.mono (b16).size)
     have g517:=(hb.block _ (block_lt g516)).trans g516
     have g617:=(hb.block _ (block_lt g616)).trans g616
     refine hK.out _ _ (KX.out _ b17) (fun hHeld=> ?_)
     clear hK K hb
     refine wpAnyH_ready (rs:=[10]) (by kernel_rfl) (by simp) ?_
     refine AllReadyH.cons rfl (fun K hK=> ?_) AllReadyH.nil
     simp only[qg]
     rw[if_pos (by rfl)]
     refine wp_store_mid 58 _ _ (by rfl) (x1.heap.size) 0 #[.int .i64 p, .int .i64 q] (by rfl) (by rfl) (there_block g517 (Nat.le_refl 2)) (by kernel_rfl) (by simp[Value.oneCell']) ?_
     have b18:=below_setsC z511 [.int .i64 p, .int .i64 q] 0 (b17)
     have g518:=fact_put g517 p q
     have g618:=block_setCells_ne [.int .i64 p, .int .i64 q] g617 ne16 0
     refine hK.out _ _ (KX.out _ b18) (fun hHeld=> ?_)
     clear hK K
     generalize(x17.setCells (x1.heap.size) 0 [.int .i64 p, .int .i64 q])=x18 at *
     refine wpAnyH_ready (rs:=[11]) (by kernel_rfl) (by simp) ?_
     refine AllReadyH.cons rfl (fun K hK=> ?_) AllReadyH.nil
     simp only[qg]
     rw[if_pos (by rfl)]
     refine wp_store_mid 58 _ _ (by rfl) (x11.heap.size) 0 #[.int .i64 r, .int .i64 t] (by rfl) (by rfl) (there_block g618 (Nat.le_refl 2)) (by kernel_rfl) (by simp[Value.oneCell']) ?_
     have b19:=below_setsC z616 [.int .i64 r, .int .i64 t] 0 (b18)
     have g619:=fact_put g618 r t
     have g519:=block_setCells_ne [.int .i64 r, .int .i64 t] g518 (fun e=>ne16 e.symm) 0
     refine hK.out _ _ (KX.out _ b19) (fun hHeld=> ?_)
     clear hK K
     generalize(x18.setCells (x11.heap.size) 0 [.int .i64 r, .int .i64 t])=x19 at *
     clear hHeld
     refine wpAnyH_done (by kernel_rfl) ?_ _
     generalize x1.heap.size=L5 at *
     generalize x11.heap.size=L6 at *
     exact⟨_,_,rfl,b19,g519,g619,z511,z616,ne16⟩
   ·simp only[qg]
    go_simp
    have b20:=(b1).alloc (b1).size (.cells #[.int .i64 0, .int .i64 0] 58)
    have g620:=heap_alloc_new x1 (.cells #[.int .i64 0, .int .i64 0] 58)
    have z620:=(b1).size
    refine hK.out _ _ (KX.out _ b20) (fun hHeld=> ?_)
    clear hK K
    generalize(x1.alloc (.cells #[.int .i64 0, .int .i64 0] 58))=x20 at *
    refine wpAnyH_ready (rs:=[7,8]) (by kernel_rfl) (by simp) ?_
    refine AllReadyH.cons rfl (fun K hK=> ?_) (AllReadyH.cons rfl (fun K hK=> ?_) (AllReadyH.nil))
    ·simp only[qg]
     go_simp
     refine(HOC.out _ b20).mono ?_
     rintro e x21 ⟨rfl,hb⟩
     have b21:=(b20).trans (hb.mono (b20).size)
     have g621:=(hb.block _ (block_lt g620)).trans g620
     refine hK.out _ _ (KX.out _ b21) (fun hHeld=> ?_)
     clear hK K hb
     refine wpAnyH_ready (rs:=[8]) (by kernel_rfl) (by simp) ?_
     refine AllReadyH.cons rfl (fun K hK=> ?_) AllReadyH.nil
     simp only[qg]
     go_simp
     have b22:=(b21).alloc (b21).size (.cells #[.int .i64 0, .int .i64 0] 58)
     have g622:=(Below.heap_alloc _ (.cells #[.int .i64 0, .int .i64 0] 58) _ (block_lt g621)).trans g621
     have g522:=heap_alloc_new x21 (.cells #[.int .i64 0, .int .i64 0] 58)
     have z522:=(b21).size
     have ne22:x21.heap.size≠x1.heap.size:=Nat.ne_of_gt (block_lt g621)
     refine hK.out _ _ (KX.out _ b22) (fun hHeld=> ?_)
     clear hK K
     generalize(x21.alloc (.cells #[.int .i64 0, .int .i64 0] 58))=x22 at *
     refine wpAnyH_ready (rs:=[10]) (by kernel_rfl) (by simp) ?_
     refine AllReadyH.cons rfl (fun K hK=> ?_) AllReadyH.nil
     simp only[qg]
     rw[if_pos (by rfl)]
     refine wp_store_mid 58 _ _ (by rfl) (x21.heap.size) 0 #[.int .i64 p, .int .i64 q] (by rfl) (by rfl) (there_block g522 (Nat.le_refl 2)) (by kernel_rfl) (by simp[Value.oneCell']) ?_
     have b23:=below_setsC z522 [.int .i64 p, .int .i64 q] 0 (b22)
     have g523:=fact_put g522 p q
     have g623:=block_setCells_ne [.int .i64 p, .int .i64 q] g622 ne22 0
     refine hK.out _ _ (KX.out _ b23) (fun hHeld=> ?_)
     clear hK K
     generalize(x22.setCells (x21.heap.size) 0 [.int .i64 p, .int .i64 q])=x23 at *
     refine wpAnyH_ready (rs:=[11]) (by kernel_rfl) (by simp) ?_
     refine AllReadyH.cons rfl (fun K hK=> ?_) AllReadyH.nil
     simp only[qg]
     rw[if_pos (by rfl)]
     refine wp_store_mid 58 _ _ (by rfl) (x1.heap.size) 0 #[.int .i64 r, .int .i64 t] (by rfl) (by rfl) (there_block g623 (Nat.le_refl 2)) (by kernel_rfl) (by simp[Value.oneCell']) ?_
     have b24:=below_setsC z620 [.int .i64 r, .int .i64 t] 0 (b23)
     have g624:=fact_put g623 r t
     have g524:=block_setCells_ne [.int .i64 r, .int .i64 t] g523 (fun e=>ne22 e.symm) 0
     refine hK.out _ _ (KX.out _ b24) (fun hHeld=> ?_)
     clear hK K
     generalize(x23.setCells (x1.heap.size) 0 [.int .i64 r, .int .i64 t])=x24 at *
     clear hHeld
     refine wpAnyH_done (by kernel_rfl) ?_ _
     generalize x21.heap.size=L5 at *
     generalize x1.heap.size=L6 at *
     exact⟨_,_,rfl,b24,g524,g624,z522,z620,ne22⟩
    ·simp only[qg]
     go_simp
     have b25:=(b20).alloc (b20).size (.cells #[.int .i64 0, .int .i64 0] 58)
     have g625:=(Below.heap_alloc _ (.cells #[.int .i64 0, .int .i64 0] 58) _ (block_lt g620)).trans g620
     have g525:=heap_alloc_new x20 (.cells #[.int .i64 0, .int .i64 0] 58)
     have z525:=(b20).size
     have ne25:x20.heap.size≠x1.heap.size:=Nat.ne_of_gt (block_lt g620)
     refine hK.out _ _ (KX.out _ b25) (fun hHeld=> ?_)
     clear hK K
     generalize(x20.alloc (.cells #[.int .i64 0, .int .i64 0] 58))=x25 at *
     refine wpAnyH_ready (rs:=[7]) (by kernel_rfl) (by simp) ?_
     refine AllReadyH.cons rfl (fun K hK=> ?_) AllReadyH.nil
     simp only[qg]
     go_simp
     refine(HOC.out _ b25).mono ?_
     rintro e x26 ⟨rfl,hb⟩
     have b26:=(b25).trans (hb.mono (b25).size)
     have g526:=(hb.block _ (block_lt g525)).trans g525
     have g626:=(hb.block _ (block_lt g625)).trans g625
     refine hK.out _ _ (KX.out _ b26) (fun hHeld=> ?_)
     clear hK K hb
     refine wpAnyH_ready (rs:=[10]) (by kernel_rfl) (by simp) ?_
     refine AllReadyH.cons rfl (fun K hK=> ?_) AllReadyH.nil
     simp only[qg]
     rw[if_pos (by rfl)]
     refine wp_store_mid 58 _ _ (by rfl) (x20.heap.size) 0 #[.int .i64 p, .int .i64 q] (by rfl) (by rfl) (there_block g526 (Nat.le_refl 2)) (by kernel_rfl) (by simp[Value.oneCell']) ?_
     have b27:=below_setsC z525 [.int .i64 p, .int .i64 q] 0 (b26)
     have g527:=fact_put g526 p q
     have g627:=block_setCells_ne [.int .i64 p, .int .i64 q] g626 ne25 0
     refine hK.out _ _ (KX.out _ b27) (fun hHeld=> ?_)
     clear hK K
     generalize(x26.setCells (x20.heap.size) 0 [.int .i64 p, .int .i64 q])=x27 at *
     refine wpAnyH_ready (rs:=[11]) (by kernel_rfl) (by simp) ?_
     refine AllReadyH.cons rfl (fun K hK=> ?_) AllReadyH.nil
     simp only[qg]
     rw[if_pos (by rfl)]
     refine wp_store_mid 58 _ _ (by rfl) (x1.heap.size) 0 #[.int .i64 r, .int .i64 t] (by rfl) (by rfl) (there_block g627 (Nat.le_refl 2)) (by kernel_rfl) (by simp[Value.oneCell']) ?_
     have b28:=below_setsC z620 [.int .i64 r, .int .i64 t] 0 (b27)
     have g628:=fact_put g627 r t
     have g528:=block_setCells_ne [.int .i64 r, .int .i64 t] g527 (fun e=>ne25 e.symm) 0
     refine hK.out _ _ (KX.out _ b28) (fun hHeld=> ?_)
     clear hK K
     generalize(x27.setCells (x1.heap.size) 0 [.int .i64 r, .int .i64 t])=x28 at *
     clear hHeld
     refine wpAnyH_done (by kernel_rfl) ?_ _
     generalize x20.heap.size=L5 at *
     generalize x1.heap.size=L6 at *
     exact⟨_,_,rfl,b28,g528,g628,z525,z620,ne25⟩
  ·simp only[qg]
   go_simp
   have b29:=((Below.refl w2.heap.size w2)).alloc ((Below.refl w2.heap.size w2)).size (.cells #[.int .i64 0, .int .i64 0] 58)
   have g529:=heap_alloc_new w2 (.cells #[.int .i64 0, .int .i64 0] 58)
   have z529:=((Below.refl w2.heap.size w2)).size
   refine hK.out _ _ (KX.out _ b29) (fun hHeld=> ?_)
   clear hK K
   generalize(w2.alloc (.cells #[.int .i64 0, .int .i64 0] 58))=x29 at *
   refine wpAnyH_ready (rs:=[3,9]) (by kernel_rfl) (by simp) ?_
   refine AllReadyH.cons rfl (fun K hK=> ?_) (AllReadyH.cons rfl (fun K hK=> ?_) (AllReadyH.nil))
   ·simp only[qg]
    go_simp
    refine(HOA.out _ b29).mono ?_
    rintro e x30 ⟨rfl,hb⟩
    have b30:=(b29).trans (hb.mono (b29).size)
    have g530:=(hb.block _ (block_lt g529)).trans g529
    refine hK.out _ _ (KX.out _ b30) (fun hHeld=> ?_)
    clear hK K hb
    refine wpAnyH_ready (rs:=[7,9]) (by kernel_rfl) (by simp) ?_
    refine AllReadyH.cons rfl (fun K hK=> ?_) (AllReadyH.cons rfl (fun K hK=> ?_) (AllReadyH.nil))
    ·simp only[qg]
     go_simp
     refine(HOC.out _ b30).mono ?_
     rintro e x31 ⟨rfl,hb⟩
     have b31:=(b30).trans (hb.mono (b30).size)
     have g531:=(hb.block _ (block_lt g530)).trans g530
     refine hK.out _ _ (KX.out _ b31) (fun hHeld=> ?_)
     clear hK K hb
     refine wpAnyH_ready (rs:=[9]) (by kernel_rfl) (by simp) ?_
     refine AllReadyH.cons rfl (fun K hK=> ?_) AllReadyH.nil
     simp only[qg]
     go_simp
     have b32:=(b31).alloc (b31).size (.cells #[.int .i64 0, .int .i64 0] 58)
     have g532:=(Below.heap_alloc _ (.cells #[.int .i64 0, .int .i64 0] 58) _ (block_lt g531)).trans g531
     have g632:=heap_alloc_new x31 (.cells #[.int .i64 0, .int .i64 0] 58)
     have z632:=(b31).size
     have ne32:w2.heap.size≠x31.heap.size:=Nat.ne_of_lt (block_lt g531)
     refine hK.out _ _ (KX.out _ b32) (fun hHeld=> ?_)
     clear hK K
     generalize(x31.alloc (.cells #[.int .i64 0, .int .i64 0] 58))=x32 at *
     refine wpAnyH_ready (rs:=[10]) (by kernel_rfl) (by simp) ?_
     refine AllReadyH.cons rfl (fun K hK=> ?_) AllReadyH.nil
     simp only[qg]
     rw[if_pos (by rfl)]
     refine wp_store_mid 58 _ _ (by rfl) (w2.heap.size) 0 #[.int .i64 p, .int .i64 q] (by rfl) (by rfl) (there_block g532 (Nat.le_refl 2)) (by kernel_rfl) (by simp[Value.oneCell']) ?_
     have b33:=below_setsC z529 [.int .i64 p, .int .i64 q] 0 (b32)
     have g533:=fact_put g532 p q
     have g633:=block_setCells_ne [.int .i64 p, .int .i64 q] g632 ne32 0
     refine hK.out _ _ (KX.out _ b33) (fun hHeld=> ?_)
     clear hK K
     generalize(x32.setCells (w2.heap.size) 0 [.int .i64 p, .int .i64 q])=x33 at *
     refine wpAnyH_ready (rs:=[11]) (by kernel_rfl) (by simp) ?_
     refine AllReadyH.cons rfl (fun K hK=> ?_) AllReadyH.nil
     simp only[qg]
     rw[if_pos (by rfl)]
     refine wp_store_mid 58 _ _ (by rfl) (x31.heap.size) 0 #[.int .i64 r, .int .i64 t] (by rfl) (by rfl) (there_block g633 (Nat.le_refl 2)) (by kernel_rfl) (by simp[Value.oneCell']) ?_
     have b34:=below_setsC z632 [.int .i64 r, .int .i64 t] 0 (b33)
     have g634:=fact_put g633 r t
     have g534:=block_setCells_ne [.int .i64 r, .int .i64 t] g533 (fun e=>ne32 e.symm) 0
     refine hK.out _ _ (KX.out _ b34) (fun hHeld=> ?_)
     clear hK K
     generalize(x33.setCells (x31.heap.size) 0 [.int .i64 r, .int .i64 t])=x34 at *
     clear hHeld
     refine wpAnyH_done (by kernel_rfl) ?_ _
     generalize w2.heap.size=L5 at *
     generalize x31.heap.size=L6 at *
     exact⟨_,_,rfl,b34,g534,g634,z529,z632,ne32⟩
    ·simp only[qg]
     go_simp
     have b35:=(b30).alloc (b30).size (.cells #[.int .i64 0, .int .i64 0] 58)
     have g535:=(Below.heap_alloc _ (.cells #[.int .i64 0, .int .i64 0] 58) _ (block_lt g530)).trans g530
     have g635:=heap_alloc_new x30 (.cells #[.int .i64 0, .int .i64 0] 58)
     have z635:=(b30).size
     have ne35:w2.heap.size≠x30.heap.size:=Nat.ne_of_lt (block_lt g530)
     refine hK.out _ _ (KX.out _ b35) (fun hHeld=> ?_)
     clear hK K
     generalize(x30.alloc (.cells #[.int .i64 0, .int .i64 0] 58))=x35 at *
     refine wpAnyH_ready (rs:=[7]) (by kernel_rfl) (by simp) ?_
     refine AllReadyH.cons rfl (fun K hK=> ?_) AllReadyH.nil
     simp only[qg]
     go_simp
     refine(HOC.out _ b35).mono ?_
     rintro e x36 ⟨rfl,hb⟩
     have b36:=(b35).trans (hb.mono (b35).size)
     have g536:=(hb.block _ (block_lt g535)).trans g535
     have g636:=(hb.block _ (block_lt g635)).trans g635
     refine hK.out _ _ (KX.out _ b36) (fun hHeld=> ?_)
     clear hK K hb
     refine wpAnyH_ready (rs:=[10]) (by kernel_rfl) (by simp) ?_
     refine AllReadyH.cons rfl (fun K hK=> ?_) AllReadyH.nil
     simp only[qg]
     rw[if_pos (by rfl)]
     refine wp_store_mid 58 _ _ (by rfl) (w2.heap.size) 0 #[.int .i64 p, .int .i64 q] (by rfl) (by rfl) (there_block g536 (Nat.le_refl 2)) (by kernel_rfl) (by simp[Value.oneCell']) ?_
     have b37:=below_setsC z529 [.int .i64 p, .int .i64 q] 0 (b36)
     have g537:=fact_put g536 p q
     have g637:=block_setCells_ne [.int .i64 p, .int .i64 q] g636 ne35 0
     refine hK.out _ _ (KX.out _ b37) (fun hHeld=> ?_)
     clear hK K
     generalize(x36.setCells (w2.heap.size) 0 [.int .i64 p, .int .i64 q])=x37 at *
     refine wpAnyH_ready (rs:=[11]) (by kernel_rfl) (by simp) ?_
     refine AllReadyH.cons rfl (fun K hK=> ?_) AllReadyH.nil
     simp only[qg]
     rw[if_pos (by rfl)]
     refine wp_store_mid 58 _ _ (by rfl) (x30.heap.size) 0 #[.int .i64 r, .int .i64 t] (by rfl) (by rfl) (there_block g637 (Nat.le_refl 2)) (by kernel_rfl) (by simp[Value.oneCell']) ?_
     have b38:=below_setsC z635 [.int .i64 r, .int .i64 t] 0 (b37)
     have g638:=fact_put g637 r t
     have g538:=block_setCells_ne [.int .i64 r, .int .i64 t] g537 (fun e=>ne35 e.symm) 0
     refine hK.out _ _ (KX.out _ b38) (fun hHeld=> ?_)
     clear hK K
     generalize(x37.setCells (x30.heap.size) 0 [.int .i64 r, .int .i64 t])=x38 at *
     clear hHeld
     refine wpAnyH_done (by kernel_rfl) ?_ _
     generalize w2.heap.size=L5 at *
     generalize x30.heap.size=L6 at *
     exact⟨_,_,rfl,b38,g538,g638,z529,z635,ne35⟩
   ·simp only[qg]
    go_simp
    have b39:=(b29).alloc (b29).size (.cells #[.int .i64 0, .int .i64 0] 58)
    have g539:=(Below.heap_alloc _ (.cells #[.int .i64 0, .int .i64 0] 58) _ (block_lt g529)).trans g529
    have g639:=heap_alloc_new x29 (.cells #[.int .i64 0, .int .i64 0] 58)
    have z639:=(b29).size
    have ne39:w2.heap.size≠x29.heap.size:=Nat.ne_of_lt (block_lt g529)
    refine hK.out _ _ (KX.out _ b39) (fun hHeld=> ?_)
    clear hK K
    generalize(x29.alloc (.cells #[.int .i64 0, .int .i64 0] 58))=x39 at *
    refine wpAnyH_ready (rs:=[3]) (by kernel_rfl) (by simp) ?_
    refine AllReadyH.cons rfl (fun K hK=> ?_) AllReadyH.nil
    simp only[qg]
    go_simp
    refine(HOA.out _ b39).mono ?_
    rintro e x40 ⟨rfl,hb⟩
    have b40:=(b39).trans (hb.mono (b39).size)
    have g540:=(hb.block _ (block_lt g539)).trans g539
    have g640:=(hb.block _ (block_lt g639)).trans g639
    refine hK.out _ _ (KX.out _ b40) (fun hHeld=> ?_)
    clear hK K hb
    refine wpAnyH_ready (rs:=[7]) (by kernel_rfl) (by simp) ?_
    refine AllReadyH.cons rfl (fun K hK=> ?_) AllReadyH.nil
    simp only[qg]
    go_simp
    refine(HOC.out _ b40).mono ?_
    rintro e x41 ⟨rfl,hb⟩
    have b41:=(b40).trans (hb.mono (b40).size)
    have g541:=(hb.block _ (block_lt g540)).trans g540
    have g641:=(hb.block _ (block_lt g640)).trans g640
    refine hK.out _ _ (KX.out _ b41) (fun hHeld=> ?_)
    clear hK K hb
    refine wpAnyH_ready (rs:=[10]) (by kernel_rfl) (by simp) ?_
    refine AllReadyH.cons rfl (fun K hK=> ?_) AllReadyH.nil
    simp only[qg]
    rw[if_pos (by rfl)]
    refine wp_store_mid 58 _ _ (by rfl) (w2.heap.size) 0 #[.int .i64 p, .int .i64 q] (by rfl) (by rfl) (there_block g541 (Nat.le_refl 2)) (by kernel_rfl) (by simp[Value.oneCell']) ?_
    have b42:=below_setsC z529 [.int .i64 p, .int .i64 q] 0 (b41)
    have g542:=fact_put g541 p q
    have g642:=block_setCells_ne [.int .i64 p, .int .i64 q] g641 ne39 0
    refine hK.out _ _ (KX.out _ b42) (fun hHeld=> ?_)
    clear hK K
    generalize(x41.setCells (w2.heap.size) 0 [.int .i64 p, .int .i64 q])=x42 at *
    refine wpAnyH_ready (rs:=[11]) (by kernel_rfl) (by simp) ?_
    refine AllReadyH.cons rfl (fun K hK=> ?_) AllReadyH.nil
    simp only[qg]
    rw[if_pos (by rfl)]
    refine wp_store_mid 58 _ _ (by rfl) (x29.heap.size) 0 #[.int .i64 r, .int .i64 t] (by rfl) (by rfl) (there_block g642 (Nat.le_refl 2)) (by kernel_rfl) (by simp[Value.oneCell']) ?_
    have b43:=below_setsC z639 [.int .i64 r, .int .i64 t] 0 (b42)
    have g643:=fact_put g642 r t
    have g543:=block_setCells_ne [.int .i64 r, .int .i64 t] g542 (fun e=>ne39 e.symm) 0
    refine hK.out _ _ (KX.out _ b43) (fun hHeld=> ?_)
    clear hK K
    generalize(x42.setCells (x29.heap.size) 0 [.int .i64 r, .int .i64 t])=x43 at *
    clear hHeld
    refine wpAnyH_done (by kernel_rfl) ?_ _
    generalize w2.heap.size=L5 at *
    generalize x29.heap.size=L6 at *
    exact⟨_,_,rfl,b43,g543,g643,z529,z639,ne39⟩
  ·simp only[qg]
   go_simp
   have b44:=((Below.refl w2.heap.size w2)).alloc ((Below.refl w2.heap.size w2)).size (.cells #[.int .i64 0, .int .i64 0] 58)
   have g644:=heap_alloc_new w2 (.cells #[.int .i64 0, .int .i64 0] 58)
   have z644:=((Below.refl w2.heap.size w2)).size
   refine hK.out _ _ (KX.out _ b44) (fun hHeld=> ?_)
   clear hK K
   generalize(w2.alloc (.cells #[.int .i64 0, .int .i64 0] 58))=x44 at *
   refine wpAnyH_ready (rs:=[3,8]) (by kernel_rfl) (by simp) ?_
   refine AllReadyH.cons rfl (fun K hK=> ?_) (AllReadyH.cons rfl (fun K hK=> ?_) (AllReadyH.nil))
   ·simp only[qg]
    go_simp
    refine(HOA.out _ b44).mono ?_
    rintro e x45 ⟨rfl,hb⟩
    have b45:=(b44).trans (hb.mono (b44).size)
    have g645:=(hb.block _ (block_lt g644)).trans g644
    refine hK.out _ _ (KX.out _ b45) (fun hHeld=> ?_)
    clear hK K hb
    refine wpAnyH_ready (rs:=[7,8]) (by kernel_rfl) (by simp) ?_
    refine AllReadyH.cons rfl (fun K hK=> ?_) (AllReadyH.cons rfl (fun K hK=> ?_) (AllReadyH.nil))
    ·simp only[qg]
     go_simp
     refine(HOC.out _ b45).mono ?_
     rintro e x46 ⟨rfl,hb⟩
     have b46:=(b45).trans (hb.mono (b45).size)
     have g646:=(hb.block _ (block_lt g645)).trans g645
     refine hK.out _ _ (KX.out _ b46) (fun hHeld=> ?_)
     clear hK K hb
     refine wpAnyH_ready (rs:=[8]) (by kernel_rfl) (by simp) ?_
     refine AllReadyH.cons rfl (fun K hK=> ?_) AllReadyH.nil
     simp only[qg]
     go_simp
     have b47:=(b46).alloc (b46).size (.cells #[.int .i64 0, .int .i64 0] 58)
     have g647:=(Below.heap_alloc _ (.cells #[.int .i64 0, .int .i64 0] 58) _ (block_lt g646)).trans g646
     have g547:=heap_alloc_new x46 (.cells #[.int .i64 0, .int .i64 0] 58)
     have z547:=(b46).size
     have ne47:x46.heap.size≠w2.heap.size:=Nat.ne_of_gt (block_lt g646)
     refine hK.out _ _ (KX.out _ b47) (fun hHeld=> ?_)
     clear hK K
     generalize(x46.alloc (.cells #[.int .i64 0, .int .i64 0] 58))=x47 at *
     refine wpAnyH_ready (rs:=[10]) (by kernel_rfl) (by simp) ?_
     refine AllReadyH.cons rfl (fun K hK=> ?_) AllReadyH.nil
     simp only[qg]
     rw[if_pos (by rfl)]
     refine wp_store_mid 58 _ _ (by rfl) (x46.heap.size) 0 #[.int .i64 p, .int .i64 q] (by rfl) (by rfl) (there_block g547 (Nat.le_refl 2)) (by kernel_rfl) (by simp[Value.oneCell']) ?_
     have b48:=below_setsC z547 [.int .i64 p, .int .i64 q] 0 (b47)
     have g548:=fact_put g547 p q
     have g648:=block_setCells_ne [.int .i64 p, .int .i64 q] g647 ne47 0
     refine hK.out _ _ (KX.out _ b48) (fun hHeld=> ?_)
     clear hK K
     generalize(x47.setCells (x46.heap.size) 0 [.int .i64 p, .int .i64 q])=x48 at *
     refine wpAnyH_ready (rs:=[11]) (by kernel_rfl) (by simp) ?_
     refine AllReadyH.cons rfl (fun K hK=> ?_) AllReadyH.nil
     simp only[qg]
     rw[if_pos (by rfl)]
     refine wp_store_mid 58 _ _ (by rfl) (w2.heap.size) 0 #[.int .i64 r, .int .i64 t] (by rfl) (by rfl) (there_block g648 (Nat.le_refl 2)) (by kernel_rfl) (by simp[Value.oneCell']) ?_
     have b49:=below_setsC z644 [.int .i64 r, .int .i64 t] 0 (b48)
     have g649:=fact_put g648 r t
     have g549:=block_setCells_ne [.int .i64 r, .int .i64 t] g548 (fun e=>ne47 e.symm) 0
     refine hK.out _ _ (KX.out _ b49) (fun hHeld=> ?_)
     clear hK K
     generalize(x48.setCells (w2.heap.size) 0 [.int .i64 r, .int .i64 t])=x49 at *
     clear hHeld
     refine wpAnyH_done (by kernel_rfl) ?_ _
     generalize x46.heap.size=L5 at *
     generalize w2.heap.size=L6 at *
     exact⟨_,_,rfl,b49,g549,g649,z547,z644,ne47⟩
    ·simp only[qg]
     go_simp
     have b50:=(b45).alloc (b45).size (.cells #[.int .i64 0, .int .i64 0] 58)
     have g650:=(Below.heap_alloc _ (.cells #[.int .i64 0, .int .i64 0] 58) _ (block_lt g645)).trans g645
     have g550:=heap_alloc_new x45 (.cells #[.int .i64 0, .int .i64 0] 58)
     have z550:=(b45).size
     have ne50:x45.heap.size≠w2.heap.size:=Nat.ne_of_gt (block_lt g645)
     refine hK.out _ _ (KX.out _ b50) (fun hHeld=> ?_)
     clear hK K
     generalize(x45.alloc (.cells #[.int .i64 0, .int .i64 0] 58))=x50 at *
     refine wpAnyH_ready (rs:=[7]) (by kernel_rfl) (by simp) ?_
     refine AllReadyH.cons rfl (fun K hK=> ?_) AllReadyH.nil
     simp only[qg]
     go_simp
     refine(HOC.out _ b50).mono ?_
     rintro e x51 ⟨rfl,hb⟩
     have b51:=(b50).trans (hb.mono (b50).size)
     have g551:=(hb.block _ (block_lt g550)).trans g550
     have g651:=(hb.block _ (block_lt g650)).trans g650
     refine hK.out _ _ (KX.out _ b51) (fun hHeld=> ?_)
     clear hK K hb
     refine wpAnyH_ready (rs:=[10]) (by kernel_rfl) (by simp) ?_
     refine AllReadyH.cons rfl (fun K hK=> ?_) AllReadyH.nil
     simp only[qg]
     rw[if_pos (by rfl)]
     refine wp_store_mid 58 _ _ (by rfl) (x45.heap.size) 0 #[.int .i64 p, .int .i64 q] (by rfl) (by rfl) (there_block g551 (Nat.le_refl 2)) (by kernel_rfl) (by simp[Value.oneCell']) ?_
     have b52:=below_setsC z550 [.int .i64 p, .int .i64 q] 0 (b51)
     have g552:=fact_put g551 p q
     have g652:=block_setCells_ne [.int .i64 p, .int .i64 q] g651 ne50 0
     refine hK.out _ _ (KX.out _ b52) (fun hHeld=> ?_)
     clear hK K
     generalize(x51.setCells (x45.heap.size) 0 [.int .i64 p, .int .i64 q])=x52 at *
     refine wpAnyH_ready (rs:=[11]) (by kernel_rfl) (by simp) ?_
     refine AllReadyH.cons rfl (fun K hK=> ?_) AllReadyH.nil
     simp only[qg]
     rw[if_pos (by rfl)]
     refine wp_store_mid 58 _ _ (by rfl) (w2.heap.size) 0 #[.int .i64 r, .int .i64 t] (by rfl) (by rfl) (there_block g652 (Nat.le_refl 2)) (by kernel_rfl) (by simp[Value.oneCell']) ?_
     have b53:=below_setsC z644 [.int .i64 r, .int .i64 t] 0 (b52)
     have g653:=fact_put g652 r t
     have g553:=block_setCells_ne [.int .i64 r, .int .i64 t] g552 (fun e=>ne50 e.symm) 0
     refine hK.out _ _ (KX.out _ b53) (fun hHeld=> ?_)
     clear hK K
     generalize(x52.setCells (w2.heap.size) 0 [.int .i64 r, .int .i64 t])=x53 at *
     clear hHeld
     refine wpAnyH_done (by kernel_rfl) ?_ _
     generalize x45.heap.size=L5 at *
     generalize w2.heap.size=L6 at *
     exact⟨_,_,rfl,b53,g553,g653,z550,z644,ne50⟩
   ·simp only[qg]
    go_simp
    have b54:=(b44).alloc (b44).size (.cells #[.int .i64 0, .int .i64 0] 58)
    have g654:=(Below.heap_alloc _ (.cells #[.int .i64 0, .int .i64 0] 58) _ (block_lt g644)).trans g644
    have g554:=heap_alloc_new x44 (.cells #[.int .i64 0, .int .i64 0] 58)
    have z554:=(b44).size
    have ne54:x44.heap.size≠w2.heap.size:=Nat.ne_of_gt (block_lt g644)
    refine hK.out _ _ (KX.out _ b54) (fun hHeld=> ?_)
    clear hK K
    generalize(x44.alloc (.cells #[.int .i64 0, .int .i64 0] 58))=x54 at *
    refine wpAnyH_ready (rs:=[3]) (by kernel_rfl) (by simp) ?_
    refine AllReadyH.cons rfl (fun K hK=> ?_) AllReadyH.nil
    simp only[qg]
    go_simp
    refine(HOA.out _ b54).mono ?_
    rintro e x55 ⟨rfl,hb⟩
    have b55:=(b54).trans (hb.mono (b54).size)
    have g555:=(hb.block _ (block_lt g554)).trans g554
    have g655:=(hb.block _ (block_lt g654)).trans g654
    refine hK.out _ _ (KX.out _ b55) (fun hHeld=> ?_)
    clear hK K hb
    refine wpAnyH_ready (rs:=[7]) (by kernel_rfl) (by simp) ?_
    refine AllReadyH.cons rfl (fun K hK=> ?_) AllReadyH.nil
    simp only[qg]
    go_simp
    refine(HOC.out _ b55).mono ?_
    rintro e x56 ⟨rfl,hb⟩
    have b56:=(b55).trans (hb.mono (b55).size)
    have g556:=(hb.block _ (block_lt g555)).trans g555
    have g656:=(hb.block _ (block_lt g655)).trans g655
    refine hK.out _ _ (KX.out _ b56) (fun hHeld=> ?_)
    clear hK K hb
    refine wpAnyH_ready (rs:=[10]) (by kernel_rfl) (by simp) ?_
    refine AllReadyH.cons rfl (fun K hK=> ?_) AllReadyH.nil
    simp only[qg]
    rw[if_pos (by rfl)]
    refine wp_store_mid 58 _ _ (by rfl) (x44.heap.size) 0 #[.int .i64 p, .int .i64 q] (by rfl) (by rfl) (there_block g556 (Nat.le_refl 2)) (by kernel_rfl) (by simp[Value.oneCell']) ?_
    have b57:=below_setsC z554 [.int .i64 p, .int .i64 q] 0 (b56)
    have g557:=fact_put g556 p q
    have g657:=block_setCells_ne [.int .i64 p, .int .i64 q] g656 ne54 0
    refine hK.out _ _ (KX.out _ b57) (fun hHeld=> ?_)
    clear hK K
    generalize(x56.setCells (x44.heap.size) 0 [.int .i64 p, .int .i64 q])=x57 at *
    refine wpAnyH_ready (rs:=[11]) (by kernel_rfl) (by simp) ?_
    refine AllReadyH.cons rfl (fun K hK=> ?_) AllReadyH.nil
    simp only[qg]
    rw[if_pos (by rfl)]
    refine wp_store_mid 58 _ _ (by rfl) (w2.heap.size) 0 #[.int .i64 r, .int .i64 t] (by rfl) (by rfl) (there_block g657 (Nat.le_refl 2)) (by kernel_rfl) (by simp[Value.oneCell']) ?_
    have b58:=below_setsC z644 [.int .i64 r, .int .i64 t] 0 (b57)
    have g658:=fact_put g657 r t
    have g558:=block_setCells_ne [.int .i64 r, .int .i64 t] g557 (fun e=>ne54 e.symm) 0
    refine hK.out _ _ (KX.out _ b58) (fun hHeld=> ?_)
    clear hK K
    generalize(x57.setCells (w2.heap.size) 0 [.int .i64 r, .int .i64 t])=x58 at *
    clear hHeld
    refine wpAnyH_done (by kernel_rfl) ?_ _
    generalize x44.heap.size=L5 at *
    generalize w2.heap.size=L6 at *
    exact⟨_,_,rfl,b58,g558,g658,z554,z644,ne54⟩
 case h2=>
  rintro L5 L6 w3 ⟨hb,h5,h6,z5,z6,hne⟩
  simp only[Act.put]
  have HB3:=Lib.hid (HB1.out.trans ((HB2.out.trans (hb.mono HB2.out.size)).mono HB1.out.size))
  have hr3:=(hb.block _ (block_lt HR2.out)).trans HR2.out
  have HR4:=Lib.hid (fun(k v:Int)=>(block_put (block_put (cs:=[.int .i64 0, .int .i64 0]) hr3 rfl) rfl:((w3.setCell ⟨L3+1,0,none⟩ (.int .i64 k)).setCell ⟨L3+1,1,none⟩ (.int .i64 v)).heap[L3+1]? =some (.cells #[.int .i64 k, .int .i64 v] 58 (0,0))))
  have HBB:=Lib.hid (fun(k v:Int)=>((HB3.out.setCell (p:=⟨L3+1,0,none⟩) (by have:=HL3.out;show w.heap.size≤L3+1;omega) (.int .i64 k)).setCell (p:=⟨L3+1,1,none⟩) (by have:=HL3.out;show w.heap.size≤L3+1;omega) (.int .i64 v):Below w.heap.size w ((w3.setCell ⟨L3+1,0,none⟩ (.int .i64 k)).setCell ⟨L3+1,1,none⟩ (.int .i64 v))))
  have y0:=cell_block hr3 0
  have y1:=cell_block hr3 1
  have f0:=frozen_block hr3 0
  have f1:=frozen_block hr3 1
  have zr:=block_lt hr3
  obtain⟨k0,k2,k3,k4,zL⟩:=KX0.out w3 hb
  have c50:=cell_block h5 0
  have c51:=cell_block h5 1
  have c60:=cell_block h6 0
  have c61:=cell_block h6 1
  have zz5:=block_lt h5
  have zz6:=block_lt h6
  have heq:=eq_fact r t 1 0
  have HM:=Lib.hid (show makeF op imm ⟨p,q⟩ ⟨r,t⟩=if p=0∨r=0 then⟨0,0⟩ else if 12<op then⟨2,0⟩ else if op=5∧(⟨r,t⟩:FactS)=⟨1,0⟩ then⟨0,0⟩ else if p=2∨r=2 then⟨2,0⟩ else⟨1,mk op q t imm⟩ from rfl)
  clear hb h5 h6 z5 z6 hr3 hne
  by_cases p0:p=0
  ·rw[if_pos (.inl p0)] at HM
   have e1:decide (p=0)=true:=decide_eq_true p0
   have e1' :(p==0)=true:=by simpa using p0
   clear p0
   go_wp2_with fail
   exact bodyPost_ret (ret_fact Tryd.results84 _ _ (L3+1) 0 0 rfl (HR4.out 0 0)) rfl ⟨by rw[HM.out];rfl,HBB.out 0 0⟩
  have e1:decide (p=0)=false:=decide_eq_false p0
  have e1' :(p==0)=false:=by simpa using p0
  by_cases r0:r=0
  ·rw[if_pos (.inr r0)] at HM
   have e2:decide (r=0)=true:=decide_eq_true r0
   have e2' :(r==0)=true:=by simpa using r0
   clear p0 r0
   go_wp2_with fail
   exact bodyPost_ret (ret_fact Tryd.results84 _ _ (L3+1) 0 0 rfl (HR4.out 0 0)) rfl ⟨by rw[HM.out];rfl,HBB.out 0 0⟩
  have e2:decide (r=0)=false:=decide_eq_false r0
  have e2' :(r==0)=false:=by simpa using r0
  rw[if_neg (fun h=>by rcases h with h|h;exact p0 h;exact r0 h)] at HM
  clear p0 r0
  by_cases o12:12<op
  ·rw[if_pos o12] at HM
   have e3:decide (op>12)=true:=decide_eq_true o12
   have e3' :decide (12<op)=true:=decide_eq_true o12
   clear o12
   go_wp2_with fail
   exact bodyPost_ret (ret_fact Tryd.results84 _ _ (L3+1) 2 0 rfl (HR4.out 2 0)) rfl ⟨by rw[HM.out];rfl,HBB.out 2 0⟩
  have e3:decide (op>12)=false:=decide_eq_false o12
  have e3' :decide (12<op)=false:=decide_eq_false o12
  rw[if_neg o12] at HM
  clear o12
  by_cases o5:op=5∧(r=1∧t=0)
  ·rw[if_pos ⟨o5.1,by rw[o5.2.1,o5.2.2]⟩] at HM
   have e4:decide (op=5)=true:=decide_eq_true o5.1
   have e4' :(op==5)=true:=by simpa using o5.1
   rw[decide_eq_true o5.2] at heq
   clear o5
   go_wp2_with fail
   exact bodyPost_ret (ret_fact Tryd.results84 _ _ (L3+1) 0 0 rfl (HR4.out 0 0)) rfl ⟨by rw[HM.out];rfl,HBB.out 0 0⟩
  rw[if_neg (fun h=>o5 ⟨h.1,by simpa using h.2⟩)] at HM
  have hor:(decide (op=5)=false∧(op==5)=false)∨(decide (op=5)=true∧(op==5)=true∧decide (r=1∧t=0)=false):=by
   by_cases o:op=5
   ·exact .inr ⟨decide_eq_true o,by simpa using o,decide_eq_false (fun h=>o5 ⟨o,h⟩)⟩
   ·exact .inl ⟨decide_eq_false o,by simpa using o⟩
  clear o5
  by_cases m2:p=2∨r=2
  ·rw[if_pos m2] at HM
   have hm:(decide (p=2)=true∧(p==2)=true)∨(decide (p=2)=false∧(p==2)=false∧decide (r=2)=true∧(r==2)=true):=by
    by_cases o:p=2
    ·exact .inl ⟨decide_eq_true o,by simpa using o⟩
    ·have o2:r=2:=by rcases m2 with h|h;exact absurd h o;exact h
     exact .inr ⟨decide_eq_false o,by simpa using o,decide_eq_true o2,by simpa using o2⟩
   clear m2
   rcases hor with⟨e4,e4'⟩|⟨e4,e4',e5⟩
   ·rcases hm with⟨e6,e6'⟩|⟨e6,e6',e7,e7'⟩
    ·go_wp2_with fail
     exact bodyPost_ret (ret_fact Tryd.results84 _ _ (L3+1) 2 0 rfl (HR4.out 2 0)) rfl ⟨by rw[HM.out];rfl,HBB.out 2 0⟩
    ·go_wp2_with fail
     exact bodyPost_ret (ret_fact Tryd.results84 _ _ (L3+1) 2 0 rfl (HR4.out 2 0)) rfl ⟨by rw[HM.out];rfl,HBB.out 2 0⟩
   ·rw[e5] at heq
    clear e5
    rcases hm with⟨e6,e6'⟩|⟨e6,e6',e7,e7'⟩
    ·go_wp2_with fail
     exact bodyPost_ret (ret_fact Tryd.results84 _ _ (L3+1) 2 0 rfl (HR4.out 2 0)) rfl ⟨by rw[HM.out];rfl,HBB.out 2 0⟩
    ·go_wp2_with fail
     exact bodyPost_ret (ret_fact Tryd.results84 _ _ (L3+1) 2 0 rfl (HR4.out 2 0)) rfl ⟨by rw[HM.out];rfl,HBB.out 2 0⟩
  rw[if_neg m2] at HM
  have e6:decide (p=2)=false:=decide_eq_false (fun h=>m2 (.inl h))
  have e6' :(p==2)=false:=by simpa using(fun h=>m2 (.inl h):¬p=2)
  have e7:decide (r=2)=false:=decide_eq_false (fun h=>m2 (.inr h))
  have e7' :(r==2)=false:=by simpa using(fun h=>m2 (.inr h):¬r=2)
  clear m2
  rcases hor with⟨e4,e4'⟩|⟨e4,e4',e5⟩
  ·go_wp2_with (go_at_call 124;go_must (refine(smake_any op q t imm w3).mono ?_;rintro e w' ⟨rfl,rfl⟩))
   exact bodyPost_ret (ret_fact Tryd.results84 _ _ (L3+1) 1 (mk op q t imm) rfl (HR4.out 1 (mk op q t imm))) rfl ⟨by rw[HM.out];rfl,HBB.out 1 (mk op q t imm)⟩
  ·rw[e5] at heq
   clear e5
   go_wp2_with (go_at_call 124;go_must (refine(smake_any op q t imm w3).mono ?_;rintro e w' ⟨rfl,rfl⟩))
   exact bodyPost_ret (ret_fact Tryd.results84 _ _ (L3+1) 1 (mk op q t imm) rfl (HR4.out 1 (mk op q t imm))) rfl ⟨by rw[HM.out];rfl,HBB.out 1 (mk op q t imm)⟩
end Go.Proofs.YtappljijljjkiaaDoor
