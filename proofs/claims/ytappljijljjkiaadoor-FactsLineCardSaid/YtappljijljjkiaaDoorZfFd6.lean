/-
  The solver of facts: Facts.
-/
import Derived.Test.YtappljijljjkiaaDoorZfFdC
namespace Go.Proofs.YtappljijljjkiaaDoor
open Go.RowKit Tier
theorem region_cut4{P:Program}{id:Nat}{ops:Array Oper}{Q:Exit→Act→World→Prop}{a:Act}{w:World}(f:Nat→Nat→Nat→Nat→Act)(R:Nat→Nat→Nat→Nat→World→Prop)(h1:(Code.region id ops true).wp P (CutAtF fun a' w' =>∃x y z u,a' =f x y z u∧R x y z u w') a w)(h2:∀x y z u w',R x y z u w' →Q .normal (f x y z u) w'):(Code.region id ops true).wp P Q a w:=
 Code.wp_mono (fun e a' w' hh=>by cases e<;>first|exact(by obtain⟨x,y,z,u,rfl,h⟩:=(show∃x y z u,a' =f x y z u∧R x y z u w' from hh);exact h2 x y z u w' h)|exact(hh:False).elim) h1
set_option maxRecDepth 100000 in
set_option maxHeartbeats 8000000 in
theorem facts_any(p:List Fnc)(F:Fnc)(A:Option Addr)(cap1 k:Nat)(w1:World)(ht:Tab w1)(hp:ProgAt w1 (.slice A p.length cap1) p)(hk:checkP p=0)(hf:p[k]? =some F):
 Calls Tryd.prog 19 #[.agg #[.slice A p.length cap1], .int .i64 (k:Int)] w1 fun e w' =>FactsRet p F w1.heap.size e w' ∧Below w1.heap.size w1 w' :=by
 have HBU:=Lib.hid (fun(W:World) (h1:Tab W) (h2:ProgAt W (.slice A p.length cap1) p)=>build_all A cap1 k W h1 h2 hk hf)
 have HBK:=Lib.hid (fun(W:World) (h1:Tab W) (h2:ProgAt W (.slice A p.length cap1) p)=>blocks_any p A cap1 k F W h1 h2 hk hf)
 have HT:=Lib.hid ht
 have HCK:=Lib.hid hk
 have HFM:=Lib.hid (gM hf)
 have HRT:=Lib.hid (right_of hk)
 obtain⟨P,hP⟩:∃n:Nat,F.params=n:=⟨F.params.toNat,by have:=((right_of hk).ok.fn F (gM hf)).p1;omega⟩
 have HPP:=Lib.hid hP
 obtain⟨N,hN⟩:∃N,p.length=N:=⟨_,rfl⟩
 rw[hN] at HBU HBK hp⊢
 have HPA:=Lib.hid hp
 have hH1:0<(hdL F).length:=(gI.1 (zero_head HRT.out HFM.out)).1
 obtain⟨H,hH⟩:∃H,(hdL F).length=H:=⟨_,rfl⟩
 have HH:=Lib.hid hH
 rw[hH] at hH1
 clear ht hp hk hf hP hN hH
 go_enter Tryd.func19,Tryd.ntmps19
 have HXA:=Lib.hid ((Below.refl w1.heap.size w1).alloc (Nat.le_refl _) (.cells #[.slice A N cap1] 25))
 go_upto_region 5 with(first|(go_at_call 20;go_must (refine(HBU.out _ (HT.out.keeps HXA.out) (HPA.out.keeps HXA.out)).mono ?_;rintro e w3 ⟨⟨b,c,s,V,O,bs,K,s2,l,rfl,hbb,hsb,hbl⟩,hb⟩;have HBX:=Lib.hid (BuiltX.mk hbl HCK.out HFM.out rfl:BuiltX p F O bs K _ s2 l s);have hbsl:bs.length=H:=(by rw[hbl.bok.len,HH.out]);have HBL:=Lib.hid hbsl;obtain⟨Ap,cp,hvp,-,hpA⟩:=hsb.rowV .parts (n:=H) (by show s.parts.length=H;rw[HBX.out.finP.len,hbsl]);obtain⟨gp,rfl,-,-⟩:=hpA hH1;have HVP:=Lib.hid hvp;obtain⟨vl,hvl⟩:∃v,valN F bs s2 l=v:=⟨_,rfl⟩;have HVL:=Lib.hid hvl;rw[hvp,show((F.params.toNat+(allG {s2 with same:=l} bs.length).length:Nat):Int)=((vl:Nat):Int) from congrArg Int.ofNat hvl,HPP.out];have HB13:=Lib.hid (HXA.out.trans (hb.mono HXA.out.size));have HX1:=Lib.hid ((hb.block w1.heap.size (by simp)).trans (heap_alloc_new w1 _));have HSB:=Lib.hid hsb;have q3:=cell_block HX1.out 0;have z3:=block_lt HX1.out;clear hbb hsb hbl hb hvp hvl hbsl hpA))|(go_at_call 30;go_must (obtain⟨w4,hw4⟩:∃W,w3.alloc (.cells #[.int .i64 (P:Int), .int .i64 (vl:Int), .slice (some ⟨gp,0,none⟩) H cp] 49)=W:=⟨_,rfl⟩;have HB34:Hid (Below w3.heap.size w3 w4):=Lib.hid (hw4▸(Below.refl _ _).alloc (Nat.le_refl _) _);have HXS:Hid (w4.heap[w3.heap.size]? =some (.cells #[.int .i64 (P:Int), .int .i64 (vl:Int), .slice (some ⟨gp,0,none⟩) H cp] 49 (0,0))):=Lib.hid (hw4▸heap_alloc_new _ _);have HB14:=Lib.hid (HB13.out.trans (HB34.out.mono HB13.out.size));rw[hw4];clear hw4 q3 z3;refine(HBK.out w4 (HT.out.keeps HB14.out) (HPA.out.keeps HB14.out)).mono ?_;rintro e w5 ⟨⟨gb,Bb,bs2,rfl,hgb,hBK,hOK⟩,hb⟩;rw[HH.out];have HB45:=Lib.hid hb;have HBLK:=Lib.hid hBK;have HOK:=Lib.hid hOK;clear hgb hBK hOK hb)))
 have hvl2:vl≤10000:=by rw[←HVL.out];exact HBX.out.few.1
 have hHM:H≤40:=by rw[←HBL.out];exact bs_le HCK.out HFM.out HBX.out.b.bok
 have hPv:P≤vl:=by
  have h1:=HBX.out.finP.vals
  rw[HVL.out] at h1
  have h2:=HPP.out
  have h3:F.params.toNat=P:=by rw[h2];rfl
  omega
 have HB15:=Lib.hid (HB14.out.trans (HB45.out.mono HB14.out.size))
 have HB35:=Lib.hid (HB34.out.trans (HB45.out.mono HB34.out.size))
 have HSB5:=Lib.hid (HSB.out.keeps HB35.out)
 have hx5:=(HB45.out.block _ (block_lt HXS.out)).trans HXS.out
 have hmm:= @run_makeMap Tryd.prog
 have hmf:=make_facts vl hvl2
 have hmb:=make_boolR H hHM
 obtain⟨w6,hw6⟩:∃W,w5.drew=W:=⟨_,rfl⟩
 have HB56:Hid (Below w5.heap.size w5 w6):=Lib.hid (hw6▸(Below.refl _ _).drew)
 have KX0:=Lib.hid (fun(W:World) (hb:Below w5.heap.size w5 W)=>(by
  have hx:=(hb.block _ (block_lt hx5)).trans hx5
  exact⟨⟨cell_block hx 0,cell_block hx 1,cell_block hx 2⟩,block_lt hx⟩:(W.cell? ⟨w3.heap.size,0,none⟩=some (.int .i64 (P:Int))∧W.cell? ⟨w3.heap.size,1,none⟩=some (.int .i64 (vl:Int))∧W.cell? ⟨w3.heap.size,2,none⟩=some (.slice (some ⟨gp,0,none⟩) H cp))∧w3.heap.size<W.heap.size))
 have KX:=Lib.hid (fun(W:World) (hb:Below w5.heap.size w5 W)=>(KX0.out W hb).1)
 obtain⟨L7,hL7⟩:∃n,w3.heap.size=n:=⟨_,rfl⟩
 rw[hL7] at KX KX0
 rw[hL7]
 clear hx5 hL7
 apply region_cut4 (R:=fun Lb Lf Lm Le W=>Below w5.heap.size w5 W∧W.heap[Lb]? =some (.cells #[.int .i64 (P:Int), .int .i64 (vl:Int), .slice (some ⟨gp,0,none⟩) H cp, .slice (some ⟨gb,0,none⟩) H H, .slice (some ⟨Lf,0,none⟩) vl vl, .slice (some ⟨Lm,0,none⟩) H H, .map (some Le), .bool false] 118 (0,0))∧W.heap[Lf]? =some (.cells (madeCells #[.int .i64 0, .int .i64 0] (vl*2)) 58 (0,0))∧W.heap[Lm]? =some (.cells (madeCells #[.bool false] H) 4 (0,0))∧W.heap[Le]? =some (.map #[] 0)∧w5.heap.size≤Lb∧w5.heap.size≤Lf∧w5.heap.size≤Lm∧w5.heap.size≤Le)
 case h1=>
  refine wp_region_held_drew (S:=fun W=>W.cell? ⟨L7,0,none⟩=some (.int .i64 (P:Int))∧W.cell? ⟨L7,1,none⟩=some (.int .i64 (vl:Int))∧W.cell? ⟨L7,2,none⟩=some (.slice (some ⟨gp,0,none⟩) H cp)) (by kernel_rfl) (by rw[hw6];exact KX.out _ HB56.out) (fun hHeld=> ?_)
  rw[hw6] at *
  refine wpAnyH_take (i:=0) (v:= .agg #[.int .i64 (P:Int), .int .i64 (vl:Int), .slice (some ⟨gp,0,none⟩) H cp]) rfl (by kernel_rfl) (by kernel_rfl) (by kernel_rfl) (fun _ _ _ h=>h) (Or.inl ⟨by rfl,?_⟩) hHeld ?_
  ·intro w hSw
   obtain⟨p0,p1,p2⟩:=hSw
   simp only[qg]
   go_simp
  simp only[Act.put,qs]
  refine wpAnyH_take (i:=1) (v:= .slice (some ⟨gb,0,none⟩) H H) rfl (by kernel_rfl) (by kernel_rfl) (by kernel_rfl) (fun _ _ _ h=>h) (Or.inl ⟨by rfl,?_⟩) hHeld ?_
  ·intro w hSw
   simp only[qg]
   go_simp
  simp only[Act.put,qs]
  refine wpAnyH_take (i:=2) (v:= .pointer (some ⟨L7,1,none⟩)) rfl (by kernel_rfl) (by kernel_rfl) (by kernel_rfl) (fun _ _ _ h=>h) (Or.inl ⟨by rfl,?_⟩) hHeld ?_
  ·intro w hSw
   simp only[qg]
   go_simp
  simp only[Act.put,qs]
  refine wpAnyH_take (i:=3) (v:= .int .i64 (vl:Int)) rfl (by kernel_rfl) (by kernel_rfl) (by kernel_rfl) (fun _ _ _ h=>h) (Or.inl ⟨by rfl,?_⟩) hHeld ?_
  ·intro w hSw
   obtain⟨p0,p1,p2⟩:=hSw
   simp only[qg]
   go_simp
  simp only[Act.put,qs]
  refine wpAnyH_take (i:=5) (v:= .slice (some ⟨gb,0,none⟩) H H) rfl (by kernel_rfl) (by kernel_rfl) (by kernel_rfl) (fun _ _ _ h=>h) (Or.inl ⟨by rfl,?_⟩) hHeld ?_
  ·intro w hSw
   simp only[qg]
   go_simp
  simp only[Act.put,qs]
  refine wpAnyH_take (i:=6) (v:= .int .i64 (H:Int)) rfl (by kernel_rfl) (by kernel_rfl) (by kernel_rfl) (fun _ _ _ h=>h) (Or.inl ⟨by rfl,?_⟩) hHeld ?_
  ·intro w hSw
   simp only[qg]
   go_simp
  simp only[Act.put,qs]
  refine wpAnyH_ready (rs:=[4,7,8]) (by kernel_rfl) (by simp) ?_
  refine AllReadyH.cons rfl (fun K hK=> ?_) (AllReadyH.cons rfl (fun K hK=> ?_) (AllReadyH.cons rfl (fun K hK=> ?_) (AllReadyH.nil)))
  ·simp only[qg]
   go_simp
   have b1:=(HB56.out).alloc (HB56.out).size (.cells (madeCells #[.int .i64 0, .int .i64 0] (vl*2)) 58)
   have gf1:=heap_alloc_new w6 (.cells (madeCells #[.int .i64 0, .int .i64 0] (vl*2)) 58)
   have zf1:=(HB56.out).size
   refine hK.out _ _ (KX.out _ b1) (fun hHeld=> ?_)
   clear hK K
   generalize(w6.alloc (.cells (madeCells #[.int .i64 0, .int .i64 0] (vl*2)) 58))=x1 at *
   refine wpAnyH_ready (rs:=[7,8]) (by kernel_rfl) (by simp) ?_
   refine AllReadyH.cons rfl (fun K hK=> ?_) (AllReadyH.cons rfl (fun K hK=> ?_) (AllReadyH.nil))
   ·simp only[qg]
    go_simp
    have b2:=(b1).alloc (b1).size (.cells (madeCells #[.bool false] H) 4)
    have gf2:=(Below.heap_alloc _ (.cells (madeCells #[.bool false] H) 4) _ (block_lt gf1)).trans gf1
    have gm2:=heap_alloc_new x1 (.cells (madeCells #[.bool false] H) 4)
    have zm2:=(b1).size
    refine hK.out _ _ (KX.out _ b2) (fun hHeld=> ?_)
    clear hK K
    generalize(x1.alloc (.cells (madeCells #[.bool false] H) 4))=x2 at *
    refine wpAnyH_ready (rs:=[8]) (by kernel_rfl) (by simp) ?_
    refine AllReadyH.cons rfl (fun K hK=> ?_) AllReadyH.nil
    simp only[qg]
    go_simp
    have b3:=(b2).alloc (b2).size (.map #[] 0)
    have gf3:=(Below.heap_alloc _ (.map #[] 0) _ (block_lt gf2)).trans gf2
    have gm3:=(Below.heap_alloc _ (.map #[] 0) _ (block_lt gm2)).trans gm2
    have ge3:=heap_alloc_new x2 (.map #[] 0)
    have ze3:=(b2).size
    refine hK.out _ _ (KX.out _ b3) (fun hHeld=> ?_)
    clear hK K
    generalize(x2.alloc (.map #[] 0))=x3 at *
    refine wpAnyH_ready (rs:=[9]) (by kernel_rfl) (by simp) ?_
    refine AllReadyH.cons rfl (fun K hK=> ?_) AllReadyH.nil
    simp only[qg]
    go_simp
    refine hK.out _ _ hHeld (fun hHeld=> ?_)
    clear hK K
    refine wpAnyH_ready (rs:=[10]) (by kernel_rfl) (by simp) ?_
    refine AllReadyH.cons rfl (fun K hK=> ?_) AllReadyH.nil
    simp only[qg]
    go_simp
    have b4:=(b3).alloc (b3).size (.cells #[.int .i64 (P:Int), .int .i64 (vl:Int), .slice (some ⟨gp,0,none⟩) H cp, .slice (some ⟨gb,0,none⟩) H H, .slice (some ⟨w6.heap.size,0,none⟩) vl vl, .slice (some ⟨x1.heap.size,0,none⟩) H H, .map (some (x2.heap.size)), .bool false] 118)
    have gf4:=(Below.heap_alloc _ (.cells #[.int .i64 (P:Int), .int .i64 (vl:Int), .slice (some ⟨gp,0,none⟩) H cp, .slice (some ⟨gb,0,none⟩) H H, .slice (some ⟨w6.heap.size,0,none⟩) vl vl, .slice (some ⟨x1.heap.size,0,none⟩) H H, .map (some (x2.heap.size)), .bool false] 118) _ (block_lt gf3)).trans gf3
    have gm4:=(Below.heap_alloc _ (.cells #[.int .i64 (P:Int), .int .i64 (vl:Int), .slice (some ⟨gp,0,none⟩) H cp, .slice (some ⟨gb,0,none⟩) H H, .slice (some ⟨w6.heap.size,0,none⟩) vl vl, .slice (some ⟨x1.heap.size,0,none⟩) H H, .map (some (x2.heap.size)), .bool false] 118) _ (block_lt gm3)).trans gm3
    have ge4:=(Below.heap_alloc _ (.cells #[.int .i64 (P:Int), .int .i64 (vl:Int), .slice (some ⟨gp,0,none⟩) H cp, .slice (some ⟨gb,0,none⟩) H H, .slice (some ⟨w6.heap.size,0,none⟩) vl vl, .slice (some ⟨x1.heap.size,0,none⟩) H H, .map (some (x2.heap.size)), .bool false] 118) _ (block_lt ge3)).trans ge3
    have gb4:=heap_alloc_new x3 (.cells #[.int .i64 (P:Int), .int .i64 (vl:Int), .slice (some ⟨gp,0,none⟩) H cp, .slice (some ⟨gb,0,none⟩) H H, .slice (some ⟨w6.heap.size,0,none⟩) vl vl, .slice (some ⟨x1.heap.size,0,none⟩) H H, .map (some (x2.heap.size)), .bool false] 118)
    have zb4:=(b3).size
    refine hK.out _ _ (KX.out _ b4) (fun hHeld=> ?_)
    clear hK K
    generalize(x3.alloc (.cells #[.int .i64 (P:Int), .int .i64 (vl:Int), .slice (some ⟨gp,0,none⟩) H cp, .slice (some ⟨gb,0,none⟩) H H, .slice (some ⟨w6.heap.size,0,none⟩) vl vl, .slice (some ⟨x1.heap.size,0,none⟩) H H, .map (some (x2.heap.size)), .bool false] 118))=x4 at *
    refine wpAnyH_ready (rs:=[11]) (by kernel_rfl) (by simp) ?_
    refine AllReadyH.cons rfl (fun K hK=> ?_) AllReadyH.nil
    simp only[qg]
    go_simp
    refine hK.out _ _ hHeld (fun hHeld=> ?_)
    clear hK K
    clear hHeld
    refine wpAnyH_done (by kernel_rfl) ?_ _
    generalize x3.heap.size=Lb at *
    generalize w6.heap.size=Lf at *
    generalize x1.heap.size=Lm at *
    generalize x2.heap.size=Le at *
    exact⟨_,_,_,_,rfl,b4,gb4,gf4,gm4,ge4,zb4,zf1,zm2,ze3⟩
   ·simp only[qg]
    go_simp
    have b5:=(b1).alloc (b1).size (.map #[] 0)
    have gf5:=(Below.heap_alloc _ (.map #[] 0) _ (block_lt gf1)).trans gf1
    have ge5:=heap_alloc_new x1 (.map #[] 0)
    have ze5:=(b1).size
    refine hK.out _ _ (KX.out _ b5) (fun hHeld=> ?_)
    clear hK K
    generalize(x1.alloc (.map #[] 0))=x5 at *
    refine wpAnyH_ready (rs:=[7]) (by kernel_rfl) (by simp) ?_
    refine AllReadyH.cons rfl (fun K hK=> ?_) AllReadyH.nil
    simp only[qg]
    go_simp
    have b6:=(b5).alloc (b5).size (.cells (madeCells #[.bool false] H) 4)
    have gf6:=(Below.heap_alloc _ (.cells (madeCells #[.bool false] H) 4) _ (block_lt gf5)).trans gf5
    have ge6:=(Below.heap_alloc _ (.cells (madeCells #[.bool false] H) 4) _ (block_lt ge5)).trans ge5
    have gm6:=heap_alloc_new x5 (.cells (madeCells #[.bool false] H) 4)
    have zm6:=(b5).size
    refine hK.out _ _ (KX.out _ b6) (fun hHeld=> ?_)
    clear hK K
    generalize(x5.alloc (.cells (madeCells #[.bool false] H) 4))=x6 at *
    refine wpAnyH_ready (rs:=[9]) (by kernel_rfl) (by simp) ?_
    refine AllReadyH.cons rfl (fun K hK=> ?_) AllReadyH.nil
    simp only[qg]
    go_simp
    refine hK.out _ _ hHeld (fun hHeld=> ?_)
    clear hK K
    refine wpAnyH_ready (rs:=[10]) (by kernel_rfl) (by simp) ?_
    refine AllReadyH.cons rfl (fun K hK=> ?_) AllReadyH.nil
    simp only[qg]
    go_simp
    have b7:=(b6).alloc (b6).size (.cells #[.int .i64 (P:Int), .int .i64 (vl:Int), .slice (some ⟨gp,0,none⟩) H cp, .slice (some ⟨gb,0,none⟩) H H, .slice (some ⟨w6.heap.size,0,none⟩) vl vl, .slice (some ⟨x5.heap.size,0,none⟩) H H, .map (some (x1.heap.size)), .bool false] 118)
    have gf7:=(Below.heap_alloc _ (.cells #[.int .i64 (P:Int), .int .i64 (vl:Int), .slice (some ⟨gp,0,none⟩) H cp, .slice (some ⟨gb,0,none⟩) H H, .slice (some ⟨w6.heap.size,0,none⟩) vl vl, .slice (some ⟨x5.heap.size,0,none⟩) H H, .map (some (x1.heap.size)), .bool false] 118) _ (block_lt gf6)).trans gf6
    have gm7:=(Below.heap_alloc _ (.cells #[.int .i64 (P:Int), .int .i64 (vl:Int), .slice (some ⟨gp,0,none⟩) H cp, .slice (some ⟨gb,0,none⟩) H H, .slice (some ⟨w6.heap.size,0,none⟩) vl vl, .slice (some ⟨x5.heap.size,0,none⟩) H H, .map (some (x1.heap.size)), .bool false] 118) _ (block_lt gm6)).trans gm6
    have ge7:=(Below.heap_alloc _ (.cells #[.int .i64 (P:Int), .int .i64 (vl:Int), .slice (some ⟨gp,0,none⟩) H cp, .slice (some ⟨gb,0,none⟩) H H, .slice (some ⟨w6.heap.size,0,none⟩) vl vl, .slice (some ⟨x5.heap.size,0,none⟩) H H, .map (some (x1.heap.size)), .bool false] 118) _ (block_lt ge6)).trans ge6
    have gb7:=heap_alloc_new x6 (.cells #[.int .i64 (P:Int), .int .i64 (vl:Int), .slice (some ⟨gp,0,none⟩) H cp, .slice (some ⟨gb,0,none⟩) H H, .slice (some ⟨w6.heap.size,0,none⟩) vl vl, .slice (some ⟨x5.heap.size,0,none⟩) H H, .map (some (x1.heap.size)), .bool false] 118)
    have zb7:=(b6).size
    refine hK.out _ _ (KX.out _ b7) (fun hHeld=> ?_)
    clear hK K
    generalize(x6.alloc (.cells #[.int .i64 (P:Int), .int .i64 (vl:Int), .slice (some ⟨gp,0,none⟩) H cp, .slice (some ⟨gb,0,none⟩) H H, .slice (some ⟨w6.heap.size,0,none⟩) vl vl, .slice (some ⟨x5.heap.size,0,none⟩) H H, .map (some (x1.heap.size)), .bool false] 118))=x7 at *
    refine wpAnyH_ready (rs:=[11]) (by kernel_rfl) (by simp) ?_
    refine AllReadyH.cons rfl (fun K hK=> ?_) AllReadyH.nil
    simp only[qg]
    go_simp
    refine hK.out _ _ hHeld (fun hHeld=> ?_)
    clear hK K
    clear hHeld
    refine wpAnyH_done (by kernel_rfl) ?_ _
    generalize x6.heap.size=Lb at *
    generalize w6.heap.size=Lf at *
    generalize x5.heap.size=Lm at *
    generalize x1.heap.size=Le at *
    exact⟨_,_,_,_,rfl,b7,gb7,gf7,gm7,ge7,zb7,zf1,zm6,ze5⟩
  ·simp only[qg]
   go_simp
   have b8:=(HB56.out).alloc (HB56.out).size (.cells (madeCells #[.bool false] H) 4)
   have gm8:=heap_alloc_new w6 (.cells (madeCells #[.bool false] H) 4)
   have zm8:=(HB56.out).size
   refine hK.out _ _ (KX.out _ b8) (fun hHeld=> ?_)
   clear hK K
   generalize(w6.alloc (.cells (madeCells #[.bool false] H) 4))=x8 at *
   refine wpAnyH_ready (rs:=[4,8]) (by kernel_rfl) (by simp) ?_
   refine AllReadyH.cons rfl (fun K hK=> ?_) (AllReadyH.cons rfl (fun K hK=> ?_) (AllReadyH.nil))
   ·simp only[qg]
    go_simp
    have b9:=(b8).alloc (b8).size (.cells (madeCells #[.int .i64 0, .int .i64 0] (vl*2)) 58)
    have gm9:=(Below.heap_alloc _ (.cells (madeCells #[.int .i64 0, .int .i64 0] (vl*2)) 58) _ (block_lt gm8)).trans gm8
    have gf9:=heap_alloc_new x8 (.cells (madeCells #[.int .i64 0, .int .i64 0] (vl*2)) 58)
    have zf9:=(b8).size
    refine hK.out _ _ (KX.out _ b9) (fun hHeld=> ?_)
    clear hK K
    generalize(x8.alloc (.cells (madeCells #[.int .i64 0, .int .i64 0] (vl*2)) 58))=x9 at *
    refine wpAnyH_ready (rs:=[8]) (by kernel_rfl) (by simp) ?_
    refine AllReadyH.cons rfl (fun K hK=> ?_) AllReadyH.nil
    simp only[qg]
    go_simp
    have b10:=(b9).alloc (b9).size (.map #[] 0)
    have gf10:=(Below.heap_alloc _ (.map #[] 0) _ (block_lt gf9)).trans gf9
    have gm10:=(Below.heap_alloc _ (.map #[] 0) _ (block_lt gm9)).trans gm9
    have ge10:=heap_alloc_new x9 (.map #[] 0)
    have ze10:=(b9).size
    refine hK.out _ _ (KX.out _ b10) (fun hHeld=> ?_)
    clear hK K
    generalize(x9.alloc (.map #[] 0))=x10 at *
    refine wpAnyH_ready (rs:=[9]) (by kernel_rfl) (by simp) ?_
    refine AllReadyH.cons rfl (fun K hK=> ?_) AllReadyH.nil
    simp only[qg]
    go_simp
    refine hK.out _ _ hHeld (fun hHeld=> ?_)
    clear hK K
    refine wpAnyH_ready (rs:=[10]) (by kernel_rfl) (by simp) ?_
    refine AllReadyH.cons rfl (fun K hK=> ?_) AllReadyH.nil
    simp only[qg]
    go_simp
    have b11:=(b10).alloc (b10).size (.cells #[.int .i64 (P:Int), .int .i64 (vl:Int), .slice (some ⟨gp,0,none⟩) H cp, .slice (some ⟨gb,0,none⟩) H H, .slice (some ⟨x8.heap.size,0,none⟩) vl vl, .slice (some ⟨w6.heap.size,0,none⟩) H H, .map (some (x9.heap.size)), .bool false] 118)
    have gf11:=(Below.heap_alloc _ (.cells #[.int .i64 (P:Int), .int .i64 (vl:Int), .slice (some ⟨gp,0,none⟩) H cp, .slice (some ⟨gb,0,none⟩) H H, .slice (some ⟨x8.heap.size,0,none⟩) vl vl, .slice (some ⟨w6.heap.size,0,none⟩) H H, .map (some (x9.heap.size)), .bool false] 118) _ (block_lt gf10)).trans gf10
    have gm11:=(Below.heap_alloc _ (.cells #[.int .i64 (P:Int), .int .i64 (vl:Int), .slice (some ⟨gp,0,none⟩) H cp, .slice (some ⟨gb,0,none⟩) H H, .slice (some ⟨x8.heap.size,0,none⟩) vl vl, .slice (some ⟨w6.heap.size,0,none⟩) H H, .map (some (x9.heap.size)), .bool false] 118) _ (block_lt gm10)).trans gm10
    have ge11:=(Below.heap_alloc _ (.cells #[.int .i64 (P:Int), .int .i64 (vl:Int), .slice (some ⟨gp,0,none⟩) H cp, .slice (some ⟨gb,0,none⟩) H H, .slice (some ⟨x8.heap.size,0,none⟩) vl vl, .slice (some ⟨w6.heap.size,0,none⟩) H H, .map (some (x9.heap.size)), .bool false] 118) _ (block_lt ge10)).trans ge10
    have gb11:=heap_alloc_new x10 (.cells #[.int .i64 (P:Int), .int .i64 (vl:Int), .slice (some ⟨gp,0,none⟩) H cp, .slice (some ⟨gb,0,none⟩) H H, .slice (some ⟨x8.heap.size,0,none⟩) vl vl, .slice (some ⟨w6.heap.size,0,none⟩) H H, .map (some (x9.heap.size)), .bool false] 118)
    have zb11:=(b10).size
    refine hK.out _ _ (KX.out _ b11) (fun hHeld=> ?_)
    clear hK K
    generalize(x10.alloc (.cells #[.int .i64 (P:Int), .int .i64 (vl:Int), .slice (some ⟨gp,0,none⟩) H cp, .slice (some ⟨gb,0,none⟩) H H, .slice (some ⟨x8.heap.size,0,none⟩) vl vl, .slice (some ⟨w6.heap.size,0,none⟩) H H, .map (some (x9.heap.size)), .bool false] 118))=x11 at *
    refine wpAnyH_ready (rs:=[11]) (by kernel_rfl) (by simp) ?_
    refine AllReadyH.cons rfl (fun K hK=> ?_) AllReadyH.nil
    simp only[qg]
    go_simp
    refine hK.out _ _ hHeld (fun hHeld=> ?_)
    clear hK K
    clear hHeld
    refine wpAnyH_done (by kernel_rfl) ?_ _
    generalize x10.heap.size=Lb at *
    generalize x8.heap.size=Lf at *
    generalize w6.heap.size=Lm at *
    generalize x9.heap.size=Le at *
    exact⟨_,_,_,_,rfl,b11,gb11,gf11,gm11,ge11,zb11,zf9,zm8,ze10⟩
   ·simp only[qg]
    go_simp
    have b12:=(b8).alloc (b8).size (.map #[] 0)
    have gm12:=(Below.heap_alloc _ (.map #[] 0) _ (block_lt gm8)).trans gm8
    have ge12:=heap_alloc_new x8 (.map #[] 0)
    have ze12:=(b8).size
    refine hK.out _ _ (KX.out _ b12) (fun hHeld=> ?_)
    clear hK K
    generalize(x8.alloc (.map #[] 0))=x12 at *
    refine wpAnyH_ready (rs:=[4]) (by kernel_rfl) (by simp) ?_
    refine AllReadyH.cons rfl (fun K hK=> ?_) AllReadyH.nil
    simp only[qg]
    go_simp
    have b13:=(b12).alloc (b12).size (.cells (madeCells #[.int .i64 0, .int .i64 0] (vl*2)) 58)
    have gm13:=(Below.heap_alloc _ (.cells (madeCells #[.int .i64 0, .int .i64 0] (vl*2)) 58) _ (block_lt gm12)).trans gm12
    have ge13:=(Below.heap_alloc _ (.cells (madeCells #[.int .i64 0, .int .i64 0] (vl*2)) 58) _ (block_lt ge12)).trans ge12
    have gf13:=heap_alloc_new x12 (.cells (madeCells #[.int .i64 0, .int .i64 0] (vl*2)) 58)
    have zf13:=(b12).size
    refine hK.out _ _ (KX.out _ b13) (fun hHeld=> ?_)
    clear hK K
    generalize(x12.alloc (.cells (madeCells #[.int .i64 0, .int .i64 0] (vl*2)) 58))=x13 at *
    refine wpAnyH_ready (rs:=[9]) (by kernel_rfl) (by simp) ?_
    refine AllReadyH.cons rfl (fun K hK=> ?_) AllReadyH.nil
    simp only[qg]
    go_simp
    refine hK.out _ _ hHeld (fun hHeld=> ?_)
    clear hK K
    refine wpAnyH_ready (rs:=[10]) (by kernel_rfl) (by simp) ?_
    refine AllReadyH.cons rfl (fun K hK=> ?_) AllReadyH.nil
    simp only[qg]
    go_simp
    have b14:=(b13).alloc (b13).size (.cells #[.int .i64 (P:Int), .int .i64 (vl:Int), .slice (some ⟨gp,0,none⟩) H cp, .slice (some ⟨gb,0,none⟩) H H, .slice (some ⟨x12.heap.size,0,none⟩) vl vl, .slice (some ⟨w6.heap.size,0,none⟩) H H, .map (some (x8.heap.size)), .bool false] 118)
    have gf14:=(Below.heap_alloc _ (.cells #[.int .i64 (P:Int), .int .i64 (vl:Int), .slice (some ⟨gp,0,none⟩) H cp, .slice (some ⟨gb,0,none⟩) H H, .slice (some ⟨x12.heap.size,0,none⟩) vl vl, .slice (some ⟨w6.heap.size,0,none⟩) H H, .map (some (x8.heap.size)), .bool false] 118) _ (block_lt gf13)).trans gf13
    have gm14:=(Below.heap_alloc _ (.cells #[.int .i64 (P:Int), .int .i64 (vl:Int), .slice (some ⟨gp,0,none⟩) H cp, .slice (some ⟨gb,0,none⟩) H H, .slice (some ⟨x12.heap.size,0,none⟩) vl vl, .slice (some ⟨w6.heap.size,0,none⟩) H H, .map (some (x8.heap.size)), .bool false] 118) _ (block_lt gm13)).trans gm13
    have ge14:=(Below.heap_alloc _ (.cells #[.int .i64 (P:Int), .int .i64 (vl:Int), .slice (some ⟨gp,0,none⟩) H cp, .slice (some ⟨gb,0,none⟩) H H, .slice (some ⟨x12.heap.size,0,none⟩) vl vl, .slice (some ⟨w6.heap.size,0,none⟩) H H, .map (some (x8.heap.size)), .bool false] 118) _ (block_lt ge13)).trans ge13
    have gb14:=heap_alloc_new x13 (.cells #[.int .i64 (P:Int), .int .i64 (vl:Int), .slice (some ⟨gp,0,none⟩) H cp, .slice (some ⟨gb,0,none⟩) H H, .slice (some ⟨x12.heap.size,0,none⟩) vl vl, .slice (some ⟨w6.heap.size,0,none⟩) H H, .map (some (x8.heap.size)), .bool false] 118)
    have zb14:=(b13).size
    refine hK.out _ _ (KX.out _ b14) (fun hHeld=> ?_)
    clear hK K
    generalize(x13.alloc (.cells #[.int .i64 (P:Int), .int .i64 (vl:Int), .slice (some ⟨gp,0,none⟩) H cp, .slice (some ⟨gb,0,none⟩) H H, .slice (some ⟨x12.heap.size,0,none⟩) vl vl, .slice (some ⟨w6.heap.size,0,none⟩) H H, .map (some (x8.heap.size)), .bool false] 118))=x14 at *
    refine wpAnyH_ready (rs:=[11]) (by kernel_rfl) (by simp) ?_
    refine AllReadyH.cons rfl (fun K hK=> ?_) AllReadyH.nil
    simp only[qg]
    go_simp
    refine hK.out _ _ hHeld (fun hHeld=> ?_)
    clear hK K
    clear hHeld
    refine wpAnyH_done (by kernel_rfl) ?_ _
    generalize x13.heap.size=Lb at *
    generalize x12.heap.size=Lf at *
    generalize w6.heap.size=Lm at *
    generalize x8.heap.size=Le at *
    exact⟨_,_,_,_,rfl,b14,gb14,gf14,gm14,ge14,zb14,zf13,zm8,ze12⟩
  ·simp only[qg]
   go_simp
   have b15:=(HB56.out).alloc (HB56.out).size (.map #[] 0)
   have ge15:=heap_alloc_new w6 (.map #[] 0)
   have ze15:=(HB56.out).size
   refine hK.out _ _ (KX.out _ b15) (fun hHeld=> ?_)
   clear hK K
   generalize(w6.alloc (.map #[] 0))=x15 at *
   refine wpAnyH_ready (rs:=[4,7]) (by kernel_rfl) (by simp) ?_
   refine AllReadyH.cons rfl (fun K hK=> ?_) (AllReadyH.cons rfl (fun K hK=> ?_) (AllReadyH.nil))
   ·simp only[qg]
    go_simp
    have b16:=(b15).alloc (b15).size (.cells (madeCells #[.int .i64 0, .int .i64 0] (vl*2)) 58)
    have ge16:=(Below.heap_alloc _ (.cells (madeCells #[.int .i64 0, .int .i64 0] (vl*2)) 58) _ (block_lt ge15)).trans ge15
    have gf16:=heap_alloc_new x15 (.cells (madeCells #[.int .i64 0, .int .i64 0] (vl*2)) 58)
    have zf16:=(b15).size
    refine hK.out _ _ (KX.out _ b16) (fun hHeld=> ?_)
    clear hK K
    generalize(x15.alloc (.cells (madeCells #[.int .i64 0, .int .i64 0] (vl*2)) 58))=x16 at *
    refine wpAnyH_ready (rs:=[7]) (by kernel_rfl) (by simp) ?_
    refine AllReadyH.cons rfl (fun K hK=> ?_) AllReadyH.nil
    simp only[qg]
    go_simp
    have b17:=(b16).alloc (b16).size (.cells (madeCells #[.bool false] H) 4)
    have gf17:=(Below.heap_alloc _ (.cells (madeCells #[.bool false] H) 4) _ (block_lt gf16)).trans gf16
    have ge17:=(Below.heap_alloc _ (.cells (madeCells #[.bool false] H) 4) _ (block_lt ge16)).trans ge16
    have gm17:=heap_alloc_new x16 (.cells (madeCells #[.bool false] H) 4)
    have zm17:=(b16).size
    refine hK.out _ _ (KX.out _ b17) (fun hHeld=> ?_)
    clear hK K
    generalize(x16.alloc (.cells (madeCells #[.bool false] H) 4))=x17 at *
    refine wpAnyH_ready (rs:=[9]) (by kernel_rfl) (by simp) ?_
    refine AllReadyH.cons rfl (fun K hK=> ?_) AllReadyH.nil
    simp only[qg]
    go_simp
    refine hK.out _ _ hHeld (fun hHeld=> ?_)
    clear hK K
    refine wpAnyH_ready (rs:=[10]) (by kernel_rfl) (by simp) ?_
    refine AllReadyH.cons rfl (fun K hK=> ?_) AllReadyH.nil
    simp only[qg]
    go_simp
    have b18:=(b17).alloc (b17).size (.cells #[.int .i64 (P:Int), .int .i64 (vl:Int), .slice (some ⟨gp,0,none⟩) H cp, .slice (some ⟨gb,0,none⟩) H H, .slice (some ⟨x15.heap.size,0,none⟩) vl vl, .slice (some ⟨x16.heap.size,0,none⟩) H H, .map (some (w6.heap.size)), .bool false] 118)
    have gf18:=(Below.heap_alloc _ (.cells #[.int .i64 (P:Int), .int .i64 (vl:Int), .slice (some ⟨gp,0,none⟩) H cp, .slice (some ⟨gb,0,none⟩) H H, .slice (some ⟨x15.heap.size,0,none⟩) vl vl, .slice (some ⟨x16.heap.size,0,none⟩) H H, .map (some (w6.heap.size)), .bool false] 118) _ (block_lt gf17)).trans gf17
    have gm18:=(Below.heap_alloc _ (.cells #[.int .i64 (P:Int), .int .i64 (vl:Int), .slice (some ⟨gp,0,none⟩) H cp, .slice (some ⟨gb,0,none⟩) H H, .slice (some ⟨x15.heap.size,0,none⟩) vl vl, .slice (some ⟨x16.heap.size,0,none⟩) H H, .map (some (w6.heap.size)), .bool false] 118) _ (block_lt gm17)).trans gm17
    have ge18:=(Below.heap_alloc _ (.cells #[.int .i64 (P:Int), .int .i64 (vl:Int), .slice (some ⟨gp,0,none⟩) H cp, .slice (some ⟨gb,0,none⟩) H H, .slice (some ⟨x15.heap.size,0,none⟩) vl vl, .slice (some ⟨x16.heap.size,0,none⟩) H H, .map (some (w6.heap.size)), .bool false] 118) _ (block_lt ge17)).trans ge17
    have gb18:=heap_alloc_new x17 (.cells #[.int .i64 (P:Int), .int .i64 (vl:Int), .slice (some ⟨gp,0,none⟩) H cp, .slice (some ⟨gb,0,none⟩) H H, .slice (some ⟨x15.heap.size,0,none⟩) vl vl, .slice (some ⟨x16.heap.size,0,none⟩) H H, .map (some (w6.heap.size)), .bool false] 118)
    have zb18:=(b17).size
    refine hK.out _ _ (KX.out _ b18) (fun hHeld=> ?_)
    clear hK K
    generalize(x17.alloc (.cells #[.int .i64 (P:Int), .int .i64 (vl:Int), .slice (some ⟨gp,0,none⟩) H cp, .slice (some ⟨gb,0,none⟩) H H, .slice (some ⟨x15.heap.size,0,none⟩) vl vl, .slice (some ⟨x16.heap.size,0,none⟩) H H, .map (some (w6.heap.size)), .bool false] 118))=x18 at *
    refine wpAnyH_ready (rs:=[11]) (by kernel_rfl) (by simp) ?_
    refine AllReadyH.cons rfl (fun K hK=> ?_) AllReadyH.nil
    simp only[qg]
    go_simp
    refine hK.out _ _ hHeld (fun hHeld=> ?_)
    clear hK K
    clear hHeld
    refine wpAnyH_done (by kernel_rfl) ?_ _
    generalize x17.heap.size=Lb at *
    generalize x15.heap.size=Lf at *
    generalize x16.heap.size=Lm at *
    generalize w6.heap.size=Le at *
    exact⟨_,_,_,_,rfl,b18,gb18,gf18,gm18,ge18,zb18,zf16,zm17,ze15⟩
   ·simp only[qg]
    go_simp
    have b19:=(b15).alloc (b15).size (.cells (madeCells #[.bool false] H) 4)
    have ge19:=(Below.heap_alloc _ (.cells (madeCells #[.bool false] H) 4) _ (block_lt ge15)).trans ge15
    have gm19:=heap_alloc_new x15 (.cells (madeCells #[.bool false] H) 4)
    have zm19:=(b15).size
    refine hK.out _ _ (KX.out _ b19) (fun hHeld=> ?_)
    clear hK K
    generalize(x15.alloc (.cells (madeCells #[.bool false] H) 4))=x19 at *
    refine wpAnyH_ready (rs:=[4]) (by kernel_rfl) (by simp) ?_
    refine AllReadyH.cons rfl (fun K hK=> ?_) AllReadyH.nil
    simp only[qg]
    go_simp
    have b20:=(b19).alloc (b19).size (.cells (madeCells #[.int .i64 0, .int .i64 0] (vl*2)) 58)
    have gm20:=(Below.heap_alloc _ (.cells (madeCells #[.int .i64 0, .int .i64 0] (vl*2)) 58) _ (block_lt gm19)).trans gm19
    have ge20:=(Below.heap_alloc _ (.cells (madeCells #[.int .i64 0, .int .i64 0] (vl*2)) 58) _ (block_lt ge19)).trans ge19
    have gf20:=heap_alloc_new x19 (.cells (madeCells #[.int .i64 0, .int .i64 0] (vl*2)) 58)
    have zf20:=(b19).size
    refine hK.out _ _ (KX.out _ b20) (fun hHeld=> ?_)
    clear hK K
    generalize(x19.alloc (.cells (madeCells #[.int .i64 0, .int .i64 0] (vl*2)) 58))=x20 at *
    refine wpAnyH_ready (rs:=[9]) (by kernel_rfl) (by simp) ?_
    refine AllReadyH.cons rfl (fun K hK=> ?_) AllReadyH.nil
    simp only[qg]
    go_simp
    refine hK.out _ _ hHeld (fun hHeld=> ?_)
    clear hK K
    refine wpAnyH_ready (rs:=[10]) (by kernel_rfl) (by simp) ?_
    refine AllReadyH.cons rfl (fun K hK=> ?_) AllReadyH.nil
    simp only[qg]
    go_simp
    have b21:=(b20).alloc (b20).size (.cells #[.int .i64 (P:Int), .int .i64 (vl:Int), .slice (some ⟨gp,0,none⟩) H cp, .slice (some ⟨gb,0,none⟩) H H, .slice (some ⟨x19.heap.size,0,none⟩) vl vl, .slice (some ⟨x15.heap.size,0,none⟩) H H, .map (some (w6.heap.size)), .bool false] 118)
    have gf21:=(Below.heap_alloc _ (.cells #[.int .i64 (P:Int), .int .i64 (vl:Int), .slice (some ⟨gp,0,none⟩) H cp, .slice (some ⟨gb,0,none⟩) H H, .slice (some ⟨x19.heap.size,0,none⟩) vl vl, .slice (some ⟨x15.heap.size,0,none⟩) H H, .map (some (w6.heap.size)), .bool false] 118) _ (block_lt gf20)).trans gf20
    have gm21:=(Below.heap_alloc _ (.cells #[.int .i64 (P:Int), .int .i64 (vl:Int), .slice (some ⟨gp,0,none⟩) H cp, .slice (some ⟨gb,0,none⟩) H H, .slice (some ⟨x19.heap.size,0,none⟩) vl vl, .slice (some ⟨x15.heap.size,0,none⟩) H H, .map (some (w6.heap.size)), .bool false] 118) _ (block_lt gm20)).trans gm20
    have ge21:=(Below.heap_alloc _ (.cells #[.int .i64 (P:Int), .int .i64 (vl:Int), .slice (some ⟨gp,0,none⟩) H cp, .slice (some ⟨gb,0,none⟩) H H, .slice (some ⟨x19.heap.size,0,none⟩) vl vl, .slice (some ⟨x15.heap.size,0,none⟩) H H, .map (some (w6.heap.size)), .bool false] 118) _ (block_lt ge20)).trans ge20
    have gb21:=heap_alloc_new x20 (.cells #[.int .i64 (P:Int), .int .i64 (vl:Int), .slice (some ⟨gp,0,none⟩) H cp, .slice (some ⟨gb,0,none⟩) H H, .slice (some ⟨x19.heap.size,0,none⟩) vl vl, .slice (some ⟨x15.heap.size,0,none⟩) H H, .map (some (w6.heap.size)), .bool false] 118)
    have zb21:=(b20).size
    refine hK.out _ _ (KX.out _ b21) (fun hHeld=> ?_)
    clear hK K
    generalize(x20.alloc (.cells #[.int .i64 (P:Int), .int .i64 (vl:Int), .slice (some ⟨gp,0,none⟩) H cp, .slice (some ⟨gb,0,none⟩) H H, .slice (some ⟨x19.heap.size,0,none⟩) vl vl, .slice (some ⟨x15.heap.size,0,none⟩) H H, .map (some (w6.heap.size)), .bool false] 118))=x21 at *
    refine wpAnyH_ready (rs:=[11]) (by kernel_rfl) (by simp) ?_
    refine AllReadyH.cons rfl (fun K hK=> ?_) AllReadyH.nil
    simp only[qg]
    go_simp
    refine hK.out _ _ hHeld (fun hHeld=> ?_)
    clear hK K
    clear hHeld
    refine wpAnyH_done (by kernel_rfl) ?_ _
    generalize x20.heap.size=Lb at *
    generalize x19.heap.size=Lf at *
    generalize x15.heap.size=Lm at *
    generalize w6.heap.size=Le at *
    exact⟨_,_,_,_,rfl,b21,gb21,gf21,gm21,ge21,zb21,zf20,zm19,ze15⟩
 case h2=>
  rintro b6 gf gm ge w7 ⟨hb,h1,h2,h3,h4,z1,z2,z3,z4⟩
  obtain⟨h,hh⟩:∃h:SH,h=⟨.int .i64 (P:Int), .int .i64 (vl:Int), .slice (some ⟨gp,0,none⟩) H cp, .slice (some ⟨gb,0,none⟩) H H,gf,gm,ge,vl,H⟩:=⟨_,rfl⟩
  have hs0:SolAt w7 b6 h 0 (begF 0 vl H):=by
   subst hh
   exact SolAt.start rfl rfl h1 h2 h3 (EdAt.raw h4)
  have HS0:=Lib.hid hs0
  have HB17:=Lib.hid (HB15.out.trans (hb.mono HB15.out.size))
  have HB57:=Lib.hid hb
  have HFR:=Lib.hid (fun(W:World) (hf:FrV w7 b6 h W)=>(by
   have e1:=HB15.out.size
   have e2:=HB56.out.size
   have e3:=hb.size
   exact HB17.out.trans (hf.below (by omega) (by omega) (by rw[hh];show _≤gf;omega) (by rw[hh];show _≤gm;omega) (by rw[hh];show _≤ge;omega)):Below w1.heap.size w1 W))
  have HBF:=Lib.hid (show w1.heap.size≤gf∧w1.heap.size≤gm by have e1:=HB15.out.size;have e2:=HB56.out.size;omega)
  have HSB7:=Lib.hid (HSB5.out.keeps HB57.out)
  have HBL7:=Lib.hid (HBLK.out.keeps HB57.out)
  have hx7:=(KX0.out w7 hb).1.1
  have zx7:=(KX0.out w7 hb).2
  have KS:=Lib.hid (fun(W:World) (ne:Nat) (x:SV) (hy:SolAt W b6 h ne x)=>(by
   have q4:W.cell? ⟨b6,4,none⟩=some (.slice (some ⟨h.gf,0,none⟩) h.n h.n):=(SolAt.cell hy 4).trans rfl
   have q5:W.cell? ⟨b6,5,none⟩=some (.slice (some ⟨h.gm,0,none⟩) h.H h.H):=(SolAt.cell hy 5).trans rfl
   have q7:W.cell? ⟨b6,7,none⟩=some (.bool x.dirty):=(SolAt.cell hy 7).trans rfl
   obtain⟨y1,y2,y3,-⟩:=hy.lt
   rw[hh] at q4 q5 y2 y3
   exact⟨q4,q5,q7,hy.frozen 7,y1,y2,y3⟩:W.cell? ⟨b6,4,none⟩=some (.slice (some ⟨gf,0,none⟩) vl vl)∧W.cell? ⟨b6,5,none⟩=some (.slice (some ⟨gm,0,none⟩) H H)∧W.cell? ⟨b6,7,none⟩=some (.bool x.dirty)∧W.frozen? ⟨b6,7,none⟩=false∧b6<W.heap.size∧gf<W.heap.size∧gm<W.heap.size))
  have HTQ:=Lib.hid (fun(W:World) (ne:Nat) (x:SV) (hW:SolAt W b6 h ne x) (i:Nat) (hi:i<vl)=>(by
   have hf:=hW.facts
   rw[hh] at hf
   refine there_mid hf ?_
   have e:(factCells x.F).toArray.size=vl*2:=by rw[List.size_toArray,factCells_len,hW.fl,hh]
   rw[e]
   show i*2+2≤vl*2
   omega:W.there gf (i*2) 2))
  have HPAR:=Lib.hid (fun(W:World) (q:Nat) (hW:SolAt W b6 h 0 (begF q vl H)) (hq:q<vl)=>(by
   have h1:=hW.par (i:=q) (by rw[hh];exact hq) ⟨2,0⟩
   rw[hh] at h1
   rw[hh]
   exact⟨(by have:=h1.1;unfold begF at this;simp only[parF_set] at this;exact this),h1.2⟩:SolAt (W.setCells gf (q*2) [.int .i64 2, .int .i64 0]) b6 h 0 (begF (q+1) vl H)∧FrV W b6 h (W.setCells gf (q*2) [.int .i64 2, .int .i64 0])))
  have HGO:=Lib.hid (fun(W:World) (hW:SolAt W b6 h 0 (begF P vl H))=>(by
   have hX:SolX W b6 h (begF P vl H):=by
    unfold SolX
    rw[show(begF P vl H).ed=fun _ _=>false from rfl,ecnt_zero]
    exact hW
   exact goX_any b6 h (begF P vl H) (-1) 0 W hX ⟨by omega,by rw[hh];show(-1:Int)<H;omega⟩ (by rw[hh];exact hH1) (by rw[hh];exact hHM):Calls Tryd.prog 43 #[.pointer (some ⟨b6,0,none⟩), .int .i64 (-1), .int .i64 0] W fun e' w' =>e' = .returned (.tuple #[])∧SolX w' b6 h (stF P vl H)∧FrV W b6 h w'))
  have HBC:=Lib.hid (fun(W:World) (x:SV) (hW:SolX W b6 h x) (hf:FrV w7 b6 h W) (i:Nat) (hi:i<H)=>(by
   have e:bs2.length=H:=by rw[HOK.out.len,HH.out]
   refine HBX.out.block HOK.out b6 h x gb Bb b c V i gp cp W hW (hf.sb HS0.out HSB7.out) (by rw[e];exact HVP.out) (by rw[hh,e]) (hf.blk HS0.out HBL7.out) (by rw[hh,e]) (by omega) (by rw[hh,HVL.out]) (by rw[hh,e]):Calls Tryd.prog 44 #[.pointer (some ⟨b6,0,none⟩), .int .i64 (i:Int)] W fun e w' =>e= .returned (.tuple #[])∧SolX w' b6 h (runsF (actsF F bs s i) x)∧FrV W b6 h w'))
  have HME:=Lib.hid (fun(W:World) (x:SV) (hW:SolX W b6 h x) (i:Nat) (hi:i<H)=>(by
   have h1:=SolAt.metC hW (i:=i) (by rw[hh];exact hi)
   rw[hh] at h1
   exact h1:W.cell? ⟨gm,i,none⟩=some (.bool (x.met.getD i false))))
  have HOF:=Lib.hid (fun(W:World) (x:SV) (hW:SolX W b6 h x)=>(SolAt.off hW:SolX (W.setCell ⟨b6,7,none⟩ (.bool false)) b6 h (offF x)∧FrV W b6 h (W.setCell ⟨b6,7,none⟩ (.bool false))))
  have HSYS:=Lib.hid HBX.out.sys
  have HBEG:=Lib.hid HBX.out.beg
  rw[HVL.out,HBL.out] at HSYS HBEG
  rw[show F.params.toNat=P by rw[HPP.out];rfl] at HBEG
  have HRES:=Lib.hid (fun(W:World) (x:SV) (hW:SolX W b6 h x) (he:EndF (actsF F bs s) H (stF P vl H) x)=>(by
   have e1:=hW.facts
   have e2:=hW.met
   rw[hh] at e1 e2
   refine⟨s,O,bs,K,_,s2,l,x,gf,gm,by rw[HVL.out,HBL.out],HBF.out.1,HBF.out.2,HBX.out,?_,e1,e2⟩
   rw[HVL.out,HBL.out,show F.params.toNat=P by rw[HPP.out];rfl]
   exact he:FactsRet p F w1.heap.size (.returned (.tuple #[.slice (some ⟨gf,0,none⟩) vl vl, .slice (some ⟨gm,0,none⟩) H H, .int .i64 0])) W))
  obtain⟨ac,hac⟩:∃a,actsF F bs s=a:=⟨_,rfl⟩
  rw[hac] at HBC HSYS HBEG HRES
  obtain⟨BB,hBB⟩:∃n,2*vl+(H+1)*H=n:=⟨_,rfl⟩
  have HMU:=Lib.hid (fun(x:SV) (hx:GoodF vl H ac x)=>(by rw[←hBB];exact muF_le hx:muF H x≤BB))
  clear hh hb h1 h2 h3 h4 z1 z2 z3 z4 hs0 hmm hmf hmb hac hBB hw6
  go_wp2_with fail
  clear hx7 zx7
  go_loopw [42] (fun v wr=>∃q:Nat,q≤P∧v= .int .i64 (q:Int)∧SolAt wr b6 h 0 (begF q vl H)∧FrV w7 b6 h wr) (fun v _=>P-(intOf v).toNat)
  case atStart=>exact⟨0,by omega,rfl,HS0.out,FrV.refl _ _ _⟩
  case round=>
   obtain⟨q,hq,rfl,hs,hf⟩:=hrel
   have HF:=Lib.hid hf
   by_cases hq0:q=P
   ·have hq0' :=hq0.symm
    subst hq0'
    have HC:=Lib.hid (HGO.out wr hs)
    clear hs hf hq hq0
    go_wp2_with (go_at_call 43;go_must (refine HC.out.mono ?_;rintro e w8 ⟨rfl,hs8,hf8⟩;have HS8:=Lib.hid hs8;have HF8:=Lib.hid (HF.out.trans hf8);clear hs8 hf8))
    go_loopg [13] (2*(BB-muF H (stF P vl H))+(if (stF P vl H).dirty=true then 1 else 0)) (fun z _ wr=>∃(k:Nat) (x:SV),x=itF ac H (stF P vl H) k∧(∀j,j<k→(itF ac H (stF P vl H) j).dirty=true)∧z=2*(BB-muF H x)+(if x.dirty=true then 1 else 0)∧SolX wr b6 h x∧FrV w7 b6 h wr)
    case atStart=>exact⟨0,_,rfl,fun j hj=>by omega,rfl,HS8.out,HF8.out⟩
    case round=>
     clear HS8 HF8
     obtain⟨k,x,hx,hj,rfl,hs,hf⟩:=hrel
     obtain⟨wo,hwo⟩:∃wo:World,wo=wr:=⟨_,rfl⟩
     subst hwo
     have HS:=Lib.hid hs
     have HF:=Lib.hid hf
     have HX:=Lib.hid hx
     have HJ:=Lib.hid hj
     obtain⟨q4,q5,q7,f7,y1,y2,y3⟩:=KS.out _ _ _ hs
     cases hd:x.dirty with
     |false=>
      have HR:=Lib.hid (fun(n:Nat)=>HRES.out (wo.drewN n) x (hs.keeps (below_drewN (Below.refl _ _) _)) ⟨k,hx,hd,hj⟩)
      have HRB:=Lib.hid (fun(n:Nat)=>HFR.out (wo.drewN n) (hf.trans (.of_below (below_drewN (Below.refl _ _) _))))
      rw[hd] at q7
      clear hs hf hx hj hd
      go_upto_region 20 with fail
      go_quiet (fail)
      go_wp2_with fail
      refine bodyPost_ret (v:= .tuple #[.slice (some ⟨gf,0,none⟩) vl vl, .slice (some ⟨gm,0,none⟩) H H, .int .i64 0]) (by simp[results,Tryd.results19]) rfl ⟨HR.out _,HRB.out _⟩
     |true=>
      rw[hd] at q7
      obtain⟨w9,hw9⟩:∃W,wo.setCell ⟨b6,7,none⟩ (.bool false)=W:=⟨_,rfl⟩
      have HO9:Hid (SolX w9 b6 h (offF x)∧FrV wo b6 h w9):=Lib.hid (hw9▸HOF.out wo x hs)
      have HD:=Lib.hid hd
      clear hs hf hx hj hd
      go_wp2_with fail
      clear q4 q5 q7 f7 y1 y2 y3 hw9
      go_loopw [64] (fun v wq=>∃i:Nat,i≤H∧v= .int .i64 (i:Int)∧SolX wq b6 h (swF ac (offF x) i)∧FrV w7 b6 h wq) (fun v _=>H-(intOf v).toNat)
      case atStart=>exact⟨0,by omega,rfl,HO9.out.1,HF.out.trans HO9.out.2⟩
      case round=>
       rename World=>wq
       obtain⟨i,hi,rfl,hsi,hfi⟩:=hrel
       have HSI:=Lib.hid hsi
       have HFI:=Lib.hid hfi
       by_cases hi0:i=H
       ·have hi0' :=hi0.symm
        subst hi0'
        clear hsi hfi hi0
        go_wp2_with fail
        go_roundg (2*(BB-muF H (nxF ac H x))+(if (nxF ac H x).dirty=true then 1 else 0))
        case rel=>
         exact⟨k+1,nxF ac H x,by rw[HX.out];rfl,fun j hj=>by
          by_cases e:j=k
          ·rw[e,←HX.out];exact HD.out
          ·exact HJ.out j (by omega),rfl,HSI.out,HFI.out⟩
        case measure=>
         have g1:=(HSYS.out.its HBEG.out k).1
         rw[←HX.out] at g1
         obtain⟨g2,-,n1,n2⟩:=HSYS.out.next g1
         have m1:=HMU.out _ g2
         cases hy:(nxF ac H x).dirty with
         |true=>
          have:=n1 hy
          rw[if_pos rfl];omega
         |false=>
          have e:=(n2 hy).1
          rw[e,if_neg (by simp)]
          show 2*(BB-muF H x)+0<_
          omega
       ·have hi1:(i:Int)<H:=by omega
        have hi2:(0:Int)≤i:=by omega
        have hi3:i<H:=by omega
        obtain⟨q4,q5,q7,f7,y1,y2,y3⟩:=KS.out _ _ _ hsi
        have hme:=HME.out wq _ hsi i hi3
        have HC:=Lib.hid (HBC.out wq _ hsi hfi i hi3)
        cases hm:(swF ac (offF x) i).met.getD i false with
        |false=>
         rw[hm] at hme
         have HSU:=Lib.hid (show swF ac (offF x) (i+1)=swF ac (offF x) i from if_neg (by rw[hm];simp))
         clear hsi hfi hm
         go_wp2_with fail
         go_roundw
         case rel=>exact⟨i+1,by omega,by go_num,by rw[HSU.out];exact HSI.out,HFI.out⟩
         case measure=>simp[intOf];omega
        |true=>
         rw[hm] at hme
         have HSU:=Lib.hid (show swF ac (offF x) (i+1)=runsF (ac i) (swF ac (offF x) i) from if_pos hm)
         clear hsi hfi hm
         go_wp2_with (go_at_call 44;go_must (refine HC.out.mono ?_;rintro e wz ⟨rfl,hsz,hfz⟩;have HSZ:=Lib.hid hsz;have HFZ:=Lib.hid (HFI.out.trans hfz);clear hsz hfz))
         go_roundw
         case rel=>exact⟨i+1,by omega,by go_num,by rw[HSU.out];exact HSZ.out,HFZ.out⟩
         case measure=>simp[intOf];omega
   ·have hq1:(q:Int)<P:=by omega
    have hq2:(0:Int)≤q:=by omega
    have hq3:q<vl:=by omega
    have hq4:(q:Int)<vl:=by omega
    obtain⟨q4,q5,q7,f7,y1,y2,y3⟩:=KS.out _ _ _ hs
    have HTH:=Lib.hid (HTQ.out wr 0 _ hs q hq3)
    obtain⟨n1,n2⟩:=HPAR.out wr q hs hq3
    have HN:=Lib.hid (And.intro n1 (hf.trans n2))
    clear hs hf n1 n2 hq0
    go_wp2_with (refine wpList_store_mid (by rfl) 58 _ _ (by rfl) gf (q*2) #[.int .i64 2, .int .i64 0] (by rfl) (by rfl) HTH.out (by kernel_rfl) (by simp[Value.oneCell']) ?_)
    go_roundw
    case rel=>exact⟨q+1,by omega,by go_num,HN.out.1,HN.out.2⟩
    case measure=>simp[intOf];omega
end Go.Proofs.YtappljijljjkiaaDoor
