/-
  The solver of facts: say, goTo.
-/
import Derived.Test.YtappljijljjkiaaDoorZfFd1
namespace Go.Proofs.YtappljijljjkiaaDoor
open Go.RowKit Tier
set_option maxRecDepth 100000 in
set_option maxHeartbeats 8000000 in
theorem say_any(b:Nat)(h:SH)(ne:Nat)(x:SV)(id:Int)(f:FactS)(w:World)(hs:SolAt w b h ne x)(hid:id<h.n):Calls Tryd.prog 83 #[.pointer (some ⟨b,0,none⟩), .int .i64 id,FactS.val f] w fun e w' =>e= .returned (.tuple #[])∧SolAt w' b h ne (sayF x id f)∧FrV w b h w' :=by
 obtain⟨fk,fv⟩:=f
 show Calls _ _ #[.pointer (some ⟨b,0,none⟩), .int .i64 id, .agg #[.int .i64 fk, .int .i64 fv]] w _
 obtain⟨w1,hw1⟩:∃W,w.alloc (.cells #[.int .i64 fk, .int .i64 fv] 58)=W:=⟨_,rfl⟩
 have hb1:Below w.heap.size w w1:=hw1▸(Below.refl _ _).alloc (Nat.le_refl _) _
 have HF1:=Lib.hid (FrV.of_below (b:=b) (h:=h) hb1)
 have HS1:=Lib.hid (hs.keeps hb1)
 have hx1:w1.heap[w.heap.size]? =some (.cells #[.int .i64 fk, .int .i64 fv] 58 (0,0)):=hw1▸heap_alloc_new _ _
 obtain⟨l1,-,-,-⟩:=hs.lt
 have HLb:=Lib.hid (show b≠w.heap.size by omega)
 have HLg:=Lib.hid (show h.gf≠w.heap.size by have:=hs.lt.2.1;omega)
 have HX1:=Lib.hid hx1
 clear hb1 hs hx1 l1
 by_cases h0:id<0
 ·have HE:=Lib.hid (show sayF x id ⟨fk,fv⟩=x from if_neg (fun h=>by omega))
  have hge:decide (id≥0)=false:=by simpa using h0
  go_enter Tryd.func83,Tryd.ntmps83
  go_upto_region 1 with fail
  clear hw1
  go_quiet (fail)
  go_wp2_with fail
  refine bodyPost_end (v:= .tuple #[]) (by simp[results,Tryd.results83]) rfl ?_
  rw[HE.out]
  exact⟨rfl,HS1.out.keeps (below_drewN (Below.refl _ _) _),HF1.out.trans (.of_below (below_drewN (Below.refl _ _) _))⟩
 ·obtain⟨i,rfl⟩:∃i:Nat,id=i:=⟨id.toNat,by omega⟩
  have hi:i<h.n:=by omega
  have hof:ofF x.F (i:Int)=x.F.getD i noF:=by unfold ofF;rw[if_neg h0,Int.toNat_natCast]
  have HSE:=Lib.hid (show sayF x (i:Int) ⟨fk,fv⟩=if ofF x.F (i:Int)≠⟨fk,fv⟩ then{x with F:=x.F.set i ⟨fk,fv⟩,dirty:=true} else x by
   unfold sayF
   by_cases e:ofF x.F (i:Int)=⟨fk,fv⟩
   ·rw[if_neg (fun h=>h.2 e),if_neg (fun h=>h e)]
   ·rw[if_pos ⟨by omega,e⟩,if_pos e,Int.toNat_natCast])
  have KS:=Lib.hid (fun(W:World) (hb:Below w1.heap.size w1 W)=>(by
   have s:=HS1.out.keeps hb
   obtain⟨f0,f1⟩:=s.fact hi
   have c4:=s.cell 4
   have cc:(h.cells x.dirty)[4]? =some (.slice (some ⟨h.gf,0,none⟩) h.n h.n):=rfl
   rw[cc] at c4
   have hx:=(hb.block _ (block_lt HX1.out)).trans HX1.out
   exact⟨c4,f0,f1,cell_block hx 0,cell_block hx 1,s.lt.1,s.lt.2.1,block_lt hx⟩:W.cell? ⟨b,4,none⟩=some (.slice (some ⟨h.gf,0,none⟩) h.n h.n)∧W.cell? ⟨h.gf,i*2,none⟩=some (.int .i64 (x.F.getD i noF).k)∧W.cell? ⟨h.gf,i*2+1,none⟩=some (.int .i64 (x.F.getD i noF).v)∧W.cell? ⟨w.heap.size,0,none⟩=some (.int .i64 fk)∧W.cell? ⟨w.heap.size,1,none⟩=some (.int .i64 fv)∧b<W.heap.size∧h.gf<W.heap.size∧w.heap.size<W.heap.size))
  rw[hof] at HSE
  have HGX:=Lib.hid (fun(W:World) (hW:SolAt W b h ne x) (o:Nat)=>(frozen_block hW.facts o:W.frozen? ⟨h.gf,o,none⟩=false))
  have HTQ:=Lib.hid (fun(W:World) (hW:SolAt W b h ne x)=>(there_mid hW.facts (by
   have e:(factCells x.F).toArray.size=h.n*2:=by rw[List.size_toArray,factCells_len,hW.fl]
   rw[e]
   show i*2+2≤h.n*2
   omega):W.there h.gf (i*2) 2))
  have HNE:=Lib.hid (show h.gf≠b from fun e=>HS1.out.dis.1 e.symm)
  have HCC:=Lib.hid (show(h.cells x.dirty).toArray[4]? =some (.slice (some ⟨h.gf,0,none⟩) h.n h.n) from rfl)
  have HSY:=Lib.hid (fun(W:World) (hW:SolAt W b h ne x)=>hW.say hi ⟨fk,fv⟩)
  obtain⟨⟨ok,ov⟩,hov⟩:∃f,x.F.getD i noF=f:=⟨_,rfl⟩
  rw[hov] at HSE KS
  simp only at KS
  have heq:=eq_fact ok ov fk fv
  obtain⟨gf,hgf⟩:∃g,h.gf=g:=⟨_,rfl⟩
  obtain⟨N,hN⟩:∃n,h.n=n:=⟨_,rfl⟩
  rw[hgf,hN] at KS
  rw[hgf] at HSY HLg HGX HNE HTQ
  rw[hgf,hN] at HCC
  rw[hN] at hi hid
  have hi2:(0:Int)≤i:=by omega
  have hge:decide ((i:Int)≥0)=true:=by simp
  obtain⟨k0,k1,k2,k3,k4,k5,k6,k7⟩:=KS.out w1 (Below.refl _ _)
  clear hof hov h0 hgf hN
  by_cases h3:ok=fk∧ov=fv
  ·rw[decide_eq_true h3] at heq
   rw[if_neg (fun h=>h (by rw[h3.1,h3.2]))] at HSE
   clear h3
   go_enter Tryd.func83,Tryd.ntmps83
   go_upto_region 1 with fail
   clear hw1
   go_quiet (fail)
   go_wp2_with fail
   refine bodyPost_end (v:= .tuple #[]) (by simp[results,Tryd.results83]) rfl ?_
   rw[HSE.out]
   exact⟨rfl,HS1.out.keeps (below_drewN (Below.refl _ _) _),HF1.out.trans (.of_below (below_drewN (Below.refl _ _) _))⟩
  ·rw[decide_eq_false h3] at heq
   rw[if_pos (fun h=>h3 (by simpa using h))] at HSE
   clear h3
   obtain⟨L,hL⟩:∃n,w.heap.size=n:=⟨_,rfl⟩
   have HLE:=Lib.hid hL
   rw[hL] at KS HX1 HLb HLg k3 k4 k7
   go_enter Tryd.func83,Tryd.ntmps83
   go_upto_region 1 with fail
   clear hw1 hL
   go_quiet (fail)
   obtain⟨w2,hw2⟩:∃W,w1.drewN nq=W:=⟨_,rfl⟩
   have HB12:Hid (Below w1.heap.size w1 w2):=Lib.hid (hw2▸below_drewN (Below.refl _ _) _)
   rw[hw2]
   clear hw2 nq k0 k1 k2 k3 k4 k5 k6 k7
   have HS2:=Lib.hid (HS1.out.keeps (HB12.out.drew))
   have HX2:=Lib.hid ((HB12.out.drew.block _ (block_lt HX1.out)).trans HX1.out)
   have HS2f:w2.frozen? ⟨gf,i*2,none⟩=false:=HGX.out _ HS2.out _
   have HS2g:w2.frozen? ⟨gf,i*2+1,none⟩=false:=HGX.out _ HS2.out _
   obtain⟨k0,k1,k2,k3,k4,k5,k6,k7⟩:=KS.out w2.drew HB12.out.drew
   have fz:w2.frozen? ⟨gf,i*2,none⟩=false:=HS2f
   have fz1:w2.frozen? ⟨gf,i*2+1,none⟩=false:=HS2g
   have HBX:Hid ((w2.drew.setCells gf (i*2) [.int .i64 fk, .int .i64 fv]).heap[b]? =some (.cells (h.cells x.dirty).toArray 118 (0,0))):=Lib.hid (block_setCells_ne _ HS2.out.box HNE.out _)
   have HLX:Hid ((w2.drew.setCells gf (i*2) [.int .i64 fk, .int .i64 fv]).heap[L]? =some (.cells #[.int .i64 fk, .int .i64 fv] 58 (0,0))):=Lib.hid (block_setCells_ne _ HX2.out HLg.out _)
   have HKS:Hid ((w2.drew.setCells gf (i*2) [.int .i64 fk, .int .i64 fv]).cell? ⟨b,4,none⟩=some (.slice (some ⟨gf,0,none⟩) N N)∧(w2.drew.setCells gf (i*2) [.int .i64 fk, .int .i64 fv]).cell? ⟨L,0,none⟩=some (.int .i64 fk)∧(w2.drew.setCells gf (i*2) [.int .i64 fk, .int .i64 fv]).cell? ⟨L,1,none⟩=some (.int .i64 fv)):=Lib.hid ⟨(cell_block HBX.out 4).trans HCC.out,cell_block HLX.out 0,cell_block HLX.out 1⟩
   have HTH:=Lib.hid (HTQ.out _ HS2.out)
   have HWE:=Lib.hid (HSY.out _ HS2.out)
   go_upto_region 2 with fail
   refine wp_region_held_drew (S:=fun W' =>W'.cell? ⟨b,4,none⟩=some (.slice (some ⟨gf,0,none⟩) N N)∧W'.cell? ⟨L,0,none⟩=some (.int .i64 fk)∧W'.cell? ⟨L,1,none⟩=some (.int .i64 fv)) (by kernel_rfl) ⟨k0,k3,k4⟩ (fun hHeld=> ?_)
   refine wpAnyH_take (i:=0) (v:= .pointer (some ⟨b,0,none⟩)) rfl (by kernel_rfl) (by kernel_rfl) (by kernel_rfl) (fun _ _ _ h=>h) (Or.inl ⟨by rfl,?_⟩) hHeld ?_
   ·intro w hSw
    simp only[qg]
    go_simp
   simp only[Act.put,qs]
   refine wpAnyH_take (i:=1) (v:= .pointer (some ⟨b,0,none⟩)) rfl (by kernel_rfl) (by kernel_rfl) (by kernel_rfl) (fun _ _ _ h=>h) (Or.inl ⟨by rfl,?_⟩) hHeld ?_
   ·intro w hSw
    simp only[qg]
    go_simp
   simp only[Act.put,qs]
   refine wpAnyH_take (i:=2) (v:= .pointer (some ⟨b,4,none⟩)) rfl (by kernel_rfl) (by kernel_rfl) (by kernel_rfl) (fun _ _ _ h=>h) (Or.inl ⟨by rfl,?_⟩) hHeld ?_
   ·intro w hSw
    simp only[qg]
    go_simp
   simp only[Act.put,qs]
   refine wpAnyH_take (i:=3) (v:= .slice (some ⟨gf,0,none⟩) N N) rfl (by kernel_rfl) (by kernel_rfl) (by kernel_rfl) (fun _ _ _ h=>h) (Or.inl ⟨by rfl,?_⟩) hHeld ?_
   ·intro w hSw
    obtain⟨p0,p1,p2⟩:=hSw
    simp only[qg]
    go_simp
   simp only[Act.put,qs]
   refine wpAnyH_take (i:=4) (v:= .int .i64 (i:Int)) rfl (by kernel_rfl) (by kernel_rfl) (by kernel_rfl) (fun _ _ _ h=>h) (Or.inl ⟨by rfl,?_⟩) hHeld ?_
   ·intro w hSw
    simp only[qg]
    go_simp
   simp only[Act.put,qs]
   refine wpAnyH_take (i:=5) (v:= .agg #[.int .i64 fk, .int .i64 fv]) rfl (by kernel_rfl) (by kernel_rfl) (by kernel_rfl) (fun _ _ _ h=>h) (Or.inl ⟨by rfl,?_⟩) hHeld ?_
   ·intro w hSw
    obtain⟨p0,p1,p2⟩:=hSw
    simp only[qg]
    go_simp
   simp only[Act.put,qs]
   refine wpAnyH_take (i:=6) (v:= .pointer (some ⟨gf,i*2,none⟩)) rfl (by kernel_rfl) (by kernel_rfl) (by kernel_rfl) (fun _ _ _ h=>h) (Or.inl ⟨by rfl,?_⟩) hHeld ?_
   ·intro w hSw
    simp only[qg]
    go_simp
   simp only[Act.put,qs]
   refine wpAnyH_ready (rs:=[7]) (by kernel_rfl) (by simp) ?_
   refine AllReadyH.cons rfl (fun K hK=> ?_) AllReadyH.nil
   simp only[qg]
   rw[if_pos (by rfl)]
   refine wp_store_mid 58 _ _ (by rfl) gf (i*2) #[.int .i64 fk, .int .i64 fv] (by rfl) (by rfl) HTH.out (by kernel_rfl) (by simp[Value.oneCell']) ?_
   refine hK.out _ _ HKS.out (fun hHeld=> ?_)
   clear hK K
   clear hHeld
   refine wpAnyH_done (by kernel_rfl) ?_ _
   clear HKS
   have c7:(w2.drew.setCells gf (i*2) [.int .i64 fk, .int .i64 fv]).cell? ⟨b,7,none⟩=some (.bool x.dirty):=(cell_block HBX.out 7).trans rfl
   have f7:=frozen_block HBX.out 7
   have zb:=block_lt HBX.out
   obtain⟨w3,hw3⟩:∃W,(w2.drew.setCells gf (i*2) [.int .i64 fk, .int .i64 fv])=W:=⟨_,rfl⟩
   rw[hw3] at HBX HLX HWE c7 f7 zb⊢
   clear hw3 k0 k1 k2 k3 k4 k5 k6 k7 fz fz1
   go_wp2_with fail
   refine bodyPost_end (v:= .tuple #[]) (by simp[results,Tryd.results83]) rfl ?_
   rw[HSE.out]
   exact⟨rfl,HWE.out.1,HF1.out.trans ((FrV.of_below HB12.out.drew).trans HWE.out.2)⟩
theorem zeroE(w:World):(zeroValue 135).run Tryd.prog w= .ok (.agg #[]) w:=by kernel_rfl
theorem SolAt.go{w w9:World}{b ne:Nat}{h:SH}{x:SV}(s:SolAt w b h ne x){a:Int}{e:Nat}(ha: -1≤a∧a≤100000)(he:e<h.H)(hH:h.H≤100000){D:DataW Unit}(hI:Maps.IsMap D)(hS:∀c d:Int,-1≤c∧c≤100000→-1≤d∧d≤100000→Maps.has D (keyE c d)=x.ed c d)(ho:w9.ownsMap Tryd.prog 63 unitElem h.ge (ne+1) (D.put (keyE a e) (.agg [])))(hg:w.grownBy w9 (some h.ge))(hx:x.ed a e=false):
 SolAt ((w9.setCell ⟨h.gm,e,none⟩ (.bool true)).setCell ⟨b,7,none⟩ (.bool true)) b h (ne+1) (goF x a e)∧FrV w b h ((w9.setCell ⟨h.gm,e,none⟩ (.bool true)).setCell ⟨b,7,none⟩ (.bool true))∧w9.heap[b]? =some (.cells (h.cells x.dirty).toArray 118 (0,0))∧w9.heap[h.gm]? =some (.cells (x.met.map Value.bool).toArray 4 (0,0)):=by
 obtain⟨n1,n2,n3,n4,n5,n6⟩:=s.dis
 obtain⟨l1,l2,l3,l4⟩:=s.lt
 have hb9:w9.heap[b]? =some (.cells (h.cells x.dirty).toArray 118 (0,0)):=(hg.block b l1 (fun e=>n3 (Option.some.inj e))).trans s.box
 have hf9:=(hg.block h.gf l2 (fun e=>n5 (Option.some.inj e))).trans s.facts
 have hm9:=(hg.block h.gm l3 (fun e=>n6 (Option.some.inj e))).trans s.met
 have hE:=EdAt.put ha (e:=(e:Int)) ⟨by omega,by omega⟩ hI hS ho
 obtain⟨es,clock,hm⟩:=hE.map
 have hgo:goF x a e=⟨x.F,x.met.set e true,fun c d=>x.ed c d||decide (c=a∧d=e),true⟩:=by
  unfold goF
  rw[if_neg (by rw[hx];simp),Int.toNat_natCast]
 rw[hgo]
 refine⟨⟨block_put (block_set_ne hb9 (fun e=>n2 e.symm) _ _) rfl,block_set_ne (block_set_ne hf9 (fun e=>n4 e.symm) _ _) n1 _ _,?_,hE.of_block ?_,s.fl,by rw[List.length_set];exact s.ml⟩,⟨base0 hg.os hg.tape hg.output (by have:=hg.size;simpa [World.setCell] using this),?_,fun k hk k1 k2 k3 k4=> ?_⟩,hb9,hm9⟩
 ·refine block_set_ne (block_put hm9 ?_) n2 _ _
  rw[List.map_set]
 ·rw[hm];exact block_set_ne (block_set_ne hm n6 _ _) n3 _ _
 ·have:=hg.size
  simpa [World.setCell] using this
 ·obtain⟨o,ho'⟩:∃o,w.heap[k]? =some o:=⟨_,Array.getElem?_eq_getElem hk⟩
  rw[ho']
  exact block_set_ne (block_set_ne ((hg.block k hk (fun e=>k4 (Option.some.inj e))).trans ho') (fun e=>k3 e.symm) _ _) (fun e=>k1 e.symm) _ _
set_option maxRecDepth 100000 in
set_option maxHeartbeats 8000000 in
theorem goTo_any(b:Nat)(h:SH)(ne:Nat)(x:SV)(a:Int)(e:Nat)(w:World)(hs:SolAt w b h ne x)(ha: -1≤a∧a≤100000)(he:e<h.H)(hH:h.H≤100000)(hne:ne≤1000000):Calls Tryd.prog 43 #[.pointer (some ⟨b,0,none⟩), .int .i64 a, .int .i64 (e:Int)] w fun e' w' =>e' = .returned (.tuple #[])∧SolAt w' b h (if x.ed a e=true then ne else ne+1) (goF x a e)∧FrV w b h w' :=by
 obtain⟨w1,hw1⟩:∃W,w.alloc (.cells #[] 135)=W:=⟨_,rfl⟩
 have hb1:Below w.heap.size w w1:=hw1▸(Below.refl _ _).alloc (Nat.le_refl _) _
 have HF1:=Lib.hid (FrV.of_below (b:=b) (h:=h) hb1)
 have hs1:=hs.keeps hb1
 have HS1:=Lib.hid hs1
 obtain⟨D,hD,hI,hS⟩:=hs.ed
 obtain⟨D1,hD1,hI1,hS1⟩:=hs1.ed
 have HD:=Lib.hid hD
 have HD1:=Lib.hid hD1
 have hkey:=keyE_of ha (b:=(e:Int)) ⟨by omega,by omega⟩
 have hh:=hS a e ha ⟨by omega,by omega⟩
 obtain⟨l1,l2,l3,l4⟩:=hs.lt
 have HGO:=Lib.hid (fun(w9:World) (h1:w9.ownsMap Tryd.prog 63 unitElem h.ge (ne+1) (D1.put (keyE a e) (.agg []))) (h2:w1.grownBy w9 (some h.ge)) (h3:x.ed a e=false)=>hs1.go ha he hH hI1 hS1 h1 h2 h3)
 have KS:=Lib.hid (fun(W:World) (s:SolAt W b h ne x)=>(⟨(s.cell 5).trans rfl,(s.cell 6).trans rfl,s.lt.1⟩:W.cell? ⟨b,5,none⟩=some (.slice (some ⟨h.gm,0,none⟩) h.H h.H)∧W.cell? ⟨b,6,none⟩=some (.map (some h.ge))∧b<W.heap.size))
 have HDIS:=Lib.hid (show h.gm≠b from fun e=>hs.dis.2.1 e.symm)
 have HML:=Lib.hid hs.ml
 have HC5:=Lib.hid (show(h.cells x.dirty)[5]? =some (.slice (some ⟨h.gm,0,none⟩) h.H h.H) from rfl)
 obtain⟨gm,hgm⟩:∃g,h.gm=g:=⟨_,rfl⟩
 obtain⟨ge,hge⟩:∃g,h.ge=g:=⟨_,rfl⟩
 obtain⟨H,hHe⟩:∃n,h.H=n:=⟨_,rfl⟩
 rw[hgm,hHe,hge] at KS
 rw[hge] at HD HD1 HGO
 rw[hgm] at HGO HDIS
 rw[hgm,hHe] at HC5
 rw[hHe] at he hH HML
 have he1:(e:Int)<H:=by omega
 have he2:(0:Int)≤e:=by omega
 obtain⟨k0,k1,k2⟩:=KS.out w hs
 have hz:=zeroE
 cases hx:x.ed a e with
 |true=>
  have HE:=Lib.hid (show goF x a e=x from if_pos hx)
  rw[hx] at hh
  have HH:=Lib.hid hh
  clear hs hs1 hD hD1 hI hI1 hS hS1 hh l1 l2 l3 l4 hgm hge hHe hx k0 hb1
  go_enter Tryd.func43,Tryd.ntmps43
  go_wp2_with (at_lookup;go_must (refine wpList_lookup_own_unit _ rfl _ _ mapE rfl 63 135 lawE Tryd.underlying116 (hz _) ge ne D rfl HD.out _ _ rfl hkey ?_;rw[HH.out]))
  refine bodyPost_end (v:= .tuple #[]) (by simp[results,Tryd.results43]) rfl ?_
  rw[HE.out]
  exact⟨rfl,HS1.out,HF1.out⟩
 |false=>
  rw[hx] at hh
  have HH:=Lib.hid hh
  have HX:=Lib.hid hx
  obtain⟨z0,z1,z2⟩:=KS.out w1 hs1
  obtain⟨MT,hMT⟩:∃m,x.met=m:=⟨_,rfl⟩
  rw[hMT] at HML HGO
  obtain⟨mv,hmv⟩:∃m,MT[e]? =some m:=⟨_,gE (by rw[HML.out];exact he)⟩
  have HMV:=Lib.hid hmv
  clear hmv
  clear hs hs1 hD hD1 hI hI1 hS hS1 hh l1 l2 l3 l4 hgm hge hHe hx k0 hb1 hMT
  go_enter Tryd.func43,Tryd.ntmps43
  go_wp2_with (first|(at_lookup;go_must (refine wpList_lookup_own_unit _ rfl _ _ mapE rfl 63 135 lawE Tryd.underlying116 (hz _) ge ne D rfl HD.out _ _ rfl hkey ?_;rw[HH.out]))|(at_mapUpdate;go_must (refine wpList_mapUpdate_own _ rfl _ _ _ mapE rfl 63 135 lawE Tryd.underlying116 unitElem ge ne D1 rfl HD1.out (by unfold maxLen;omega) _ _ _ rfl rfl hkey _ [] unitElem_mk ?_;intro w9 hown9 hg9;obtain⟨g1,g2,g3,g4⟩:=HGO.out w9 hown9 hg9 HX.out;have HG:=Lib.hid (And.intro g1 g2);have c5:w9.cell? ⟨b,5,none⟩=some (.slice (some ⟨gm,0,none⟩) H H):=(cell_block g3 5).trans ((List.getElem?_toArray.trans (by rfl)).trans HC5.out);have c7:w9.cell? ⟨b,7,none⟩=some (.bool x.dirty):=(cell_block g3 7).trans rfl;have f7:=frozen_block g3 7;have zb9:=block_lt g3;have cm:w9.cell? ⟨gm,e,none⟩=some (.bool mv):=(cell_block g4 e).trans (by simp[HMV.out]);have fm:=frozen_block g4 e;have zm:=block_lt g4;have hd1:=HDIS.out;have hd2:b≠gm:=fun e=>hd1 e.symm;clear hown9 hg9 g1 g2 g3 g4 z0 z1 z2)))
  refine bodyPost_end (v:= .tuple #[]) (by simp[results,Tryd.results43]) rfl ?_
  exact⟨rfl,HG.out.1,HF1.out.trans HG.out.2⟩
end Go.Proofs.YtappljijljjkiaaDoor
