/-
  SsaTrue: the watcher, and the walk: it returns true.
-/
import Derived.Test.YtedcjapmmnbamaaDoorFoS
import Derived.Test.YtedcjapmmnbamaaDoorSv5
namespace Go.Proofs.YtedcjapmmnbamaaDoor
open Go.RowKit Tier
theorem insA_congr{s s' :SB}(h:s.parts=s'.parts)(i t:Nat):s.insA i t=s'.insA i t:=by unfold SB.insA SB.part;rw[h]
theorem atR_congr{s s' :SB}(h:s.parts=s'.parts)(F:Fnc)(i:Nat):∀t,atR s F i t=atR s' F i t
 |0=>by show(s.part i).inn=(s'.part i).inn;unfold SB.part;rw[h]
 |t+1=>by unfold atR;rw[insA_congr h,atR_congr h F i t]
def WCb(cb:Nat)(A1:Option Addr)(n cap1:Nat)(W:World)(_:FoS):Prop:=W.heap[cb]? =some (.cells #[.slice A1 n cap1] 29 (0,0))
set_option maxRecDepth 100000 in
set_option maxHeartbeats 8000000 in
theorem ssaTrue_clo{p:List Fnc}{F:Fnc}(hright:checkP p=0)(hF:p[0]? =some F)(A1:Option Addr)(cap1 cb:Nat)(w0 w1:World)(ht:Tab w0)(hP:ProgAt w0 (.slice A1 p.length cap1) p)
 (O:List Nat) (bs:List BR) (K:Nat) (s1 s2:SB) (l:List Int) (s:SB) (w:World) (x:FoS) (f:Fr) (j t:Nat) (C:List Value) (ge gm vl:Nat) (hvl:valN F bs s2 l=vl) (hx:BuiltX p F O bs K s1 s2 l s) (hW:FolW F O bs s (valN F bs s2 l) x f j t) (hi:StInv p x.st) (hb0:Below w0.heap.size w0 w) (hcb:WCb cb A1 p.length cap1 w x) (hE:IntsB w ge (watE F bs s x)) (hD:BoolsB w gm (watD F s x)) (hC:CellsSt C w w1.heap.size x.st):
 Calls Tryd.prog 9 #[.int .i64 (j:Int), .slice (some ⟨ge,0,none⟩) vl vl, .slice (some ⟨gm,0,none⟩) vl vl, .agg C.toArray, .pointer (some ⟨cb,0,none⟩)] w fun e w' =>e= .returned (.bool true)∧Below w.heap.size w w' :=by
 have hp:=right_of hright
 have hFm:=gM hF
 have hjH:j<(hdL F).length:=by rw[←hx.b.bok.len];exact hW.jl
 have ham:=(hdA_mem2 hjH).1
 have hsp:=toF_spec hp hFm ham
 have hil:=hx.finP.il j hW.jl
 have htl:=hW.tl
 obtain⟨q,hq⟩:∃q,hdA F j+t=q:=⟨_,rfl⟩
 have hql:q<F.code.length:=by omega
 have hrc:rchB F q=true:=cov_rch hp hFm ham (by omega) (by omega)
 have HB0:=Lib.hid hb0
 have HAT:=Lib.hid (fun(W' :World) (hb:Below w.heap.size w W')=>at_any p A1 cap1 0 F q W' (ht.keeps (hb0.trans (hb.mono hb0.size))) (hP.keeps (hb0.trans (hb.mono hb0.size))) hright hF hql hrc)
 have HAL:=Lib.hid (fun(O' :List Nat) (bs' :List BR) (K' :Nat) (s1' s2' :SB) (l' :List Int) (s' :SB) (i:Nat) (hx' :BuiltX p F O' bs' K' s1' s2' l' s') (hi' :i<bs'.length) (h1:hdA F i≤q) (h2:q<toF F (hdA F i))=>(by
  obtain⟨e1,e2,-,e3,-⟩:=hx.unique hx'
  have hiH:i<(hdL F).length:=by rw[←hx'.b.bok.len];exact hi'
  have h5:=cov_one hp hFm (hdA_mem2 hiH).1 ham h1 h2 (by omega) (by omega)
  have h6:=posH_hdA2 (F:=F) hiH
  have h7:=posH_hdA2 (F:=F) hjH
  have hij:i=j:=by rw[←h6,←h7,h5]
  subst hij
  intro r hr
  have e4:q-hdA F i=t:=by omega
  rw[e4,←atR_congr e1,←e3]
  by_cases hb:(O.getD q 0).testBit r=true
  ·rw[if_pos hb]
   obtain⟨v,v1,v2,v3,v4⟩:=hW.ok r hr (by rw[hq];exact hb)
   rw[hW.el] at v2
   exact .inr ⟨v,v1,by rw[←hvl];exact v2,v3,v4⟩
  ·rw[if_neg hb];exact .inl rfl:∀r,r<12→(if (O'.getD q 0).testBit r=true then(atR s' F i (q-hdA F i)).getD r 0 else -1)= -1∨∃v:Nat,(if (O'.getD q 0).testBit r=true then(atR s' F i (q-hdA F i)).getD r 0 else -1)=v∧v<vl∧(watD F s x).getD v false=true∧(watE F bs s x).getD v 0=f.regs.getD r 0))
 obtain⟨FA,fcap,EA,ea,AA,aa,hci⟩:=hC.cin hi.mem (fun f hf=>(hi.fr f hf).regs)
 have hfl:x.st.frames.length=1:=by rw[hW.fr];rfl
 have hc2:=hci.c2
 rw[hfl] at hc2
 obtain⟨gf,hgf,hgl,hgc⟩:=hci.fr (by rw[hfl];exact Nat.zero_lt_one)
 subst hgf
 have hrl:=(hi.fr f (by rw[hW.fr];simp)).regs
 have HREG:=Lib.hid (fun(r:Nat) (hr:r<12)=>(by
  have h1:=hgc 0 f (2+r) (by rw[hW.fr];rfl) (by omega)
  rw[show 0*14+(2+r)=2+r by omega,fr_reg f (by rw[hrl];exact hr)] at h1
  exact h1:w.cell? ⟨gf,2+r,none⟩=some (.int .i64 (f.regs.getD r 0))))
 have hpc:w.cell? ⟨gf,1,none⟩=some (.int .i64 (q:Int)):=by
  have:=hgc 0 f 1 (by rw[hW.fr];rfl) (by omega)
  rw[←hq,←hW.pc];exact this
 have HCL:=Lib.hid hci.len
 have HEL:=Lib.hid (hW.el.trans hvl)
 have HDL:=Lib.hid (hW.dl.trans hvl)
 have HE:=Lib.hid hE
 have HD:=Lib.hid hD
 have HCB:=Lib.hid hcb
 have HPC:=Lib.hid hpc
 have HC2:=Lib.hid hc2
 have HGL:=Lib.hid hgl
 have HFR:=Lib.hid hW.ok
 clear hW hx hi hp hFm hjH ham hsp hil htl hq hql hrc hright hF ht hP hci hfl hgc hrl hE hD hcb hC hc2 hpc hgl hb0
 obtain⟨bx,hbx⟩:∃n,w.heap.size=n:=⟨_,rfl⟩
 obtain⟨w2,hw2⟩:∃W,w.alloc (.cells C.toArray 36)=W:=⟨_,rfl⟩
 have HB2:Hid (Below w.heap.size w w2):=Lib.hid (hw2▸(Below.refl _ _).alloc (Nat.le_refl _) _)
 have HX2:Hid (w2.heap[bx]? =some (.cells C.toArray 36 (0,0))):=Lib.hid (hw2▸hbx▸heap_alloc_new _ _)
 go_enter Tryd.func9,Tryd.ntmps9
 go_upto_region 1 with fail
 have KS:=Lib.hid (fun(W:World) (hb:Below w2.heap.size w2 W)=>(⟨((HB2.out.trans (hb.mono HB2.out.size)).cell (p:=⟨cb,0,none⟩) (block_lt HCB.out)).trans (cell_block HCB.out 0),(hb.cell (p:=⟨bx,2,none⟩) (block_lt HX2.out)).trans ((cell_block HX2.out 2).trans (List.getElem?_toArray.trans HC2.out)),((HB2.out.trans (hb.mono HB2.out.size)).cell (p:=⟨gf,1,none⟩) HGL.out).trans HPC.out⟩:(fun w' :World=>w'.cell? ⟨cb,0,none⟩=some (.slice A1 p.length cap1)∧w'.cell? ⟨bx,2,none⟩=some (.slice (some ⟨gf,0,none⟩) 1 fcap)∧w'.cell? ⟨gf,1,none⟩=some (.int .i64 (q:Int))) W))
 replace HAT:=Lib.hid (fun(W:World) (hb:Below w2.heap.size w2 W)=>HAT.out W (HB2.out.trans (hb.mono HB2.out.size)))
 clear hw2 hbx
 refine wp_region_held_drew (S:=fun w' =>w'.cell? ⟨cb,0,none⟩=some (.slice A1 p.length cap1)∧w'.cell? ⟨bx,2,none⟩=some (.slice (some ⟨gf,0,none⟩) 1 fcap)∧w'.cell? ⟨gf,1,none⟩=some (.int .i64 (q:Int))) (by kernel_rfl) (KS.out _ (Below.refl _ _).drew) (fun hHeld=> ?_)
 refine wpAnyH_take (i:=0) (v:= .agg #[.slice A1 p.length cap1]) rfl (by kernel_rfl) (by kernel_rfl) (by kernel_rfl) (fun _ _ _ h=>h) (Or.inl ⟨by rfl,?_⟩) hHeld ?_
 ·intro w hSw
  obtain⟨p0,p1,p2⟩:=hSw
  simp only[qg]
  go_simp
 simp only[Act.put,qs]
 refine wpAnyH_take (i:=1) (v:= .pointer (some ⟨bx,2,none⟩)) rfl (by kernel_rfl) (by kernel_rfl) (by kernel_rfl) (fun _ _ _ h=>h) (Or.inl ⟨by rfl,?_⟩) hHeld ?_
 ·intro w hSw
  simp only[qg]
  go_simp
 simp only[Act.put,qs]
 refine wpAnyH_take (i:=2) (v:= .slice (some ⟨gf,0,none⟩) 1 fcap) rfl (by kernel_rfl) (by kernel_rfl) (by kernel_rfl) (fun _ _ _ h=>h) (Or.inl ⟨by rfl,?_⟩) hHeld ?_
 ·intro w hSw
  obtain⟨p0,p1,p2⟩:=hSw
  simp only[qg]
  go_simp
 simp only[Act.put,qs]
 refine wpAnyH_take (i:=3) (v:= .pointer (some ⟨gf,0,none⟩)) rfl (by kernel_rfl) (by kernel_rfl) (by kernel_rfl) (fun _ _ _ h=>h) (Or.inl ⟨by rfl,?_⟩) hHeld ?_
 ·intro w hSw
  simp only[qg]
  go_simp
 simp only[Act.put,qs]
 refine wpAnyH_take (i:=4) (v:= .pointer (some ⟨gf,1,none⟩)) rfl (by kernel_rfl) (by kernel_rfl) (by kernel_rfl) (fun _ _ _ h=>h) (Or.inl ⟨by rfl,?_⟩) hHeld ?_
 ·intro w hSw
  simp only[qg]
  go_simp
 simp only[Act.put,qs]
 refine wpAnyH_take (i:=5) (v:= .int .i64 (q:Int)) rfl (by kernel_rfl) (by kernel_rfl) (by kernel_rfl) (fun _ _ _ h=>h) (Or.inl ⟨by rfl,?_⟩) hHeld ?_
 ·intro w hSw
  obtain⟨p0,p1,p2⟩:=hSw
  simp only[qg]
  go_simp
 simp only[Act.put,qs]
 refine wpAnyH_ready (rs:=[6]) (by kernel_rfl) (by simp) ?_
 refine AllReadyH.cons rfl (fun K hK=> ?_) AllReadyH.nil
 simp only[qg]
 go_simp
 refine(HAT.out _ (Below.refl w2.heap.size w2).drew).mono ?_
 rintro e w3 ⟨⟨O',bs',K',s1',s2',l',s',i,ga,ca,hx',hi',hh1,hh2,rfl,hga,hga2,hcell⟩,hb3⟩
 have HB3:Hid (Below w2.heap.size w2 w3):=Lib.hid ((Below.refl w2.heap.size w2).drew.trans hb3)
 have HGA:=Lib.hid (show w2.heap.size≤ga∧ga<w3.heap.size from⟨hga,hga2⟩)
 have HCV:=Lib.hid (HAL.out O' bs' K' s1' s2' l' s' i hx' hi' hh1 hh2)
 have HCE:=Lib.hid hcell
 clear hx' hi' hh1 hh2 hga hga2 hcell hb3
 refine hK.out _ _ (KS.out _ HB3.out) (fun hHeld=> ?_)
 clear hK K
 refine wpAnyH_take (i:=7) (v:= .tuple #[.slice (some ⟨ga,0,none⟩) 12 ca, .int .i64 0]) rfl (by kernel_rfl) (by kernel_rfl) (by kernel_rfl) (fun _ _ _ h=>h) (Or.inl ⟨by rfl,?_⟩) hHeld ?_
 ·intro w hSw
  simp only[qg]
  go_simp
 simp only[Act.put,qs]
 refine wpAnyH_take (i:=8) (v:= .slice (some ⟨ga,0,none⟩) 12 ca) rfl (by kernel_rfl) (by kernel_rfl) (by kernel_rfl) (fun _ _ _ h=>h) (Or.inl ⟨by rfl,?_⟩) hHeld ?_
 ·intro w hSw
  simp only[qg]
  go_simp
 simp only[Act.put,qs]
 refine wpAnyH_take (i:=9) (v:= .int .i64 0) rfl (by kernel_rfl) (by kernel_rfl) (by kernel_rfl) (fun _ _ _ h=>h) (Or.inl ⟨by rfl,?_⟩) hHeld ?_
 ·intro w hSw
  simp only[qg]
  go_simp
 simp only[Act.put,qs]
 refine wpAnyH_take (i:=10) (v:= .slice (some ⟨ga,0,none⟩) 12 ca) rfl (by kernel_rfl) (by kernel_rfl) (by kernel_rfl) (fun _ _ _ h=>h) (Or.inl ⟨by rfl,?_⟩) hHeld ?_
 ·intro w hSw
  simp only[qg]
  go_simp
 simp only[Act.put,qs]
 refine wpAnyH_take (i:=11) (v:= .int .i64 0) rfl (by kernel_rfl) (by kernel_rfl) (by kernel_rfl) (fun _ _ _ h=>h) (Or.inl ⟨by rfl,?_⟩) hHeld ?_
 ·intro w hSw
  simp only[qg]
  go_simp
 simp only[Act.put,qs]
 clear hHeld
 refine wpAnyH_done (by kernel_rfl) ?_ _
 clear hHeld
 go_upto_region 5 with fail
 go_loopw [12] (fun v wq=>∃r:Nat,r≤12∧v= .int .i64 (r:Int)∧Below w3.heap.size w3 wq) (fun v _=>12-(intOf v).toNat)
 case atStart=>exact⟨0,by omega,rfl,Below.refl _ _⟩
 case round=>
  obtain⟨r,hr,rfl,hb⟩:=hrel
  have HBR:=Lib.hid hb
  have HBW:Hid (Below w.heap.size w wr):=Lib.hid (HB2.out.trans ((HB3.out.trans (hb.mono HB3.out.size)).mono HB2.out.size))
  clear hb
  by_cases hr12:r=12
  ·subst hr12
   go_wp2_with fail
   go_ret
   exact⟨rfl,HBW.out⟩
  ·have hr1:r<12:=by omega
   have hr2:(r:Int)<12:=by omega
   have hr0:(0:Int)≤r:=by omega
   have ca0:=(HBR.out.cell (p:=⟨ga,r,none⟩) HGA.out.2).trans (HCE.out r hr1)
   have zga:=Nat.lt_of_lt_of_le HGA.out.2 HBR.out.size
   have hcv:=HCV.out r hr1
   obtain⟨v,hv⟩:∃z,(if (O'.getD q 0).testBit r=true then(atR s' F i (q-hdA F i)).getD r 0 else -1)=z:=⟨_,rfl⟩
   rw[hv] at ca0 hcv
   clear hr hr12 hv
   rcases hcv with rfl|⟨u,rfl,hu2,hu3,hu4⟩
   ·have e1:decide ((-1:Int)≥0)=false:=by decide
    have e2:decide ((0:Int)≤-1)=false:=by decide
    go_upto_region 7 with fail
    go_quiet (fail)
    go_wp2_with fail
    go_roundw
    case rel=>exact⟨r+1,by omega,by go_num,below_drewN HBR.out _⟩
    case measure=>simp[intOf];omega
   ·have e1:decide ((u:Int)≥0)=true:=by rw[decide_eq_true_eq];omega
    have e2:decide ((0:Int)≤u)=true:=e1
    have u1:(u:Int)<vl:=by omega
    have u0:(0:Int)≤u:=by omega
    have hE:=(HBW.out.block _ (block_lt HE.out)).trans HE.out
    have hD:=(HBW.out.block _ (block_lt HD.out)).trans HD.out
    have cm:=BoolsB.cell (w:=wr) hD (i:=u) (by rw[HDL.out];exact hu2)
    have ce:=IntsB.getC (w:=wr) hE (i:=u) (by rw[HEL.out];exact hu2)
    rw[hu3] at cm
    rw[hu4] at ce
    have zm:=block_lt hD
    have ze:=block_lt hE
    have hB2r:Below w2.heap.size w2 wr:=HB3.out.trans (HBR.out.mono HB3.out.size)
    have c2:=(hB2r.cell (p:=⟨bx,2,none⟩) (block_lt HX2.out)).trans ((cell_block HX2.out 2).trans (List.getElem?_toArray.trans HC2.out))
    have zx:=Nat.lt_of_lt_of_le (block_lt HX2.out) hB2r.size
    have cr:=(HBW.out.cell (p:=⟨gf,2+r,none⟩) HGL.out).trans (HREG.out r hr1)
    have zgf:=Nat.lt_of_lt_of_le HGL.out HBW.out.size
    obtain⟨rv,hrv⟩:∃z,f.regs.getD r 0=z:=⟨_,rfl⟩
    rw[hrv] at ce cr
    clear hE hD hu3 hu4 hB2r hrv hu2
    go_upto_region 7 with fail
    go_quiet (fail)
    go_wp2_with fail
    go_roundw
    case rel=>exact⟨r+1,by omega,by go_num,below_drewN HBR.out _⟩
    case measure=>simp[intOf];omega
set_option maxRecDepth 100000 in
set_option maxHeartbeats 8000000 in
theorem ssaTrue_walk(A:Option Addr)(l:List Fnc)(cap:Nat)(a0 a1:Int)(YA:Option Addr)(ans:List Int)(ycap:Nat)(fuel:Int)(w:World)(ht:Tab w)(hraw:RawsAt w A l)(hln:(l.length:Int)≤9223372036854775807)(hin:InOk w a0 a1 YA ans ycap fuel):
 Calls Tryd.prog 3 #[.slice A l.length cap, .agg #[.int .i64 a0, .int .i64 a1, .slice YA ans.length ycap, .int .i64 fuel]] w fun e w' =>e= .returned (.bool true)∧Below w.heap.size w w' :=by
 have HT:=Lib.hid ht
 have HR:=Lib.hid hraw
 have HIN:=Lib.hid hin
 have hright:=mkP_right l
 clear ht hraw hin
 go_enter Tryd.func3,Tryd.ntmps3
 go_wp2_with fail
 obtain⟨wi,hwi⟩:∃wi,w.alloc (.cells #[.int .i64 a0, .int .i64 a1, .slice YA ans.length ycap, .int .i64 fuel] 26)=wi:=⟨_,rfl⟩
 have HBI:Hid (Below w.heap.size w wi):=Lib.hid (hwi▸(Below.refl _ w).alloc (Nat.le_refl _) _)
 have HIB:Hid (wi.heap[w.heap.size]? =some (.cells #[.int .i64 a0, .int .i64 a1, .slice YA ans.length ycap, .int .i64 fuel] 26 (0,0))):=Lib.hid (hwi▸heap_alloc_new w _)
 rw[hwi]
 refine(program_any A cap l _ (HT.out.keeps HBI.out) hln (HR.out.keeps HBI.out)).mono ?_
 rintro e w1 ⟨⟨A1,cap1,vs,rfl,hpv⟩,hb1⟩
 have HP:=Lib.hid hpv.at
 have HBW:=Lib.hid (HBI.out.trans (hb1.mono HBI.out.size))
 have HT1:=Lib.hid (HT.out.keeps HBW.out)
 have hib:=(hb1.block _ (block_lt HIB.out)).trans HIB.out
 clear hpv hb1 hwi HBI HIB vs
 generalize mkP l=p at *
 have hp:=right_of hright
 obtain⟨F,hF⟩:∃F,p[0]? =some F:=⟨_,gE (by have:=hp.ok.l1;omega)⟩
 obtain⟨w2,hw2⟩:∃W,w1.alloc (.cells #[.slice A1 p.length cap1] 29)=W:=⟨_,rfl⟩
 obtain⟨cb,hcb⟩:∃n,w1.heap.size=n:=⟨_,rfl⟩
 have HB12:Hid (Below w1.heap.size w1 w2):=Lib.hid (hw2▸(Below.refl _ _).alloc (Nat.le_refl _) _)
 have HXC:Hid (w2.heap[cb]? =some (.cells #[.slice A1 p.length cap1] 29 (0,0))):=Lib.hid (hw2▸hcb▸heap_alloc_new _ _)
 have i0:=(HB12.out.cell (p:=⟨w.heap.size,0,none⟩) (block_lt hib)).trans (cell_block hib 0)
 have i1:=(HB12.out.cell (p:=⟨w.heap.size,1,none⟩) (block_lt hib)).trans (cell_block hib 1)
 have i2:=(HB12.out.cell (p:=⟨w.heap.size,2,none⟩) (block_lt hib)).trans (cell_block hib 2)
 have i3:=(HB12.out.cell (p:=⟨w.heap.size,3,none⟩) (block_lt hib)).trans (cell_block hib 3)
 have zi:=Nat.lt_of_lt_of_le (block_lt hib) HB12.out.size
 have pc:=cell_block HXC.out 0
 have zc:=block_lt HXC.out
 have HFOL:=Lib.hid (ssaTrue_fol hright hF a0 a1 fuel YA ans ycap A1 cap1 cb w1 w2 HT1.out HP.out HB12.out (HIN.out.row.keeps HBW.out) HIN.out.len HIN.out.cap HIN.out.fuel (WCb cb A1 p.length cap1) (WCb cb A1 p.length cap1)
  (fun W E D h _=>(h cb (block_lt HXC.out)).trans HXC.out)
  (fun W W' x h hw=>(h cb (block_lt HXC.out)).trans hw)
  (fun W W' x h hw=>(h cb (block_lt HXC.out)).trans hw)
  (fun _ _ _ _ _ _ _ _ _ _ _ _ _ _ _ _ _ _ h=>h)
  (fun _ _ _ _ _ _ _ _ _ _ _ _ _ _ h=>h)
  (fun O bs K s1 s2 l s W x f j t C ge gm hx _ hW hi _ hb0 hc hE hD hC _ _=>(ssaTrue_clo hright hF A1 cap1 cb w1 w2 HT1.out HP.out O bs K s1 s2 l s W x f j t C ge gm _ rfl hx hW hi hb0 hc hE hD hC).mono (fun e W' h=>⟨h.1,FW.of h.2 hb0.size,(h.2.block _ (block_lt hc)).trans hc⟩)))
 clear hright hF hp hib
 go_wp2_with (go_at_call 8;go_must (refine HFOL.out.mono ?_;rintro e w3 ⟨rfl,hb3⟩;have HB13:=Lib.hid hb3;clear hb3))
 go_ret
 exact⟨rfl,HBW.out.trans (HB13.out.mono HBW.out.size)⟩
end Go.Proofs.YtedcjapmmnbamaaDoor
