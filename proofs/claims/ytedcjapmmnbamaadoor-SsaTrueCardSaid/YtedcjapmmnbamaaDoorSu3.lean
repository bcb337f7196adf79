import Derived.Test.YtedcjapmmnbamaaDoorSu1
import Derived.Test.YtedcjapmmnbamaaDoorLib
import Derived.Deep.OwnRows
import Derived.Maps.AppendAt
import Derived.Test.YtedcjapmmnbamaaDoorFnS
import Derived.Test.YtedcjapmmnbamaaDoorRw
namespace Go.Proofs.YtedcjapmmnbamaaDoor
open Go.RowKit Tier
theorem infoInt:(Tryd.prog.info? 3).map (fun i=>(i.zero,i.size,i.bytes))=some (some (.int .i64 0),1,8):=by kernel_rfl
theorem make_ints(N:Nat)(hN:N≤40)(w:World):(Instr.makeSlice 24 (.int .i64 ((N:Int)+1)) (.int .i64 ((N:Int)+1))).run Tryd.prog w= .ok (.slice (some ⟨w.heap.size,0,none⟩) (N+1) (N+1)) (w.alloc (.cells (madeCells #[.int .i64 0] (N+1)) 3)):=by
 have:=run_make_row' (P:=Tryd.prog) 24 3 (.int .i64 0) 8 Tryd.underlying24 infoInt rfl .i64 .i64 (N+1) (by omega) (by omega) w
 push_cast at this
 exact this
theorem made_ints(w:World)(n:Nat):IntsB (w.alloc (.cells (madeCells #[.int .i64 0] n) 3)) w.heap.size (List.replicate n 0):=by
 unfold IntsB
 rw[heap_alloc_new]
 congr 2
 apply Array.ext_getElem?
 intro i
 simp only[madeCells,List.map_replicate]
 by_cases h:i<n
 ·simp[h,Nat.mod_one]
 ·simp[h]
structure S0(w wr:World)(fp fr:Int)(fv:Value)(n k:Nat):Prop where
 box:wr.heap[w.heap.size]? =some (.cells #[.int .i64 fp, .int .i64 fr,fv] 60 (0,0))
 out:IntsB wr (w.heap.size+1) (List.replicate k (-1)++List.replicate (n-k) 0)
 below:Below w.heap.size w wr
section
variable {w wr:World}{fp fr:Int}{fv:Value}{n k:Nat}
theorem S0.size(h:S0 w wr fp fr fv n k):w.heap.size+1<wr.heap.size:=h.out.lt
theorem S0.start(w:World)(fp fr:Int)(fv:Value)(n:Nat):S0 w ((w.alloc (.cells #[.int .i64 fp, .int .i64 fr,fv] 60)).alloc (.cells (madeCells #[.int .i64 0] n) 3)) fp fr fv n 0:=by
 refine⟨?_,?_,?_⟩
 ·rw[Below.heap_alloc _ _ _ (by simp)];exact heap_alloc_new _ _
 ·have:=made_ints (w.alloc (.cells #[.int .i64 fp, .int .i64 fr,fv] 60)) n
  simpa using this
 ·exact Bq
theorem S0.step(h:S0 w wr fp fr fv n k)(hk:k<n):S0 w (wr.setCell ⟨w.heap.size+1,k,none⟩ (.int .i64 (-1))) fp fr fv n (k+1):=by
 refine⟨(Below.heap_setCell _ _ _ _ (by simp)).trans h.box,?_,h.below.setCell (by simp) _⟩
 have:=h.out.set k (-1)
 have e:(List.replicate k (-1:Int)++List.replicate (n-k) 0).set k (-1)=List.replicate (k+1) (-1)++List.replicate (n-(k+1)) 0:=by
  rw[List.set_append_right _ _ (by simp)]
  have:n-k=(n-(k+1))+1:=by omega
  rw[this,List.replicate_succ]
  simp[List.replicate_succ',List.append_assoc]
 rw[←e];exact this
end
theorem first_mask(fp:Int)(h0:0≤fp)(h1:fp≤2):wrap64 (wrap64 (2^fp.toNat)-1)=((2^fp.toNat-1:Nat):Int):=by
 have:fp=0∨fp=1∨fp=2:=by omega
 rcases this with rfl|rfl|rfl<;>decide+kernel
theorem SW.start{w wr:World}{fp fr:Int}{fv:Value}{n:Nat}(h:S0 w wr fp fr fv (n+1) (n+1))(fc:List Ins)(hn:fc.length=n)(h0:0≤fp)(h1:fp≤2):
 SW w ((wr.setCell ⟨w.heap.size+1,0,none⟩ (.int .i64 (wrap64 (wrap64 (2^fp.toNat)-1)))).alloc (.cells #[.int .i64 0] 3)) fp fr fv (some ⟨wr.heap.size,0,none⟩) 1 (startS ⟨fp,fr,fc⟩):=by
 have hs:=h.size
 rw[first_mask fp h0 h1]
 have hb1:Below w.heap.size w (wr.setCell ⟨w.heap.size+1,0,none⟩ (.int .i64 ((2^fp.toNat-1:Nat):Int))):=h.below.setCell (by simp) _
 have hout:IntsB wr (w.heap.size+1) (outL (List.replicate (n+1) none)):=by
  have:=h.out
  rw[Nat.sub_self,List.replicate_zero,List.append_nil] at this
  simpa [outL,oI] using this
 refine⟨?_,?_,?_,?_⟩
 ·rw[Below.heap_alloc _ _ _ (by simp;omega),Below.heap_setCell _ _ _ _ (by simp)];exact h.box
 ·have h2:=hout.set 0 ((2^fp.toNat-1:Nat):Int)
  have h3:=outL_set (List.replicate (n+1) none) 0 (some (2^fp.toNat-1))
  simp only[oI] at h3
  rw[h3] at h2
  unfold IntsB at *
  rw[Below.heap_alloc _ _ _ (by simp;omega),h2,startS,hn]
 ·refine⟨by simp[natI,startS], .inr ⟨wr.heap.size,1,#[.int .i64 0],rfl,by omega,?_,by simp[startS],by unfold maxLen;omega,by simp,?_⟩⟩
  ·have:=heap_alloc_new (wr.setCell ⟨w.heap.size+1,0,none⟩ (.int .i64 ((2^fp.toNat-1:Nat):Int))) (.cells #[.int .i64 0] 3)
   simpa using this
  ·simp[startS,natI]
 ·exact hb1.alloc (by simp;omega) _
set_option maxRecDepth 100000 in
set_option maxHeartbeats 8000000 in
theorem sure_any(f:Fnc)(A:Option Addr)(cap:Nat)(funcs:Int)(w:World)(hf:FnOk f funcs)(hc:CodeAt w (.slice A f.code.length cap) f.code):
 Calls Tryd.prog 68 #[.agg #[.int .i64 f.params, .int .i64 f.regs, .slice A f.code.length cap]] w fun e w' =>
  (∃b,e= .returned (.slice (some ⟨b,0,none⟩) (f.code.length+1) (f.code.length+1))∧w.heap.size≤b∧IntsB w' b (outL (sureF f)))∧Below w.heap.size w w' :=by
 obtain⟨A0,cap0,hA0,hA⟩:=hc.slice
 simp only[Value.slice.injEq,true_and] at hA0
 obtain⟨g,hAg,hg,hfn⟩:=hA (by have:=hf.c1;omega)
 obtain⟨rfl,rfl⟩:=hA0
 have HF:=Lib.hid hf
 have HC:=Lib.hid hc
 have HFN:=Lib.hid hfn
 subst hAg
 have n1:=hf.c1
 have n2:=hf.c2
 have p1:=hf.p1
 have p2:=hf.p2
 clear hA hf hfn hc
 obtain⟨fp,fr,fc⟩:=f
 dsimp only at *
 generalize hN:fc.length=N at *
 have HN:=Lib.hid hN
 clear hN
 obtain⟨i0,hi,hz0,hz1,hz2⟩:=info_parts infoInt
 have hmk:=make_ints N n2
 go_enter Tryd.func68,Tryd.ntmps68
 go_wp2_with fail
 go_loopw [18] (fun v wr=>∃k:Nat,k≤N+1∧v= .int .i64 (k:Int)∧S0 w wr fp fr (.slice (some ⟨g,0,none⟩) N cap) (N+1) k) (fun v _=>N+1-(intOf v).toNat)
 case atStart=>exact⟨0,by omega,rfl,S0.start w fp fr _ (N+1)⟩
 case round=>
  obtain⟨k,hk,rfl,hS⟩:=hrel
  have HS:=Lib.hid hS
  have z1:=hS.size
  have z0:w.heap.size<wr.heap.size:=by omega
  by_cases hkN:k=N+1
  ·subst hkN
   have q0:=cell_block hS.box
   have f0:=frozen_block hS.box
   have c1:wr.cell? ⟨w.heap.size+1,0,none⟩=some (.int .i64 (-1)):=hS.out.cell (by simp[List.replicate_succ])
   have f1:=hS.out.frozen 0
   have HSW:=Lib.hid (SW.start hS fc HN.out p1 p2)
   clear hS hk
   go_wp2_with fail
   clear q0 f0 c1 f1 z1 z0 hmk
   have hcok:=HF.out.cok
   have HCOK:=Lib.hid hcok
   dsimp only at hcok
   clear hcok
   go_loopg [5] (muS (startS ⟨fp,fr,fc⟩)) (fun q v wr=>∃(k:Nat) (A1:Option Addr) (cap1:Nat) (s:SS),s=iterS fc k (startS ⟨fp,fr,fc⟩)∧q=muS s∧v= .slice A1 s.todo.length cap1∧SW w wr fp fr (.slice (some ⟨g,0,none⟩) N cap) A1 cap1 s)
   case atStart=>exact⟨0,_,1,_,rfl,rfl,rfl,HSW.out⟩
   case round=>
    obtain⟨k,A1,cap1,s,hs,rfl,rfl,hW⟩:=hrel
    clear HSW
    have HS:=Lib.hid hs
    have HW:=Lib.hid hW
    have z1:=hW.size
    have z0:w.heap.size<wr.heap.size:=by omega
    by_cases he:s.todo=[]
    ·have hl0:s.todo.length=0:=by rw[he];rfl
     have HFIN:=Lib.hid (show s.out=sureF ⟨fp,fr,fc⟩ by rw[hs];exact sureF_of HCOK.out p2 (by rw[hs] at he;exact he))
     rw[hl0]
     clear hs hW he hl0
     go_wp2_with fail
     go_ret
     refine⟨⟨w.heap.size+1,rfl,by omega,by rw[←HFIN.out];exact HW.out.out⟩,HW.out.below⟩
    ·obtain⟨m,pc,hl,hm,hlast,hdrop,hmem⟩:=last_split he
     have hinv:SInv fc s:=by rw[hs];exact iterS_inv (f:=⟨fp,fr,fc⟩) HCOK.out p2 k
     have hml:m≤340000:=by
      have:=iterS_todo (f:=⟨fp,fr,fc⟩) HCOK.out p2 (by have:=HN.out;dsimp only;omega) k
      dsimp only at this
      rw[←hs,hl] at this;omega
     obtain⟨ga,hga,hgl,cp⟩:=hW.at hl hm
     obtain⟨hpc,mk,hmk⟩:=hinv.todo pc hmem
     have hpcN:pc≤N:=by rw[←HN.out];exact hpc
     have co:wr.cell? ⟨w.heap.size+1,pc,none⟩=some (.int .i64 (mk:Int)):=hW.out.cell (outL_get hmk)
     have q0:=cell_block hW.box
     have HP:=Lib.hid (hW.pop he)
     have hcap:m+1≤cap1:=by have:=hW.room he;omega
     have hcap0:m≤cap1:=by omega
     have HPL:=Lib.hid (show(popS s).todo.length=m by simp[popS,hl])
     have HSTEP:=Lib.hid (show stepS fc s=iterS fc (k+1) (startS ⟨fp,fr,fc⟩) by rw[hs];rfl)
     have HMU:=Lib.hid (show muS (stepS fc s)<muS s from(stepS_inv HCOK.out hinv).2 he)
     have HINV:=Lib.hid hinv
     have HMUS:=Lib.hid (show muS (popS s)≤340000 by
      have h1:=muS_start ⟨fp,fr,fc⟩ (by have:=HN.out;dsimp only;omega) p2
      have h2:=(iterS_mu (f:=⟨fp,fr,fc⟩) HCOK.out p2 k)
      have h3:muS (popS s)≤muS s:=by simp only[muS,popS,List.length_dropLast];omega
      rcases h2 with h2|h2
      ·dsimp only at h2;rw[←hs] at h2;exact absurd h2 he
      ·dsimp only at h2;rw[←hs] at h2;omega)
     have HLAST:=Lib.hid hlast
     have HMK:=Lib.hid hmk
     rw[hl]
     clear hs hW he hm hlast hdrop hmem hinv hpc hmk
     subst hga
     by_cases hpe:pc=N
     ·subst hpe
      have HST:=Lib.hid (show stepS fc s=popS s by
       unfold stepS;rw[HLAST.out];dsimp only
       rw[List.getElem?_eq_none (by rw[HN.out];exact Nat.le_refl _)])
      go_wp2_with fail
      go_roundg (muS (popS s))
      case rel=>exact⟨k+1,_,cap1,popS s,by rw[←HSTEP.out,HST.out],rfl,by rw[HPL.out],HP.out⟩
      case measure=>rw[←HST.out];exact HMU.out
     ·have hpl:(pc:Int)<N:=by omega
      obtain⟨x,hx⟩:∃x,fc[pc]? =some x:=⟨fc[pc]'(by have:=HN.out;omega),gE _⟩
      obtain⟨c0,c1,c2,c3,c4⟩:=HFN.out pc x hx
      have hio:=HF.out.ins x (gM hx)
      have HX:=Lib.hid hx
      have hsm:=setM_lt hio HF.out.r2
      have hJ:x.op=15∨x.op=16→0≤x.imm:=fun h=>(hio.jump h).1
      have HJ:=Lib.hid hJ
      have hnl:=nextL_le hio (by rw[HN.out];omega:pc<fc.length)
      have hmlt:=HINV.out.mask pc mk HMK.out
      obtain⟨b',hb'⟩:∃b',mk|||setM x=b' :=⟨_,rfl⟩
      have hblt:b' <4096:=by rw[←hb'];exact or_lt hmlt hsm
      have HB' :=Lib.hid hb'
      have HST:=Lib.hid (show stepS fc s=(nextL x pc).foldl (relax b') (popS s) by
       unfold stepS;rw[HLAST.out];dsimp only
       rw[hx];dsimp only
       rw[←hb']
       unfold bitsAt;rw[HMK.out];rfl)
      obtain⟨L,hL⟩:∃L,nextL x pc=L:=⟨_,rfl⟩
      have HL:=Lib.hid hL
      have hsb1:setsB x=true→mk|||2^x.dst.toNat=b' :=fun h=>by rw[←hb'];unfold setM;rw[if_pos h]
      have hsb0:setsB x=false→mk=b' :=fun h=>by rw[←hb'];unfold setM;rw[if_neg (by simp[h]),Nat.or_zero]
      have hd0:=hio.dst1
      have hd1:x.dst≤11:=by have:=hio.dst2;have:=HF.out.r2;omega
      have sdst:=shl_one x.dst hd0 (by omega)
      have hgr:g<wr.heap.size:=Nat.lt_of_lt_of_le hg HW.out.below.size
      rw[←HW.out.below.cell (p:=⟨g,_,none⟩) hg] at c0 c1 c2 c3 c4
      have HCR:=Lib.hid (HC.out.keeps HW.out.below)
      have HNL:=Lib.hid (show∀k∈L,k≤N by rw[←hL,←HN.out];exact hnl)
      have hLl:L.length≤2:=by rw[←hL];unfold nextL;split<;>(try split)<;>(try split)<;>simp
      have HNX:=Lib.hid (show∀W:World,CodeAt W (.slice (some ⟨g,0,none⟩) N cap) fc→Calls Tryd.prog 89 #[.agg #[.int .i64 fp, .int .i64 fr, .slice (some ⟨g,0,none⟩) N cap], .int .i64 (pc:Nat)] W (fun e w' =>(∃v,e= .returned v∧OwnI w' W.heap.size v (natI L))∧Below W.heap.size W w') from fun W hW=>by
       have h1:=next_any ⟨fp,fr,fc⟩ (some ⟨g,0,none⟩) cap pc x W hx (by dsimp only;rw[HN.out];exact hW) (by dsimp only;rw[HN.out];exact n2) hJ
       dsimp only at h1
       rw[HN.out,hL] at h1
       exact h1)
      clear hx hio hsm hb' hL hnl hpe hJ
      obtain⟨op,dst,a,b,imm⟩:=x
      dsimp only at *
      cases hsb:setsB ⟨op,dst,a,b,imm⟩
      case' false=>
       have hsb2:=(hsb0 hsb).symm
       subst hsb2
       have sor:True:=trivial
      case' true=>
       have e1:=hsb1 hsb
       have sor:bits .or .i64 (mk:Int) ((2:Int)^dst.toNat)=(b' :Int):=by
        have h2:2^dst.toNat<4096:=pow_lt (by omega)
        have:=or_nat mk (2^dst.toNat) (by omega) (by omega)
        push_cast at this
        rw[this,←e1]
      all_goals (
       have HSB:=Lib.hid hsb
       clear hsb0 hsb1 hsb
       go_wp2_with (first|(go_at_call 83;go_must (refine(sets_any ⟨op,dst,a,b,imm⟩ _).mono ?_;rintro e wx ⟨he,hbx⟩;rw[HSB.out] at he;subst he;have HWx:=Lib.hid (HP.out.keeps hbx);have HBX:=Lib.hid hbx;have q1:=cell_block HWx.out.box;have zx0:w.heap.size<wx.heap.size:=(by have:=HWx.out.size;omega);have d0:=(hbx.cell (p:=⟨g,_,none⟩) hgr).trans c0;have d1:=(hbx.cell (p:=⟨g,_,none⟩) hgr).trans c1;have d2:=(hbx.cell (p:=⟨g,_,none⟩) hgr).trans c2;have d3:=(hbx.cell (p:=⟨g,_,none⟩) hgr).trans c3;have d4:=(hbx.cell (p:=⟨g,_,none⟩) hgr).trans c4;clear hbx))|(go_at_call 89;go_must (refine(HNX.out _ (HCR.out.keeps HBX.out)).mono ?_;rintro e wy ⟨⟨v,rfl,hov⟩,hby⟩;obtain⟨Av,capv,gv,hv,hSX,hAv⟩:=SX.start HWx.out hby (Nat.le_refl _) hov;subst hv;have HSX:=Lib.hid hSX;have HAV:=Lib.hid hAv;clear hov hby hSX hAv)))
       generalize hLN:L.length=ln at *
       have HLN:=Lib.hid hLN
       clear hLN q0 q1 zx0 c0 c1 c2 c3 c4 d0 d1 d2 d3 d4 cp co sor sdst
       go_loopw [5,74] (fun v5 i wi=>∃(j:Nat) (A4:Option Addr) (cap4:Nat) (s4:SS),j≤ln∧i= .int .i64 (j:Nat)∧s4=(L.take j).foldl (relax b') (popS s)∧v5= .slice A4 s4.todo.length cap4∧SX w wi fp fr (.slice (some ⟨g,0,none⟩) N cap) A4 cap4 s4 gv L) (fun _ i _=>ln-(intOf i).toNat)
       case atStart=>exact⟨0,_,cap1,popS s,by omega,rfl,rfl,by rw[HPL.out],HSX.out⟩
       case round=>
        obtain⟨j,A4,cap4,s4,hj,rfl,hs4,rfl,hSX4⟩:=hrel
        have HE4:=Lib.hid hs4
        have HS4:=Lib.hid hSX4
        have z4:=hSX4.sw.size
        clear hs4
        obtain⟨wi,hwi⟩:∃wi:World,wi=wr:=⟨_,rfl⟩
        subst hwi
        by_cases hjl:j=ln
        ·subst hjl
         have HEQ:=Lib.hid (show s4=stepS fc s by rw[HST.out,HL.out,HE4.out,List.take_of_length_le (by rw[HLN.out];exact Nat.le_refl _)])
         clear hSX4
         go_wp2_with fail
         go_roundg (muS s4)
         case rel=>exact⟨k+1,A4,cap4,s4,by rw[HEQ.out,HSTEP.out],rfl,rfl,HS4.out.sw⟩
         case measure=>rw[HEQ.out];exact HMU.out
        ·have hjl2:(j:Int)<ln:=by omega
         obtain⟨n,hn⟩:∃n,L[j]? =some n:=⟨L[j]'(by rw[HLN.out];omega),gE _⟩
         have HJN:=Lib.hid hn
         have hAv:=HAV.out (by omega)
         have hcn:=hSX4.row j n hn
         have hgv:gv<wi.heap.size:=World.block_lt_of_cell? _ _ hcn
         have hnN:=HNL.out n (gM hn)
         obtain⟨hi4,hm4⟩:=fold_inv hblt (L.take j) (popS_inv HINV.out) (fun k hk=>by rw[HN.out];exact HNL.out k (List.mem_of_mem_take hk))
         rw[←HE4.out] at hi4 hm4
         have htl:s4.todo.length≤340000:=by have:=HMUS.out;simp only[muS] at hm4 this;omega
         obtain⟨o,ho⟩:∃o,s4.out[n]? =some o:=⟨s4.out[n]'(by have:=hi4.len;rw[HN.out] at this;omega),gE _⟩
         have co4:=hSX4.sw.out.cell (outL_get ho)
         have f4:=hSX4.sw.out.frozen n
         have HFO:=Lib.hid (show(L.take (j+1)).foldl (relax b') (popS s)=relax b' s4 n by
          rw[List.take_add_one,hn,HE4.out];simp[List.foldl_append])
         have HO:=Lib.hid ho
         have HMSK:=Lib.hid (fun was (h:o=some was)=>hi4.mask n was (by rw[ho,h]))
         subst hAv
         generalize hTL:s4.todo.length=tl4 at *
         have HTL4:=Lib.hid hTL
         have hn0:(0:Int)≤(n:Int):=by omega
         have hn1:(n:Int)<(N:Int)+1:=by omega
         clear hSX4 hi4 hm4 ho hn hTL hjl
         cases o with
         |none=>
          simp only[oI] at co4
          have HRX:=Lib.hid (show relax b' s4 n=⟨s4.out.set n (some b'),s4.todo++[n]⟩ by unfold relax;rw[HO.out])
          go_wp2_with (first|(at_builtin;go_must (refine wpList_append_own_at _ rfl _ _ 24 rfl (w.heap.size+2) 3 i0 _ 1 8 Tryd.underlying24 hi hz0 hz1 hz2 rfl (by decide) (.slice A4 tl4 cap4) tl4 ((natI s4.todo).map (Value.int .i64)) rfl (by have:=HS4.out.mid n (.int .i64 (b' :Nat)) (.cells #[.int .i64 (n:Int)] 3);rw[HTL4.out] at this;exact this) ⟨wi.heap.size,0,none⟩ 1 1 [.int .i64 (n:Int)] rfl rfl (World.news_of_block (cs:= #[.int .i64 (n:Int)]) (t:=3) (fr:=(0,0)) (by simpa using heap_alloc_new (wi.setCell ⟨w.heap.size+1,n,none⟩ (.int .i64 (b' :Nat))) (.cells #[.int .i64 (n:Int)] 3))) (by simp[Value.oneCell']) (by unfold maxLen;omega) (by omega) (by simp;omega) ?_);intro v6 w6 hown6 hg6 _ hat6;obtain⟨A6,cap6,hv6,-⟩:=own_slice hown6;rw[hv6] at hown6 hat6;rw[hv6];have HS6:=Lib.hid (HS4.out.push HJN.out n b' (by rw[HTL4.out];exact hg6) (by rw[HTL4.out];exact hown6) (by rw[HTL4.out];exact hat6));clear hown6 hg6 hat6))
          go_roundw
          case rel=>exact⟨j+1,A6,cap6,⟨s4.out.set n (some b'),s4.todo++[n]⟩,by omega,by go_num,by rw[HFO.out,HRX.out],by simp[HTL4.out],HS6.out⟩
          case measure=>simp[intOf];omega
         |some was=>
          simp only[oI] at co4
          have hw1:=HMSK.out was rfl
          have hw0:¬((was:Int)<0):=by omega
          have sand:=and_nat was b' (by omega) (by omega)
          by_cases hwb:was&&&b' =was
          ·rw[hwb] at sand
           have HRX:=Lib.hid (show relax b' s4 n=s4 by unfold relax;rw[HO.out];dsimp only;rw[if_pos hwb])
           clear hwb
           go_wp2_with fail
           go_roundw
           case rel=>exact⟨j+1,A4,cap4,s4,by omega,by go_num,by rw[HFO.out,HRX.out],by rw[HTL4.out],HS4.out⟩
           case measure=>simp[intOf];omega
          ·have HRX:=Lib.hid (show relax b' s4 n=⟨s4.out.set n (some (was&&&b')),s4.todo++[n]⟩ by unfold relax;rw[HO.out];dsimp only;rw[if_neg hwb])
           obtain⟨v',hv'⟩:∃v',was&&&b' =v' :=⟨_,rfl⟩
           rw[hv'] at sand hwb HRX
           have hne:((v' :Int)==(was:Int))=false:=by simp;omega
           clear hwb hv'
           go_wp2_with (first|(at_builtin;go_must (refine wpList_append_own_at _ rfl _ _ 24 rfl (w.heap.size+2) 3 i0 _ 1 8 Tryd.underlying24 hi hz0 hz1 hz2 rfl (by decide) (.slice A4 tl4 cap4) tl4 ((natI s4.todo).map (Value.int .i64)) rfl (by have:=HS4.out.mid n (.int .i64 (v' :Nat)) (.cells #[.int .i64 (n:Int)] 3);rw[HTL4.out] at this;exact this) ⟨wi.heap.size,0,none⟩ 1 1 [.int .i64 (n:Int)] rfl rfl (World.news_of_block (cs:= #[.int .i64 (n:Int)]) (t:=3) (fr:=(0,0)) (by simpa using heap_alloc_new (wi.setCell ⟨w.heap.size+1,n,none⟩ (.int .i64 (v' :Nat))) (.cells #[.int .i64 (n:Int)] 3))) (by simp[Value.oneCell']) (by unfold maxLen;omega) (by omega) (by simp;omega) ?_);intro v6 w6 hown6 hg6 _ hat6;obtain⟨A6,cap6,hv6,-⟩:=own_slice hown6;rw[hv6] at hown6 hat6;rw[hv6];have HS6:=Lib.hid (HS4.out.push HJN.out n v' (by rw[HTL4.out];exact hg6) (by rw[HTL4.out];exact hown6) (by rw[HTL4.out];exact hat6));clear hown6 hg6 hat6))
           go_roundw
           case rel=>exact⟨j+1,A6,cap6,⟨s4.out.set n (some v'),s4.todo++[n]⟩,by omega,by go_num,by rw[HFO.out,HRX.out],by simp[HTL4.out],HS6.out⟩
           case measure=>simp[intOf];omega)
  ·have hkN' :(k:Int)<(N:Int)+1:=by omega
   have c1:wr.cell? ⟨w.heap.size+1,k,none⟩=some (.int .i64 0):=hS.out.cell (by
    rw[List.getElem?_append_right (by simp),List.getElem?_replicate,List.length_replicate,if_pos (by omega)])
   have f1:=hS.out.frozen k
   clear hS hkN
   go_wp2_with fail
   go_roundw
   case rel=>exact⟨k+1,by omega,by go_num,HS.out.step (by omega)⟩
   case measure=>simp[intOf];omega
theorem make_intsN(N:Nat)(hN:N≤40)(w:World):(Instr.makeSlice 24 (.int .i64 (N:Int)) (.int .i64 (N:Int))).run Tryd.prog w= .ok (.slice (some ⟨w.heap.size,0,none⟩) N N) (w.alloc (.cells (madeCells #[.int .i64 0] N) 3)):=by
 have:=run_make_row' (P:=Tryd.prog) 24 3 (.int .i64 0) 8 Tryd.underlying24 infoInt rfl .i64 .i64 N (by omega) (by omega) w
 exact this
theorem fill_set(l:List Int)(k n:Nat)(x:Int)(hl:l.length=k)(hk:k<n):(l++List.replicate (n-k) 0).set k x=(l++[x])++List.replicate (n-(k+1)) 0:=by
 rw[List.set_append_right _ _ (by omega),hl,Nat.sub_self,show n-k=(n-(k+1))+1 by omega,List.replicate_succ]
 simp
theorem fill_at(l:List Int)(k n:Nat)(hl:l.length=k)(hk:k<n):(l++List.replicate (n-k) 0)[k]? =some 0:=by
 rw[List.getElem?_append_right (by omega),hl,Nat.sub_self,List.getElem?_replicate,if_pos (by omega)]
theorem any_at{n:Nat}{q:Nat→Bool}{k:Nat}(hk:k<n)(h:q k=true):(List.range n).any q=true:=by
 rw[List.any_eq_true];exact⟨k,List.mem_range.2 hk,h⟩
theorem any_none{n:Nat}{q:Nat→Bool}(h:∀k,k<n→q k=false):(List.range n).any q=false:=by
 rw[List.any_eq_false];intro k hk;rw[h k (List.mem_range.1 hk)];simp
theorem sub_le{a m:Nat}(h:a&&&m≤a):((a-(a&&&m):Nat):Int)=(a:Int)-((a&&&m:Nat):Int):=by omega
set_option maxRecDepth 100000 in
set_option maxHeartbeats 8000000 in
theorem pfn_any(p:List Fnc)(A:Option Addr)(cap:Nat)(f:Fnc)(FA:Option Addr)(fcap:Nat)(w:World)(hp:ProgAt w (.slice A p.length cap) p)(hok:ProgOk p)(hf:f∈p)(hc:CodeAt w (.slice FA f.code.length fcap) f.code):
 Calls Tryd.prog 44 #[.agg #[.slice A p.length cap], .agg #[.int .i64 f.params, .int .i64 f.regs, .slice FA f.code.length fcap]] w fun e w' =>
  e= .returned (.int .i64 (fnP p f))∧Below w.heap.size w w' :=by
 have hfo:=hok.fn f hf
 obtain⟨A0,cap0,hA0,hA⟩:=hc.slice
 simp only[Value.slice.injEq,true_and] at hA0
 obtain⟨g,hAg,hg,hfn⟩:=hA (by have:=hfo.c1;omega)
 obtain⟨rfl,rfl⟩:=hA0
 have HF:=Lib.hid hfo
 have HC:=Lib.hid hc
 have HFN:=Lib.hid hfn
 have HP:=Lib.hid hp
 have HOK:=Lib.hid hok
 have HCOK:=Lib.hid hfo.cok
 subst hAg
 have n1:=hfo.c1
 have n2:=hfo.c2
 have p2:=hfo.p2
 have HSF:=Lib.hid (show(sureF f).length=f.code.length+1 from sureF_length hfo.cok hfo.p2)
 have HMS:=Lib.hid (show∀i m:Nat,(sureF f)[i]? =some (some m)→m<4096 from fun i m=>sureF_mask hfo.cok hfo.p2 i m)
 have HSU:=Lib.hid (sure_any f (some ⟨g,0,none⟩) fcap p.length)
 have HRD:=Lib.hid (fun(W:World) (x:Ins) (hx:x∈f.code) (hW:ProgAt W (.slice A p.length cap) p)=>preads_any p A cap x f.regs f.code.length W hW (hfo.ins x hx) hfo.r2 (fun f hf=>⟨(hok.fn f hf).p1,(hok.fn f hf).p2⟩))
 have HRL:=Lib.hid (fun(x:Ins) (hx:x∈f.code)=>reads_low (hfo.ins x hx) (parOf p x))
 clear hA hfo hfn hc hp hok
 have HFP:=Lib.hid (show fnP p f=if (List.range f.code.length).any (badAt p f)=true then 6 else if endAt f=true then 7 else 0 from rfl)
 have HB0:=Lib.hid (show∀pc,(sureF f)[pc]? =some none→badAt p f pc=false from fun pc h=>by unfold badAt;rw[h];cases f.code[pc]? <;>rfl)
 have HB1:=Lib.hid (show∀pc x m,f.code[pc]? =some x→(sureF f)[pc]? =some (some m)→badAt p f pc=(readsM x (parOf p x)-(readsM x (parOf p x)&&&m) !=0) from fun pc x m h1 h2=>by unfold badAt;rw[h1,h2])
 have HEA:=Lib.hid (show endAt f=(((sureF f)[f.code.length]?).getD none).isSome from rfl)
 generalize badAt p f=bad at *
 generalize endAt f=fin at *
 generalize sureF f=S at *
 generalize fnP p f=ans at *
 obtain⟨fp,fr,fc⟩:=f
 dsimp only at *
 generalize hN:fc.length=N at *
 have HN:=Lib.hid hN
 generalize p.length=pn at *
 clear hN
 go_enter Tryd.func44,Tryd.ntmps44
 go_wp2_with (go_at_call 68;go_must (refine(HSU.out _ HF.out (HC.out.keeps (((Below.refl _ _).alloc (Nat.le_refl _) (.cells #[.slice A pn cap] 29)).alloc (by simp) (.cells #[.int .i64 fp, .int .i64 fr, .slice (some ⟨g,0,none⟩) N fcap] 60)))).mono ?_;rintro e wx ⟨⟨b,rfl,hgb,hIB⟩,hbx⟩;have HIB:=Lib.hid hIB;have HBX:=Lib.hid (show Below w.heap.size w wx from(((Below.refl _ _).alloc (Nat.le_refl _) _).alloc (by simp) _).trans (hbx.mono (by simp;omega)));have hq0:=(hbx.block w.heap.size (by simp;omega)).trans (show _=some (Obj.cells #[.slice A pn cap] 29 (0,0)) by rw[Below.heap_alloc _ _ _ (by simp)];exact heap_alloc_new _ _);have hq1:=(hbx.block (w.heap.size+1) (by simp)).trans (heap_alloc_new2 w _ _);have HQ0:=Lib.hid hq0;have HQ1:=Lib.hid hq1;have q1:=cell_block hq1;have zx:w.heap.size+1<wx.heap.size:=(Array.getElem?_eq_some_iff.1 hq1).1;have hbs:b<wx.heap.size:=hIB.lt;clear hbx hIB hq0 hq1))
 go_loopw [13] (fun v wr=>∃k:Nat,k≤N∧v= .int .i64 (k:Int)∧(∀j,j<k→bad j=false)∧Below wx.heap.size wx wr) (fun v _=>N-(intOf v).toNat)
 case atStart=>exact⟨0,by omega,rfl,by omega,Below.refl _ _⟩
 case round=>
  obtain⟨k,hk,rfl,hj,hbr⟩:=hrel
  have HJ:=Lib.hid hj
  have HBR:=Lib.hid hbr
  have z0:=hbr.size
  have zb:b<wr.heap.size:=Nat.lt_of_lt_of_le hbs hbr.size
  have hSk:k<S.length:=by rw[HSF.out];omega
  obtain⟨o,ho⟩:∃o,S[k]? =some o:=⟨S[k],gE hSk⟩
  have co:wr.cell? ⟨b,k,none⟩=some (.int .i64 (oI o)):=(hbr.cell (p:=⟨b,k,none⟩) hbs).trans (HIB.out.cell (outL_get ho))
  have HO:=Lib.hid ho
  have qr0:=cell_block ((hbr.block _ (by omega)).trans HQ0.out)
  have qr1:=cell_block ((hbr.block _ zx).trans HQ1.out)
  have zr1:w.heap.size+1<wr.heap.size:=by omega
  have zr0:w.heap.size<wr.heap.size:=by omega
  clear hj hbr ho hSk
  by_cases hkN:k=N
  ·subst hkN
   have HANY:=Lib.hid (any_none HJ.out)
   cases o with
   |none=>
    simp only[oI] at co
    have HA:=Lib.hid (show ans=0 by
     rw[HFP.out,if_neg (by rw[HANY.out];simp),if_neg]
     rw[HEA.out,HO.out];simp)
    go_wp2_with fail
    go_ret
    refine⟨ret_int HA.out.symm,?_⟩
    have hb:=HBX.out.trans (HBR.out.mono (by omega))
    exact Bq
   |some m=>
    simp only[oI] at co
    have HA:=Lib.hid (show ans=7 by
     rw[HFP.out,if_neg (by rw[HANY.out];simp),if_pos]
     rw[HEA.out,HO.out];rfl)
    go_wp2_with fail
    go_ret
    refine⟨ret_int HA.out.symm,?_⟩
    have hb:=HBX.out.trans (HBR.out.mono (by omega))
    exact Bq
  ·have hkN' :(k:Int)<N:=by omega
   obtain⟨x,hx⟩:∃x,fc[k]? =some x:=⟨fc[k]'(by have:=HN.out;omega),gE _⟩
   have hmem:=gM hx
   obtain⟨c0,c1,c2,c3,c4⟩:=HFN.out k x hx
   have hgr:g<wr.heap.size:=Nat.lt_of_lt_of_le hg (by have:=HBX.out.size;omega)
   have hbw:Below w.heap.size w wr:=HBX.out.trans (HBR.out.mono (by omega))
   have HBW:=Lib.hid hbw
   rw[←hbw.cell (p:=⟨g,_,none⟩) hg] at c0 c1 c2 c3 c4
   have hi0:(0:Int)≤k:=by omega
   have hi1:(k:Int)<(N:Int)+1:=by omega
   cases o with
   |none=>
    simp only[oI] at co
    have HBK:=Lib.hid (HB0.out k HO.out)
    clear hx hkN hbw hmem
    obtain⟨op,dst,a,b',imm⟩:=x
    dsimp only at *
    go_wp2_with fail
    go_quiet (fail)
    go_wp2_with fail
    go_roundw
    case rel=>
     refine⟨k+1,by omega,by go_num,fun j hj=> ?_,?_⟩
     ·rcases Nat.lt_succ_iff_lt_or_eq.1 hj with h|h
      ·exact HJ.out j h
      ·rw[h];exact HBK.out
     ·have hb:=HBR.out
      exact Bq
    case measure=>simp[intOf];omega
   |some m=>
    simp only[oI] at co
    have HBK:=Lib.hid (HB1.out k x m hx HO.out)
    have hm:=HMS.out k m HO.out
    have hr:readsM x (parOf p x)<4096:=by
     have h1:=(HRL.out x hmem).and
     have h2:readsM x (parOf p x)&&&low fr.toNat≤low fr.toNat:=Nat.and_le_right
     have h3:2^fr.toNat≤2^12:=Nat.pow_le_pow_right (by omega) (by have:=HF.out.r2;dsimp only at this;omega)
     rw[h1] at h2
     unfold low at h2
     simp only[Nat.reducePow] at h3
     omega
    have HRX:=Lib.hid (fun W hW=>HRD.out W x hmem hW)
    obtain⟨r,hr'⟩:∃r,readsM x (parOf p x)=r:=⟨_,rfl⟩
    rw[hr'] at HBK HRX hr
    have san:=andNot_nat r m (by omega) (by omega)
    obtain⟨d,hd⟩:∃d,r-(r&&&m)=d:=⟨_,rfl⟩
    rw[hd] at san HBK
    clear hx hkN hbw hmem hr' hd
    obtain⟨op,dst,a,b',imm⟩:=x
    dsimp only at *
    by_cases hd0:d=0
    ·subst hd0
     go_wp2_with fail
     go_region_held3 (fun w' =>w'.cell? ⟨b,k,none⟩=some (.int .i64 (m:Int))∧w'.cell? ⟨w.heap.size,0,none⟩=some (.slice A pn cap)∧w'.cell? ⟨wr.heap.size,0,none⟩=some (.int .i64 op)∧w'.cell? ⟨wr.heap.size,1,none⟩=some (.int .i64 dst)∧w'.cell? ⟨wr.heap.size,2,none⟩=some (.int .i64 a)∧w'.cell? ⟨wr.heap.size,3,none⟩=some (.int .i64 b')∧w'.cell? ⟨wr.heap.size,4,none⟩=some (.int .i64 imm)) (refine⟨?_,?_,?_,?_,?_,?_,?_⟩<;>first|assumption|exact qz _|exact(((Below.refl wr.heap.size wr).alloc (Nat.le_refl _) _).cell (p:=⟨w.heap.size,0,none⟩) zr0).trans (by rw[qr0];rfl)|exact cell_block (heap_alloc_new wr _) _|exact((((Below.refl wr.heap.size wr).alloc (Nat.le_refl _) _).cell (p:=⟨b,k,none⟩) zb).trans co)) (first|(go_at_call 75;go_must (refine(HRX.out _ (HP.out.keeps (by have hb:=HBW.out;exact Bq))).mono ?_;rintro e wz ⟨rfl,hbz⟩;have hbz' :Below wr.heap.size wr wz:=(by refine Below.trans ?_ (hbz.mono (by simp));have hb:=Below.refl wr.heap.size wr;exact Bq);have HBZ:=Lib.hid hbz';have qz:=cell_block ((hbz.block wr.heap.size (by simp)).trans (heap_alloc_new wr _));have cz2:wz.cell? ⟨w.heap.size,0,none⟩=some (.slice A pn cap):=(hbz'.cell (p:=⟨w.heap.size,0,none⟩) zr0).trans (by rw[qr0];rfl);have cz:wz.cell? ⟨b,k,none⟩=some (.int .i64 (m:Int)):=(hbz'.cell (p:=⟨b,k,none⟩) zb).trans co;have zbz:b<wz.heap.size:=Nat.lt_of_lt_of_le zb hbz'.size;clear hbz hbz')))
     all_goals (
      go_wp2_with fail
      go_roundw
      case rel=>
       refine⟨k+1,by omega,by go_num,fun j hj=> ?_,HBR.out.trans (HBZ.out.mono (by omega))⟩
       rcases Nat.lt_succ_iff_lt_or_eq.1 hj with h|h
       ·exact HJ.out j h
       ·rw[h,HBK.out];rfl
      case measure=>simp[intOf];omega)
    ·have hdn:((d:Int) !=0)=true:=by simp;omega
     have hdp:0<d:=by omega
     clear hd0
     go_wp2_with fail
     go_region_held3 (fun w' =>w'.cell? ⟨b,k,none⟩=some (.int .i64 (m:Int))∧w'.cell? ⟨w.heap.size,0,none⟩=some (.slice A pn cap)∧w'.cell? ⟨wr.heap.size,0,none⟩=some (.int .i64 op)∧w'.cell? ⟨wr.heap.size,1,none⟩=some (.int .i64 dst)∧w'.cell? ⟨wr.heap.size,2,none⟩=some (.int .i64 a)∧w'.cell? ⟨wr.heap.size,3,none⟩=some (.int .i64 b')∧w'.cell? ⟨wr.heap.size,4,none⟩=some (.int .i64 imm)) (refine⟨?_,?_,?_,?_,?_,?_,?_⟩<;>first|assumption|exact qz _|exact(((Below.refl wr.heap.size wr).alloc (Nat.le_refl _) _).cell (p:=⟨w.heap.size,0,none⟩) zr0).trans (by rw[qr0];rfl)|exact cell_block (heap_alloc_new wr _) _|exact((((Below.refl wr.heap.size wr).alloc (Nat.le_refl _) _).cell (p:=⟨b,k,none⟩) zb).trans co)) (first|(go_at_call 75;go_must (refine(HRX.out _ (HP.out.keeps (by have hb:=HBW.out;exact Bq))).mono ?_;rintro e wz ⟨rfl,hbz⟩;have hbz' :Below wr.heap.size wr wz:=(by refine Below.trans ?_ (hbz.mono (by simp));have hb:=Below.refl wr.heap.size wr;exact Bq);have HBZ:=Lib.hid hbz';have qz:=cell_block ((hbz.block wr.heap.size (by simp)).trans (heap_alloc_new wr _));have cz2:wz.cell? ⟨w.heap.size,0,none⟩=some (.slice A pn cap):=(hbz'.cell (p:=⟨w.heap.size,0,none⟩) zr0).trans (by rw[qr0];rfl);have cz:wz.cell? ⟨b,k,none⟩=some (.int .i64 (m:Int)):=(hbz'.cell (p:=⟨b,k,none⟩) zb).trans co;have zbz:b<wz.heap.size:=Nat.lt_of_lt_of_le zb hbz'.size;clear hbz hbz')))
     all_goals (
      go_wp2_with fail
      go_ret)
     all_goals (
      refine⟨ret_int ?_,?_⟩
      ·rw[HFP.out,if_pos (any_at (k:=k) (by omega) (by rw[HBK.out];simp;omega))]
      ·exact HBW.out.trans (HBZ.out.mono (by have:=HBW.out.size;omega)))
set_option maxRecDepth 100000 in
set_option maxHeartbeats 8000000 in
theorem pcheck_any(p:List Fnc)(A:Option Addr)(cap:Nat)(w:World)(ht:Tab w)(hp:ProgAt w (.slice A p.length cap) p)(hl:(p.length:Int)≤4611686018427387904)(hcl:∀f∈p,(f.code.length:Int)≤4611686018427387904):
 Calls Tryd.prog 21 #[.agg #[.slice A p.length cap]] w fun e w' =>e= .returned (.int .i64 (checkP p))∧Below w.heap.size w w' :=by
 have HCK:=Lib.hid (fun(W:World) (h1:Tab W) (h2:ProgAt W (.slice A p.length cap) p)=>check_any p (.slice A p.length cap) W h1 h2 hl hcl)
 have HT:=Lib.hid ht
 have HP:=Lib.hid hp
 have HFA:=Lib.hid (fun(h:progE p=0) (f:Fnc) (hf:f∈p) (FA:Option Addr) (fcap:Nat) (W:World) (h1:ProgAt W (.slice A p.length cap) p) (h2:CodeAt W (.slice FA f.code.length fcap) f.code)=>pfn_any p A cap f FA fcap W h1 (prog_ok h) hf h2)
 by_cases hE:progE p=0
 ·have HOK:=Lib.hid (prog_ok hE)
  have HX:=Lib.hid (show checkP p=firstE (p.map (fnP p)) from if_neg (by simp[hE]))
  have HF0:=Lib.hid (HFA.out hE)
  have l1:=HOK.out.l1
  have l2:=HOK.out.l2
  obtain⟨A0,cap0,hA0,hA⟩:=hp.slice
  simp only[Value.slice.injEq,true_and] at hA0
  obtain⟨g,hAg,hg,hfn⟩:=hA (by omega)
  obtain⟨rfl,rfl⟩:=hA0
  have HF:=Lib.hid hfn
  subst hAg
  clear hA hfn hp ht HFA hl hcl
  generalize hN:p.length=N at *
  have HN:=Lib.hid hN
  clear hN
  rw[hE] at HCK
  clear hE
  go_enter Tryd.func21,Tryd.ntmps21
  go_wp2_with (go_at_call 43;go_must (refine(HCK.out _ (HT.out.alloc _) (HP.out.keeps ((Below.refl _ _).alloc (Nat.le_refl _) _))).mono ?_;rintro e wx ⟨rfl,hbx⟩;have HBX:=Lib.hid (show Below w.heap.size w wx from((Below.refl _ _).alloc (Nat.le_refl _) _).trans (hbx.mono (by simp)));have HQ:=Lib.hid ((hbx.block w.heap.size (by simp)).trans (heap_alloc_new w _));have q0:=cell_block HQ.out;have zx:w.heap.size<wx.heap.size:=(Array.getElem?_eq_some_iff.1 HQ.out).1;clear hbx))
  go_loopw [15] (fun v wr=>∃k:Nat,k≤N∧v= .int .i64 (k:Int)∧(∀j,j<k→(p.map (fnP p))[j]? =some 0)∧Below wx.heap.size wx wr) (fun v _=>N-(intOf v).toNat)
  case atStart=>exact⟨0,by omega,rfl,by omega,Below.refl _ _⟩
  case round=>
   obtain⟨k,hk,rfl,hj,hbr⟩:=hrel
   have HJ:=Lib.hid hj
   have HBW:=Lib.hid (HBX.out.trans (hbr.mono HBX.out.size))
   have HBR:=Lib.hid hbr
   have qr0:=cell_block ((hbr.block _ zx).trans HQ.out)
   have zr0:w.heap.size<wr.heap.size:=Nat.lt_of_lt_of_le zx hbr.size
   clear hj hbr
   by_cases hkN:k=N
   ·subst hkN
    go_wp2_with fail
    go_ret
    refine⟨ret_int ?_,HBW.out⟩
    rw[HX.out]
    exact(firstE_zero fun j hj=>HJ.out j (by simpa [HN.out] using hj)).symm
   ·have hkN' :(k:Int)<N:=by omega
    have hgz:g<wr.heap.size:=Nat.lt_of_lt_of_le hg HBW.out.size
    obtain⟨f,hf⟩:∃f,p[k]? =some f:=⟨p[k]'(by have:=HN.out;omega),gE _⟩
    obtain⟨u,hu,c0,c1,c2⟩:=HF.out k f hf
    rw[←HBW.out.cell (p:=⟨g,_,none⟩) hg] at c0 c1 c2
    obtain⟨CA,ccap,rfl,-⟩:=hu.slice
    have HU:=Lib.hid hu
    have HCL:=Lib.hid (HF0.out f (gM hf) CA ccap)
    have HE:=Lib.hid (show(p.map (fnP p))[k]? =some (fnP p f) by simp[hf])
    clear hf hu hkN
    obtain⟨fp,fr,fc⟩:=f
    dsimp only at *
    by_cases hz:fnP p ⟨fp,fr,fc⟩=0
    ·rw[hz] at HCL HE
     clear hz
     go_wp2_with (go_at_call 44;go_must (refine(HCL.out _ (HP.out.keeps (by have hb:=HBW.out;exact Bq)) (HU.out.keeps (by have hb:=HBW.out;exact Bq))).mono ?_;rintro e wz ⟨rfl,hbz⟩;have hbz' :Below wr.heap.size wr wz:=(by refine Below.trans ?_ (hbz.mono (by simp));have hb:=Below.refl wr.heap.size wr;exact Bq)))
     go_roundw
     case rel=>
      refine⟨k+1,by omega,by go_num,fun j hj=> ?_,HBR.out.trans (hbz'.mono HBR.out.size)⟩
      rcases Nat.lt_succ_iff_lt_or_eq.1 hj with h|h
      ·exact HJ.out j h
      ·rw[h];exact HE.out
     case measure=>simp[intOf];omega
    ·have Y:=Lib.hid (show checkP p=fnP p ⟨fp,fr,fc⟩ from HX.out.trans (firstE_at HE.out hz HJ.out))
     have hne:(fnP p ⟨fp,fr,fc⟩ !=0)=true:=by simpa using hz
     clear hz HE
     generalize fnP p ⟨fp,fr,fc⟩=ee at *
     go_wp2_with (go_at_call 44;go_must (refine(HCL.out _ (HP.out.keeps (by have hb:=HBW.out;exact Bq)) (HU.out.keeps (by have hb:=HBW.out;exact Bq))).mono ?_;rintro e wz ⟨rfl,hbz⟩;have hbz' :Below wr.heap.size wr wz:=(by refine Below.trans ?_ (hbz.mono (by simp));have hb:=Below.refl wr.heap.size wr;exact Bq)))
     go_ret
     exact⟨ret_int Y.out.symm,HBW.out.trans (hbz'.mono HBW.out.size)⟩
 ·have HX:=Lib.hid (show checkP p=progE p from if_pos hE)
  have hne:(progE p !=0)=true:=by simpa using hE
  clear hE HFA hp ht
  generalize progE p=ee at *
  go_enter Tryd.func21,Tryd.ntmps21
  go_wp2_with (go_at_call 43;go_must (refine(HCK.out _ (HT.out.alloc _) (HP.out.keeps ((Below.refl _ _).alloc (Nat.le_refl _) _))).mono ?_;rintro e wx ⟨rfl,hbx⟩))
  go_ret
  exact⟨ret_int HX.out.symm,((Below.refl _ _).alloc (Nat.le_refl _) _).trans (hbx.mono (by simp))⟩
set_option maxRecDepth 100000 in
set_option maxHeartbeats 8000000 in
theorem psure_any(p:List Fnc)(A:Option Addr)(cap k:Nat)(f:Fnc)(w:World)(ht:Tab w)(hp:ProgAt w (.slice A p.length cap) p)(hE:progE p=0)(hf:p[k]? =some f):
 Calls Tryd.prog 36 #[.agg #[.slice A p.length cap], .int .i64 (k:Int)] w fun e w' =>
  (∃b,e= .returned (.tuple #[.slice (some ⟨b,0,none⟩) f.code.length f.code.length, .int .i64 0])∧w.heap.size≤b∧IntsB w' b (outL (sureF f)))∧Below w.heap.size w w' :=by
 have hok:=prog_ok hE
 have hfo:=hok.fn f (gM hf)
 have HCK:=Lib.hid (fun(W:World) (h1:Tab W) (h2:ProgAt W (.slice A p.length cap) p)=>check_any p (.slice A p.length cap) W h1 h2 (by have:=hok.l2;omega) (fun f hf=>by have:=(hok.fn f hf).c2;omega))
 rw[hE] at HCK
 have HT:=Lib.hid ht
 have HP:=Lib.hid hp
 have HFO:=Lib.hid hfo
 have hk:=(gI.1 hf).1
 have l2:=hok.l2
 have n1:=hfo.c1
 have n2:=hfo.c2
 obtain⟨A0,cap0,hA0,hA⟩:=hp.slice
 simp only[Value.slice.injEq,true_and] at hA0
 obtain⟨g,hAg,hg,hfn⟩:=hA (by omega)
 obtain⟨rfl,rfl⟩:=hA0
 obtain⟨u,hu,c0,c1,c2⟩:=hfn k f hf
 obtain⟨FA,fcap,rfl,-⟩:=hu.slice
 have HU:=Lib.hid hu
 have HSU:=Lib.hid (sure_any f FA fcap p.length)
 subst hAg
 have hk1:(k:Int)<p.length:=by omega
 have hk0:(0:Int)≤k:=by omega
 have hk2:¬(k:Int)<0:=by omega
 have hk3:¬(p.length:Int)≤k:=by omega
 clear hA hfn hp ht hfo hok hf hE hu hk
 generalize p.length=N at *
 obtain⟨fp,fr,fc⟩:=f
 dsimp only at *
 generalize hM:fc.length=M at *
 have HM:=Lib.hid hM
 clear hM
 generalize sureF ⟨fp,fr,fc⟩=S at *
 go_enter Tryd.func36,Tryd.ntmps36
 go_wp2_with (go_at_call 43;go_must (refine(HCK.out _ (HT.out.alloc _) (HP.out.keeps ((Below.refl _ _).alloc (Nat.le_refl _) _))).mono ?_;rintro e wx ⟨rfl,hbx⟩;have hbx' :Below w.heap.size w wx:=((Below.refl _ _).alloc (Nat.le_refl _) _).trans (hbx.mono (by simp));have HBX:=Lib.hid hbx';have hq:=(hbx.block w.heap.size (by simp)).trans (heap_alloc_new w _);have q0:=cell_block hq;have zx:w.heap.size<wx.heap.size:=(Array.getElem?_eq_some_iff.1 hq).1;have gx:g<wx.heap.size:=Nat.lt_of_lt_of_le hg hbx'.size;have d0:=(hbx'.cell (p:=⟨g,_,none⟩) hg).trans c0;have d1:=(hbx'.cell (p:=⟨g,_,none⟩) hg).trans c1;have d2:=(hbx'.cell (p:=⟨g,_,none⟩) hg).trans c2;clear hbx hbx' hq))
 have hs0:(0:Int)≤M:=by omega
 have hs1:(M:Int)≤(M:Int)+1:=by omega
 have hs2:M≤M+1:=by omega
 have hs3:¬M+1=0:=by omega
 go_region_held3 (fun w' =>w'.cell? ⟨wx.heap.size,0,none⟩=some (.int .i64 fp)∧w'.cell? ⟨wx.heap.size,1,none⟩=some (.int .i64 fr)∧w'.cell? ⟨wx.heap.size,2,none⟩=some (.slice FA M fcap)) (refine⟨?_,?_,?_⟩<;>first|exact qz _|exact cell_block (heap_alloc_new wx _) _) (first|(go_at_call 68;go_must (refine(HSU.out _ HFO.out (HU.out.keeps (by have hb:=HBX.out;exact Bq))).mono ?_;rintro e wz ⟨⟨b,rfl,hgb,hIB⟩,hbz⟩;have hbz' :Below wx.heap.size wx wz:=(by refine Below.trans ?_ (hbz.mono (by simp));have hb:=Below.refl wx.heap.size wx;exact Bq);have HBZ:=Lib.hid (HBX.out.trans (hbz'.mono HBX.out.size));have HIB:=Lib.hid hIB;have HGB:=Lib.hid (show w.heap.size≤b by have:=HBX.out.size;simp at hgb;omega);have qz:=cell_block ((hbz.block wx.heap.size (by simp)).trans (heap_alloc_new wx _));clear hgb hIB hbz hbz')))
 all_goals (
  go_wp2_with fail
  refine bodyPost_ret (v:= .tuple #[.slice (some ⟨b,0,none⟩) M M, .int .i64 0]) (by simp[results,Tryd.results36,go_sem]) rfl ⟨⟨b,rfl,HGB.out,HIB.out⟩,HBZ.out⟩)
theorem apart_of{v1 v2:Value}(h:∀k,v1.ownBlock=some k→v2.ownBlock≠some k):v2.ownBlock=none∨v2.ownBlock≠v1.ownBlock:=by
 cases h1:v1.ownBlock with
 |none=>
  cases h2:v2.ownBlock with
  |none=>exact .inl rfl
  |some k=>exact .inr (by simp)
 |some k=>exact .inr (h k h1)
theorem ProgV.other{wy w1:World}{B B2:Nat}{v v2:Value}{p:List Fnc}{vs:List Value}{n2:Nat}{x2:List Value}(h:ProgV wy B v p vs)(o:Obj)(h2:wy.ownsRow B2 60 3 v2 n2 x2)
 (hap:v.ownBlock=none∨v.ownBlock≠v2.ownBlock) (hg:(wy.alloc o).grownBy w1 v2.ownBlock):ProgV w1 B v p vs:=
 ⟨h.len,(h.own.alloc o).kept hg hap,fun i u f hu hf=>((h.code i u f hu hf).alloc o).kept hg (rows_apart (h.code i u f hu hf) h2 (by decide))⟩
structure SQ(w wr:World)(A1:Option Addr)(cap1 i1:Nat)(ps:List Fnc)(vs:List Value)(A2:Option Addr)(cap2 i2:Nat)(qs:List Fnc)(us:List Value):Prop where
 len1:ps.length=i1
 len2:qs.length=i2
 blk0:wr.heap[w.heap.size]? =some (.cells #[.slice none 0 0] 29 (0,0))
 blk1:wr.heap[w.heap.size+1]? =some (.cells #[.slice A1 i1 cap1] 29 (0,0))
 blk2:wr.heap[w.heap.size+1+1]? =some (.cells #[.slice A2 i2 cap2] 29 (0,0))
 prog1:ProgV wr (w.heap.size+3) (.slice A1 i1 cap1) ps vs
 prog2:ProgV wr (w.heap.size+3) (.slice A2 i2 cap2) qs us
 ne:∀k,(Value.slice A1 i1 cap1).ownBlock=some k→(Value.slice A2 i2 cap2).ownBlock≠some k
 below:Below w.heap.size w wr
section
variable {w wr:World}{A1 A2:Option Addr}{cap1 i1 cap2 i2:Nat}{ps qs:List Fnc}{vs us:List Value}
theorem SQ.size(h:SQ w wr A1 cap1 i1 ps vs A2 cap2 i2 qs us):w.heap.size+1+1<wr.heap.size:=(Array.getElem?_eq_some_iff.1 h.blk2).1
theorem SQ.keeps{w' :World}(h:SQ w wr A1 cap1 i1 ps vs A2 cap2 i2 qs us)(hb:Below wr.heap.size wr w'):SQ w w' A1 cap1 i1 ps vs A2 cap2 i2 qs us:=
 ⟨h.len1,h.len2,(hb.block _ (by have:=h.size;omega)).trans h.blk0,(hb.block _ (by have:=h.size;omega)).trans h.blk1,(hb.block _ h.size).trans h.blk2,h.prog1.keeps hb,h.prog2.keeps hb,h.ne,h.below.trans (hb.mono h.below.size)⟩
theorem SQ.own1(h:SQ w wr A1 cap1 i1 ps vs A2 cap2 i2 qs us):wr.ownsRow (w.heap.size+3) 60 3 (.slice A1 i1 cap1) i1 (fnCells ps vs):=by
 have:=h.prog1.own
 rwa [h.len1] at this
theorem SQ.own2(h:SQ w wr A1 cap1 i1 ps vs A2 cap2 i2 qs us):wr.ownsRow (w.heap.size+3) 60 3 (.slice A2 i2 cap2) i2 (fnCells qs us):=by
 have:=h.prog2.own
 rwa [h.len2] at this
theorem SQ.start(w:World):SQ w (((w.alloc (.cells #[.slice none 0 0] 29)).alloc (.cells #[.slice none 0 0] 29)).alloc (.cells #[.slice none 0 0] 29)) none 0 0 [] [] none 0 0 [] []:=by
 have hp:∀W:World,ProgV W (w.heap.size+3) (.slice none 0 0) [] []:=fun W=>⟨rfl,World.ownsRow_nil _ _ _ _,fun i u f h=>by simp at h⟩
 refine⟨rfl,rfl,?_,?_,?_,hp _,hp _,fun k h=>by simp[Value.ownBlock] at h,?_⟩
 ·rw[Below.heap_alloc _ _ _ (by simp;omega),Below.heap_alloc _ _ _ (by simp)];exact heap_alloc_new _ _
 ·rw[Below.heap_alloc _ _ _ (by simp)];exact heap_alloc_new2 _ _ _
 ·have:=heap_alloc_new2 (w.alloc (.cells #[.slice none 0 0] 29)) (.cells #[.slice none 0 0] 29) (.cells #[.slice none 0 0] 29)
  simpa using this
 ·exact Bq
theorem SQ.mid1(h:SQ w wr A1 cap1 i1 ps vs A2 cap2 i2 qs us)(o:Obj){w1:World}(hg:(wr.alloc o).grownBy w1 (Value.slice A1 i1 cap1).ownBlock):
 ∀k,k≤w.heap.size+1+1→w1.heap[k]? =wr.heap[k]? :=fun k hk=>by
 have hs:=h.size
 have hrow:∀k,(Value.slice A1 i1 cap1).ownBlock=some k→w.heap.size+3≤k:=fun k hk=>(World.ownsRow.lt h.prog1.own k hk).1
 rw[hg.block k (by simp;omega) (fun e=>by have:=hrow k e.symm;omega)]
 exact Below.heap_alloc _ _ _ (by omega)
theorem SQ.mid2(h:SQ w wr A1 cap1 i1 ps vs A2 cap2 i2 qs us)(o:Obj){w1:World}(hg:(wr.alloc o).grownBy w1 (Value.slice A2 i2 cap2).ownBlock):
 ∀k,k≤w.heap.size+1+1→w1.heap[k]? =wr.heap[k]? :=fun k hk=>by
 have hs:=h.size
 have hrow:∀k,(Value.slice A2 i2 cap2).ownBlock=some k→w.heap.size+3≤k:=fun k hk=>(World.ownsRow.lt h.prog2.own k hk).1
 rw[hg.block k (by simp;omega) (fun e=>by have:=hrow k e.symm;omega)]
 exact Below.heap_alloc _ _ _ (by omega)
theorem SQ.app1(h:SQ w wr A1 cap1 i1 ps vs A2 cap2 i2 qs us)(f:Fnc)(u:Value)(o:Obj){w1:World}{A' :Option Addr}{cap' :Nat}(hu:wr.ownsRow (w.heap.size+3) 58 5 u f.code.length (codeCells f.code))
 (hg:(wr.alloc o).grownBy w1 (Value.slice A1 i1 cap1).ownBlock)
 (ho:w1.ownsRow (w.heap.size+3) 60 3 (.slice A' (i1+1) cap') (i1+1) (fnCells ps vs++[.int .i64 f.params, .int .i64 f.regs,u]))
 (hat:(Value.slice A' (i1+1) cap').ownBlock=(Value.slice A1 i1 cap1).ownBlock∨(Value.slice A' (i1+1) cap').ownBlock=some (wr.alloc o).heap.size):
 SQ w (w1.setCell ⟨w.heap.size+1,0,none⟩ (.slice A' (i1+1) cap')) A' cap' (i1+1) (ps++[f]) (vs++[u]) A2 cap2 i2 qs us:=by
 have hs:=h.size
 have hm:=h.mid1 o hg
 have hrow:∀k,(Value.slice A1 i1 cap1).ownBlock=some k→w.heap.size+3≤k:=fun k hk=>(World.ownsRow.lt h.prog1.own k hk).1
 have hset:∀k,k≠w.heap.size+1→(w1.setCell ⟨w.heap.size+1,0,none⟩ (.slice A' (i1+1) cap')).heap[k]? =w1.heap[k]? :=fun k hk=>Below.heap_setCell _ _ _ _ hk
 have hb1:Below wr.heap.size wr (wr.alloc o):=(Below.refl _ _).alloc (Nat.le_refl _) _
 refine⟨by rw[List.length_append,h.len1];rfl,h.len2,?_,?_,?_,?_,?_,?_,?_⟩
 ·rw[hset _ (by omega),hm _ (by omega)];exact h.blk0
 ·have h2:=(hm (w.heap.size+1) (by omega)).trans h.blk1
  simp only[World.setCell,Array.getElem?_modify,if_true,h2,Option.map_some]
  simp
 ·rw[hset _ (by omega),hm _ (by omega)];exact h.blk2
 ·exact(h.prog1.app f u o hu hg (by rw[h.len1];exact ho)).setCell (by simp) _
 ·exact(h.prog2.other o h.own1 (apart_of h.ne) hg).setCell (by simp) _
 ·intro k hk
  rcases hat with hat|hat
  ·rw[hat] at hk;exact h.ne k hk
  ·rw[hat] at hk
   intro e
   have:=(World.ownsRow.lt h.prog2.own k e).2
   simp at hk;omega
 ·refine Below.setCell ?_ (by simp) _
  refine(h.below.trans (hb1.mono h.below.size)).grown hg (by simp;omega) (fun k hk=>by have:=hrow k hk;omega)
theorem SQ.app2(h:SQ w wr A1 cap1 i1 ps vs A2 cap2 i2 qs us)(f:Fnc)(u:Value)(o:Obj){w1:World}{A' :Option Addr}{cap' :Nat}(hu:wr.ownsRow (w.heap.size+3) 58 5 u f.code.length (codeCells f.code))
 (hg:(wr.alloc o).grownBy w1 (Value.slice A2 i2 cap2).ownBlock)
 (ho:w1.ownsRow (w.heap.size+3) 60 3 (.slice A' (i2+1) cap') (i2+1) (fnCells qs us++[.int .i64 f.params, .int .i64 f.regs,u]))
 (hat:(Value.slice A' (i2+1) cap').ownBlock=(Value.slice A2 i2 cap2).ownBlock∨(Value.slice A' (i2+1) cap').ownBlock=some (wr.alloc o).heap.size):
 SQ w (w1.setCell ⟨w.heap.size+1+1,0,none⟩ (.slice A' (i2+1) cap')) A1 cap1 i1 ps vs A' cap' (i2+1) (qs++[f]) (us++[u]):=by
 have hs:=h.size
 have hm:=h.mid2 o hg
 have hrow:∀k,(Value.slice A2 i2 cap2).ownBlock=some k→w.heap.size+3≤k:=fun k hk=>(World.ownsRow.lt h.prog2.own k hk).1
 have hset:∀k,k≠w.heap.size+1+1→(w1.setCell ⟨w.heap.size+1+1,0,none⟩ (.slice A' (i2+1) cap')).heap[k]? =w1.heap[k]? :=fun k hk=>Below.heap_setCell _ _ _ _ hk
 have hb1:Below wr.heap.size wr (wr.alloc o):=(Below.refl _ _).alloc (Nat.le_refl _) _
 have hne2:∀k,(Value.slice A2 i2 cap2).ownBlock=some k→(Value.slice A1 i1 cap1).ownBlock≠some k:=fun k hk e=>h.ne k e hk
 refine⟨h.len1,by rw[List.length_append,h.len2];rfl,?_,?_,?_,?_,?_,?_,?_⟩
 ·rw[hset _ (by omega),hm _ (by omega)];exact h.blk0
 ·rw[hset _ (by omega),hm _ (by omega)];exact h.blk1
 ·have h2:=(hm (w.heap.size+1+1) (by omega)).trans h.blk2
  simp only[World.setCell,Array.getElem?_modify,if_true,h2,Option.map_some]
  simp
 ·exact(h.prog1.other o h.own2 (apart_of hne2) hg).setCell (by simp) _
 ·exact(h.prog2.app f u o hu hg (by rw[h.len2];exact ho)).setCell (by simp) _
 ·intro k hk
  rcases hat with hat|hat
  ·rw[hat];exact h.ne k hk
  ·rw[hat]
   intro e
   have:=(World.ownsRow.lt h.prog1.own k hk).2
   simp at e;omega
 ·refine Below.setCell ?_ (by simp;omega) _
  refine(h.below.trans (hb1.mono h.below.size)).grown hg (by simp;omega) (fun k hk=>by have:=hrow k hk;omega)
end
set_option maxRecDepth 100000 in
set_option maxHeartbeats 8000000 in
theorem program_any(A:Option Addr)(cap:Nat)(l:List Fnc)(w:World)(ht:Tab w)(hln:(l.length:Int)≤9223372036854775807)(hraw:RawsAt w A l):
 Calls Tryd.prog 7 #[.slice A l.length cap] w fun e w' =>
  (∃A' cap' vs,e= .returned (.agg #[.slice A' (mkP l).length cap'])∧ProgV w' (w.heap.size+3) (.slice A' (mkP l).length cap') (mkP l) vs)∧Below w.heap.size w w' :=by
 obtain⟨i0,hi,hz0,hz1,hz2⟩:=info_parts infoFn
 have HT:=Lib.hid ht
 have HMP:=Lib.hid (mkProg_length l false)
 have HMQ:=Lib.hid (mkProg_length l true)
 obtain⟨mm,m1,m2,m3,m4⟩:∃mm:Nat,(if (l.length:Int)<1 then 1 else(l.length:Int))=mm∧(if 1<(l.length:Int) then(l.length:Int) else 1)=mm∧1≤mm∧mm=max l.length 1:=⟨max l.length 1,by split<;>omega,by split<;>omega,by omega,rfl⟩
 obtain⟨nn,n1,n2,n3,n4,n5⟩:∃nn:Nat,(if (mm:Int)<4 then(mm:Int) else 4)=nn∧(if (4:Int)<mm then(4:Int) else mm)=nn∧1≤nn∧nn≤4∧funcsN l=nn:=⟨min mm 4,by split<;>omega,by split<;>omega,by omega,by omega,by rw[funcsN,m4]⟩
 have HNN:=Lib.hid n5
 clear n5 m4 ht
 generalize hLN:l.length=ln at *
 have HLN:=Lib.hid hLN
 have HRAW:=Lib.hid hraw
 clear hLN hraw
 go_enter Tryd.func7,Tryd.ntmps7
 go_wp2_with fail
 go_loopw [6] (fun v wr=>∃(i:Nat) (A1:Option Addr) (cap1:Nat) (ps:List Fnc) (vs:List Value) (A2:Option Addr) (cap2:Nat) (qs:List Fnc) (us:List Value),i≤nn∧v= .int .i64 (i:Nat)∧ps=(mkProg l false).take i∧qs=(mkProg l true).take i∧SQ w wr A1 cap1 i ps vs A2 cap2 i qs us) (fun v _=>nn-(intOf v).toNat)
 case atStart=>exact⟨0,none,0,[],[],none,0,[],[],by omega,rfl,rfl,rfl,SQ.start w⟩
 case round=>
  obtain⟨i,A1,cap1,ps,vs,A0,cap0,qs,us,hin,rfl,hps,hqs,hS⟩:=hrel
  have HPS:=Lib.hid hps
  have HQS:=Lib.hid hqs
  have HS:=Lib.hid hS
  have q0:=cell_block hS.blk0
  have f0:=frozen_block hS.blk0
  have q1:=cell_block hS.blk1
  have f1:=frozen_block hS.blk1
  have q2:=cell_block hS.blk2
  have f2:=frozen_block hS.blk2
  have z1:=hS.size
  have z0:w.heap.size<wr.heap.size:=by omega
  have z2:w.heap.size+1<wr.heap.size:=by omega
  clear hps hqs hS
  by_cases hiN:i=nn
  ·subst hiN
   have HPF:=Lib.hid (show ps=mkProg l false from HPS.out.trans (List.take_of_length_le (by rw[HMP.out,HNN.out];exact Nat.le_refl _)))
   have HQF:=Lib.hid (show qs=mkProg l true from HQS.out.trans (List.take_of_length_le (by rw[HMQ.out,HNN.out];exact Nat.le_refl _)))
   have HCK:=Lib.hid (fun(W:World) (h1:Tab W) (h2:ProgAt W (.slice A1 ps.length cap1) ps)=>pcheck_any ps A1 cap1 W h1 h2 (by have:=HS.out.len1;omega) (fun f hf=>by
    rw[HPF.out] at hf
    obtain⟨g,rfl⟩:=mkProg_mem hf
    have:=mkFn_size g.params g.regs g.code (funcsN l:Nat) false
    omega))
   rw[HS.out.len1] at HCK
   by_cases hz:checkP ps=0
   ·rw[hz] at HCK
    have HFIN:=Lib.hid (show mkP l=ps by unfold mkP;rw[←HPF.out,if_pos hz])
    clear hz
    go_wp2_with (go_at_call 21;go_must (refine(HCK.out _ (by have hb:=HS.out.below;exact HT.out.keeps (by exact Bq)) (HS.out.prog1.at.keeps (by have hb:=Below.refl wr.heap.size wr;exact Bq))).mono ?_;rintro e wx ⟨rfl,hbx⟩;have hbx' :Below wr.heap.size wr wx:=(by refine Below.trans ?_ (hbx.mono (by simp));have hb:=Below.refl wr.heap.size wr;exact Bq);have HSx:=Lib.hid (HS.out.keeps hbx');have x0:=cell_block HSx.out.blk0;have g0:=frozen_block HSx.out.blk0;have x1:=cell_block HSx.out.blk1;have x2:=cell_block HSx.out.blk2;have zx:w.heap.size+1+1<wx.heap.size:=HSx.out.size;have zx0:w.heap.size<wx.heap.size:=(by omega);have zx1:w.heap.size+1<wx.heap.size:=(by omega);clear hbx hbx'))
    have hb:=HSx.out.below
    refine bodyPost_ret (v:= .agg #[.slice A1 i cap1]) (by simp[results,Tryd.results7,go_sem,x0]) rfl ⟨⟨A1,cap1,vs,?_,?_⟩,?_⟩
    ·rw[HFIN.out,HS.out.len1]
    ·rw[HFIN.out,HS.out.len1]
     exact HSx.out.prog1.setCell (by simp) _
    ·exact Bq
   ·have hne:(checkP ps==0)=false:=by simpa using hz
    have HFIN:=Lib.hid (show mkP l=qs by unfold mkP;rw[←HPF.out,if_neg hz,←HQF.out])
    clear hz
    generalize checkP ps=ee at *
    go_wp2_with (go_at_call 21;go_must (refine(HCK.out _ (by have hb:=HS.out.below;exact HT.out.keeps (by exact Bq)) (HS.out.prog1.at.keeps (by have hb:=Below.refl wr.heap.size wr;exact Bq))).mono ?_;rintro e wx ⟨rfl,hbx⟩;have hbx' :Below wr.heap.size wr wx:=(by refine Below.trans ?_ (hbx.mono (by simp));have hb:=Below.refl wr.heap.size wr;exact Bq);have HSx:=Lib.hid (HS.out.keeps hbx');have x0:=cell_block HSx.out.blk0;have g0:=frozen_block HSx.out.blk0;have x1:=cell_block HSx.out.blk1;have x2:=cell_block HSx.out.blk2;have zx:w.heap.size+1+1<wx.heap.size:=HSx.out.size;have zx0:w.heap.size<wx.heap.size:=(by omega);have zx1:w.heap.size+1<wx.heap.size:=(by omega);clear hbx hbx'))
    have hb:=HSx.out.below
    refine bodyPost_ret (v:= .agg #[.slice A0 i cap0]) (by simp[results,Tryd.results7,go_sem,x0]) rfl ⟨⟨A0,cap0,us,?_,?_⟩,?_⟩
    ·rw[HFIN.out,HS.out.len2]
    ·rw[HFIN.out,HS.out.len2]
     exact HSx.out.prog2.setCell (by simp) _
    ·exact Bq
  ·have hiN' :(i:Int)<nn:=by omega
   clear hiN
   by_cases hil:i<ln
   ·obtain⟨⟨fp,fr,fc⟩,hx⟩:∃x,l[i]? =some x:=⟨l[i]'(by rw[HLN.out];exact hil),gE _⟩
    obtain⟨rb,ro,hRA,hrb,hcell⟩:=HRAW.out (by rw[HLN.out];omega)
    obtain⟨g0,g1,g2,CA,ccap,g3,d0,d1,d2⟩:=hcell i _ hx
    have HRO:=Lib.hid (show rawOf l i=⟨fp,fr,fc⟩ by rw[rawOf,hx];rfl)
    dsimp only at *
    have HFP:=Lib.hid (And.intro g0 (And.intro g1 g2))
    have HRW:=Lib.hid g3
    rw[←HS.out.below.cell (p:=⟨rb,_,none⟩) hrb] at d0 d1 d2
    have hrbw:rb<wr.heap.size:=Nat.lt_of_lt_of_le hrb HS.out.below.size
    have hi0:(0:Int)≤(i:Int):=by omega
    have hi1:(i:Int)<(ln:Int):=by omega
    obtain⟨F,hF⟩:∃F,mkFn fp fr fc (nn:Int) false=F:=⟨_,rfl⟩
    obtain⟨G,hG⟩:∃G,mkFn fp fr fc (nn:Int) true=G:=⟨_,rfl⟩
    have HF:=Lib.hid hF
    have HG:=Lib.hid hG
    clear hcell hx g0 g1 g2 g3 hF hG
    subst hRA
    go_wp2_with (first|(have tok:=HS3;at_builtin;go_must (refine wpList_append_own_at _ rfl _ _ 27 rfl (w.heap.size+3) 60 i0 _ 3 40 Tryd.underlying27 hi hz0 hz1 hz2 rfl (by decide) (.slice A0 i cap0) i (fnCells qs us) rfl (own_below HS3.out.own2 ((Below.refl _ _).alloc (Nat.le_refl _) _)) ⟨w3.heap.size,0,none⟩ 1 1 [.int .i64 G.params, .int .i64 G.regs, .slice A4 G.code.length cap4] rfl rfl (World.news_of_block (cs:= #[.int .i64 G.params, .int .i64 G.regs, .slice A4 G.code.length cap4]) (t:=60) (fr:=(0,0)) (by simpa using heap_alloc_new (w3.setCell ⟨w.heap.size+1,0,none⟩ (.slice A3 (i+1) cap3)) (.cells #[.int .i64 G.params, .int .i64 G.regs, .slice A4 G.code.length cap4] 60))) (by simp[Value.oneCell']) (by unfold maxLen;omega) (by omega) (by simp;omega) ?_);intro v5 w5 hown5 hg5 _ hat5;obtain⟨A5,cap5,hv5,-⟩:=own_slice hown5;rw[hv5] at hown5 hat5;rw[hv5];have mid:=HS3.out.mid2 _ hg5;have HS5:=Lib.hid (HS3.out.app2 G (.slice A4 G.code.length cap4) _ HOY3.out hg5 hown5 hat5);have t2:=cell_block ((mid (w.heap.size+1+1) (by omega)).trans HS3.out.blk2);have l2:=frozen_block ((mid (w.heap.size+1+1) (by omega)).trans HS3.out.blk2);have zw5:w.heap.size+1+1<w5.heap.size:=(by have:=HS5.out.size;simpa [World.setCell] using this);clear tok mid hown5 hg5 hat5)|(have tok:=HSy;at_builtin;go_must (refine wpList_append_own_at _ rfl _ _ 27 rfl (w.heap.size+3) 60 i0 _ 3 40 Tryd.underlying27 hi hz0 hz1 hz2 rfl (by decide) (.slice A1 i cap1) i (fnCells ps vs) rfl (own_below HSy.out.own1 (((Below.refl _ _).alloc (Nat.le_refl _) _).alloc (by simp) _)) ⟨wy.heap.size+1,0,none⟩ 1 1 [.int .i64 F.params, .int .i64 F.regs, .slice A2 F.code.length cap2] rfl rfl (World.news_of_block (cs:= #[.int .i64 F.params, .int .i64 F.regs, .slice A2 F.code.length cap2]) (t:=60) (fr:=(0,0)) (heap_alloc_new2 _ _ _)) (by simp[Value.oneCell']) (by unfold maxLen;omega) (by omega) (by simp;omega) ?_);intro v3 w3 hown3 hg3 _ hat3;obtain⟨A3,cap3,hv3,-⟩:=own_slice hown3;rw[hv3] at hown3 hat3;rw[hv3];have HSz:=Lib.hid (HSy.out.keeps ((Below.refl _ _).alloc (Nat.le_refl _) (.cells #[.int .i64 G.params, .int .i64 G.regs, .slice A4 G.code.length cap4] 60)));have mid:=HSz.out.mid1 _ hg3;have hOYz:=own_below HOY.out ((Below.refl _ _).alloc (Nat.le_refl _) (.cells #[.int .i64 G.params, .int .i64 G.regs, .slice A4 G.code.length cap4] 60));have HOY3:=Lib.hid (own_setCell (a:=⟨w.heap.size+1,0,none⟩) ((hOYz.alloc _).kept hg3 (rows_apart hOYz HSz.out.own1 (by decide))) (by simp) (.slice A3 (i+1) cap3));have HS3:=Lib.hid (HSz.out.app1 F (.slice A2 F.code.length cap2) _ (own_below HOX2.out ((Below.refl _ _).alloc (Nat.le_refl _) _)) hg3 hown3 hat3);have u1:=cell_block ((mid (w.heap.size+1) (by omega)).trans HSz.out.blk1);have j1:=frozen_block ((mid (w.heap.size+1) (by omega)).trans HSz.out.blk1);have u2:=cell_block ((mid (w.heap.size+1+1) (by omega)).trans HSz.out.blk2);have j2:=frozen_block ((mid (w.heap.size+1+1) (by omega)).trans HSz.out.blk2);have hyb:w3.heap[wy.heap.size]? =some (.cells #[.int .i64 G.params, .int .i64 G.regs, .slice A4 G.code.length cap4] 60 (0,0)):=(by rw[hg3.block wy.heap.size (by simp;omega) (fun e=>by have:=(World.ownsRow.lt HSy.out.own1 _ e.symm).2;omega),Below.heap_alloc _ _ _ (by simp)];exact heap_alloc_new _ _);have yb:=cell_block hyb;have zw3:w.heap.size+1+1<w3.heap.size:=(by have:=HS3.out.size;simpa [World.setCell] using this);have zw4:wy.heap.size<w3.heap.size:=(Array.getElem?_eq_some_iff.1 hyb).1;clear tok mid hOYz hyb hown3 hg3 hat3 y1 k1 y2 k2)|(have tok:=HSx;go_at_call 20;go_must (refine(fn_true fp fr CA fc ccap (nn:Int) _ HFP.out.1 HFP.out.2.1 (by omega) (by omega) HFP.out.2.2 (HRW.out.keeps (by have hb:=HSx.out.below;exact Bq))).mono ?_;rintro e wy ⟨⟨A4,cap4,he,hoy⟩,hby⟩;rw[HG.out] at he hoy;subst he;have hby' :Below wx.heap.size wx wy:=(by refine Below.trans ?_ (hby.mono (by simp));have hb:=Below.refl wx.heap.size wx;exact Bq);have hxb:=(hby.block wx.heap.size (by simp)).trans (heap_alloc_new wx _);have xb:=cell_block hxb;have zxb:wx.heap.size<wy.heap.size:=(Array.getElem?_eq_some_iff.1 hxb).1;have HSy:=Lib.hid (HSx.out.keeps hby');have HOY:=Lib.hid (own_base (B' :=w.heap.size+3) hoy (by have:=zx;simp;omega));have HOX2:=Lib.hid (own_below HOX.out hby');have zy:w.heap.size+1+1<wy.heap.size:=HSy.out.size;have zy1:w.heap.size+1<wy.heap.size:=(by omega);have y1:=cell_block HSy.out.blk1;have k1:=frozen_block HSy.out.blk1;have y2:=cell_block HSy.out.blk2;have k2:=frozen_block HSy.out.blk2;clear tok hxb hoy hby hby' x1 g1 x2 g2))|(go_at_call 20;go_must (refine(fn_false fp fr CA fc ccap (nn:Int) _ HFP.out.1 HFP.out.2.1 (by omega) (by omega) HFP.out.2.2 (HRW.out.keeps (by have hb:=HS.out.below;exact Bq))).mono ?_;rintro e wx ⟨⟨A2,cap2,he,hox⟩,hbx⟩;rw[HF.out] at he hox;subst he;have hbx' :Below wr.heap.size wr wx:=(by refine Below.trans ?_ (hbx.mono (by simp));have hb:=Below.refl wr.heap.size wr;exact Bq);have hqb:=(hbx.block wr.heap.size (by simp)).trans (heap_alloc_new wr _);have qb:=cell_block hqb;have zqb:wr.heap.size<wx.heap.size:=(Array.getElem?_eq_some_iff.1 hqb).1;have HSx:=Lib.hid (HS.out.keeps hbx');have HOX:=Lib.hid (own_base (B' :=w.heap.size+3) hox (by have:=z1;simp;omega));have zx:w.heap.size+1+1<wx.heap.size:=HSx.out.size;have x1:=cell_block HSx.out.blk1;have g1:=frozen_block HSx.out.blk1;have x2:=cell_block HSx.out.blk2;have g2:=frozen_block HSx.out.blk2;clear hqb hox hbx hbx')))
    go_roundw
    case rel=>exact⟨i+1,A3,cap3,ps++[F],vs++[.slice A2 F.code.length cap2],A5,cap5,qs++[G],us++[.slice A4 G.code.length cap4],by omega,by go_num,by rw[HPS.out,mkProg_take l false i (by rw[HNN.out];omega),HRO.out,HNN.out,←HF.out],by rw[HQS.out,mkProg_take l true i (by rw[HNN.out];omega),HRO.out,HNN.out,←HG.out],HS5.out⟩
    case measure=>simp[intOf];omega
   ·obtain⟨F,hF⟩:∃F,mkFn 0 0 [] (nn:Int) false=F:=⟨_,rfl⟩
    obtain⟨G,hG⟩:∃G,mkFn 0 0 [] (nn:Int) true=G:=⟨_,rfl⟩
    have HF:=Lib.hid hF
    have HG:=Lib.hid hG
    have HRO:=Lib.hid (show rawOf l i=⟨0,0,[]⟩ by rw[rawOf,List.getElem?_eq_none (by rw[HLN.out];omega)];rfl)
    have hl0:¬(i:Int)<(ln:Int):=by omega
    obtain⟨fp,hfp⟩:∃fp:Int,fp=0:=⟨_,rfl⟩
    clear hF hG
    go_wp2_with (first|(have tok:=HS3;at_builtin;go_must (refine wpList_append_own_at _ rfl _ _ 27 rfl (w.heap.size+3) 60 i0 _ 3 40 Tryd.underlying27 hi hz0 hz1 hz2 rfl (by decide) (.slice A0 i cap0) i (fnCells qs us) rfl (own_below HS3.out.own2 ((Below.refl _ _).alloc (Nat.le_refl _) _)) ⟨w3.heap.size,0,none⟩ 1 1 [.int .i64 G.params, .int .i64 G.regs, .slice A4 G.code.length cap4] rfl rfl (World.news_of_block (cs:= #[.int .i64 G.params, .int .i64 G.regs, .slice A4 G.code.length cap4]) (t:=60) (fr:=(0,0)) (by simpa using heap_alloc_new (w3.setCell ⟨w.heap.size+1,0,none⟩ (.slice A3 (i+1) cap3)) (.cells #[.int .i64 G.params, .int .i64 G.regs, .slice A4 G.code.length cap4] 60))) (by simp[Value.oneCell']) (by unfold maxLen;omega) (by omega) (by simp;omega) ?_);intro v5 w5 hown5 hg5 _ hat5;obtain⟨A5,cap5,hv5,-⟩:=own_slice hown5;rw[hv5] at hown5 hat5;rw[hv5];have mid:=HS3.out.mid2 _ hg5;have HS5:=Lib.hid (HS3.out.app2 G (.slice A4 G.code.length cap4) _ HOY3.out hg5 hown5 hat5);have t2:=cell_block ((mid (w.heap.size+1+1) (by omega)).trans HS3.out.blk2);have l2:=frozen_block ((mid (w.heap.size+1+1) (by omega)).trans HS3.out.blk2);have zw5:w.heap.size+1+1<w5.heap.size:=(by have:=HS5.out.size;simpa [World.setCell] using this);clear tok mid hown5 hg5 hat5)|(have tok:=HSy;at_builtin;go_must (refine wpList_append_own_at _ rfl _ _ 27 rfl (w.heap.size+3) 60 i0 _ 3 40 Tryd.underlying27 hi hz0 hz1 hz2 rfl (by decide) (.slice A1 i cap1) i (fnCells ps vs) rfl (own_below HSy.out.own1 (((Below.refl _ _).alloc (Nat.le_refl _) _).alloc (by simp) _)) ⟨wy.heap.size+1,0,none⟩ 1 1 [.int .i64 F.params, .int .i64 F.regs, .slice A2 F.code.length cap2] rfl rfl (World.news_of_block (cs:= #[.int .i64 F.params, .int .i64 F.regs, .slice A2 F.code.length cap2]) (t:=60) (fr:=(0,0)) (heap_alloc_new2 _ _ _)) (by simp[Value.oneCell']) (by unfold maxLen;omega) (by omega) (by simp;omega) ?_);intro v3 w3 hown3 hg3 _ hat3;obtain⟨A3,cap3,hv3,-⟩:=own_slice hown3;rw[hv3] at hown3 hat3;rw[hv3];have HSz:=Lib.hid (HSy.out.keeps ((Below.refl _ _).alloc (Nat.le_refl _) (.cells #[.int .i64 G.params, .int .i64 G.regs, .slice A4 G.code.length cap4] 60)));have mid:=HSz.out.mid1 _ hg3;have hOYz:=own_below HOY.out ((Below.refl _ _).alloc (Nat.le_refl _) (.cells #[.int .i64 G.params, .int .i64 G.regs, .slice A4 G.code.length cap4] 60));have HOY3:=Lib.hid (own_setCell (a:=⟨w.heap.size+1,0,none⟩) ((hOYz.alloc _).kept hg3 (rows_apart hOYz HSz.out.own1 (by decide))) (by simp) (.slice A3 (i+1) cap3));have HS3:=Lib.hid (HSz.out.app1 F (.slice A2 F.code.length cap2) _ (own_below HOX2.out ((Below.refl _ _).alloc (Nat.le_refl _) _)) hg3 hown3 hat3);have u1:=cell_block ((mid (w.heap.size+1) (by omega)).trans HSz.out.blk1);have j1:=frozen_block ((mid (w.heap.size+1) (by omega)).trans HSz.out.blk1);have u2:=cell_block ((mid (w.heap.size+1+1) (by omega)).trans HSz.out.blk2);have j2:=frozen_block ((mid (w.heap.size+1+1) (by omega)).trans HSz.out.blk2);have hyb:w3.heap[wy.heap.size]? =some (.cells #[.int .i64 G.params, .int .i64 G.regs, .slice A4 G.code.length cap4] 60 (0,0)):=(by rw[hg3.block wy.heap.size (by simp;omega) (fun e=>by have:=(World.ownsRow.lt HSy.out.own1 _ e.symm).2;omega),Below.heap_alloc _ _ _ (by simp)];exact heap_alloc_new _ _);have yb:=cell_block hyb;have zw3:w.heap.size+1+1<w3.heap.size:=(by have:=HS3.out.size;simpa [World.setCell] using this);have zw4:wy.heap.size<w3.heap.size:=(Array.getElem?_eq_some_iff.1 hyb).1;clear tok mid hOYz hyb hown3 hg3 hat3 y1 k1 y2 k2)|(have tok:=HSx;go_at_call 20;go_must (refine(fn_true 0 0 none [] 0 (nn:Int) _ (by unfold In;omega) (by unfold In;omega) (by omega) (by omega) (by simp) (fun h=>by simp at h)).mono ?_;rintro e wy ⟨⟨A4,cap4,he,hoy⟩,hby⟩;rw[HG.out] at he hoy;subst he;have hby' :Below wx.heap.size wx wy:=(by refine Below.trans ?_ (hby.mono (by simp));have hb:=Below.refl wx.heap.size wx;exact Bq);have hxb:=(hby.block wx.heap.size (by simp)).trans (heap_alloc_new wx _);have xb:=cell_block hxb;have zxb:wx.heap.size<wy.heap.size:=(Array.getElem?_eq_some_iff.1 hxb).1;have HSy:=Lib.hid (HSx.out.keeps hby');have HOY:=Lib.hid (own_base (B' :=w.heap.size+3) hoy (by have:=zx;simp;omega));have HOX2:=Lib.hid (own_below HOX.out hby');have zy:w.heap.size+1+1<wy.heap.size:=HSy.out.size;have zy1:w.heap.size+1<wy.heap.size:=(by omega);have y1:=cell_block HSy.out.blk1;have k1:=frozen_block HSy.out.blk1;have y2:=cell_block HSy.out.blk2;have k2:=frozen_block HSy.out.blk2;clear tok hxb hoy hby hby' x1 g1 x2 g2))|(go_at_call 20;go_must (refine(fn_false 0 0 none [] 0 (nn:Int) _ (by unfold In;omega) (by unfold In;omega) (by omega) (by omega) (by simp) (fun h=>by simp at h)).mono ?_;rintro e wx ⟨⟨A2,cap2,he,hox⟩,hbx⟩;rw[HF.out] at he hox;subst he;have hbx' :Below wr.heap.size wr wx:=(by refine Below.trans ?_ (hbx.mono (by simp));have hb:=Below.refl wr.heap.size wr;exact Bq);have hqb:=(hbx.block wr.heap.size (by simp)).trans (heap_alloc_new wr _);have qb:=cell_block hqb;have zqb:wr.heap.size<wx.heap.size:=(Array.getElem?_eq_some_iff.1 hqb).1;have HSx:=Lib.hid (HS.out.keeps hbx');have HOX:=Lib.hid (own_base (B' :=w.heap.size+3) hox (by have:=z1;simp;omega));have zx:w.heap.size+1+1<wx.heap.size:=HSx.out.size;have x1:=cell_block HSx.out.blk1;have g1:=frozen_block HSx.out.blk1;have x2:=cell_block HSx.out.blk2;have g2:=frozen_block HSx.out.blk2;clear hqb hox hbx hbx')))
    go_roundw
    case rel=>exact⟨i+1,A3,cap3,ps++[F],vs++[.slice A2 F.code.length cap2],A5,cap5,qs++[G],us++[.slice A4 G.code.length cap4],by omega,by go_num,by rw[HPS.out,mkProg_take l false i (by rw[HNN.out];omega),HRO.out,HNN.out,←HF.out],by rw[HQS.out,mkProg_take l true i (by rw[HNN.out];omega),HRO.out,HNN.out,←HG.out],HS5.out⟩
    case measure=>simp[intOf];omega
end Go.Proofs.YtedcjapmmnbamaaDoor
