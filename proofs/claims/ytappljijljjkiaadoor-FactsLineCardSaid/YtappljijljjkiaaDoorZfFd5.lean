import Derived.Test.YtappljijljjkiaaDoorZfFd4
namespace Go.Proofs.YtappljijljjkiaaDoor
open Go.RowKit Tier
def phTo(x:SV)(i:Nat)(P:List Int)(args:List Int):Nat→FactS
 |0=>noF
 |q+1=>if x.ed (P.getD q 0) i=true then joinF (phTo x i P args q) (ofF x.F (args.getD q 0)) else phTo x i P args q
theorem phTo_succ(x:SV)(i:Nat)(P:List Int)(args:List Int)(q:Nat):phTo x i P args (q+1)=if x.ed (P.getD q 0) i=true then joinF (phTo x i P args q) (ofF x.F (args.getD q 0)) else phTo x i P args q:=rfl
def phisTo(bs:List BR)(s:SB)(i:Nat)(x:SV):Nat→SV
 |0=>x
 |k+1=>sayF (phisTo bs s i x k) (s.phi i k).id (phTo (phisTo bs s i x k) i (prevL bs i) (s.phi i k).args (prevL bs i).length)
def sayTo(s:SB)(i:Nat)(x:SV):Nat→SV
 |0=>x
 |t+1=>sayF (sayTo s i x t) (s.insA i t).id (makeF (s.insA i t).op (s.insA i t).imm (ofF (sayTo s i x t).F (s.insA i t).a) (ofF (sayTo s i x t).F (s.insA i t).b))
def blockF(F:Fnc)(bs:List BR)(s:SB)(i:Nat)(x:SV):SV:=
 leaveTo F i (s.insA i ((s.part i).ins.length-1)).op (s.insA i ((s.part i).ins.length-1)).a (s.insA i ((s.part i).ins.length-1)).imm (sayTo s i (phisTo bs s i x (s.part i).phis.length) (s.part i).ins.length) (nxI F (hdA F i)).length
theorem setsL_all{Z vs:List Value}(h:Z.length=vs.length):setsL Z 0 vs=vs:=by
 apply List.ext_getElem?
 intro j
 rw[setsL_get _ _ _ _ (by omega)]
 by_cases e:j<vs.length
 ·rw[if_pos ⟨by omega,by omega⟩,Nat.sub_zero]
 ·rw[if_neg (by omega),List.getElem?_eq_none (by omega),List.getElem?_eq_none (by omega)]
theorem block_setsL{L:Nat}{t:TypeId}:∀(vs Z:List Value) (o:Nat) {W:World},W.heap[L]? =some (.cells Z.toArray t (0,0))→(W.setCells L o vs).heap[L]? =some (.cells (setsL Z o vs).toArray t (0,0))
 |[],_,_,_,h=>h
 |v::vs,Z,o,_,h=>block_setsL vs (Z.set o v) (o+1) (block_put h rfl)
theorem SbAt.partRange{w:World}{b:Nat}{c:SC}{s:SB}{V:SK→Value}(h:SbAt w b c s V)(hs:∀x∈s.parts,x.inn.length=12){g n cap:Nat}(hv:V .parts= .slice (some ⟨g,0,none⟩) n cap){i:Nat}(hi:i<s.parts.length):w.rangeAt g (i*15) ((s.part i).cells (V (.phis i)) (V (.ins i))):=fun t v ht=>by
 have hl:=part_len hs hi (V (.phis i)) (V (.ins i))
 have ht15:t<15:=by
  have h0:=(gI.1 ht).1
  have h1:((s.part i).cells (V (.phis i)) (V (.ins i))).length=15:=hl
  omega
 refine h.own.cell .parts (by rw[rowsOf_v];exact hv) ?_
 show(partsCells s.parts _ _)[i*15+t]? =_
 unfold partsCells
 rw[flat_at (fun k hk=>part_len hs hk _ _) hi ht15]
 exact ht
set_option maxRecDepth 100000 in
set_option maxHeartbeats 8000000 in
theorem block_any(b:Nat)(h:SH)(x:SV)(p:List Fnc)(F:Fnc)(O:List Nat)(bs:List BR)(gb Bb sb:Nat)(c:SC)(s:SB)(V:SK→Value)(vals:Nat)(g0:Nat→Nat)(cc:Nat→Nat→Nat)(i gp cp:Nat)(w:World)
 (hfp:FinP p F O bs s vals g0 cc) (hs:SolX w b h x) (hsb:SbAt w sb c s V) (hvp:V .parts= .slice (some ⟨gp,0,none⟩) bs.length cp) (hh2:h.h2= .slice (some ⟨gp,0,none⟩) bs.length cp) (hB:BlkB w gb Bb bs) (hok:BlkOk F bs) (hbv:h.bv= .slice (some ⟨gb,0,none⟩) bs.length bs.length) (hi:i<bs.length) (hn:h.n=vals) (hH:h.H=bs.length) (hle:bs.length≤40) (_hvl:vals≤10000)
 (hnx:∀n∈nxI F (hdA F i),n<bs.length) (hnl:(nxI F (hdA F i)).length≤100) (hil:0<(s.part i).ins.length) (hil40:(s.part i).ins.length≤40) (hprev:(prevL bs i).length≤300∧∀q∈prevL bs i,-1≤q∧q<bs.length) (hpid:∀k,k<(s.part i).phis.length→(s.phi i k).id<vals) (hiid:∀t,t<(s.part i).ins.length→(s.insA i t).id<vals):
 Calls Tryd.prog 44 #[.pointer (some ⟨b,0,none⟩), .int .i64 (i:Int)] w fun e w' =>e= .returned (.tuple #[])∧SolX w' b h (blockF F bs s i x)∧FrV w b h w' :=by
 have his:i<s.parts.length:=by rw[hfp.len];exact hi
 have hrg:=hsb.partRange hfp.inn hvp his
 obtain⟨np,hnp⟩:∃n,(s.part i).phis.length=n:=⟨_,rfl⟩
 obtain⟨mi,hmi⟩:∃n,(s.part i).ins.length=n:=⟨_,rfl⟩
 obtain⟨PH,pc,hvph,-,hphA⟩:=hsb.rowV (.phis i) (n:=np) hnp
 obtain⟨IA,ic,hvin,-,hinA⟩:=hsb.rowV (.ins i) (n:=mi) hmi
 obtain⟨PC,hPC⟩:∃l,(s.part i).cells (V (.phis i)) (V (.ins i))=l:=⟨_,rfl⟩
 have hpl:PC.length=15:=by rw[←hPC];exact part_len hfp.inn his _ _
 have hp1:PC[1]? =some (.slice PH np pc):=by rw[←hPC,←hvph];rfl
 have hp2:PC[2]? =some (.slice IA mi ic):=by rw[←hPC,←hvin];rfl
 have hone:PC.toArray.all (·.oneCell')=true:=by
  rw[←hPC,hvph,hvin]
  simp[PartS.cells,intsV,Value.oneCell']
 rw[hPC] at hrg
 have HRG:=Lib.hid hrg
 have HONE:=Lib.hid hone
 have HPI:=Lib.hid (show(Tryd.prog.info? 56).map (·.size)=some PC.toArray.size by rw[List.size_toArray,hpl];kernel_rfl)
 have HPL:=Lib.hid hpl
 obtain⟨w1,hw1⟩:∃W,(w.alloc (.cells #[.int .i64 0, .slice none 0 0, .slice none 0 0, .int .i64 0, .int .i64 0, .int .i64 0, .int .i64 0, .int .i64 0, .int .i64 0, .int .i64 0, .int .i64 0, .int .i64 0, .int .i64 0, .int .i64 0, .int .i64 0] 56)).setCells w.heap.size 0 PC=W:=⟨_,rfl⟩
 have hb1:Below w.heap.size w w1:=hw1▸below_setsC (Nat.le_refl _) PC 0 ((Below.refl _ _).alloc (Nat.le_refl _) _)
 have hx4:w1.heap[w.heap.size]? =some (.cells PC.toArray 56 (0,0)):=by
  rw[←hw1]
  refine(block_setsL PC [.int .i64 0, .slice none 0 0, .slice none 0 0, .int .i64 0, .int .i64 0, .int .i64 0, .int .i64 0, .int .i64 0, .int .i64 0, .int .i64 0, .int .i64 0, .int .i64 0, .int .i64 0, .int .i64 0, .int .i64 0] 0 (heap_alloc_new w _)).trans ?_
  rw[setsL_all (by rw[hpl];rfl)]
 have hs1:=hs.keeps hb1
 have HS1:=Lib.hid hs1
 have HF1:=Lib.hid (FrV.of_below (b:=b) (h:=h) hb1)
 have HW1:=Lib.hid hw1
 have q2:w.cell? ⟨b,2,none⟩=some h.h2:=(SolAt.cell hs 2).trans rfl
 rw[hh2] at q2
 have zb:=(SolAt.lt hs).1
 have hsb1:=hsb.keeps hb1
 have hB1:=hB.keeps hb1
 have KP:=Lib.hid (fun(W:World) (hf:FrV w1 b h W)=>(by
  have x4:=hf.block hs1 hx4 (by decide) (by decide) (by decide)
  exact⟨(cell_block x4 1).trans (List.getElem?_toArray.trans hp1),(cell_block x4 2).trans (List.getElem?_toArray.trans hp2),block_lt x4⟩:W.cell? ⟨w.heap.size,1,none⟩=some (.slice PH np pc)∧W.cell? ⟨w.heap.size,2,none⟩=some (.slice IA mi ic)∧w.heap.size<W.heap.size))
 have KSB:=Lib.hid (fun(W:World) (hf:FrV w1 b h W)=>hf.sb hs1 hsb1)
 have KB:=Lib.hid (fun(W:World) (hf:FrV w1 b h W)=>hf.blk hs1 hB1)
 obtain⟨L4,hL4⟩:∃z,w.heap.size=z:=⟨_,rfl⟩
 have HL4:=Lib.hid hL4
 rw[hL4] at KP
 obtain⟨H,hHe⟩:∃n,bs.length=n:=⟨_,rfl⟩
 rw[hHe] at q2
 have HHE:=Lib.hid hHe
 have hi1:(i:Int)<H:=by omega
 have hi0:(0:Int)≤i:=by omega
 have zgp:=(hsb.rlt .parts (g:=gp) (by rw[hvp];rfl)).2
 clear hPC hrg hone hp1 hp2 hb1 hx4 hL4
 go_enter Tryd.func44,Tryd.ntmps44
 go_wp2_with (first|(refine wpList_load_mid (by rfl) 56 _ (by rfl) gp (i*15) (by rfl) PC _ HRG.out Tryd.underlying56 (by rfl) (by simpa using HPI.out) ?_)|(refine wpList_store_mid (by rfl) 56 _ _ (by rfl) w.heap.size 0 PC.toArray (by rfl) (by rfl) (there_block (heap_alloc_new w _) (by simp[HPL.out])) HPI.out HONE.out ?_;rw[show(w.alloc (.cells #[.int .i64 0, .slice none 0 0, .slice none 0 0, .int .i64 0, .int .i64 0, .int .i64 0, .int .i64 0, .int .i64 0, .int .i64 0, .int .i64 0, .int .i64 0, .int .i64 0, .int .i64 0, .int .i64 0, .int .i64 0] 56)).setCells w.heap.size 0 PC.toArray.toList=w1 from HW1.out,HL4.out];clear q2 zb zgp hw1;obtain⟨k1,k2,kz⟩:=KP.out w1 (FrV.refl _ _ _)))
 clear k1 k2 kz
 have KPV:=Lib.hid (fun(W:World) (hf:FrV w1 b h W)=>(by
  obtain⟨r,hr⟩:∃r,bs[i]? =some r:=⟨_,gE hi⟩
  have hBW:=KB.out W hf
  obtain⟨PA,pcap,hpv,hpc⟩:=own_slice (hBW.rows.own i r true hr)
  have hpv' :r.pv= .slice PA r.pl.length pcap:=hpv
  have hpe:prevL bs i=r.pl:=by unfold prevL;rw[hr];rfl
  refine⟨PA,pcap,?_,block_lt hBW.blk,fun q z hq=> ?_⟩
  ·rw[hpe]
   exact(hBW.cell hr (j:=3) (by omega)).trans (by show some r.pv=_;rw[hpv'])
  ·rw[hpe] at hq
   have hql:=(gI.1 hq).1
   obtain⟨g,e1,e2,e3⟩:=hpc (by have e:(r.lst true).length=r.pl.length:=rfl;omega)
   exact⟨g,e1,e2,(e3 q (by have e:(r.lst true).length=r.pl.length:=rfl;omega)).trans (by have:(r.lst true)[q]? =some z:=hq;rw[List.getElem?_map,this];rfl)⟩:
  ∃PA pcap,W.cell? ⟨gb,i*4+3,none⟩=some (.slice PA (prevL bs i).length pcap)∧gb<W.heap.size∧∀(q:Nat) (z:Int),(prevL bs i)[q]? =some z→∃g,PA=some ⟨g,0,none⟩∧g<W.heap.size∧W.cell? ⟨g,q,none⟩=some (.int .i64 z)))
 have KSO:=Lib.hid (fun(W:World) (y:SV) (hy:SolX W b h y)=>(by
  have q3:W.cell? ⟨b,3,none⟩=some h.bv:=(SolAt.cell hy 3).trans rfl
  have q6:W.cell? ⟨b,6,none⟩=some (.map (some h.ge)):=(SolAt.cell hy 6).trans rfl
  rw[hbv,hHe] at q3
  exact⟨q3,q6,(SolAt.lt hy).1⟩:W.cell? ⟨b,3,none⟩=some (.slice (some ⟨gb,0,none⟩) H H)∧W.cell? ⟨b,6,none⟩=some (.map (some h.ge))∧b<W.heap.size))
 have HLV:=Lib.hid (fun(W:World) (y:SV) (hy:SolX W b h y) (hf:FrV w1 b h W) (op id a c imm pc:Int) (ha:a<h.n)=>leave_any b h y F bs gb Bb i op id a c imm pc W hy (KB.out W hf) hok hbv hi hH hle ha hnx hnl)
 have HPV2:=Lib.hid hprev
 have HFP:=Lib.hid hfp
 have HIB:=Lib.hid hi
 have HVH:=Lib.hid hvph
 have HVI:=Lib.hid hvin
 have HN:=Lib.hid hn
 have HPD:=Lib.hid hpid
 have HID:=Lib.hid hiid
 have HNP:=Lib.hid hnp
 have HMI:=Lib.hid hmi
 have HPA:=Lib.hid hphA
 have HIA:=Lib.hid hinA
 obtain⟨P,hP⟩:∃l,prevL bs i=l:=⟨_,rfl⟩
 obtain⟨pn,hpn⟩:∃n,P.length=n:=⟨_,rfl⟩
 have HPP:=Lib.hid hP
 have HPN:=Lib.hid hpn
 rw[hP] at KPV HPV2 hprev
 rw[hpn] at KPV hprev
 have hpn3:=hprev.1
 have HHH:=Lib.hid hH
 rw[hmi] at hil hil40
 have hnp12:np≤12:=by rw[←hnp];exact hfp.phl i hi
 have HP0:=Lib.hid (show phisTo bs s i x 0=x from rfl)
 have HPS:=Lib.hid (fun(k:Nat)=>(by rw[←hP];rfl:phisTo bs s i x (k+1)=sayF (phisTo bs s i x k) (s.phi i k).id (phTo (phisTo bs s i x k) i P (s.phi i k).args P.length)))
 have HBF:=Lib.hid (show blockF F bs s i x=leaveTo F i (s.insA i (mi-1)).op (s.insA i (mi-1)).a (s.insA i (mi-1)).imm (sayTo s i (phisTo bs s i x np) mi) (nxI F (hdA F i)).length by unfold blockF;rw[hnp,hmi])
 clear hs hs1 hsb hsb1 hB hB1 hok hbv hh2 hvp hH hnx hnl hprev hpid hiid hP hpn hnp hmi hphA hinA hvph hvin hfp hpl his hHe hn
 go_wp2_with fail
 go_loopw [25] (fun v wr=>∃k:Nat,k≤np∧v= .int .i64 (k:Int)∧SolX wr b h (phisTo bs s i x k)∧FrV w1 b h wr) (fun v _=>np-(intOf v).toNat)
 case atStart=>exact⟨0,by omega,rfl,by rw[HP0.out];exact HS1.out,FrV.refl _ _ _⟩
 case round=>
  obtain⟨k,hk,rfl,hsx,hfx⟩:=hrel
  have HSX:=Lib.hid hsx
  have HFX:=Lib.hid hfx
  by_cases hk0:k=np
  ·have hk0' :=hk0.symm
   subst hk0'
   clear hk0
   obtain⟨y,hy⟩:∃y,phisTo bs s i x np=y:=⟨_,rfl⟩
   rw[hy] at HSX HBF
   have HT0:=Lib.hid (show sayTo s i y 0=y from rfl)
   obtain⟨gin,rfl,-,-⟩:=HIA.out hil
   obtain⟨k1,k2,kz⟩:=KP.out wr hfx
   clear hsx hfx hy
   go_wp2_with fail
   clear k1 k2 kz
   go_loopw [74] (fun v wq=>∃t:Nat,t≤mi∧v= .int .i64 (t:Int)∧SolX wq b h (sayTo s i y t)∧FrV w1 b h wq) (fun v _=>mi-(intOf v).toNat)
   case atStart=>exact⟨0,by omega,rfl,by rw[HT0.out];exact HSX.out,HFX.out⟩
   case round=>
    rename World=>wq
    obtain⟨t,ht,rfl,hsy,hfy⟩:=hrel
    have HSY:=Lib.hid hsy
    have HFY:=Lib.hid hfy
    by_cases ht0:t=mi
    ·have ht0' :=ht0.symm
     subst ht0'
     have hml:mi-1<(s.part i).ins.length:=by rw[HMI.out];omega
     have hsbr:=KSB.out wq hfy
     obtain⟨c0,c1,c2,c3,c4,c5⟩:=hsbr.insCell HVI.out hml
     have zgin:=(hsbr.rlt (.ins i) (g:=gin) (by rw[HVI.out];rfl)).2
     obtain⟨⟨jo,jd,ja,jb,jm,jp⟩,hz⟩:∃z,s.insA i (mi-1)=z:=⟨_,rfl⟩
     have hja:=(HFP.out.ia i (mi-1) HIB.out hml).2
     rw[hz] at c0 c1 c2 c3 c4 c5 hja HBF
     simp only at c0 c1 c2 c3 c4 c5 hja HBF
     have HLC:=Lib.hid (HLV.out wq _ hsy hfy jo jd ja jb jm jp (by rw[HN.out];exact hja))
     obtain⟨m1,hm1⟩:∃m,mi-1=m:=⟨_,rfl⟩
     rw[hm1] at c0 c1 c2 c3 c4 c5
     have hmc:(mi:Int)-1=(m1:Int):=by omega
     have hm2:(m1:Int)<mi:=by omega
     have hm3:(0:Int)≤m1:=by omega
     obtain⟨k1,k2,kz⟩:=KP.out wq hfy
     clear hsy hfy hsbr hz hja hm1 ht0 hml
     go_wp2_with (go_at_call 85;go_must (refine HLC.out.mono ?_;rintro e we ⟨rfl,hse,hfe⟩;have HSE:=Lib.hid hse;have HFE:=Lib.hid (HF1.out.trans (HFY.out.trans hfe));clear hse hfe))
     refine bodyPost_end (v:= .tuple #[]) (by simp[results,Tryd.results44]) rfl ⟨rfl,by rw[HBF.out];exact HSE.out,HFE.out⟩
    ·have ht1:(t:Int)<mi:=by omega
     have ht2:(0:Int)≤t:=by omega
     have htl:t<(s.part i).ins.length:=by rw[HMI.out];omega
     have hsbr:=KSB.out wq hfy
     obtain⟨c0,c1,c2,c3,c4,c5⟩:=hsbr.insCell HVI.out htl
     have zgin:=(hsbr.rlt (.ins i) (g:=gin) (by rw[HVI.out];rfl)).2
     have hstep:sayTo s i y (t+1)=sayF (sayTo s i y t) (s.insA i t).id (makeF (s.insA i t).op (s.insA i t).imm (ofF (sayTo s i y t).F (s.insA i t).a) (ofF (sayTo s i y t).F (s.insA i t).b)):=rfl
     obtain⟨⟨jo,jd,ja,jb,jm,jp⟩,hz⟩:∃z,s.insA i t=z:=⟨_,rfl⟩
     have hja:=(HFP.out.ia i t HIB.out htl).2
     have hjb:=(HFP.out.ib i t HIB.out htl).2
     have hjd:=HID.out t htl
     rw[hz] at c0 c1 c2 c3 c4 c5 hja hjb hjd hstep
     simp only at c0 c1 c2 c3 c4 c5 hja hjb hjd hstep
     obtain⟨y2,hy2⟩:∃y2,sayTo s i y t=y2:=⟨_,rfl⟩
     rw[hy2] at hsy hstep
     obtain⟨⟨mk0,mv⟩,hmk⟩:∃f,makeF jo jm (ofF y2.F ja) (ofF y2.F jb)=f:=⟨_,rfl⟩
     rw[hmk] at hstep
     have HSU:=Lib.hid hstep
     obtain⟨w5,hw5⟩:∃W,wq.alloc (.cells #[.int .i64 jo, .int .i64 jd, .int .i64 ja, .int .i64 jb, .int .i64 jm, .int .i64 jp] 80)=W:=⟨_,rfl⟩
     have hb5:Below wq.heap.size wq w5:=hw5▸(Below.refl _ _).alloc (Nat.le_refl _) _
     have hx13:w5.heap[wq.heap.size]? =some (.cells #[.int .i64 jo, .int .i64 jd, .int .i64 ja, .int .i64 jb, .int .i64 jm, .int .i64 jp] 80 (0,0)):=hw5▸heap_alloc_new _ _
     have hs5:=hsy.keeps hb5
     have HF5:=Lib.hid (hfy.trans (FrV.of_below hb5))
     have KR:=Lib.hid (fun(W:World) (hf:FrV w5 b h W)=>(by
      have hx:=hf.block hs5 hx13 (by decide) (by decide) (by decide)
      exact⟨cell_block hx 0,cell_block hx 1,cell_block hx 2,cell_block hx 3,cell_block hx 4,cell_block hx 5⟩:W.cell? ⟨wq.heap.size,0,none⟩=some (.int .i64 jo)∧W.cell? ⟨wq.heap.size,1,none⟩=some (.int .i64 jd)∧W.cell? ⟨wq.heap.size,2,none⟩=some (.int .i64 ja)∧W.cell? ⟨wq.heap.size,3,none⟩=some (.int .i64 jb)∧W.cell? ⟨wq.heap.size,4,none⟩=some (.int .i64 jm)∧W.cell? ⟨wq.heap.size,5,none⟩=some (.int .i64 jp)))
     have HMK:=Lib.hid (fun(W:World) (hb:Below w5.heap.size w5 W)=>(by
      have h1:=make_any b h _ y2 jo jd ja jb jm jp W (hs5.keeps hb) (by rw[HN.out];exact hja) (by rw[HN.out];exact hjb)
      rw[hmk] at h1
      exact h1:Calls Tryd.prog 84 #[.pointer (some ⟨b,0,none⟩), .agg #[.int .i64 jo, .int .i64 jd, .int .i64 ja, .int .i64 jb, .int .i64 jm, .int .i64 jp]] W fun e w' =>e= .returned (.agg #[.int .i64 mk0, .int .i64 mv])∧Below W.heap.size W w'))
     have HSA:=Lib.hid (fun(W:World) (hb:Below w5.heap.size w5 W)=>(sayX_any b h y2 jd ⟨mk0,mv⟩ W (hs5.keeps hb) (by rw[HN.out];exact hjd):Calls Tryd.prog 83 #[.pointer (some ⟨b,0,none⟩), .int .i64 jd, .agg #[.int .i64 mk0, .int .i64 mv]] W fun e w' =>e= .returned (.tuple #[])∧SolX w' b h (sayF y2 jd ⟨mk0,mv⟩)∧FrV W b h w'))
     obtain⟨L13,hL13⟩:∃z,wq.heap.size=z:=⟨_,rfl⟩
     rw[hL13] at KR
     clear hsy hfy hsbr hz hja hjb hjd hmk hstep hb5 hx13 hs5 ht0 hy2 htl
     go_upto_region 17 with fail
     clear hw5 hL13 c0 c1 c2 c3 c4 c5 zgin
     refine wp_region_held_drew (S:=fun W=>W.cell? ⟨L13,0,none⟩=some (.int .i64 jo)∧W.cell? ⟨L13,1,none⟩=some (.int .i64 jd)∧W.cell? ⟨L13,2,none⟩=some (.int .i64 ja)∧W.cell? ⟨L13,3,none⟩=some (.int .i64 jb)∧W.cell? ⟨L13,4,none⟩=some (.int .i64 jm)∧W.cell? ⟨L13,5,none⟩=some (.int .i64 jp)) (by kernel_rfl) (KR.out _ (FrV.of_below (Below.refl _ _).drew)) (fun hHeld=> ?_)
     refine wpAnyH_take (i:=0) (v:= .pointer (some ⟨b,0,none⟩)) rfl (by kernel_rfl) (by kernel_rfl) (by kernel_rfl) (fun _ _ _ h=>h) (Or.inl ⟨by rfl,?_⟩) hHeld ?_
     ·intro w hSw
      simp only[qg]
      go_simp
     simp only[Act.put,qs]
     refine wpAnyH_take (i:=1) (v:= .pointer (some ⟨L13,1,none⟩)) rfl (by kernel_rfl) (by kernel_rfl) (by kernel_rfl) (fun _ _ _ h=>h) (Or.inl ⟨by rfl,?_⟩) hHeld ?_
     ·intro w hSw
      simp only[qg]
      go_simp
     simp only[Act.put,qs]
     refine wpAnyH_take (i:=2) (v:= .int .i64 jd) rfl (by kernel_rfl) (by kernel_rfl) (by kernel_rfl) (fun _ _ _ h=>h) (Or.inl ⟨by rfl,?_⟩) hHeld ?_
     ·intro w hSw
      obtain⟨p0,p1,p2,p3,p4,p5⟩:=hSw
      simp only[qg]
      go_simp
     simp only[Act.put,qs]
     refine wpAnyH_take (i:=3) (v:= .pointer (some ⟨b,0,none⟩)) rfl (by kernel_rfl) (by kernel_rfl) (by kernel_rfl) (fun _ _ _ h=>h) (Or.inl ⟨by rfl,?_⟩) hHeld ?_
     ·intro w hSw
      simp only[qg]
      go_simp
     simp only[Act.put,qs]
     refine wpAnyH_take (i:=4) (v:= .agg #[.int .i64 jo, .int .i64 jd, .int .i64 ja, .int .i64 jb, .int .i64 jm, .int .i64 jp]) rfl (by kernel_rfl) (by kernel_rfl) (by kernel_rfl) (fun _ _ _ h=>h) (Or.inl ⟨by rfl,?_⟩) hHeld ?_
     ·intro w hSw
      obtain⟨p0,p1,p2,p3,p4,p5⟩:=hSw
      simp only[qg]
      go_simp
     simp only[Act.put,qs]
     refine wpAnyH_ready (rs:=[5]) (by kernel_rfl) (by simp) ?_
     refine AllReadyH.cons rfl (fun K hK=> ?_) AllReadyH.nil
     simp only[qg]
     go_simp
     refine(HMK.out _ (Below.refl _ _).drew).mono ?_
     rintro e y1 ⟨rfl,hb⟩
     have BY1:Below w5.heap.size w5 y1:=(Below.refl w5.heap.size w5).drew.trans hb
     refine hK.out _ _ (KR.out _ (FrV.of_below BY1)) (fun hHeld=> ?_)
     clear hK K hb
     refine wpAnyH_ready (rs:=[6]) (by kernel_rfl) (by simp) ?_
     refine AllReadyH.cons rfl (fun K hK=> ?_) AllReadyH.nil
     simp only[qg]
     go_simp
     refine(HSA.out y1 BY1).mono ?_
     rintro e y2 ⟨rfl,hs,hf⟩
     have HS2:=Lib.hid hs
     have HF2:=Lib.hid (HF5.out.trans ((FrV.of_below BY1).trans hf))
     refine hK.out _ _ (KR.out _ ((FrV.of_below BY1).trans hf)) (fun hHeld=> ?_)
     clear hK K hs hf
     clear hHeld
     refine wpAnyH_done (by kernel_rfl) ?_ _
     go_wp2_with fail
     go_roundw
     case rel=>exact⟨t+1,by omega,by go_num,by rw[HSU.out];exact HS2.out,HF2.out⟩
     case measure=>simp[intOf];omega
  ·have hk1:(k:Int)<np:=by omega
   have hk2:(0:Int)≤k:=by omega
   obtain⟨gph,rfl,-,-⟩:=HPA.out (by omega)
   have hkl:k<(s.part i).phis.length:=by rw[HNP.out];omega
   have hsbr:=KSB.out wr hfx
   obtain⟨c0,c1,c2⟩:=hsbr.phiCell HVH.out hkl
   have zgph:=(hsbr.rlt (.phis i) (g:=gph) (by rw[HVH.out];rfl)).2
   have hal:(s.phi i k).args.length=pn:=by rw[(HFP.out.pid i k HIB.out hkl).2,HPP.out,HPN.out]
   obtain⟨AA,ac,hva,hac⟩:=hsbr.argCells i k (n:=pn) hal
   rw[hva] at c2
   obtain⟨rg,hrg2⟩:∃z,(s.phi i k).reg=z:=⟨_,rfl⟩
   obtain⟨pd,hpd⟩:∃z,(s.phi i k).id=z:=⟨_,rfl⟩
   obtain⟨AL,hAL⟩:∃l,(s.phi i k).args=l:=⟨_,rfl⟩
   have hpdl:=HPD.out k hkl
   have hag:=HFP.out.parg i k HIB.out hkl
   have hpsk:=HPS.out k
   rw[hpd,hAL] at hpsk
   rw[hrg2] at c0
   rw[hpd] at c1 hpdl
   rw[hAL] at hal hag
   have hac' :0<pn→∃g,AA=some ⟨g,0,none⟩∧g<wr.heap.size∧∀(j:Nat) (a:Int),AL[j]? =some a→wr.cell? ⟨g,j,none⟩=some (.int .i64 a):=fun h0=>by
    obtain⟨g,e1,e2,e3⟩:=hac h0
    exact⟨g,e1,e2,fun j a ha=>e3 j a (by show(s.phi i k).args[j]? =_;rw[hAL];exact ha)⟩
   obtain⟨y,hy⟩:∃y,phisTo bs s i x k=y:=⟨_,rfl⟩
   rw[hy] at hpsk HSX hsx
   have HSK:=Lib.hid hpsk
   obtain⟨w5,hw5⟩:∃W,wr.alloc (.cells #[.int .i64 rg, .int .i64 pd, .slice AA pn ac] 61)=W:=⟨_,rfl⟩
   have hb5:Below wr.heap.size wr w5:=hw5▸(Below.refl _ _).alloc (Nat.le_refl _) _
   have hx6:w5.heap[wr.heap.size]? =some (.cells #[.int .i64 rg, .int .i64 pd, .slice AA pn ac] 61 (0,0)):=hw5▸heap_alloc_new _ _
   have h5s:w5.heap.size=wr.heap.size+1:=hw5▸by simp
   obtain⟨w6,hw6⟩:∃W,w5.alloc (.cells #[.int .i64 0, .int .i64 0] 58)=W:=⟨_,rfl⟩
   have hb6:Below w5.heap.size w5 w6:=hw6▸(Below.refl _ _).alloc (Nat.le_refl _) _
   have hx7:w6.heap[wr.heap.size+1]? =some (.cells #[.int .i64 0, .int .i64 0] 58 (0,0)):=by rw[←h5s];exact hw6▸heap_alloc_new _ _
   have hs5:=hsx.keeps hb5
   have HS5:=Lib.hid hs5
   have HB5:=Lib.hid hb5
   have HB6:=Lib.hid hb6
   have HF5:=Lib.hid (hfx.trans (FrV.of_below hb5))
   have HX7:=Lib.hid hx7
   have KR0:=Lib.hid (fun(W:World) (hb:Below w5.heap.size w5 W)=>(by
    have hx:=(hb.block _ (block_lt hx6)).trans hx6
    exact⟨cell_block hx 1,cell_block hx 2,block_lt hx⟩:W.cell? ⟨wr.heap.size,1,none⟩=some (.int .i64 pd)∧W.cell? ⟨wr.heap.size,2,none⟩=some (.slice AA pn ac)∧wr.heap.size<W.heap.size))
   have KAR:=Lib.hid (fun(h0:0<pn)=>(by
    obtain⟨g,e1,e2,e3⟩:=hac' h0
    exact⟨g,e1,fun(W:World) (hb:Below w5.heap.size w5 W)=>⟨Nat.lt_of_lt_of_le e2 (Nat.le_trans hb5.size hb.size),fun j a ha=>(hb.cell (p:=⟨g,j,none⟩) (Nat.lt_of_lt_of_le e2 hb5.size)).trans ((hb5.cell (p:=⟨g,j,none⟩) e2).trans (e3 j a ha))⟩⟩:
    ∃g,AA=some ⟨g,0,none⟩∧∀W:World,Below w5.heap.size w5 W→g<W.heap.size∧∀(j:Nat) (a:Int),AL[j]? =some a→W.cell? ⟨g,j,none⟩=some (.int .i64 a)))
   have KPW:=Lib.hid (fun(W:World) (hb:Below w5.heap.size w5 W)=>KPV.out W (HF5.out.trans (FrV.of_below hb)))
   have HOF0:=Lib.hid (fun(W:World) (hb:Below w5.heap.size w5 W) (a:Int) (ha:a<h.n)=>of_any b h _ y a W (hs5.keeps hb) ha)
   have HLK:=Lib.hid (fun(W:World) (hb:Below w5.heap.size w5 W)=>(hs5.keeps hb).ed)
   obtain⟨L6,hL6⟩:∃z,wr.heap.size=z:=⟨_,rfl⟩
   have HL7:=Lib.hid (show w5.heap.size≤L6+1 by rw[h5s,hL6];exact Nat.le_refl _)
   have HL6:=Lib.hid hL6
   rw[hL6] at KR0 hx7 HX7
   obtain⟨PA,pcap,y5',zgb',hpq⟩:=KPW.out w5 (Below.refl _ _)
   have y5:=(hb6.cell (p:=⟨gb,_,none⟩) zgb').trans y5'
   have zgb:=Nat.lt_of_lt_of_le zgb' hb6.size
   clear y5' zgb'
   obtain⟨y3,y6,zb6⟩:=KSO.out w6 y (hs5.keeps hb6)
   have HPQ:=Lib.hid hpq
   have HALL:=Lib.hid hal
   have HAG:=Lib.hid hag
   have HPT0:=Lib.hid (show phTo y i P AL 0=noF from rfl)
   clear hsx hfx hsbr hva hac hac' hrg2 hpd hAL hpsk hal hag hb5 hb6 hx6 hs5 hpq hk0 hx7 hy hkl
   go_wp2_with fail
   clear c0 c1 c2 zgph y3 y5 y6 zb6 zgb hw5 hw6 hL6 h5s
   go_loopw [38] (fun v wq=>∃q:Nat,q≤pn∧v= .int .i64 (q:Int)∧Below w5.heap.size w5 wq∧wq.heap[L6+1]? =some (.cells #[.int .i64 (phTo y i P AL q).k, .int .i64 (phTo y i P AL q).v] 58 (0,0))) (fun v _=>pn-(intOf v).toNat)
   case atStart=>exact⟨0,by omega,rfl,HB6.out,by rw[HPT0.out];exact HX7.out⟩
   case round=>
    rename World=>wq
    obtain⟨q,hq,rfl,hbq,h7q⟩:=hrel
    have HBQ:=Lib.hid hbq
    obtain⟨⟨jk,jv⟩,hj⟩:∃f,phTo y i P AL q=f:=⟨_,rfl⟩
    rw[hj] at h7q
    simp only at h7q
    have H7Q:=Lib.hid h7q
    have HJ:=Lib.hid hj
    by_cases hq0:q=pn
    ·have hq0' :=hq0.symm
     subst hq0'
     have hsk:=HSK.out
     rw[HPN.out,hj] at hsk
     have HSK2:=Lib.hid hsk
     have HSA:=Lib.hid (sayX_any b h y pd ⟨jk,jv⟩ wq (HS5.out.keeps hbq) (by rw[HN.out];exact hpdl))
     obtain⟨c1,c2,c3⟩:=KR0.out wq hbq
     have d0:=cell_block h7q 0
     have d1:=cell_block h7q 1
     have d2:=block_lt h7q
     clear hbq h7q hj hsk hq0
     go_wp2_with (go_at_call 83;go_must (refine HSA.out.mono ?_;rintro e we ⟨rfl,hse,hfe⟩;have HSE:=Lib.hid hse;have HFE:=Lib.hid (HF5.out.trans ((FrV.of_below HBQ.out).trans hfe));clear hse hfe))
     go_roundw
     case rel=>exact⟨k+1,by omega,by go_num,by rw[HSK2.out];exact HSE.out,HFE.out⟩
     case measure=>simp[intOf];omega
    ·have hq1:(q:Int)<pn:=by omega
     have hq2:(0:Int)≤q:=by omega
     obtain⟨z,hz⟩:∃z,P[q]? =some z:=⟨_,gE (by rw[HPN.out];omega)⟩
     obtain⟨gpa,rfl,zpa,cpa⟩:=HPQ.out q z hz
     have e1:wq.cell? ⟨gpa,q,none⟩=some (.int .i64 z):=(hbq.cell (p:=⟨gpa,_,none⟩) zpa).trans cpa
     have zpa2:=Nat.lt_of_lt_of_le zpa hbq.size
     have hzr:=HPV2.out.2 z (gM hz)
     have hzg:P.getD q 0=z:=by rw[gD,hz];rfl
     obtain⟨D,hD,hI,hS⟩:=HLK.out wq hbq
     have hkey:=keyE_of (a:=z) (b:=(i:Int)) ⟨by omega,by omega⟩ ⟨by omega,by omega⟩
     have hh:=hS z i ⟨by omega,by omega⟩ ⟨by omega,by omega⟩
     have HD:=Lib.hid hD
     have hps:=phTo_succ y i P AL q
     rw[hzg,hj] at hps
     obtain⟨y3,y6,zb6⟩:=KSO.out wq y (HS5.out.keeps hbq)
     have hz0:=zeroE
     obtain⟨ge,hge⟩:∃g,h.ge=g:=⟨_,rfl⟩
     rw[hge] at y6 HD
     obtain⟨wz,hw7⟩:∃W,wq.alloc (.cells #[] 135)=W:=⟨_,rfl⟩
     have hb7:Below wq.heap.size wq wz:=hw7▸(Below.refl _ _).alloc (Nat.le_refl _) _
     have HBZ:=Lib.hid (hbq.trans (hb7.mono hbq.size))
     have H7:Hid (wz.drew.heap[L6+1]? =some (.cells #[.int .i64 jk, .int .i64 jv] 58 (0,0))):=Lib.hid ((hb7.block _ (block_lt h7q)).trans h7q)
     cases hed:y.ed z i with
     |false=>
      rw[hed] at hh
      rw[if_neg (by rw[hed];simp)] at hps
      have HH:=Lib.hid hh
      have HPT:=Lib.hid hps
      clear hbq h7q hj hz zpa cpa hzr hzg hD hI hS hh hps hge hb7 hed y3 hq0
      go_wp2_with (at_lookup;go_must (refine wpList_lookup_own_unit _ rfl _ _ mapE rfl 63 135 lawE Tryd.underlying116 (hz0 _) ge _ D rfl HD.out _ _ rfl hkey ?_;rw[HH.out]))
      go_roundw
      case rel=>exact⟨q+1,by omega,by go_num,HBZ.out,by rw[HPT.out];exact H7.out⟩
      case measure=>simp[intOf];omega
     |true=>
      rw[hed] at hh
      rw[if_pos hed] at hps
      have HH:=Lib.hid hh
      obtain⟨ga,rfl,hga⟩:=KAR.out (by omega)
      obtain⟨av,hav⟩:∃a,AL[q]? =some a:=⟨_,gE (by rw[HALL.out];omega)⟩
      have havl:=HAG.out av (gM hav)
      have havg:AL.getD q 0=av:=by rw[gD,hav];rfl
      rw[havg] at hps
      have KR:=Lib.hid (fun(W:World) (hb:Below w5.heap.size w5 W)=>(⟨(KR0.out W hb).2.1,(hga W hb).2 q av hav⟩:W.cell? ⟨L6,2,none⟩=some (.slice (some ⟨ga,0,none⟩) pn ac)∧W.cell? ⟨ga,q,none⟩=some (.int .i64 av)))
      obtain⟨⟨ok,ov⟩,hof⟩:∃f,ofF y.F av=f:=⟨_,rfl⟩
      obtain⟨⟨nk,nv⟩,hnf⟩:∃f,joinF ⟨jk,jv⟩ ⟨ok,ov⟩=f:=⟨_,rfl⟩
      rw[hof,hnf] at hps
      have HPT:=Lib.hid hps
      have HOF:=Lib.hid (fun(W:World) (hb:Below w5.heap.size w5 W)=>(by
       have h1:=HOF0.out W hb av (by rw[HN.out];omega)
       rw[hof] at h1
       exact h1:Calls Tryd.prog 82 #[.pointer (some ⟨b,0,none⟩), .int .i64 av] W fun e w' =>e= .returned (.agg #[.int .i64 ok, .int .i64 ov])∧Below W.heap.size W w'))
      have HJO:=Lib.hid (fun(W:World)=>(by
       have h1:=join_any ⟨jk,jv⟩ ⟨ok,ov⟩ W
       rw[hnf] at h1
       exact h1:Calls Tryd.prog 81 #[.agg #[.int .i64 jk, .int .i64 jv], .agg #[.int .i64 ok, .int .i64 ov]] W fun e w' =>e= .returned (.agg #[.int .i64 nk, .int .i64 nv])∧Below W.heap.size W w'))
      have hq3:=hq1
      clear hbq h7q hj hz zpa cpa hzr hzg hD hI hS hh hps hge hb7 hed y3 hq0 hav havl havg hof hnf hga
      go_upto_region 10 with(at_lookup;go_must (refine wpList_lookup_own_unit _ rfl _ _ mapE rfl 63 135 lawE Tryd.underlying116 (hz0 _) ge _ D rfl HD.out _ _ rfl hkey ?_;rw[HH.out]))
      clear hw7 e1 zpa2 y6 zb6
      refine wp_region_held_drew (S:=fun W=>W.cell? ⟨L6,2,none⟩=some (.slice (some ⟨ga,0,none⟩) pn ac)∧W.cell? ⟨ga,q,none⟩=some (.int .i64 av)) (by kernel_rfl) (KR.out _ HBZ.out.drew) (fun hHeld=> ?_)
      refine wpAnyH_take (i:=1) (v:= .pointer (some ⟨b,0,none⟩)) rfl (by kernel_rfl) (by kernel_rfl) (by kernel_rfl) (fun _ _ _ h=>h) (Or.inl ⟨by rfl,?_⟩) hHeld ?_
      ·intro w hSw
       simp only[qg]
       go_simp
      simp only[Act.put,qs]
      refine wpAnyH_take (i:=2) (v:= .pointer (some ⟨L6,2,none⟩)) rfl (by kernel_rfl) (by kernel_rfl) (by kernel_rfl) (fun _ _ _ h=>h) (Or.inl ⟨by rfl,?_⟩) hHeld ?_
      ·intro w hSw
       simp only[qg]
       go_simp
      simp only[Act.put,qs]
      refine wpAnyH_take (i:=3) (v:= .slice (some ⟨ga,0,none⟩) pn ac) rfl (by kernel_rfl) (by kernel_rfl) (by kernel_rfl) (fun _ _ _ h=>h) (Or.inl ⟨by rfl,?_⟩) hHeld ?_
      ·intro w hSw
       obtain⟨p0,p1⟩:=hSw
       simp only[qg]
       go_simp
      simp only[Act.put,qs]
      refine wpAnyH_take (i:=4) (v:= .int .i64 (q:Int)) rfl (by kernel_rfl) (by kernel_rfl) (by kernel_rfl) (fun _ _ _ h=>h) (Or.inl ⟨by rfl,?_⟩) hHeld ?_
      ·intro w hSw
       simp only[qg]
       go_simp
      simp only[Act.put,qs]
      refine wpAnyH_take (i:=5) (v:= .pointer (some ⟨ga,q,none⟩)) rfl (by kernel_rfl) (by kernel_rfl) (by kernel_rfl) (fun _ _ _ h=>h) (Or.inl ⟨by rfl,?_⟩) hHeld ?_
      ·intro w hSw
       simp only[qg]
       go_simp
      simp only[Act.put,qs]
      refine wpAnyH_take (i:=6) (v:= .int .i64 av) rfl (by kernel_rfl) (by kernel_rfl) (by kernel_rfl) (fun _ _ _ h=>h) (Or.inl ⟨by rfl,?_⟩) hHeld ?_
      ·intro w hSw
       obtain⟨p0,p1⟩:=hSw
       simp only[qg]
       go_simp
      simp only[Act.put,qs]
      refine wpAnyH_ready (rs:=[0,7]) (by kernel_rfl) (by simp) ?_
      refine AllReadyH.cons rfl (fun K hK=> ?_) (AllReadyH.cons rfl (fun K hK=> ?_) (AllReadyH.nil))
      ·simp only[qg]
       have u0:=cell_block (H7.out) 0
       have u1:=cell_block (H7.out) 1
       have u2:=block_lt (H7.out)
       go_simp
       clear u0 u1 u2
       refine hK.out _ _ (KR.out _ HBZ.out.drew) (fun hHeld=> ?_)
       clear hK K
       refine wpAnyH_ready (rs:=[7]) (by kernel_rfl) (by simp) ?_
       refine AllReadyH.cons rfl (fun K hK=> ?_) AllReadyH.nil
       simp only[qg]
       go_simp
       refine(HOF.out _ HBZ.out.drew).mono ?_
       rintro e y1 ⟨rfl,hb⟩
       have b1:=(HBZ.out.drew).trans (hb.mono (HBZ.out.drew).size)
       have h1:=(hb.block _ (block_lt (H7.out))).trans (H7.out)
       refine hK.out _ _ (KR.out _ b1) (fun hHeld=> ?_)
       clear hK K hb
       refine wpAnyH_ready (rs:=[8]) (by kernel_rfl) (by simp) ?_
       refine AllReadyH.cons rfl (fun K hK=> ?_) AllReadyH.nil
       simp only[qg]
       go_simp
       refine(HJO.out _).mono ?_
       rintro e y2 ⟨rfl,hb⟩
       have b2:=(b1).trans (hb.mono (b1).size)
       have h2:=(hb.block _ (block_lt (h1))).trans (h1)
       refine hK.out _ _ (KR.out _ b2) (fun hHeld=> ?_)
       clear hK K hb
       refine wpAnyH_ready (rs:=[9]) (by kernel_rfl) (by simp) ?_
       refine AllReadyH.cons rfl (fun K hK=> ?_) AllReadyH.nil
       simp only[qg]
       rw[if_pos (by rfl)]
       refine wp_store_mid 58 _ _ (by rfl) (L6+1) 0 #[.int .i64 nk, .int .i64 nv] (by rfl) (by rfl) (there_block h2 (Nat.le_refl 2)) (by kernel_rfl) (by simp[Value.oneCell']) ?_
       have H7N:=Lib.hid (fact_put h2 nk nv)
       have HBN:=Lib.hid (below_setsC HL7.out [.int .i64 nk, .int .i64 nv] 0 b2)
       refine hK.out _ _ (KR.out _ HBN.out) (fun hHeld=> ?_)
       clear hK K
       clear hHeld
       refine wpAnyH_done (by kernel_rfl) ?_ _
       go_wp2_with fail
       go_roundw
       case rel=>exact⟨q+1,by omega,by go_num,HBN.out,by rw[HPT.out];exact H7N.out⟩
       case measure=>simp[intOf];omega
      ·simp only[qg]
       go_simp
       refine(HOF.out _ HBZ.out.drew).mono ?_
       rintro e y4 ⟨rfl,hb⟩
       have b4:=(HBZ.out.drew).trans (hb.mono (HBZ.out.drew).size)
       have h4:=(hb.block _ (block_lt (H7.out))).trans (H7.out)
       refine hK.out _ _ (KR.out _ b4) (fun hHeld=> ?_)
       clear hK K hb
       refine wpAnyH_ready (rs:=[0]) (by kernel_rfl) (by simp) ?_
       refine AllReadyH.cons rfl (fun K hK=> ?_) AllReadyH.nil
       simp only[qg]
       have u0:=cell_block (h4) 0
       have u1:=cell_block (h4) 1
       have u2:=block_lt (h4)
       go_simp
       clear u0 u1 u2
       refine hK.out _ _ (KR.out _ b4) (fun hHeld=> ?_)
       clear hK K
       refine wpAnyH_ready (rs:=[8]) (by kernel_rfl) (by simp) ?_
       refine AllReadyH.cons rfl (fun K hK=> ?_) AllReadyH.nil
       simp only[qg]
       go_simp
       refine(HJO.out _).mono ?_
       rintro e y5 ⟨rfl,hb⟩
       have b5:=(b4).trans (hb.mono (b4).size)
       have h5:=(hb.block _ (block_lt (h4))).trans (h4)
       refine hK.out _ _ (KR.out _ b5) (fun hHeld=> ?_)
       clear hK K hb
       refine wpAnyH_ready (rs:=[9]) (by kernel_rfl) (by simp) ?_
       refine AllReadyH.cons rfl (fun K hK=> ?_) AllReadyH.nil
       simp only[qg]
       rw[if_pos (by rfl)]
       refine wp_store_mid 58 _ _ (by rfl) (L6+1) 0 #[.int .i64 nk, .int .i64 nv] (by rfl) (by rfl) (there_block h5 (Nat.le_refl 2)) (by kernel_rfl) (by simp[Value.oneCell']) ?_
       have H7N:=Lib.hid (fact_put h5 nk nv)
       have HBN:=Lib.hid (below_setsC HL7.out [.int .i64 nk, .int .i64 nv] 0 b5)
       refine hK.out _ _ (KR.out _ HBN.out) (fun hHeld=> ?_)
       clear hK K
       clear hHeld
       refine wpAnyH_done (by kernel_rfl) ?_ _
       go_wp2_with fail
       go_roundw
       case rel=>exact⟨q+1,by omega,by go_num,HBN.out,by rw[HPT.out];exact H7N.out⟩
       case measure=>simp[intOf];omega
end Go.Proofs.YtappljijljjkiaaDoor
