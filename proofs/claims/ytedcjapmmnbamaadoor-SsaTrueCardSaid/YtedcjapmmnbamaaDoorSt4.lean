/-
  The contract of the engine's call.
-/
import Derived.Test.YtedcjapmmnbamaaDoorSt1
import Derived.Deep.RegionLaw
import Derived.BigRegion
import Derived.Deep.RegionHeld3
import Derived.Laws.CopyOwn
import Derived.Test.YtedcjapmmnbamaaDoorMkS
namespace Go.Proofs.YtedcjapmmnbamaaDoor
open Go.RowKit Tier
theorem EngAt.alloc{w0 w:World}{E:Nat}{pv FS ES AS:Value}{s:St}(h:EngAt w0 w E pv s FS ES AS)(o:Obj):EngAt w0 (w.alloc o) E pv s FS ES AS:=
 ⟨block_alloc h.blk o,⟨h.rows.fr.alloc o,h.rows.ev.alloc o,h.rows.an.keeps (fun _ _ hk=>block_alloc hk o),h.rows.ne⟩,h.base,h.below.alloc h.below.size o⟩
theorem EngAt.keeps{w0 w w' :World}{E:Nat}{pv FS ES AS:Value}{s:St}(h:EngAt w0 w E pv s FS ES AS)(hb:Below w.heap.size w w'):EngAt w0 w' E pv s FS ES AS:=
 ⟨below_block hb (block_lt h.blk) h.blk,h.rows.below hb,h.base,h.below.trans (hb.mono h.below.size)⟩
theorem frCell_14{f:Fr}(h:f.regs.length=12):∃u0 u1 u2 u3 u4 u5 u6 u7 u8 u9 u10 u11 u12 u13:Value,frCell f=[u0,u1,u2,u3,u4,u5,u6,u7,u8,u9,u10,u11,u12,u13]:=by
 have h14:=frCell_length h
 generalize frCell f=l at h14
 match l,h14 with
 |[u0,u1,u2,u3,u4,u5,u6,u7,u8,u9,u10,u11,u12,u13],_=>exact⟨u0,u1,u2,u3,u4,u5,u6,u7,u8,u9,u10,u11,u12,u13,rfl⟩
theorem eng_push{w0 w w2:World}{E:Nat}{pv FS ES AS:Value}{s:St}(h:EngAt w0 w E pv s FS ES AS)(hm:s.mem.length=16){g cap:Nat}{f:Fr}
 (hown:w2.ownsRow w0.heap.size 42 14 (.slice (some ⟨g,0,none⟩) (s.frames.length+1) cap) (s.frames.length+1) (frCells s.frames++frCell f)) (hg:w.grownBy w2 FS.ownBlock):
 w2.frozen? ⟨E,2,none⟩=false∧w2.cell? ⟨E,2,none⟩=some FS∧∀w3,w2.setCell ⟨E,2,none⟩ (.slice (some ⟨g,0,none⟩) (s.frames.length+1) cap)=w3→
  EngAt w0 w3 E pv {s with frames:=s.frames++[f]} (.slice (some ⟨g,0,none⟩) (s.frames.length+1) cap) ES AS:=by
 have hE:FS.ownBlock≠some E:=own_type h.rows.fr h.blk eng_ne60
 have keep:∀(k:Nat) (ob:Obj),w.heap[k]? =some ob→FS.ownBlock≠some k→w2.heap[k]? =some ob:=fun k ob hk hne=>
  (hg.block k (block_lt hk) (fun e=>hne e.symm)).trans hk
 have hblk:=keep E _ h.blk hE
 refine⟨frozen_block hblk 2,?_,?_⟩
 ·rw[cell_block hblk,←cell_block h.blk,h.cellC hm (by omega),stC_2]
 ·intro w3 hw3
  have hl:(s.frames++[f]).length=s.frames.length+1:=by simp
  have hiv:frCells (s.frames++[f])=frCells s.frames++frCell f:=by rw[frCells_append,frCells_one]
  have hev:w2.ownsRow w0.heap.size 3 1 ES s.events.length (intsV s.events):=by
   refine h.rows.ev.kept hg ?_
   rcases h.rows.ev.2 with⟨hf,-⟩|⟨g',c',cur,hf,-,hh,-⟩
   ·rw[hf];exact .inl rfl
   ·right
    intro e
    have e' :FS.ownBlock=some g' :=by rw[←e,hf];rfl
    exact own_type h.rows.fr hh (by decide) e'
  have han:NumAt w2 w0.heap.size AS s.answers:=by
   obtain⟨A,c,rfl,h2,h3⟩:=h.rows.an
   refine⟨A,c,rfl,h2,fun hl=> ?_⟩
   obtain⟨b,o',cur,rfl,h5,h6,h7⟩:=h3 hl
   exact⟨b,o',cur,rfl,h5,keep b _ h6 (own_type h.rows.fr h6 (by decide)),h7⟩
  have hrows:StRows w2 w0.heap.size {s with frames:=s.frames++[f]} (.slice (some ⟨g,0,none⟩) (s.frames.length+1) cap) ES AS:=
   ⟨by simpa only[hl,hiv] using hown,hev,han,h.rows.ne⟩
  have hbel:Below w0.heap.size w0 w2:=h.below.grown hg h.below.size (fun k hk=>(h.rows.fr.lt k hk).1)
  subst hw3
  refine⟨block_put hblk ?_,hrows.set hblk eng_ne60 eng_ne3 2 _,h.base,hbel.setCell h.base _⟩
  rw[List.set_append_left _ _ (by rw[stCells_length hm];omega),stS_2];rfl
set_option maxRecDepth 100000 in
set_option maxHeartbeats 4000000 in
theorem call_deep{w0 w:World}{E:Nat}{pv FS ES AS:Value}{s:St}(h:EngAt w0 w E pv s FS ES AS)(hm:s.mem.length=16)(hl:s.frames.length=8)(op dst xa xb imm a b:Int):
 Calls Tryd.prog 80 #[.pointer (some ⟨E,0,none⟩), .agg #[.int .i64 op, .int .i64 dst, .int .i64 xa, .int .i64 xb, .int .i64 imm], .int .i64 a, .int .i64 b] w fun e w' =>e= .returned (.tuple #[])∧EngAt w0 w' E pv {s with status:=5} FS ES AS:=by
 obtain⟨A,cap,rfl,-⟩:=own_slice h.rows.fr
 have q2:=h.cellC hm (i:=2) (by omega)
 rw[stC_2,hl] at q2
 have hlt:=h.lt
 have HM:=Lib.hid hm
 have HH:=Lib.hid h
 clear h hm
 go_enter Tryd.func80,Tryd.ntmps80
 go_wp2_with (go_at_call 78;go_must (refine(halt_any (HH.out.alloc _) HM.out 5).mono ?_;rintro e w2 ⟨rfl,h2⟩))
 exact bodyPost_ret (v:= .tuple #[]) (by simp[results,Tryd.results80,go_sem]) rfl ⟨rfl,h2⟩
set_option maxRecDepth 100000 in
set_option maxHeartbeats 4000000 in
theorem call_push{p:List Fnc}{w0 w:World}{E:Nat}{pv FS ES AS:Value}{s:St}(h:EngAt w0 w E pv s FS ES AS)(hP:ProgAt w0 pv p)(hm:s.mem.length=16)(hl:s.frames.length<8)(op dst xa xb imm a b:Int){F:Fnc}(hi0:0≤imm)(hF:p[imm.toNat]? =some F)(hF0:0≤F.params)(hF2:F.params≤2):
 Calls Tryd.prog 80 #[.pointer (some ⟨E,0,none⟩), .agg #[.int .i64 op, .int .i64 dst, .int .i64 xa, .int .i64 xb, .int .i64 imm], .int .i64 a, .int .i64 b] w fun e w' =>e= .returned (.tuple #[])∧∃FS',EngAt w0 w' E pv {s with frames:=s.frames++[newFr imm F.params a b]} FS' ES AS:=by
 obtain⟨i0,hi,hz0,hz1,hz2⟩:=info_parts infoFr
 obtain⟨A,cap,rfl,-⟩:=own_slice h.rows.fr
 obtain⟨pA,PC,rfl,hpA⟩:=hP.slice
 have hil:imm.toNat<p.length:=(gI.1 hF).1
 obtain⟨pg,rfl,hpg,hfn⟩:=hpA (by omega)
 obtain⟨x,-,d0,-,-⟩:=hfn _ _ hF
 have q2:=h.cellC hm (i:=2) (by omega)
 rw[stC_2] at q2
 have q22:=h.cellP hm
 have D0:=(h.below.cell (p:=⟨pg,imm.toNat*3,none⟩) hpg).trans d0
 have hlt:=h.lt
 have hpl:pg<w.heap.size:=Nat.lt_of_lt_of_le hpg h.below.size
 obtain⟨n,hn⟩:∃n,s.frames.length=n:=⟨_,rfl⟩
 have hne:((n:Int)==8)=false:=by simp;omega
 rw[hn] at q2
 have HM:=Lib.hid hm
 have HH:=Lib.hid h
 have HN:=Lib.hid hn
 obtain⟨N,hNN⟩:∃N,p.length=N:=⟨_,rfl⟩
 rw[hNN] at q22 hil
 have hil' :imm<(N:Int):=by omega
 clear h hm hfn d0 hpA
 obtain⟨m,hmm⟩:∃m:Nat,F.params=m:=⟨F.params.toNat,by omega⟩
 have hm2:m≤2:=by omega
 rw[hmm] at D0⊢
 have hm3:(m:Int)≤2:=by omega
 have hm4:(0:Int)≤m:=by omega
 clear hF hF0 hF2
 have HCS:Hid (((argsOf m a b).map (Value.int .i64)).length=m):=Lib.hid (by
  have hc:m=0∨m=1∨m=2:=by omega
  rcases hc with rfl|rfl|rfl<;>rfl)
 have HMN:Hid (Nat.min m 12=m):=Lib.hid (Nat.min_eq_left (by omega))
 have HSZ:Hid ((Tryd.prog.info? 3).map (·.size)=some 1):=Lib.hid (by kernel_rfl)
 go_enter Tryd.func80,Tryd.ntmps80
 go_wp2_with fail
 have H1:=Lib.hid ((HH.out.alloc (.cells #[.int .i64 op, .int .i64 dst, .int .i64 xa, .int .i64 xb, .int .i64 imm] 58)).alloc (.cells (frCell (newFr imm 0 a b)).toArray 42))
 have HBL:=Lib.hid (((Below.refl w.heap.size w).alloc (Nat.le_refl _) (.cells #[.int .i64 op, .int .i64 dst, .int .i64 xa, .int .i64 xb, .int .i64 imm] 58)).alloc (by simp) (.cells (frCell (newFr imm 0 a b)).toArray 42))
 have HB0:=Lib.hid (block_alloc (heap_alloc_new w (.cells #[.int .i64 op, .int .i64 dst, .int .i64 xa, .int .i64 xb, .int .i64 imm] 58)) (.cells (frCell (newFr imm 0 a b)).toArray 42))
 have HB1:=Lib.hid (heap_alloc_new1 w (.cells #[.int .i64 op, .int .i64 dst, .int .i64 xa, .int .i64 xb, .int .i64 imm] 58) (.cells (frCell (newFr imm 0 a b)).toArray 42))
 have hsz1:((w.alloc (.cells #[.int .i64 op, .int .i64 dst, .int .i64 xa, .int .i64 xb, .int .i64 imm] 58)).alloc (.cells (frCell (newFr imm 0 a b)).toArray 42)).heap.size=w.heap.size+2:=by simp
 obtain⟨w1,hw1⟩:∃w1,(w.alloc (.cells #[.int .i64 op, .int .i64 dst, .int .i64 xa, .int .i64 xb, .int .i64 imm] 58)).alloc (.cells (frCell (newFr imm 0 a b)).toArray 42)=w1:=⟨_,rfl⟩
 rw[hw1] at H1 HBL HB0 HB1 hsz1
 have hw1' :=hw1
 simp only[frCell,newFr,argsOf,List.replicate,List.map,Int.reduceEq,if_true,List.length_nil,Nat.sub_zero,List.nil_append,List.cons_append] at hw1'
 rw[hw1']
 clear hw1 hw1' q2 q22
 have e22:=H1.out.cellP HM.out
 rw[hNN] at e22
 have e4:w1.cell? ⟨w.heap.size,4,none⟩=some (.int .i64 imm):=(cell_block HB0.out 4).trans rfl
 have D0' :=(HBL.out.cell (p:=⟨pg,imm.toNat*3,none⟩) hpl).trans D0
 have z1:E<w.heap.size+1:=by omega
 have z2:pg<w.heap.size+1:=by omega
 clear D0
 have hcsd:argsOf m a b=argsOf m a b:=rfl
 obtain⟨cs,hcs⟩:∃cs,(argsOf m a b).map (Value.int .i64)=cs:=⟨_,rfl⟩
 rw[hcs] at HCS
 have HNC:Hid (∀(W:World),W.heap[w.heap.size+2]? =some (.cells #[.int .i64 a, .int .i64 b] 3 (0,0))→∀j v,cs[j]? =some v→W.cell? ((⟨w.heap.size+2,0,none⟩:Addr).add j)=some v):=Lib.hid (fun W hW j v hj=>by
  rw[Addr.add_lit,cell_block hW,Nat.zero_add]
  rw[←hcs] at hj
  have hc:m=0∨m=1∨m=2:=by omega
  rcases hc with rfl|rfl|rfl
  ·simp[argsOf] at hj
  ·cases j with
   |zero=>simpa [argsOf] using hj
   |succ j=>simp[argsOf] at hj
  ·cases j with
   |zero=>simpa [argsOf] using hj
   |succ j=>cases j with
    |zero=>simpa [argsOf] using hj
    |succ j=>simp[argsOf] at hj)
 have HOC:Hid (∀v∈cs,v.oneCell' =true):=Lib.hid (fun v hv=>by rw[←hcs] at hv;obtain⟨x,-,rfl⟩:=List.mem_map.1 hv;rfl)
 have HFC:Hid (splice (frCell (newFr imm 0 a b)) 2 cs=frCell (newFr imm m a b)):=Lib.hid (by
  rw[←hcs]
  have hc:m=0∨m=1∨m=2:=by omega
  rcases hc with rfl|rfl|rfl<;>rfl)
 clear hcs hcsd
 have hFL:(frCell (newFr imm 0 a b)).length=14:=rfl
 generalize hFr:frCell (newFr imm 0 a b)=Z at *
 clear hFr
 go_region_held3 (fun w' =>w'.cell? ⟨E,22,none⟩=some (.slice (some ⟨pg,0,none⟩) N PC)∧w'.cell? ⟨w.heap.size,4,none⟩=some (.int .i64 imm)∧w'.cell? ⟨pg,imm.toNat*3,none⟩=some (.int .i64 m)) (first|exact⟨y1,y2,y3⟩|exact⟨e22,e4,D0'⟩|exact⟨(Below.cell (B:=w.heap.size+1) ((Below.refl _ w1).alloc (by omega) _) (p:=⟨E,22,none⟩) z1).trans e22,(Below.cell (B:=w.heap.size+1) ((Below.refl _ w1).alloc (by omega) _) (p:=⟨w.heap.size,4,none⟩) (by simp)).trans e4,(Below.cell (B:=w.heap.size+1) ((Below.refl _ w1).alloc (by omega) _) (p:=⟨pg,imm.toNat*3,none⟩) z2).trans D0'⟩)
  (first|(refine step_copy_splice rfl (.tmp 22) (.tmp 36) 24 24 rfl 3 Tryd.underlying24 HSZ.out (some ⟨w.heap.size+1,2,none⟩) (some ⟨w.heap.size+2,0,none⟩) 12 12 m 2 rfl rfl (w.heap.size+1) 2 Z 42 (by exact(Below.heap_alloc w1 _ _ (by rw[hsz1];omega)).trans HB1.out) cs (by rw[HCS.out];exact HMN.out.symm) (fun _=>⟨rfl,_,rfl,HNC.out _ (by rw[←hsz1];exact heap_alloc_new _ _)⟩) (by rw[HCS.out];omega) HOC.out (w.heap.size+1) w1 (by have hb:=Below.refl (w.heap.size+1) w1;exact Bq) (Nat.le_refl _) ?_;intro w4 hg4 hb4;have y1:=(hb4.cell (p:=⟨E,22,none⟩) z1).trans e22;have y2:=(hb4.cell (p:=⟨w.heap.size,4,none⟩) (by simp)).trans e4;have y3:=(hb4.cell (p:=⟨pg,imm.toNat*3,none⟩) z2).trans D0'))
 rename_i hHeld
 clear hHeld y1 y2 y3 e22 e4 D0'
 rw[HFC.out] at hg4
 have HX4:Hid (EngAt w0 w4 E (.slice (some ⟨pg,0,none⟩) p.length PC) s (.slice A n cap) ES AS):=Lib.hid (by have:=HH.out.keeps (HBL.out.trans (hb4.mono (by omega)));rw[hn] at this;exact this)
 have hsz4:=hb4.size
 have hnl:(newFr imm m a b).regs.length=12:=by
  have hc:m=0∨m=1∨m=2:=by omega
  rcases hc with rfl|rfl|rfl<;>rfl
 obtain⟨u0,u1,u2,u3,u4,u5,u6,u7,u8,u9,u10,u11,u12,u13,hu⟩:=frCell_14 hnl
 have HU:=Lib.hid hu
 have HON:Hid (∀u∈[u0,u1,u2,u3,u4,u5,u6,u7,u8,u9,u10,u11,u12,u13],u.oneCell' =true):=Lib.hid (by rw[←hu,←frCells_one];exact frCells_cell)
 have hg5:=hg4.out
 rw[hu] at hg5
 have k0:=(cell_block hg5 0).trans rfl
 have k1:=(cell_block hg5 1).trans rfl
 have k2:=(cell_block hg5 2).trans rfl
 have k3:=(cell_block hg5 3).trans rfl
 have k4:=(cell_block hg5 4).trans rfl
 have k5:=(cell_block hg5 5).trans rfl
 have k6:=(cell_block hg5 6).trans rfl
 have k7:=(cell_block hg5 7).trans rfl
 have k8:=(cell_block hg5 8).trans rfl
 have k9:=(cell_block hg5 9).trans rfl
 have k10:=(cell_block hg5 10).trans rfl
 have k11:=(cell_block hg5 11).trans rfl
 have k12:=(cell_block hg5 12).trans rfl
 have k13:=(cell_block hg5 13).trans rfl
 have q2:=(HX4.out.cellC HM.out (i:=2) (by omega)).trans (stC_2 _ _ _ _)
 have hlt4:=HX4.out.lt
 have hlt4' :w.heap.size+1<w4.heap.size:=by omega
 clear hg5 hg4 hb4 hu H1 HBL HB0 HB1 HNC HOC HFC HCS HMN HSZ hFL hsz1 z2 hil hil' hne HH hP
 go_wp2_with fail
 go_region_law (refine step_append_lies _ rfl (.tmp 43) (.tmp 45) 33 rfl w0.heap.size 42 i0 _ 14 112 Tryd.underlying33 hi hz0 hz1 hz2 rfl (by decide) (.slice A n cap) n (frCells s.frames) rfl (by have:=HX4.out.rows.fr;rw[hn] at this;exact this.alloc _) ⟨w4.heap.size,0,none⟩ 1 1 [u0,u1,u2,u3,u4,u5,u6,u7,u8,u9,u10,u11,u12,u13] rfl rfl (World.news_of_block (cs:= #[u0,u1,u2,u3,u4,u5,u6,u7,u8,u9,u10,u11,u12,u13]) (t:=42) (fr:=(0,0)) (heap_alloc_new _ _)) HON.out (by decide) (by unfold maxLen;omega) (by omega) (by have:=HX4.out.below.size;simp;omega) _ rfl ?_;intro g cap5 w5 hown hgr _ _;obtain⟨f5,c5,hst5⟩:=eng_push (cap:=cap5) (g:=g) (f:=newFr imm m a b) (HX4.out.drew.alloc (.cells #[u0,u1,u2,u3,u4,u5,u6,u7,u8,u9,u10,u11,u12,u13] 42)) HM.out (by rw[HU.out,hn];exact hown) hgr;have HST5:=Lib.hid hst5;clear hst5 hown hgr)
 all_goals go_wp2_with fail
 all_goals (
  have h6:=HST5.out _ rfl
  rw[hn] at h6
  exact bodyPost_end (v:= .tuple #[]) (by simp[results,Tryd.results80,go_sem]) rfl ⟨rfl,_,h6⟩)
section
variable {p:List Fnc}{w0 w:World}{E:Nat}{pv FS ES AS:Value}{s:St}
structure Nx(p:List Fnc)(w0 w:World)(E:Nat)(pv:Value)(s:St)(FS ES AS:Value)(fs:List Fr)(f:Fr)(k g cap pg N PC cg M ccap:Nat):Prop where
 eng:EngAt w0 w E pv s FS ES AS
 hk:fs.length=k
 fs0:FS= .slice (some ⟨g,0,none⟩) (k+1) cap
 cap1:k+1≤cap
 gE:g≠E
 e19:w.cell? ⟨E,19,none⟩=some (.int .i64 s.fuel)
 e2:w.cell? ⟨E,2,none⟩=some (.slice (some ⟨g,0,none⟩) (k+1) cap)
 e22:w.cell? ⟨E,22,none⟩=some (.slice (some ⟨pg,0,none⟩) N PC)
 g0:w.cell? ⟨g,k*14,none⟩=some (.int .i64 f.fn)
 g1:w.cell? ⟨g,k*14+1,none⟩=some (.int .i64 f.pc)
 ga:w.cell? ⟨g,k*14+2+(insOf p f).a.toNat,none⟩=some (.int .i64 (f.reg (insOf p f).a))
 gb:w.cell? ⟨g,k*14+2+(insOf p f).b.toNat,none⟩=some (.int .i64 (f.reg (insOf p f).b))
 d2:w.cell? ⟨pg,f.fn.toNat*3+2,none⟩=some (.slice (some ⟨cg,0,none⟩) M ccap)
 c0:w.cell? ⟨cg,f.pc.toNat*5,none⟩=some (.int .i64 (insOf p f).op)
 c1:w.cell? ⟨cg,f.pc.toNat*5+1,none⟩=some (.int .i64 (insOf p f).dst)
 c2:w.cell? ⟨cg,f.pc.toNat*5+2,none⟩=some (.int .i64 (insOf p f).a)
 c3:w.cell? ⟨cg,f.pc.toNat*5+3,none⟩=some (.int .i64 (insOf p f).b)
 c4:w.cell? ⟨cg,f.pc.toNat*5+4,none⟩=some (.int .i64 (insOf p f).imm)
 fn0:0≤f.fn
 fn1:f.fn<(N:Int)
 pc0:0≤f.pc
 pc1:f.pc<(M:Int)
 M40:M≤40
 dst0:0≤(insOf p f).dst
 dst1:(insOf p f).dst<12
 a0:0≤(insOf p f).a
 a1:(insOf p f).a<12
 b0:0≤(insOf p f).b
 b1:(insOf p f).b<12
 k8:k<8
 lE:E<w.heap.size
 lg:g<w.heap.size
 lp:pg<w.heap.size
 lc:cg<w.heap.size
theorem Nx.drewN{fs:List Fr}{f:Fr}{k g cap pg N PC cg M ccap:Nat}(X:Nx p w0 w E pv s FS ES AS fs f k g cap pg N PC cg M ccap)(n:Nat):Nx p w0 (w.drewN n) E pv s FS ES AS fs f k g cap pg N PC cg M ccap:={X with eng:=X.eng.drewN n}
theorem Nx.drew{fs:List Fr}{f:Fr}{k g cap pg N PC cg M ccap:Nat}(X:Nx p w0 w E pv s FS ES AS fs f k g cap pg N PC cg M ccap):Nx p w0 w.drew E pv s FS ES AS fs f k g cap pg N PC cg M ccap:={X with eng:=X.eng.drew}
theorem nx_of(hp:Right p)(h:EngAt w0 w E pv s FS ES AS)(hP:ProgAt w0 pv p)(hi:StInv p s){fs:List Fr}{f:Fr}(hf:s.frames=fs++[f]):
 ∃k g cap pg N PC cg M ccap,Nx p w0 w E pv s FS ES AS fs f k g cap pg N PC cg M ccap:=by
 have hm:=hi.mem
 have hr:∀x∈s.frames,x.regs.length=12:=fun x hx=>(hi.fr x hx).regs
 have hfo:FrOk p f:=hi.fr f (by rw[hf];simp)
 obtain⟨g,cap,hFS,hcap,hgE,hgl,-,-,hcell,-⟩:=h.frames (k:=fs.length) (by rw[hf];simp) hr
 obtain⟨pg,PC,CA,ccap,cg,M,hpv,hpg,hfn1,-,d2,hCA,hcg,hM,hpc1,d40,d41,d42,d43,d44⟩:=ins_at hP hfo
 have hO:=hp.ins hfo
 have hF:=hp.fnok hfo
 have hd:=hi.deep
 rw[hf] at hd
 simp only[List.length_append,List.length_cons,List.length_nil] at hd
 have hif:s.frames[fs.length]? =some f:=by rw[hf];simp
 have r2:=hF.r2
 have a2:=hO.a2
 have b2:=hO.b2
 have dd2:=hO.dst2
 have hfl:=hfo.regs
 have ga:=hcell _ f (2+(insOf p f).a.toNat) hif (by have:=hO.a1;omega)
 rw[frCell_reg hfl hO.a1 (by omega),←Nat.add_assoc] at ga
 have gb:=hcell _ f (2+(insOf p f).b.toNat) hif (by have:=hO.b1;omega)
 rw[frCell_reg hfl hO.b1 (by omega),←Nat.add_assoc] at gb
 have g0:=hcell _ f 0 hif (by omega)
 rw[Nat.add_zero] at g0
 have hsz:=h.below.size
 refine⟨fs.length,g,cap,pg,p.length,PC,cg,M,ccap,h,rfl,hFS,hcap,hgE,(h.cellC hm (by omega)).trans (stC_19 _ _ _ hm),?_,?_,g0,hcell _ f 1 hif (by omega),ga,gb,?_,?_,?_,?_,?_,?_,hfo.fn0,hfn1,hfo.pc0,hpc1,?_,hO.dst1,by omega,hO.a1,by omega,hO.b1,by omega,by omega,h.lt,hgl,by omega,by omega⟩
 ·rw[h.cellC hm (by omega),stC_2,hFS]
 ·rw[h.cellP hm,hpv]
 ·exact(h.below.cell (p:=⟨pg,_,none⟩) hpg).trans (by rw[d2,hCA])
 ·exact(h.below.cell (p:=⟨cg,_,none⟩) hcg).trans d40
 ·exact(h.below.cell (p:=⟨cg,_,none⟩) hcg).trans d41
 ·exact(h.below.cell (p:=⟨cg,_,none⟩) hcg).trans d42
 ·exact(h.below.cell (p:=⟨cg,_,none⟩) hcg).trans d43
 ·exact(h.below.cell (p:=⟨cg,_,none⟩) hcg).trans d44
 ·have:=hF.c2;omega
end
structure Top(w0 w:World)(E:Nat)(pv:Value)(s:St)(ES AS:Value)(fs:List Fr)(f:Fr)(k g cap I:Nat)(x:Ins):Prop where
 eng:EngAt w0 w E pv s (.slice (some ⟨g,0,none⟩) (k+1) cap) ES AS
 hf:s.frames=fs++[f]
 hk:fs.length=k
 hr:∀y∈s.frames,y.regs.length=12
 hm:s.mem.length=16
 ins:w.heap[I]? =some (.cells #[.int .i64 x.op, .int .i64 x.dst, .int .i64 x.a, .int .i64 x.b, .int .i64 x.imm] 58 (0,0))
section
variable {w0 w:World}{E:Nat}{pv ES AS:Value}{s:St}{fs:List Fr}{f:Fr}{k g cap I:Nat}{x:Ins}
theorem Top.hfr(h:Top w0 w E pv s ES AS fs f k g cap I x):f.regs.length=12:=h.hr f (by rw[h.hf];simp)
theorem Top.cell(h:Top w0 w E pv s ES AS fs f k g cap I x){j:Nat}(hj:j<14):w.cell? ⟨g,k*14+j,none⟩=(frCell f)[j]? :=
 h.eng.fcell h.hr (by rw[h.hf,←h.hk];simp) hj
theorem Top.c1(h:Top w0 w E pv s ES AS fs f k g cap I x):w.cell? ⟨g,k*14+1,none⟩=some (.int .i64 f.pc):=h.cell (by omega)
theorem Top.cR(h:Top w0 w E pv s ES AS fs f k g cap I x){r:Int}(h0:0≤r)(h1:r<12):w.cell? ⟨g,k*14+2+r.toNat,none⟩=some (.int .i64 (f.reg r)):=by
 rw[Nat.add_assoc,h.cell (by omega),frCell_reg h.hfr h0 h1]
theorem Top.frz(h:Top w0 w E pv s ES AS fs f k g cap I x)(j:Nat):w.frozen? ⟨g,j,none⟩=false:=h.eng.ffrozen h.hr (by rw[h.hf];simp) j
theorem Top.e19(h:Top w0 w E pv s ES AS fs f k g cap I x):w.cell? ⟨E,19,none⟩=some (.int .i64 s.fuel):=(h.eng.cellC h.hm (by omega)).trans (stC_19 _ _ _ h.hm)
theorem Top.iC(h:Top w0 w E pv s ES AS fs f k g cap I x)(i:Nat):w.cell? ⟨I,i,none⟩= #[Value.int .i64 x.op, .int .i64 x.dst, .int .i64 x.a, .int .i64 x.b, .int .i64 x.imm][i]? :=cell_block h.ins i
theorem Top.gb(h:Top w0 w E pv s ES AS fs f k g cap I x):∃c,w.heap[g]? =some (.cells c 42 (0,0)):=by
 rcases h.eng.rows.fr.2 with⟨h',-⟩|⟨g',c',cur,h',-,hh,-⟩
 ·cases h'
 ·simp only[Value.slice.injEq,Option.some.injEq,Addr.mk.injEq,and_true] at h'
  obtain⟨rfl,-,-⟩:=h'
  exact⟨_,hh⟩
theorem types_ne{b c:Nat}{u v:Array Value}{t1 t2:TypeId}{fz fz' :Nat×Nat}(h1:w.heap[b]? =some (.cells u t1 fz))(h2:w.heap[c]? =some (.cells v t2 fz'))(ht:t1≠t2):b≠c:=fun e=>by
 subst e
 rw[h1] at h2
 simp only[Option.some.injEq,Obj.cells.injEq] at h2
 exact ht h2.2.1
theorem Top.frame(h:Top w0 w E pv s ES AS fs f k g cap I x){j:Nat}{v:Value}{f' :Fr}(hj:j<14)(he:(frCell f).set j v=frCell f')(hl:f'.regs.length=f.regs.length):Top w0 (w.setCell ⟨g,k*14+j,none⟩ v) E pv {s with frames:=fs++[f']} ES AS fs f' k g cap I x:=by
 obtain⟨c,hg⟩:=h.gb
 have h1:=(show EngAt w0 w E pv s (.slice (some ⟨g,0,none⟩) s.frames.length cap) ES AS by have:=h.eng;rw[h.hf];simpa [h.hk] using this).frame (fs:=fs) (gs:=[]) (f:=f) (f' :=f') h.hf h.hr hj he
 have hlen:s.frames.length=k+1:=by rw[h.hf];simp[h.hk]
 rw[hlen,h.hk] at h1
 refine⟨h1,rfl,h.hk,fun y hy=> ?_,h.hm,block_set_ne h.ins (types_ne hg h.ins (by decide)) _ _⟩
 rcases List.mem_append.1 (show y∈fs++[f'] from hy) with h2|h2
 ·exact h.hr y (by rw[h.hf];simp[h2])
 ·rw[List.mem_singleton.1 h2,hl];exact h.hfr
theorem Top.put(h:Top w0 w E pv s ES AS fs f k g cap I x){r:Int}(h0:0≤r)(h1:r<12)(n:Int):Top w0 (w.setCell ⟨g,k*14+2+r.toNat,none⟩ (.int .i64 n)) E pv {s with frames:=fs++[f.put r n]} ES AS fs (f.put r n) k g cap I x:=by
 rw[Nat.add_assoc]
 exact h.frame (by omega) (frCell_put f r n) (put_len f r n)
theorem Top.pc(h:Top w0 w E pv s ES AS fs f k g cap I x)(n:Int):Top w0 (w.setCell ⟨g,k*14+1,none⟩ (.int .i64 n)) E pv {s with frames:=fs++[f.at n]} ES AS fs (f.at n) k g cap I x:=
 h.frame (by omega) (frCell_pc f n) rfl
theorem Top.fuel(h:Top w0 w E pv s ES AS fs f k g cap I x)(n:Int):Top w0 (w.setCell ⟨E,19,none⟩ (.int .i64 n)) E pv {s with fuel:=n} ES AS fs f k g cap I x:=
 ⟨h.eng.set' h.hm (by omega) (stS_19 _ _ _ h.hm n) rfl rfl rfl,h.hf,h.hk,h.hr,h.hm,block_set_ne h.ins (types_ne h.eng.blk h.ins (by decide)) _ _⟩
theorem Top.memo(h:Top w0 w E pv s ES AS fs f k g cap I x){i:Nat}(hi:i<16)(n:Int):Top w0 (w.setCell ⟨E,3+i,none⟩ (.int .i64 n)) E pv {s with mem:=s.mem.set i n} ES AS fs f k g cap I x:=
 ⟨h.eng.set' h.hm (by omega) (stS_mem _ _ _ h.hm hi n) rfl rfl rfl,h.hf,h.hk,h.hr,by simp[h.hm],block_set_ne h.ins (types_ne h.eng.blk h.ins (by decide)) _ _⟩
theorem Top.drewN(h:Top w0 w E pv s ES AS fs f k g cap I x)(n:Nat):Top w0 (w.drewN n) E pv s ES AS fs f k g cap I x:={h with eng:=h.eng.drewN n}
theorem Top.drew(h:Top w0 w E pv s ES AS fs f k g cap I x):Top w0 w.drew E pv s ES AS fs f k g cap I x:={h with eng:=h.eng.drew}
end
set_option maxRecDepth 100000 in
set_option maxHeartbeats 8000000 in
theorem next_pure{p:List Fnc}(hp:Right p){w0 w:World}{E:Nat}{pv FS ES AS:Value}{s:St}(h:EngAt w0 w E pv s FS ES AS)(hP:ProgAt w0 pv p)(hi:StInv p s)(hfu:s.fuel≠0){fs:List Fr}{f:Fr}(hf:s.frames=fs++[f])(h1:mkOk (insOf p f).op (f.reg (insOf p f).b)=true):
 Calls Tryd.prog 48 #[.pointer (some ⟨E,0,none⟩)] w fun e w' =>e= .returned (.tuple #[])∧∃FS' ES' AS',EngAt w0 w' E pv (execSt p s fs f) FS' ES' AS' :=by
 obtain⟨k,g,cap,pg,N,PC,cg,M,ccap,X⟩:=nx_of hp h hP hi hf
 have HX:=Lib.hid X
 have HM:=Lib.hid hi.mem
 have HR:Hid (∀x∈s.frames,x.regs.length=12):=Lib.hid (fun x hx=>(hi.fr x hx).regs)
 have hfs:=X.fs0
 subst hfs
 have hfu' :(s.fuel==0)=false:=by simpa using hfu
 have hk1:IntKind.i64.wrap (k:Int)=k:=by have:=X.k8;rw[IntKind.wrap_i64];omega
 have hk2:(k:Int)<k+1:=by omega
 have hk3:(0:Int)≤k:=by omega
 have e19:=X.e19
 have e2:=X.e2
 have e22:=X.e22
 have g0:=X.g0
 have g1:=X.g1
 have ga:=X.ga
 have gb:=X.gb
 have d2:=X.d2
 have c0:=X.c0
 have c1:=X.c1
 have c2:=X.c2
 have c3:=X.c3
 have c4:=X.c4
 have fn0:=X.fn0
 have fn1:=X.fn1
 have pc0:=X.pc0
 have pc1:=X.pc1
 have M40:=X.M40
 have dst0:=X.dst0
 have dst1:=X.dst1
 have a0:=X.a0
 have a1:=X.a1
 have b0:=X.b0
 have b1:=X.b1
 have lE:=X.lE
 have lg:=X.lg
 have lp:=X.lp
 have lc:=X.lc
 have hpw:IntKind.i64.wrap (f.pc+1)=f.pc+1:=by rw[IntKind.wrap_i64];omega
 have hfw:IntKind.i64.wrap (s.fuel-1)=s.fuel-1:=by have:=hi.fuel0;have:=hi.fuel1;rw[IntKind.wrap_i64];omega
 have fn2:f.fn.toNat<N:=by omega
 have pc2:f.pc.toNat<M:=by omega
 have HEX:=Lib.hid (show execSt p s fs f=topSt s fs ((f.put (insOf p f).dst (mk (insOf p f).op (f.reg (insOf p f).a) (f.reg (insOf p f).b) (insOf p f).imm)).at (f.pc+1)) from by unfold execSt;rw[if_pos h1])
 clear X h
 obtain⟨x,hx⟩:∃x,insOf p f=x:=⟨_,rfl⟩
 rw[hx] at ga gb c0 c1 c2 c3 c4 dst0 dst1 a0 a1 b0 b1 h1
 rw[hx] at HEX
 have HXX:=Lib.hid hx
 clear hx
 obtain⟨op,dst,xa,xb,imm⟩:=x
 dsimp only at *
 go_enter Tryd.func48,Tryd.ntmps48
 go_wp2_with fail
 go_quiet (fail)
 obtain⟨w1,hw1⟩:∃w1,w.drewN nq=w1:=⟨_,rfl⟩
 rw[hw1]
 have X1:=HX.out.drewN nq
 rw[hw1] at X1
 clear hw1 HX e19 e2 e22 g0 g1 ga gb d2 c0 c1 c2 c3 c4 lE lg lp lc
 have e19:=X1.e19
 have e2:=X1.e2
 have e22:=X1.e22
 have g0:=X1.g0
 have g1:=X1.g1
 have ga:=X1.ga
 have gb:=X1.gb
 have d2:=X1.d2
 have c0:=X1.c0
 have c1:=X1.c1
 have c2:=X1.c2
 have c3:=X1.c3
 have c4:=X1.c4
 rw[HXX.out] at ga gb c0 c1 c2 c3 c4
 have lE:=X1.lE
 have lg:=X1.lg
 have lp:=X1.lp
 have lc:=X1.lc
 have HT2:Hid (∀w2,(w1.alloc (.cells #[.int .i64 (insOf p f).op, .int .i64 (insOf p f).dst, .int .i64 (insOf p f).a, .int .i64 (insOf p f).b, .int .i64 (insOf p f).imm] 58)).drew=w2→Top w0 w2 E pv s ES AS fs f k g cap w1.heap.size (insOf p f)):=Lib.hid (fun w2 h=>by
  rw[←h]
  exact⟨(X1.eng.alloc _).drew,hf,X1.hk,HR.out,HM.out,heap_alloc_new w1 _⟩)
 rw[HXX.out] at HT2
 clear X1
 dsimp only at ga gb c0 c1 c2 c3 c4
 go_wp2_with fail
 have KS:=Lib.hid (fun(w' :World) (hb:Below w1.heap.size w1 w')=>(⟨(hb.cell (p:=⟨E,22,none⟩) lE).trans e22,(hb.cell (p:=⟨g,_,none⟩) lg).trans g0,(hb.cell (p:=⟨pg,_,none⟩) lp).trans d2,(hb.cell (p:=⟨g,_,none⟩) lg).trans g1,(hb.cell (p:=⟨cg,_,none⟩) lc).trans c0,(hb.cell (p:=⟨cg,_,none⟩) lc).trans c1,(hb.cell (p:=⟨cg,_,none⟩) lc).trans c2,(hb.cell (p:=⟨cg,_,none⟩) lc).trans c3,(hb.cell (p:=⟨cg,_,none⟩) lc).trans c4⟩:w'.cell? ⟨E,22,none⟩=some (.slice (some ⟨pg,0,none⟩) N PC)∧w'.cell? ⟨g,k*14,none⟩=some (.int .i64 f.fn)∧w'.cell? ⟨pg,f.fn.toNat*3+2,none⟩=some (.slice (some ⟨cg,0,none⟩) M ccap)∧w'.cell? ⟨g,k*14+1,none⟩=some (.int .i64 f.pc)∧w'.cell? ⟨cg,f.pc.toNat*5,none⟩=some (.int .i64 op)∧w'.cell? ⟨cg,f.pc.toNat*5+1,none⟩=some (.int .i64 dst)∧w'.cell? ⟨cg,f.pc.toNat*5+2,none⟩=some (.int .i64 xa)∧w'.cell? ⟨cg,f.pc.toNat*5+3,none⟩=some (.int .i64 xb)∧w'.cell? ⟨cg,f.pc.toNat*5+4,none⟩=some (.int .i64 imm)))
 go_region_held3 (fun w' =>w'.cell? ⟨E,22,none⟩=some (.slice (some ⟨pg,0,none⟩) N PC)∧w'.cell? ⟨g,k*14,none⟩=some (.int .i64 f.fn)∧w'.cell? ⟨pg,f.fn.toNat*3+2,none⟩=some (.slice (some ⟨cg,0,none⟩) M ccap)∧w'.cell? ⟨g,k*14+1,none⟩=some (.int .i64 f.pc)∧w'.cell? ⟨cg,f.pc.toNat*5,none⟩=some (.int .i64 op)∧w'.cell? ⟨cg,f.pc.toNat*5+1,none⟩=some (.int .i64 dst)∧w'.cell? ⟨cg,f.pc.toNat*5+2,none⟩=some (.int .i64 xa)∧w'.cell? ⟨cg,f.pc.toNat*5+3,none⟩=some (.int .i64 xb)∧w'.cell? ⟨cg,f.pc.toNat*5+4,none⟩=some (.int .i64 imm)) (exact KS.out _ (by have hb:=Below.refl w1.heap.size w1;exact Bq)) (first|fail)
 all_goals (
  rename_i hHeld
  clear hHeld KS)
 obtain⟨w2,hw2⟩:∃w2,(w1.alloc (.cells #[.int .i64 op, .int .i64 dst, .int .i64 xa, .int .i64 xb, .int .i64 imm] 58)).drew=w2:=⟨_,rfl⟩
 rw[hw2]
 have Tw2:=Lib.hid (HT2.out w2 hw2)
 clear hw2 HT2 e19 e2 e22 g0 g1 ga gb d2 c0 c1 c2 c3 c4 lE lg lp lc fn0 fn1 pc1 fn2 pc2 hk1 hk2 hk3 hfu'
 obtain⟨I,hI⟩:∃I,w1.heap.size=I:=⟨_,rfl⟩
 rw[hI] at Tw2⊢
 clear hI
 have i2:=(Tw2.out.iC 2).trans rfl
 have i3:=(Tw2.out.iC 3).trans rfl
 have ga:=Tw2.out.cR a0 a1
 have gb:=Tw2.out.cR b0 b1
 go_wp2_with fail
 go_quiet (fail)
 obtain⟨w3,hw3⟩:∃w3,w2.drewN nq=w3:=⟨_,rfl⟩
 rw[hw3]
 have Tw3:Hid (Top w0 w3 E pv s ES AS fs f k g cap I ⟨op,dst,xa,xb,imm⟩):=Lib.hid (by rw[←hw3];exact Tw2.out.drewN nq)
 clear hw3 Tw2 i2 i3 ga gb
 have i0:=(Tw3.out.iC 0).trans rfl
 have i4:=(Tw3.out.iC 4).trans rfl
 have i1:=(Tw3.out.iC 1).trans rfl
 go_wp2_with (first|(go_at_call 79;refine(spure_any _ _ _ _ _).mono ?_;rintro e w' ⟨rfl,rfl⟩))
 obtain⟨n,hn⟩:∃n,mk op (f.reg xa) (f.reg xb) imm=n:=⟨_,rfl⟩
 rw[hn] at HEX⊢
 clear hn
 go_still_tail 7,(by kernel_rfl)
 change wpList _ _ _ _ _ w3.drew
 have Tw4:=Lib.hid Tw3.out.drew
 obtain⟨w4,hw4⟩:∃w4,w3.drew=w4:=⟨_,rfl⟩
 rw[hw4] at Tw4⊢
 clear hw4 Tw3
 have qd:=Tw4.out.cR dst0 dst1
 have fd:=Tw4.out.frz (k*14+2+dst.toNat)
 go_wp2_with (first
  |(obtain⟨w5,hw5⟩:∃w5,w4.setCell ⟨g,k*14+2+dst.toNat,none⟩ (.int .i64 n)=w5:=⟨_,rfl⟩;rw[hw5];have Tw5:=Lib.hid (Tw4.out.put dst0 dst1 n);rw[hw5] at Tw5;clear hw5 qd fd Tw4 i0 i1 i4;have qp:w5.cell? ⟨g,k*14+1,none⟩=some (.int .i64 f.pc):=Tw5.out.c1;have fp:=Tw5.out.frz (k*14+1))
  |(obtain⟨w6,hw6⟩:∃w6,w5.setCell ⟨g,k*14+1,none⟩ (.int .i64 (f.pc+1))=w6:=⟨_,rfl⟩;rw[hw6];have Tw6:=Lib.hid (Tw5.out.pc (f.pc+1));rw[hw6] at Tw6;clear hw6 qp fp Tw5;have qf:w6.cell? ⟨E,19,none⟩=some (.int .i64 s.fuel):=Tw6.out.e19;have ff:=Tw6.out.eng.frozen 19)
  |(obtain⟨w7,hw7⟩:∃w7,w6.setCell ⟨E,19,none⟩ (.int .i64 (s.fuel-1))=w7:=⟨_,rfl⟩;rw[hw7];have Tw7:=Lib.hid (Tw6.out.fuel (s.fuel-1));rw[hw7] at Tw7;clear hw7 qf ff Tw6;skip))
 exact bodyPost_ret (v:= .tuple #[]) (by simp[results,Tryd.results48,go_sem]) rfl ⟨rfl,_,_,_,by rw[HEX.out];exact Tw7.out.eng⟩
set_option maxRecDepth 100000 in
set_option maxHeartbeats 8000000 in
theorem next_zero{p:List Fnc}(hp:Right p){w0 w:World}{E:Nat}{pv FS ES AS:Value}{s:St}(h:EngAt w0 w E pv s FS ES AS)(hP:ProgAt w0 pv p)(hi:StInv p s)(hfu:s.fuel≠0){fs:List Fr}{f:Fr}(hf:s.frames=fs++[f])(h1:mkOk (insOf p f).op (f.reg (insOf p f).b)=false)(h2:(insOf p f).op=5):
 Calls Tryd.prog 48 #[.pointer (some ⟨E,0,none⟩)] w fun e w' =>e= .returned (.tuple #[])∧∃FS' ES' AS',EngAt w0 w' E pv (execSt p s fs f) FS' ES' AS' :=by
 obtain⟨k,g,cap,pg,N,PC,cg,M,ccap,X⟩:=nx_of hp h hP hi hf
 have HX:=Lib.hid X
 have HM:=Lib.hid hi.mem
 have HR:Hid (∀x∈s.frames,x.regs.length=12):=Lib.hid (fun x hx=>(hi.fr x hx).regs)
 have hfs:=X.fs0
 subst hfs
 have hfu' :(s.fuel==0)=false:=by simpa using hfu
 have hk1:IntKind.i64.wrap (k:Int)=k:=by have:=X.k8;rw[IntKind.wrap_i64];omega
 have hk2:(k:Int)<k+1:=by omega
 have hk3:(0:Int)≤k:=by omega
 have e19:=X.e19
 have e2:=X.e2
 have e22:=X.e22
 have g0:=X.g0
 have g1:=X.g1
 have ga:=X.ga
 have gb:=X.gb
 have d2:=X.d2
 have c0:=X.c0
 have c1:=X.c1
 have c2:=X.c2
 have c3:=X.c3
 have c4:=X.c4
 have fn0:=X.fn0
 have fn1:=X.fn1
 have pc0:=X.pc0
 have pc1:=X.pc1
 have M40:=X.M40
 have dst0:=X.dst0
 have dst1:=X.dst1
 have a0:=X.a0
 have a1:=X.a1
 have b0:=X.b0
 have b1:=X.b1
 have lE:=X.lE
 have lg:=X.lg
 have lp:=X.lp
 have lc:=X.lc
 have hpw:IntKind.i64.wrap (f.pc+1)=f.pc+1:=by rw[IntKind.wrap_i64];omega
 have hfw:IntKind.i64.wrap (s.fuel-1)=s.fuel-1:=by have:=hi.fuel0;have:=hi.fuel1;rw[IntKind.wrap_i64];omega
 have fn2:f.fn.toNat<N:=by omega
 have pc2:f.pc.toNat<M:=by omega
 have HEX:=Lib.hid (show execSt p s fs f={s with status:=3} from by unfold execSt;rw[if_neg (by simp[h1]),if_pos h2])
 clear X h
 obtain⟨x,hx⟩:∃x,insOf p f=x:=⟨_,rfl⟩
 rw[hx] at ga gb c0 c1 c2 c3 c4 dst0 dst1 a0 a1 b0 b1 h1 h2
 have HXX:=Lib.hid hx
 clear hx
 obtain⟨op,dst,xa,xb,imm⟩:=x
 dsimp only at *
 subst h2
 go_enter Tryd.func48,Tryd.ntmps48
 go_wp2_with fail
 go_quiet (fail)
 obtain⟨w1,hw1⟩:∃w1,w.drewN nq=w1:=⟨_,rfl⟩
 rw[hw1]
 have X1:=HX.out.drewN nq
 rw[hw1] at X1
 clear hw1 HX e19 e2 e22 g0 g1 ga gb d2 c0 c1 c2 c3 c4 lE lg lp lc
 have e19:=X1.e19
 have e2:=X1.e2
 have e22:=X1.e22
 have g0:=X1.g0
 have g1:=X1.g1
 have ga:=X1.ga
 have gb:=X1.gb
 have d2:=X1.d2
 have c0:=X1.c0
 have c1:=X1.c1
 have c2:=X1.c2
 have c3:=X1.c3
 have c4:=X1.c4
 rw[HXX.out] at ga gb c0 c1 c2 c3 c4
 have lE:=X1.lE
 have lg:=X1.lg
 have lp:=X1.lp
 have lc:=X1.lc
 have HT2:Hid (∀w2,(w1.alloc (.cells #[.int .i64 (insOf p f).op, .int .i64 (insOf p f).dst, .int .i64 (insOf p f).a, .int .i64 (insOf p f).b, .int .i64 (insOf p f).imm] 58)).drew=w2→Top w0 w2 E pv s ES AS fs f k g cap w1.heap.size (insOf p f)):=Lib.hid (fun w2 h=>by
  rw[←h]
  exact⟨(X1.eng.alloc _).drew,hf,X1.hk,HR.out,HM.out,heap_alloc_new w1 _⟩)
 rw[HXX.out] at HT2
 clear X1
 dsimp only at ga gb c0 c1 c2 c3 c4
 go_wp2_with fail
 have KS:=Lib.hid (fun(w' :World) (hb:Below w1.heap.size w1 w')=>(⟨(hb.cell (p:=⟨E,22,none⟩) lE).trans e22,(hb.cell (p:=⟨g,_,none⟩) lg).trans g0,(hb.cell (p:=⟨pg,_,none⟩) lp).trans d2,(hb.cell (p:=⟨g,_,none⟩) lg).trans g1,(hb.cell (p:=⟨cg,_,none⟩) lc).trans c0,(hb.cell (p:=⟨cg,_,none⟩) lc).trans c1,(hb.cell (p:=⟨cg,_,none⟩) lc).trans c2,(hb.cell (p:=⟨cg,_,none⟩) lc).trans c3,(hb.cell (p:=⟨cg,_,none⟩) lc).trans c4⟩:w'.cell? ⟨E,22,none⟩=some (.slice (some ⟨pg,0,none⟩) N PC)∧w'.cell? ⟨g,k*14,none⟩=some (.int .i64 f.fn)∧w'.cell? ⟨pg,f.fn.toNat*3+2,none⟩=some (.slice (some ⟨cg,0,none⟩) M ccap)∧w'.cell? ⟨g,k*14+1,none⟩=some (.int .i64 f.pc)∧w'.cell? ⟨cg,f.pc.toNat*5,none⟩=some (.int .i64 5)∧w'.cell? ⟨cg,f.pc.toNat*5+1,none⟩=some (.int .i64 dst)∧w'.cell? ⟨cg,f.pc.toNat*5+2,none⟩=some (.int .i64 xa)∧w'.cell? ⟨cg,f.pc.toNat*5+3,none⟩=some (.int .i64 xb)∧w'.cell? ⟨cg,f.pc.toNat*5+4,none⟩=some (.int .i64 imm)))
 go_region_held3 (fun w' =>w'.cell? ⟨E,22,none⟩=some (.slice (some ⟨pg,0,none⟩) N PC)∧w'.cell? ⟨g,k*14,none⟩=some (.int .i64 f.fn)∧w'.cell? ⟨pg,f.fn.toNat*3+2,none⟩=some (.slice (some ⟨cg,0,none⟩) M ccap)∧w'.cell? ⟨g,k*14+1,none⟩=some (.int .i64 f.pc)∧w'.cell? ⟨cg,f.pc.toNat*5,none⟩=some (.int .i64 5)∧w'.cell? ⟨cg,f.pc.toNat*5+1,none⟩=some (.int .i64 dst)∧w'.cell? ⟨cg,f.pc.toNat*5+2,none⟩=some (.int .i64 xa)∧w'.cell? ⟨cg,f.pc.toNat*5+3,none⟩=some (.int .i64 xb)∧w'.cell? ⟨cg,f.pc.toNat*5+4,none⟩=some (.int .i64 imm)) (exact KS.out _ (by have hb:=Below.refl w1.heap.size w1;exact Bq)) (first|fail)
 all_goals (
  rename_i hHeld
  clear hHeld KS)
 obtain⟨w2,hw2⟩:∃w2,(w1.alloc (.cells #[.int .i64 5, .int .i64 dst, .int .i64 xa, .int .i64 xb, .int .i64 imm] 58)).drew=w2:=⟨_,rfl⟩
 rw[hw2]
 have Tw2:=Lib.hid (HT2.out w2 hw2)
 clear hw2 HT2 e19 e2 e22 g0 g1 ga gb d2 c0 c1 c2 c3 c4 lE lg lp lc fn0 fn1 pc1 fn2 pc2 hk1 hk2 hk3 hfu'
 obtain⟨I,hI⟩:∃I,w1.heap.size=I:=⟨_,rfl⟩
 rw[hI] at Tw2⊢
 clear hI
 have i2:=(Tw2.out.iC 2).trans rfl
 have i3:=(Tw2.out.iC 3).trans rfl
 have ga:=Tw2.out.cR a0 a1
 have gb:=Tw2.out.cR b0 b1
 go_wp2_with fail
 go_quiet (fail)
 obtain⟨w3,hw3⟩:∃w3,w2.drewN nq=w3:=⟨_,rfl⟩
 rw[hw3]
 have Tw3:Hid (Top w0 w3 E pv s ES AS fs f k g cap I ⟨5,dst,xa,xb,imm⟩):=Lib.hid (by rw[←hw3];exact Tw2.out.drewN nq)
 clear hw3 Tw2 i2 i3 ga gb
 have i0:=(Tw3.out.iC 0).trans rfl
 have i4:=(Tw3.out.iC 4).trans rfl
 have i1:=(Tw3.out.iC 1).trans rfl
 go_wp2_with (first|(go_at_call 79;refine(spure_any _ _ _ _ _).mono ?_;rintro e w' ⟨rfl,rfl⟩)|(go_at_call 78;go_must (refine(halt_any Tw3.out.eng HM.out 3).mono ?_;rintro e w4 ⟨rfl,h4⟩)))
 exact bodyPost_ret (v:= .tuple #[]) (by simp[results,Tryd.results48,go_sem]) rfl ⟨rfl,_,_,_,by rw[HEX.out];exact h4⟩
set_option maxRecDepth 100000 in
set_option maxHeartbeats 8000000 in
theorem next_out13a{p:List Fnc}(hp:Right p){w0 w:World}{E:Nat}{pv FS ES AS:Value}{s:St}(h:EngAt w0 w E pv s FS ES AS)(hP:ProgAt w0 pv p)(hi:StInv p s)(hfu:s.fuel≠0){fs:List Fr}{f:Fr}(hf:s.frames=fs++[f])(h1:mkOk (insOf p f).op (f.reg (insOf p f).b)=false)(h2:(insOf p f).op=13)(h3:f.reg (insOf p f).a<0):
 Calls Tryd.prog 48 #[.pointer (some ⟨E,0,none⟩)] w fun e w' =>e= .returned (.tuple #[])∧∃FS' ES' AS',EngAt w0 w' E pv (execSt p s fs f) FS' ES' AS' :=by
 obtain⟨k,g,cap,pg,N,PC,cg,M,ccap,X⟩:=nx_of hp h hP hi hf
 have HX:=Lib.hid X
 have HM:=Lib.hid hi.mem
 have HR:Hid (∀x∈s.frames,x.regs.length=12):=Lib.hid (fun x hx=>(hi.fr x hx).regs)
 have hfs:=X.fs0
 subst hfs
 have hfu' :(s.fuel==0)=false:=by simpa using hfu
 have hk1:IntKind.i64.wrap (k:Int)=k:=by have:=X.k8;rw[IntKind.wrap_i64];omega
 have hk2:(k:Int)<k+1:=by omega
 have hk3:(0:Int)≤k:=by omega
 have e19:=X.e19
 have e2:=X.e2
 have e22:=X.e22
 have g0:=X.g0
 have g1:=X.g1
 have ga:=X.ga
 have gb:=X.gb
 have d2:=X.d2
 have c0:=X.c0
 have c1:=X.c1
 have c2:=X.c2
 have c3:=X.c3
 have c4:=X.c4
 have fn0:=X.fn0
 have fn1:=X.fn1
 have pc0:=X.pc0
 have pc1:=X.pc1
 have M40:=X.M40
 have dst0:=X.dst0
 have dst1:=X.dst1
 have a0:=X.a0
 have a1:=X.a1
 have b0:=X.b0
 have b1:=X.b1
 have lE:=X.lE
 have lg:=X.lg
 have lp:=X.lp
 have lc:=X.lc
 have hpw:IntKind.i64.wrap (f.pc+1)=f.pc+1:=by rw[IntKind.wrap_i64];omega
 have hfw:IntKind.i64.wrap (s.fuel-1)=s.fuel-1:=by have:=hi.fuel0;have:=hi.fuel1;rw[IntKind.wrap_i64];omega
 have fn2:f.fn.toNat<N:=by omega
 have pc2:f.pc.toNat<M:=by omega
 have HEX:=Lib.hid (show execSt p s fs f={s with status:=4} from by unfold execSt;rw[if_neg (by simp[h1]),if_neg (by omega),if_pos ⟨.inl h2,Or.inl h3⟩])
 clear X h
 obtain⟨x,hx⟩:∃x,insOf p f=x:=⟨_,rfl⟩
 rw[hx] at ga gb c0 c1 c2 c3 c4 dst0 dst1 a0 a1 b0 b1 h1 h2 h3
 have HXX:=Lib.hid hx
 clear hx
 obtain⟨op,dst,xa,xb,imm⟩:=x
 dsimp only at *
 subst h2
 go_enter Tryd.func48,Tryd.ntmps48
 go_wp2_with fail
 go_quiet (fail)
 obtain⟨w1,hw1⟩:∃w1,w.drewN nq=w1:=⟨_,rfl⟩
 rw[hw1]
 have X1:=HX.out.drewN nq
 rw[hw1] at X1
 clear hw1 HX e19 e2 e22 g0 g1 ga gb d2 c0 c1 c2 c3 c4 lE lg lp lc
 have e19:=X1.e19
 have e2:=X1.e2
 have e22:=X1.e22
 have g0:=X1.g0
 have g1:=X1.g1
 have ga:=X1.ga
 have gb:=X1.gb
 have d2:=X1.d2
 have c0:=X1.c0
 have c1:=X1.c1
 have c2:=X1.c2
 have c3:=X1.c3
 have c4:=X1.c4
 rw[HXX.out] at ga gb c0 c1 c2 c3 c4
 have lE:=X1.lE
 have lg:=X1.lg
 have lp:=X1.lp
 have lc:=X1.lc
 have HT2:Hid (∀w2,(w1.alloc (.cells #[.int .i64 (insOf p f).op, .int .i64 (insOf p f).dst, .int .i64 (insOf p f).a, .int .i64 (insOf p f).b, .int .i64 (insOf p f).imm] 58)).drew=w2→Top w0 w2 E pv s ES AS fs f k g cap w1.heap.size (insOf p f)):=Lib.hid (fun w2 h=>by
  rw[←h]
  exact⟨(X1.eng.alloc _).drew,hf,X1.hk,HR.out,HM.out,heap_alloc_new w1 _⟩)
 rw[HXX.out] at HT2
 clear X1
 dsimp only at ga gb c0 c1 c2 c3 c4
 go_wp2_with fail
 have KS:=Lib.hid (fun(w' :World) (hb:Below w1.heap.size w1 w')=>(⟨(hb.cell (p:=⟨E,22,none⟩) lE).trans e22,(hb.cell (p:=⟨g,_,none⟩) lg).trans g0,(hb.cell (p:=⟨pg,_,none⟩) lp).trans d2,(hb.cell (p:=⟨g,_,none⟩) lg).trans g1,(hb.cell (p:=⟨cg,_,none⟩) lc).trans c0,(hb.cell (p:=⟨cg,_,none⟩) lc).trans c1,(hb.cell (p:=⟨cg,_,none⟩) lc).trans c2,(hb.cell (p:=⟨cg,_,none⟩) lc).trans c3,(hb.cell (p:=⟨cg,_,none⟩) lc).trans c4⟩:w'.cell? ⟨E,22,none⟩=some (.slice (some ⟨pg,0,none⟩) N PC)∧w'.cell? ⟨g,k*14,none⟩=some (.int .i64 f.fn)∧w'.cell? ⟨pg,f.fn.toNat*3+2,none⟩=some (.slice (some ⟨cg,0,none⟩) M ccap)∧w'.cell? ⟨g,k*14+1,none⟩=some (.int .i64 f.pc)∧w'.cell? ⟨cg,f.pc.toNat*5,none⟩=some (.int .i64 13)∧w'.cell? ⟨cg,f.pc.toNat*5+1,none⟩=some (.int .i64 dst)∧w'.cell? ⟨cg,f.pc.toNat*5+2,none⟩=some (.int .i64 xa)∧w'.cell? ⟨cg,f.pc.toNat*5+3,none⟩=some (.int .i64 xb)∧w'.cell? ⟨cg,f.pc.toNat*5+4,none⟩=some (.int .i64 imm)))
 go_region_held3 (fun w' =>w'.cell? ⟨E,22,none⟩=some (.slice (some ⟨pg,0,none⟩) N PC)∧w'.cell? ⟨g,k*14,none⟩=some (.int .i64 f.fn)∧w'.cell? ⟨pg,f.fn.toNat*3+2,none⟩=some (.slice (some ⟨cg,0,none⟩) M ccap)∧w'.cell? ⟨g,k*14+1,none⟩=some (.int .i64 f.pc)∧w'.cell? ⟨cg,f.pc.toNat*5,none⟩=some (.int .i64 13)∧w'.cell? ⟨cg,f.pc.toNat*5+1,none⟩=some (.int .i64 dst)∧w'.cell? ⟨cg,f.pc.toNat*5+2,none⟩=some (.int .i64 xa)∧w'.cell? ⟨cg,f.pc.toNat*5+3,none⟩=some (.int .i64 xb)∧w'.cell? ⟨cg,f.pc.toNat*5+4,none⟩=some (.int .i64 imm)) (exact KS.out _ (by have hb:=Below.refl w1.heap.size w1;exact Bq)) (first|fail)
 all_goals (
  rename_i hHeld
  clear hHeld KS)
 obtain⟨w2,hw2⟩:∃w2,(w1.alloc (.cells #[.int .i64 13, .int .i64 dst, .int .i64 xa, .int .i64 xb, .int .i64 imm] 58)).drew=w2:=⟨_,rfl⟩
 rw[hw2]
 have Tw2:=Lib.hid (HT2.out w2 hw2)
 clear hw2 HT2 e19 e2 e22 g0 g1 ga gb d2 c0 c1 c2 c3 c4 lE lg lp lc fn0 fn1 pc1 fn2 pc2 hk1 hk2 hk3 hfu'
 obtain⟨I,hI⟩:∃I,w1.heap.size=I:=⟨_,rfl⟩
 rw[hI] at Tw2⊢
 clear hI
 have i2:=(Tw2.out.iC 2).trans rfl
 have i3:=(Tw2.out.iC 3).trans rfl
 have ga:=Tw2.out.cR a0 a1
 have gb:=Tw2.out.cR b0 b1
 go_wp2_with fail
 go_quiet (fail)
 obtain⟨w3,hw3⟩:∃w3,w2.drewN nq=w3:=⟨_,rfl⟩
 rw[hw3]
 have Tw3:Hid (Top w0 w3 E pv s ES AS fs f k g cap I ⟨13,dst,xa,xb,imm⟩):=Lib.hid (by rw[←hw3];exact Tw2.out.drewN nq)
 clear hw3 Tw2 i2 i3 ga gb
 have i0:=(Tw3.out.iC 0).trans rfl
 have i4:=(Tw3.out.iC 4).trans rfl
 have i1:=(Tw3.out.iC 1).trans rfl
 go_wp2_with (first|(go_at_call 79;refine(spure_any _ _ _ _ _).mono ?_;rintro e w' ⟨rfl,rfl⟩)|(go_at_call 78;go_must (refine(halt_any Tw3.out.eng HM.out 4).mono ?_;rintro e w4 ⟨rfl,h4⟩)))
 exact bodyPost_ret (v:= .tuple #[]) (by simp[results,Tryd.results48,go_sem]) rfl ⟨rfl,_,_,_,by rw[HEX.out];exact h4⟩
set_option maxRecDepth 100000 in
set_option maxHeartbeats 8000000 in
theorem next_out13b{p:List Fnc}(hp:Right p){w0 w:World}{E:Nat}{pv FS ES AS:Value}{s:St}(h:EngAt w0 w E pv s FS ES AS)(hP:ProgAt w0 pv p)(hi:StInv p s)(hfu:s.fuel≠0){fs:List Fr}{f:Fr}(hf:s.frames=fs++[f])(h1:mkOk (insOf p f).op (f.reg (insOf p f).b)=false)(h2:(insOf p f).op=13)(h3:16≤f.reg (insOf p f).a):
 Calls Tryd.prog 48 #[.pointer (some ⟨E,0,none⟩)] w fun e w' =>e= .returned (.tuple #[])∧∃FS' ES' AS',EngAt w0 w' E pv (execSt p s fs f) FS' ES' AS' :=by
 obtain⟨k,g,cap,pg,N,PC,cg,M,ccap,X⟩:=nx_of hp h hP hi hf
 have HX:=Lib.hid X
 have HM:=Lib.hid hi.mem
 have HR:Hid (∀x∈s.frames,x.regs.length=12):=Lib.hid (fun x hx=>(hi.fr x hx).regs)
 have hfs:=X.fs0
 subst hfs
 have hfu' :(s.fuel==0)=false:=by simpa using hfu
 have hk1:IntKind.i64.wrap (k:Int)=k:=by have:=X.k8;rw[IntKind.wrap_i64];omega
 have hk2:(k:Int)<k+1:=by omega
 have hk3:(0:Int)≤k:=by omega
 have e19:=X.e19
 have e2:=X.e2
 have e22:=X.e22
 have g0:=X.g0
 have g1:=X.g1
 have ga:=X.ga
 have gb:=X.gb
 have d2:=X.d2
 have c0:=X.c0
 have c1:=X.c1
 have c2:=X.c2
 have c3:=X.c3
 have c4:=X.c4
 have fn0:=X.fn0
 have fn1:=X.fn1
 have pc0:=X.pc0
 have pc1:=X.pc1
 have M40:=X.M40
 have dst0:=X.dst0
 have dst1:=X.dst1
 have a0:=X.a0
 have a1:=X.a1
 have b0:=X.b0
 have b1:=X.b1
 have lE:=X.lE
 have lg:=X.lg
 have lp:=X.lp
 have lc:=X.lc
 have hpw:IntKind.i64.wrap (f.pc+1)=f.pc+1:=by rw[IntKind.wrap_i64];omega
 have hfw:IntKind.i64.wrap (s.fuel-1)=s.fuel-1:=by have:=hi.fuel0;have:=hi.fuel1;rw[IntKind.wrap_i64];omega
 have fn2:f.fn.toNat<N:=by omega
 have pc2:f.pc.toNat<M:=by omega
 have HEX:=Lib.hid (show execSt p s fs f={s with status:=4} from by unfold execSt;rw[if_neg (by simp[h1]),if_neg (by omega),if_pos ⟨.inl h2,Or.inr h3⟩])
 clear X h
 obtain⟨x,hx⟩:∃x,insOf p f=x:=⟨_,rfl⟩
 rw[hx] at ga gb c0 c1 c2 c3 c4 dst0 dst1 a0 a1 b0 b1 h1 h2 h3
 have HXX:=Lib.hid hx
 clear hx
 obtain⟨op,dst,xa,xb,imm⟩:=x
 dsimp only at *
 subst h2
 go_enter Tryd.func48,Tryd.ntmps48
 go_wp2_with fail
 go_quiet (fail)
 obtain⟨w1,hw1⟩:∃w1,w.drewN nq=w1:=⟨_,rfl⟩
 rw[hw1]
 have X1:=HX.out.drewN nq
 rw[hw1] at X1
 clear hw1 HX e19 e2 e22 g0 g1 ga gb d2 c0 c1 c2 c3 c4 lE lg lp lc
 have e19:=X1.e19
 have e2:=X1.e2
 have e22:=X1.e22
 have g0:=X1.g0
 have g1:=X1.g1
 have ga:=X1.ga
 have gb:=X1.gb
 have d2:=X1.d2
 have c0:=X1.c0
 have c1:=X1.c1
 have c2:=X1.c2
 have c3:=X1.c3
 have c4:=X1.c4
 rw[HXX.out] at ga gb c0 c1 c2 c3 c4
 have lE:=X1.lE
 have lg:=X1.lg
 have lp:=X1.lp
 have lc:=X1.lc
 have HT2:Hid (∀w2,(w1.alloc (.cells #[.int .i64 (insOf p f).op, .int .i64 (insOf p f).dst, .int .i64 (insOf p f).a, .int .i64 (insOf p f).b, .int .i64 (insOf p f).imm] 58)).drew=w2→Top w0 w2 E pv s ES AS fs f k g cap w1.heap.size (insOf p f)):=Lib.hid (fun w2 h=>by
  rw[←h]
  exact⟨(X1.eng.alloc _).drew,hf,X1.hk,HR.out,HM.out,heap_alloc_new w1 _⟩)
 rw[HXX.out] at HT2
 clear X1
 dsimp only at ga gb c0 c1 c2 c3 c4
 go_wp2_with fail
 have KS:=Lib.hid (fun(w' :World) (hb:Below w1.heap.size w1 w')=>(⟨(hb.cell (p:=⟨E,22,none⟩) lE).trans e22,(hb.cell (p:=⟨g,_,none⟩) lg).trans g0,(hb.cell (p:=⟨pg,_,none⟩) lp).trans d2,(hb.cell (p:=⟨g,_,none⟩) lg).trans g1,(hb.cell (p:=⟨cg,_,none⟩) lc).trans c0,(hb.cell (p:=⟨cg,_,none⟩) lc).trans c1,(hb.cell (p:=⟨cg,_,none⟩) lc).trans c2,(hb.cell (p:=⟨cg,_,none⟩) lc).trans c3,(hb.cell (p:=⟨cg,_,none⟩) lc).trans c4⟩:w'.cell? ⟨E,22,none⟩=some (.slice (some ⟨pg,0,none⟩) N PC)∧w'.cell? ⟨g,k*14,none⟩=some (.int .i64 f.fn)∧w'.cell? ⟨pg,f.fn.toNat*3+2,none⟩=some (.slice (some ⟨cg,0,none⟩) M ccap)∧w'.cell? ⟨g,k*14+1,none⟩=some (.int .i64 f.pc)∧w'.cell? ⟨cg,f.pc.toNat*5,none⟩=some (.int .i64 13)∧w'.cell? ⟨cg,f.pc.toNat*5+1,none⟩=some (.int .i64 dst)∧w'.cell? ⟨cg,f.pc.toNat*5+2,none⟩=some (.int .i64 xa)∧w'.cell? ⟨cg,f.pc.toNat*5+3,none⟩=some (.int .i64 xb)∧w'.cell? ⟨cg,f.pc.toNat*5+4,none⟩=some (.int .i64 imm)))
 go_region_held3 (fun w' =>w'.cell? ⟨E,22,none⟩=some (.slice (some ⟨pg,0,none⟩) N PC)∧w'.cell? ⟨g,k*14,none⟩=some (.int .i64 f.fn)∧w'.cell? ⟨pg,f.fn.toNat*3+2,none⟩=some (.slice (some ⟨cg,0,none⟩) M ccap)∧w'.cell? ⟨g,k*14+1,none⟩=some (.int .i64 f.pc)∧w'.cell? ⟨cg,f.pc.toNat*5,none⟩=some (.int .i64 13)∧w'.cell? ⟨cg,f.pc.toNat*5+1,none⟩=some (.int .i64 dst)∧w'.cell? ⟨cg,f.pc.toNat*5+2,none⟩=some (.int .i64 xa)∧w'.cell? ⟨cg,f.pc.toNat*5+3,none⟩=some (.int .i64 xb)∧w'.cell? ⟨cg,f.pc.toNat*5+4,none⟩=some (.int .i64 imm)) (exact KS.out _ (by have hb:=Below.refl w1.heap.size w1;exact Bq)) (first|fail)
 all_goals (
  rename_i hHeld
  clear hHeld KS)
 obtain⟨w2,hw2⟩:∃w2,(w1.alloc (.cells #[.int .i64 13, .int .i64 dst, .int .i64 xa, .int .i64 xb, .int .i64 imm] 58)).drew=w2:=⟨_,rfl⟩
 rw[hw2]
 have Tw2:=Lib.hid (HT2.out w2 hw2)
 clear hw2 HT2 e19 e2 e22 g0 g1 ga gb d2 c0 c1 c2 c3 c4 lE lg lp lc fn0 fn1 pc1 fn2 pc2 hk1 hk2 hk3 hfu'
 obtain⟨I,hI⟩:∃I,w1.heap.size=I:=⟨_,rfl⟩
 rw[hI] at Tw2⊢
 clear hI
 have i2:=(Tw2.out.iC 2).trans rfl
 have i3:=(Tw2.out.iC 3).trans rfl
 have ga:=Tw2.out.cR a0 a1
 have gb:=Tw2.out.cR b0 b1
 go_wp2_with fail
 go_quiet (fail)
 obtain⟨w3,hw3⟩:∃w3,w2.drewN nq=w3:=⟨_,rfl⟩
 rw[hw3]
 have Tw3:Hid (Top w0 w3 E pv s ES AS fs f k g cap I ⟨13,dst,xa,xb,imm⟩):=Lib.hid (by rw[←hw3];exact Tw2.out.drewN nq)
 clear hw3 Tw2 i2 i3 ga gb
 have i0:=(Tw3.out.iC 0).trans rfl
 have i4:=(Tw3.out.iC 4).trans rfl
 have i1:=(Tw3.out.iC 1).trans rfl
 go_wp2_with (first|(go_at_call 79;refine(spure_any _ _ _ _ _).mono ?_;rintro e w' ⟨rfl,rfl⟩)|(go_at_call 78;go_must (refine(halt_any Tw3.out.eng HM.out 4).mono ?_;rintro e w4 ⟨rfl,h4⟩)))
 exact bodyPost_ret (v:= .tuple #[]) (by simp[results,Tryd.results48,go_sem]) rfl ⟨rfl,_,_,_,by rw[HEX.out];exact h4⟩
set_option maxRecDepth 100000 in
set_option maxHeartbeats 8000000 in
theorem next_out14a{p:List Fnc}(hp:Right p){w0 w:World}{E:Nat}{pv FS ES AS:Value}{s:St}(h:EngAt w0 w E pv s FS ES AS)(hP:ProgAt w0 pv p)(hi:StInv p s)(hfu:s.fuel≠0){fs:List Fr}{f:Fr}(hf:s.frames=fs++[f])(h1:mkOk (insOf p f).op (f.reg (insOf p f).b)=false)(h2:(insOf p f).op=14)(h3:f.reg (insOf p f).a<0):
 Calls Tryd.prog 48 #[.pointer (some ⟨E,0,none⟩)] w fun e w' =>e= .returned (.tuple #[])∧∃FS' ES' AS',EngAt w0 w' E pv (execSt p s fs f) FS' ES' AS' :=by
 obtain⟨k,g,cap,pg,N,PC,cg,M,ccap,X⟩:=nx_of hp h hP hi hf
 have HX:=Lib.hid X
 have HM:=Lib.hid hi.mem
 have HR:Hid (∀x∈s.frames,x.regs.length=12):=Lib.hid (fun x hx=>(hi.fr x hx).regs)
 have hfs:=X.fs0
 subst hfs
 have hfu' :(s.fuel==0)=false:=by simpa using hfu
 have hk1:IntKind.i64.wrap (k:Int)=k:=by have:=X.k8;rw[IntKind.wrap_i64];omega
 have hk2:(k:Int)<k+1:=by omega
 have hk3:(0:Int)≤k:=by omega
 have e19:=X.e19
 have e2:=X.e2
 have e22:=X.e22
 have g0:=X.g0
 have g1:=X.g1
 have ga:=X.ga
 have gb:=X.gb
 have d2:=X.d2
 have c0:=X.c0
 have c1:=X.c1
 have c2:=X.c2
 have c3:=X.c3
 have c4:=X.c4
 have fn0:=X.fn0
 have fn1:=X.fn1
 have pc0:=X.pc0
 have pc1:=X.pc1
 have M40:=X.M40
 have dst0:=X.dst0
 have dst1:=X.dst1
 have a0:=X.a0
 have a1:=X.a1
 have b0:=X.b0
 have b1:=X.b1
 have lE:=X.lE
 have lg:=X.lg
 have lp:=X.lp
 have lc:=X.lc
 have hpw:IntKind.i64.wrap (f.pc+1)=f.pc+1:=by rw[IntKind.wrap_i64];omega
 have hfw:IntKind.i64.wrap (s.fuel-1)=s.fuel-1:=by have:=hi.fuel0;have:=hi.fuel1;rw[IntKind.wrap_i64];omega
 have fn2:f.fn.toNat<N:=by omega
 have pc2:f.pc.toNat<M:=by omega
 have HEX:=Lib.hid (show execSt p s fs f={s with status:=4} from by unfold execSt;rw[if_neg (by simp[h1]),if_neg (by omega),if_pos ⟨.inr h2,Or.inl h3⟩])
 clear X h
 obtain⟨x,hx⟩:∃x,insOf p f=x:=⟨_,rfl⟩
 rw[hx] at ga gb c0 c1 c2 c3 c4 dst0 dst1 a0 a1 b0 b1 h1 h2 h3
 have HXX:=Lib.hid hx
 clear hx
 obtain⟨op,dst,xa,xb,imm⟩:=x
 dsimp only at *
 subst h2
 go_enter Tryd.func48,Tryd.ntmps48
 go_wp2_with fail
 go_quiet (fail)
 obtain⟨w1,hw1⟩:∃w1,w.drewN nq=w1:=⟨_,rfl⟩
 rw[hw1]
 have X1:=HX.out.drewN nq
 rw[hw1] at X1
 clear hw1 HX e19 e2 e22 g0 g1 ga gb d2 c0 c1 c2 c3 c4 lE lg lp lc
 have e19:=X1.e19
 have e2:=X1.e2
 have e22:=X1.e22
 have g0:=X1.g0
 have g1:=X1.g1
 have ga:=X1.ga
 have gb:=X1.gb
 have d2:=X1.d2
 have c0:=X1.c0
 have c1:=X1.c1
 have c2:=X1.c2
 have c3:=X1.c3
 have c4:=X1.c4
 rw[HXX.out] at ga gb c0 c1 c2 c3 c4
 have lE:=X1.lE
 have lg:=X1.lg
 have lp:=X1.lp
 have lc:=X1.lc
 have HT2:Hid (∀w2,(w1.alloc (.cells #[.int .i64 (insOf p f).op, .int .i64 (insOf p f).dst, .int .i64 (insOf p f).a, .int .i64 (insOf p f).b, .int .i64 (insOf p f).imm] 58)).drew=w2→Top w0 w2 E pv s ES AS fs f k g cap w1.heap.size (insOf p f)):=Lib.hid (fun w2 h=>by
  rw[←h]
  exact⟨(X1.eng.alloc _).drew,hf,X1.hk,HR.out,HM.out,heap_alloc_new w1 _⟩)
 rw[HXX.out] at HT2
 clear X1
 dsimp only at ga gb c0 c1 c2 c3 c4
 go_wp2_with fail
 have KS:=Lib.hid (fun(w' :World) (hb:Below w1.heap.size w1 w')=>(⟨(hb.cell (p:=⟨E,22,none⟩) lE).trans e22,(hb.cell (p:=⟨g,_,none⟩) lg).trans g0,(hb.cell (p:=⟨pg,_,none⟩) lp).trans d2,(hb.cell (p:=⟨g,_,none⟩) lg).trans g1,(hb.cell (p:=⟨cg,_,none⟩) lc).trans c0,(hb.cell (p:=⟨cg,_,none⟩) lc).trans c1,(hb.cell (p:=⟨cg,_,none⟩) lc).trans c2,(hb.cell (p:=⟨cg,_,none⟩) lc).trans c3,(hb.cell (p:=⟨cg,_,none⟩) lc).trans c4⟩:w'.cell? ⟨E,22,none⟩=some (.slice (some ⟨pg,0,none⟩) N PC)∧w'.cell? ⟨g,k*14,none⟩=some (.int .i64 f.fn)∧w'.cell? ⟨pg,f.fn.toNat*3+2,none⟩=some (.slice (some ⟨cg,0,none⟩) M ccap)∧w'.cell? ⟨g,k*14+1,none⟩=some (.int .i64 f.pc)∧w'.cell? ⟨cg,f.pc.toNat*5,none⟩=some (.int .i64 14)∧w'.cell? ⟨cg,f.pc.toNat*5+1,none⟩=some (.int .i64 dst)∧w'.cell? ⟨cg,f.pc.toNat*5+2,none⟩=some (.int .i64 xa)∧w'.cell? ⟨cg,f.pc.toNat*5+3,none⟩=some (.int .i64 xb)∧w'.cell? ⟨cg,f.pc.toNat*5+4,none⟩=some (.int .i64 imm)))
 go_region_held3 (fun w' =>w'.cell? ⟨E,22,none⟩=some (.slice (some ⟨pg,0,none⟩) N PC)∧w'.cell? ⟨g,k*14,none⟩=some (.int .i64 f.fn)∧w'.cell? ⟨pg,f.fn.toNat*3+2,none⟩=some (.slice (some ⟨cg,0,none⟩) M ccap)∧w'.cell? ⟨g,k*14+1,none⟩=some (.int .i64 f.pc)∧w'.cell? ⟨cg,f.pc.toNat*5,none⟩=some (.int .i64 14)∧w'.cell? ⟨cg,f.pc.toNat*5+1,none⟩=some (.int .i64 dst)∧w'.cell? ⟨cg,f.pc.toNat*5+2,none⟩=some (.int .i64 xa)∧w'.cell? ⟨cg,f.pc.toNat*5+3,none⟩=some (.int .i64 xb)∧w'.cell? ⟨cg,f.pc.toNat*5+4,none⟩=some (.int .i64 imm)) (exact KS.out _ (by have hb:=Below.refl w1.heap.size w1;exact Bq)) (first|fail)
 all_goals (
  rename_i hHeld
  clear hHeld KS)
 obtain⟨w2,hw2⟩:∃w2,(w1.alloc (.cells #[.int .i64 14, .int .i64 dst, .int .i64 xa, .int .i64 xb, .int .i64 imm] 58)).drew=w2:=⟨_,rfl⟩
 rw[hw2]
 have Tw2:=Lib.hid (HT2.out w2 hw2)
 clear hw2 HT2 e19 e2 e22 g0 g1 ga gb d2 c0 c1 c2 c3 c4 lE lg lp lc fn0 fn1 pc1 fn2 pc2 hk1 hk2 hk3 hfu'
 obtain⟨I,hI⟩:∃I,w1.heap.size=I:=⟨_,rfl⟩
 rw[hI] at Tw2⊢
 clear hI
 have i2:=(Tw2.out.iC 2).trans rfl
 have i3:=(Tw2.out.iC 3).trans rfl
 have ga:=Tw2.out.cR a0 a1
 have gb:=Tw2.out.cR b0 b1
 go_wp2_with fail
 go_quiet (fail)
 obtain⟨w3,hw3⟩:∃w3,w2.drewN nq=w3:=⟨_,rfl⟩
 rw[hw3]
 have Tw3:Hid (Top w0 w3 E pv s ES AS fs f k g cap I ⟨14,dst,xa,xb,imm⟩):=Lib.hid (by rw[←hw3];exact Tw2.out.drewN nq)
 clear hw3 Tw2 i2 i3 ga gb
 have i0:=(Tw3.out.iC 0).trans rfl
 have i4:=(Tw3.out.iC 4).trans rfl
 have i1:=(Tw3.out.iC 1).trans rfl
 go_wp2_with (first|(go_at_call 79;refine(spure_any _ _ _ _ _).mono ?_;rintro e w' ⟨rfl,rfl⟩)|(go_at_call 78;go_must (refine(halt_any Tw3.out.eng HM.out 4).mono ?_;rintro e w4 ⟨rfl,h4⟩)))
 exact bodyPost_ret (v:= .tuple #[]) (by simp[results,Tryd.results48,go_sem]) rfl ⟨rfl,_,_,_,by rw[HEX.out];exact h4⟩
set_option maxRecDepth 100000 in
set_option maxHeartbeats 8000000 in
theorem next_out14b{p:List Fnc}(hp:Right p){w0 w:World}{E:Nat}{pv FS ES AS:Value}{s:St}(h:EngAt w0 w E pv s FS ES AS)(hP:ProgAt w0 pv p)(hi:StInv p s)(hfu:s.fuel≠0){fs:List Fr}{f:Fr}(hf:s.frames=fs++[f])(h1:mkOk (insOf p f).op (f.reg (insOf p f).b)=false)(h2:(insOf p f).op=14)(h3:16≤f.reg (insOf p f).a):
 Calls Tryd.prog 48 #[.pointer (some ⟨E,0,none⟩)] w fun e w' =>e= .returned (.tuple #[])∧∃FS' ES' AS',EngAt w0 w' E pv (execSt p s fs f) FS' ES' AS' :=by
 obtain⟨k,g,cap,pg,N,PC,cg,M,ccap,X⟩:=nx_of hp h hP hi hf
 have HX:=Lib.hid X
 have HM:=Lib.hid hi.mem
 have HR:Hid (∀x∈s.frames,x.regs.length=12):=Lib.hid (fun x hx=>(hi.fr x hx).regs)
 have hfs:=X.fs0
 subst hfs
 have hfu' :(s.fuel==0)=false:=by simpa using hfu
 have hk1:IntKind.i64.wrap (k:Int)=k:=by have:=X.k8;rw[IntKind.wrap_i64];omega
 have hk2:(k:Int)<k+1:=by omega
 have hk3:(0:Int)≤k:=by omega
 have e19:=X.e19
 have e2:=X.e2
 have e22:=X.e22
 have g0:=X.g0
 have g1:=X.g1
 have ga:=X.ga
 have gb:=X.gb
 have d2:=X.d2
 have c0:=X.c0
 have c1:=X.c1
 have c2:=X.c2
 have c3:=X.c3
 have c4:=X.c4
 have fn0:=X.fn0
 have fn1:=X.fn1
 have pc0:=X.pc0
 have pc1:=X.pc1
 have M40:=X.M40
 have dst0:=X.dst0
 have dst1:=X.dst1
 have a0:=X.a0
 have a1:=X.a1
 have b0:=X.b0
 have b1:=X.b1
 have lE:=X.lE
 have lg:=X.lg
 have lp:=X.lp
 have lc:=X.lc
 have hpw:IntKind.i64.wrap (f.pc+1)=f.pc+1:=by rw[IntKind.wrap_i64];omega
 have hfw:IntKind.i64.wrap (s.fuel-1)=s.fuel-1:=by have:=hi.fuel0;have:=hi.fuel1;rw[IntKind.wrap_i64];omega
 have fn2:f.fn.toNat<N:=by omega
 have pc2:f.pc.toNat<M:=by omega
 have HEX:=Lib.hid (show execSt p s fs f={s with status:=4} from by unfold execSt;rw[if_neg (by simp[h1]),if_neg (by omega),if_pos ⟨.inr h2,Or.inr h3⟩])
 clear X h
 obtain⟨x,hx⟩:∃x,insOf p f=x:=⟨_,rfl⟩
 rw[hx] at ga gb c0 c1 c2 c3 c4 dst0 dst1 a0 a1 b0 b1 h1 h2 h3
 have HXX:=Lib.hid hx
 clear hx
 obtain⟨op,dst,xa,xb,imm⟩:=x
 dsimp only at *
 subst h2
 go_enter Tryd.func48,Tryd.ntmps48
 go_wp2_with fail
 go_quiet (fail)
 obtain⟨w1,hw1⟩:∃w1,w.drewN nq=w1:=⟨_,rfl⟩
 rw[hw1]
 have X1:=HX.out.drewN nq
 rw[hw1] at X1
 clear hw1 HX e19 e2 e22 g0 g1 ga gb d2 c0 c1 c2 c3 c4 lE lg lp lc
 have e19:=X1.e19
 have e2:=X1.e2
 have e22:=X1.e22
 have g0:=X1.g0
 have g1:=X1.g1
 have ga:=X1.ga
 have gb:=X1.gb
 have d2:=X1.d2
 have c0:=X1.c0
 have c1:=X1.c1
 have c2:=X1.c2
 have c3:=X1.c3
 have c4:=X1.c4
 rw[HXX.out] at ga gb c0 c1 c2 c3 c4
 have lE:=X1.lE
 have lg:=X1.lg
 have lp:=X1.lp
 have lc:=X1.lc
 have HT2:Hid (∀w2,(w1.alloc (.cells #[.int .i64 (insOf p f).op, .int .i64 (insOf p f).dst, .int .i64 (insOf p f).a, .int .i64 (insOf p f).b, .int .i64 (insOf p f).imm] 58)).drew=w2→Top w0 w2 E pv s ES AS fs f k g cap w1.heap.size (insOf p f)):=Lib.hid (fun w2 h=>by
  rw[←h]
  exact⟨(X1.eng.alloc _).drew,hf,X1.hk,HR.out,HM.out,heap_alloc_new w1 _⟩)
 rw[HXX.out] at HT2
 clear X1
 dsimp only at ga gb c0 c1 c2 c3 c4
 go_wp2_with fail
 have KS:=Lib.hid (fun(w' :World) (hb:Below w1.heap.size w1 w')=>(⟨(hb.cell (p:=⟨E,22,none⟩) lE).trans e22,(hb.cell (p:=⟨g,_,none⟩) lg).trans g0,(hb.cell (p:=⟨pg,_,none⟩) lp).trans d2,(hb.cell (p:=⟨g,_,none⟩) lg).trans g1,(hb.cell (p:=⟨cg,_,none⟩) lc).trans c0,(hb.cell (p:=⟨cg,_,none⟩) lc).trans c1,(hb.cell (p:=⟨cg,_,none⟩) lc).trans c2,(hb.cell (p:=⟨cg,_,none⟩) lc).trans c3,(hb.cell (p:=⟨cg,_,none⟩) lc).trans c4⟩:w'.cell? ⟨E,22,none⟩=some (.slice (some ⟨pg,0,none⟩) N PC)∧w'.cell? ⟨g,k*14,none⟩=some (.int .i64 f.fn)∧w'.cell? ⟨pg,f.fn.toNat*3+2,none⟩=some (.slice (some ⟨cg,0,none⟩) M ccap)∧w'.cell? ⟨g,k*14+1,none⟩=some (.int .i64 f.pc)∧w'.cell? ⟨cg,f.pc.toNat*5,none⟩=some (.int .i64 14)∧w'.cell? ⟨cg,f.pc.toNat*5+1,none⟩=some (.int .i64 dst)∧w'.cell? ⟨cg,f.pc.toNat*5+2,none⟩=some (.int .i64 xa)∧w'.cell? ⟨cg,f.pc.toNat*5+3,none⟩=some (.int .i64 xb)∧w'.cell? ⟨cg,f.pc.toNat*5+4,none⟩=some (.int .i64 imm)))
 go_region_held3 (fun w' =>w'.cell? ⟨E,22,none⟩=some (.slice (some ⟨pg,0,none⟩) N PC)∧w'.cell? ⟨g,k*14,none⟩=some (.int .i64 f.fn)∧w'.cell? ⟨pg,f.fn.toNat*3+2,none⟩=some (.slice (some ⟨cg,0,none⟩) M ccap)∧w'.cell? ⟨g,k*14+1,none⟩=some (.int .i64 f.pc)∧w'.cell? ⟨cg,f.pc.toNat*5,none⟩=some (.int .i64 14)∧w'.cell? ⟨cg,f.pc.toNat*5+1,none⟩=some (.int .i64 dst)∧w'.cell? ⟨cg,f.pc.toNat*5+2,none⟩=some (.int .i64 xa)∧w'.cell? ⟨cg,f.pc.toNat*5+3,none⟩=some (.int .i64 xb)∧w'.cell? ⟨cg,f.pc.toNat*5+4,none⟩=some (.int .i64 imm)) (exact KS.out _ (by have hb:=Below.refl w1.heap.size w1;exact Bq)) (first|fail)
 all_goals (
  rename_i hHeld
  clear hHeld KS)
 obtain⟨w2,hw2⟩:∃w2,(w1.alloc (.cells #[.int .i64 14, .int .i64 dst, .int .i64 xa, .int .i64 xb, .int .i64 imm] 58)).drew=w2:=⟨_,rfl⟩
 rw[hw2]
 have Tw2:=Lib.hid (HT2.out w2 hw2)
 clear hw2 HT2 e19 e2 e22 g0 g1 ga gb d2 c0 c1 c2 c3 c4 lE lg lp lc fn0 fn1 pc1 fn2 pc2 hk1 hk2 hk3 hfu'
 obtain⟨I,hI⟩:∃I,w1.heap.size=I:=⟨_,rfl⟩
 rw[hI] at Tw2⊢
 clear hI
 have i2:=(Tw2.out.iC 2).trans rfl
 have i3:=(Tw2.out.iC 3).trans rfl
 have ga:=Tw2.out.cR a0 a1
 have gb:=Tw2.out.cR b0 b1
 go_wp2_with fail
 go_quiet (fail)
 obtain⟨w3,hw3⟩:∃w3,w2.drewN nq=w3:=⟨_,rfl⟩
 rw[hw3]
 have Tw3:Hid (Top w0 w3 E pv s ES AS fs f k g cap I ⟨14,dst,xa,xb,imm⟩):=Lib.hid (by rw[←hw3];exact Tw2.out.drewN nq)
 clear hw3 Tw2 i2 i3 ga gb
 have i0:=(Tw3.out.iC 0).trans rfl
 have i4:=(Tw3.out.iC 4).trans rfl
 have i1:=(Tw3.out.iC 1).trans rfl
 go_wp2_with (first|(go_at_call 79;refine(spure_any _ _ _ _ _).mono ?_;rintro e w' ⟨rfl,rfl⟩)|(go_at_call 78;go_must (refine(halt_any Tw3.out.eng HM.out 4).mono ?_;rintro e w4 ⟨rfl,h4⟩)))
 exact bodyPost_ret (v:= .tuple #[]) (by simp[results,Tryd.results48,go_sem]) rfl ⟨rfl,_,_,_,by rw[HEX.out];exact h4⟩
set_option maxRecDepth 100000 in
set_option maxHeartbeats 8000000 in
theorem next_load{p:List Fnc}(hp:Right p){w0 w:World}{E:Nat}{pv FS ES AS:Value}{s:St}(h:EngAt w0 w E pv s FS ES AS)(hP:ProgAt w0 pv p)(hi:StInv p s)(hfu:s.fuel≠0){fs:List Fr}{f:Fr}(hf:s.frames=fs++[f])(h1:mkOk (insOf p f).op (f.reg (insOf p f).b)=false)(h2:(insOf p f).op=13)(h3:0≤f.reg (insOf p f).a)(h4:f.reg (insOf p f).a<16):
 Calls Tryd.prog 48 #[.pointer (some ⟨E,0,none⟩)] w fun e w' =>e= .returned (.tuple #[])∧∃FS' ES' AS',EngAt w0 w' E pv (execSt p s fs f) FS' ES' AS' :=by
 obtain⟨k,g,cap,pg,N,PC,cg,M,ccap,X⟩:=nx_of hp h hP hi hf
 have HX:=Lib.hid X
 have HM:=Lib.hid hi.mem
 have HR:Hid (∀x∈s.frames,x.regs.length=12):=Lib.hid (fun x hx=>(hi.fr x hx).regs)
 have hfs:=X.fs0
 subst hfs
 have hfu' :(s.fuel==0)=false:=by simpa using hfu
 have hk1:IntKind.i64.wrap (k:Int)=k:=by have:=X.k8;rw[IntKind.wrap_i64];omega
 have hk2:(k:Int)<k+1:=by omega
 have hk3:(0:Int)≤k:=by omega
 have e19:=X.e19
 have e2:=X.e2
 have e22:=X.e22
 have g0:=X.g0
 have g1:=X.g1
 have ga:=X.ga
 have gb:=X.gb
 have d2:=X.d2
 have c0:=X.c0
 have c1:=X.c1
 have c2:=X.c2
 have c3:=X.c3
 have c4:=X.c4
 have fn0:=X.fn0
 have fn1:=X.fn1
 have pc0:=X.pc0
 have pc1:=X.pc1
 have M40:=X.M40
 have dst0:=X.dst0
 have dst1:=X.dst1
 have a0:=X.a0
 have a1:=X.a1
 have b0:=X.b0
 have b1:=X.b1
 have lE:=X.lE
 have lg:=X.lg
 have lp:=X.lp
 have lc:=X.lc
 have hpw:IntKind.i64.wrap (f.pc+1)=f.pc+1:=by rw[IntKind.wrap_i64];omega
 have hfw:IntKind.i64.wrap (s.fuel-1)=s.fuel-1:=by have:=hi.fuel0;have:=hi.fuel1;rw[IntKind.wrap_i64];omega
 have fn2:f.fn.toNat<N:=by omega
 have pc2:f.pc.toNat<M:=by omega
 have HEX:=Lib.hid (show execSt p s fs f=topSt s fs ((f.put (insOf p f).dst (s.mem.getD (f.reg (insOf p f).a).toNat 0)).at (f.pc+1)) from by unfold execSt;rw[if_neg (by simp[h1]),if_neg (by omega),if_neg (by omega),if_pos h2])
 clear X h
 obtain⟨x,hx⟩:∃x,insOf p f=x:=⟨_,rfl⟩
 rw[hx] at ga gb c0 c1 c2 c3 c4 dst0 dst1 a0 a1 b0 b1 h1 h2 h3 h4
 rw[hx] at HEX
 have HXX:=Lib.hid hx
 clear hx
 obtain⟨op,dst,xa,xb,imm⟩:=x
 dsimp only at *
 subst h2
 go_enter Tryd.func48,Tryd.ntmps48
 go_wp2_with fail
 go_quiet (fail)
 obtain⟨w1,hw1⟩:∃w1,w.drewN nq=w1:=⟨_,rfl⟩
 rw[hw1]
 have X1:=HX.out.drewN nq
 rw[hw1] at X1
 clear hw1 HX e19 e2 e22 g0 g1 ga gb d2 c0 c1 c2 c3 c4 lE lg lp lc
 have e19:=X1.e19
 have e2:=X1.e2
 have e22:=X1.e22
 have g0:=X1.g0
 have g1:=X1.g1
 have ga:=X1.ga
 have gb:=X1.gb
 have d2:=X1.d2
 have c0:=X1.c0
 have c1:=X1.c1
 have c2:=X1.c2
 have c3:=X1.c3
 have c4:=X1.c4
 rw[HXX.out] at ga gb c0 c1 c2 c3 c4
 have lE:=X1.lE
 have lg:=X1.lg
 have lp:=X1.lp
 have lc:=X1.lc
 have HT2:Hid (∀w2,(w1.alloc (.cells #[.int .i64 (insOf p f).op, .int .i64 (insOf p f).dst, .int .i64 (insOf p f).a, .int .i64 (insOf p f).b, .int .i64 (insOf p f).imm] 58)).drew=w2→Top w0 w2 E pv s ES AS fs f k g cap w1.heap.size (insOf p f)):=Lib.hid (fun w2 h=>by
  rw[←h]
  exact⟨(X1.eng.alloc _).drew,hf,X1.hk,HR.out,HM.out,heap_alloc_new w1 _⟩)
 rw[HXX.out] at HT2
 clear X1
 dsimp only at ga gb c0 c1 c2 c3 c4
 go_wp2_with fail
 have KS:=Lib.hid (fun(w' :World) (hb:Below w1.heap.size w1 w')=>(⟨(hb.cell (p:=⟨E,22,none⟩) lE).trans e22,(hb.cell (p:=⟨g,_,none⟩) lg).trans g0,(hb.cell (p:=⟨pg,_,none⟩) lp).trans d2,(hb.cell (p:=⟨g,_,none⟩) lg).trans g1,(hb.cell (p:=⟨cg,_,none⟩) lc).trans c0,(hb.cell (p:=⟨cg,_,none⟩) lc).trans c1,(hb.cell (p:=⟨cg,_,none⟩) lc).trans c2,(hb.cell (p:=⟨cg,_,none⟩) lc).trans c3,(hb.cell (p:=⟨cg,_,none⟩) lc).trans c4⟩:w'.cell? ⟨E,22,none⟩=some (.slice (some ⟨pg,0,none⟩) N PC)∧w'.cell? ⟨g,k*14,none⟩=some (.int .i64 f.fn)∧w'.cell? ⟨pg,f.fn.toNat*3+2,none⟩=some (.slice (some ⟨cg,0,none⟩) M ccap)∧w'.cell? ⟨g,k*14+1,none⟩=some (.int .i64 f.pc)∧w'.cell? ⟨cg,f.pc.toNat*5,none⟩=some (.int .i64 13)∧w'.cell? ⟨cg,f.pc.toNat*5+1,none⟩=some (.int .i64 dst)∧w'.cell? ⟨cg,f.pc.toNat*5+2,none⟩=some (.int .i64 xa)∧w'.cell? ⟨cg,f.pc.toNat*5+3,none⟩=some (.int .i64 xb)∧w'.cell? ⟨cg,f.pc.toNat*5+4,none⟩=some (.int .i64 imm)))
 go_region_held3 (fun w' =>w'.cell? ⟨E,22,none⟩=some (.slice (some ⟨pg,0,none⟩) N PC)∧w'.cell? ⟨g,k*14,none⟩=some (.int .i64 f.fn)∧w'.cell? ⟨pg,f.fn.toNat*3+2,none⟩=some (.slice (some ⟨cg,0,none⟩) M ccap)∧w'.cell? ⟨g,k*14+1,none⟩=some (.int .i64 f.pc)∧w'.cell? ⟨cg,f.pc.toNat*5,none⟩=some (.int .i64 13)∧w'.cell? ⟨cg,f.pc.toNat*5+1,none⟩=some (.int .i64 dst)∧w'.cell? ⟨cg,f.pc.toNat*5+2,none⟩=some (.int .i64 xa)∧w'.cell? ⟨cg,f.pc.toNat*5+3,none⟩=some (.int .i64 xb)∧w'.cell? ⟨cg,f.pc.toNat*5+4,none⟩=some (.int .i64 imm)) (exact KS.out _ (by have hb:=Below.refl w1.heap.size w1;exact Bq)) (first|fail)
 all_goals (
  rename_i hHeld
  clear hHeld KS)
 obtain⟨w2,hw2⟩:∃w2,(w1.alloc (.cells #[.int .i64 13, .int .i64 dst, .int .i64 xa, .int .i64 xb, .int .i64 imm] 58)).drew=w2:=⟨_,rfl⟩
 rw[hw2]
 have Tw2:=Lib.hid (HT2.out w2 hw2)
 clear hw2 HT2 e19 e2 e22 g0 g1 ga gb d2 c0 c1 c2 c3 c4 lE lg lp lc fn0 fn1 pc1 fn2 pc2 hk1 hk2 hk3 hfu'
 obtain⟨I,hI⟩:∃I,w1.heap.size=I:=⟨_,rfl⟩
 rw[hI] at Tw2⊢
 clear hI
 have i2:=(Tw2.out.iC 2).trans rfl
 have i3:=(Tw2.out.iC 3).trans rfl
 have ga:=Tw2.out.cR a0 a1
 have gb:=Tw2.out.cR b0 b1
 go_wp2_with fail
 go_quiet (fail)
 obtain⟨w3,hw3⟩:∃w3,w2.drewN nq=w3:=⟨_,rfl⟩
 rw[hw3]
 have Tw3:Hid (Top w0 w3 E pv s ES AS fs f k g cap I ⟨13,dst,xa,xb,imm⟩):=Lib.hid (by rw[←hw3];exact Tw2.out.drewN nq)
 clear hw3 Tw2 i2 i3 ga gb
 have i0:=(Tw3.out.iC 0).trans rfl
 have i4:=(Tw3.out.iC 4).trans rfl
 have i1:=(Tw3.out.iC 1).trans rfl
 have qf:w3.cell? ⟨E,19,none⟩=some (.int .i64 s.fuel):=Tw3.out.e19
 have ff:=Tw3.out.eng.frozen 19
 go_wp2_with (first|(go_at_call 79;refine(spure_any _ _ _ _ _).mono ?_;rintro e w' ⟨rfl,rfl⟩)|(obtain⟨w4,hw4⟩:∃w4,w3.setCell ⟨E,19,none⟩ (.int .i64 (s.fuel-1))=w4:=⟨_,rfl⟩;rw[hw4];have Tw4:=Lib.hid (Tw3.out.fuel (s.fuel-1));rw[hw4] at Tw4;clear hw4 qf ff Tw3 i0 i1 i4;have i0:=(Tw4.out.iC 0).trans rfl))
 have i1:=(Tw4.out.iC 1).trans rfl
 have qm:=Tw4.out.eng.cellM HM.out (i:=(f.reg xa).toNat) (by omega)
 go_still_tail 13,(by kernel_rfl)
 change wpList _ _ _ _ _ w4.drew
 have Tw5:=Lib.hid Tw4.out.drew
 obtain⟨w5,hw5⟩:∃w5,w4.drew=w5:=⟨_,rfl⟩
 rw[hw5] at Tw5⊢
 clear hw5 Tw4
 clear qm i0 i1
 rw[gD] at HEX
 obtain⟨n,hn⟩:∃n,s.mem[(f.reg xa).toNat]?.getD 0=n:=⟨_,rfl⟩
 rw[hn] at HEX⊢
 clear hn
 have qd:w5.cell? ⟨g,k*14+2+dst.toNat,none⟩=some (.int .i64 (f.reg dst)):=Tw5.out.cR dst0 dst1
 have fd:=Tw5.out.frz (k*14+2+dst.toNat)
 go_wp2_with (first
  |(obtain⟨w6,hw6⟩:∃w6,w5.setCell ⟨g,k*14+2+dst.toNat,none⟩ (.int .i64 n)=w6:=⟨_,rfl⟩;rw[hw6];have Tw6:=Lib.hid (Tw5.out.put dst0 dst1 n);rw[hw6] at Tw6;clear hw6 qd fd Tw5;have qp:w6.cell? ⟨g,k*14+1,none⟩=some (.int .i64 f.pc):=Tw6.out.c1;have fp:=Tw6.out.frz (k*14+1))
  |(obtain⟨w7,hw7⟩:∃w7,w6.setCell ⟨g,k*14+1,none⟩ (.int .i64 (f.pc+1))=w7:=⟨_,rfl⟩;rw[hw7];have Tw7:=Lib.hid (Tw6.out.pc (f.pc+1));rw[hw7] at Tw7;clear hw7 qp fp Tw6;skip))
 exact bodyPost_end (v:= .tuple #[]) (by simp[results,Tryd.results48,go_sem]) rfl ⟨rfl,_,_,_,by rw[HEX.out];exact Tw7.out.eng⟩
set_option maxRecDepth 100000 in
set_option maxHeartbeats 8000000 in
theorem next_store{p:List Fnc}(hp:Right p){w0 w:World}{E:Nat}{pv FS ES AS:Value}{s:St}(h:EngAt w0 w E pv s FS ES AS)(hP:ProgAt w0 pv p)(hi:StInv p s)(hfu:s.fuel≠0){fs:List Fr}{f:Fr}(hf:s.frames=fs++[f])(h1:mkOk (insOf p f).op (f.reg (insOf p f).b)=false)(h2:(insOf p f).op=14)(h3:0≤f.reg (insOf p f).a)(h4:f.reg (insOf p f).a<16):
 Calls Tryd.prog 48 #[.pointer (some ⟨E,0,none⟩)] w fun e w' =>e= .returned (.tuple #[])∧∃FS' ES' AS',EngAt w0 w' E pv (execSt p s fs f) FS' ES' AS' :=by
 obtain⟨k,g,cap,pg,N,PC,cg,M,ccap,X⟩:=nx_of hp h hP hi hf
 have HX:=Lib.hid X
 have HM:=Lib.hid hi.mem
 have HR:Hid (∀x∈s.frames,x.regs.length=12):=Lib.hid (fun x hx=>(hi.fr x hx).regs)
 have hfs:=X.fs0
 subst hfs
 have hfu' :(s.fuel==0)=false:=by simpa using hfu
 have hk1:IntKind.i64.wrap (k:Int)=k:=by have:=X.k8;rw[IntKind.wrap_i64];omega
 have hk2:(k:Int)<k+1:=by omega
 have hk3:(0:Int)≤k:=by omega
 have e19:=X.e19
 have e2:=X.e2
 have e22:=X.e22
 have g0:=X.g0
 have g1:=X.g1
 have ga:=X.ga
 have gb:=X.gb
 have d2:=X.d2
 have c0:=X.c0
 have c1:=X.c1
 have c2:=X.c2
 have c3:=X.c3
 have c4:=X.c4
 have fn0:=X.fn0
 have fn1:=X.fn1
 have pc0:=X.pc0
 have pc1:=X.pc1
 have M40:=X.M40
 have dst0:=X.dst0
 have dst1:=X.dst1
 have a0:=X.a0
 have a1:=X.a1
 have b0:=X.b0
 have b1:=X.b1
 have lE:=X.lE
 have lg:=X.lg
 have lp:=X.lp
 have lc:=X.lc
 have hpw:IntKind.i64.wrap (f.pc+1)=f.pc+1:=by rw[IntKind.wrap_i64];omega
 have hfw:IntKind.i64.wrap (s.fuel-1)=s.fuel-1:=by have:=hi.fuel0;have:=hi.fuel1;rw[IntKind.wrap_i64];omega
 have fn2:f.fn.toNat<N:=by omega
 have pc2:f.pc.toNat<M:=by omega
 have HEX:=Lib.hid (show execSt p s fs f={topSt s fs (f.at (f.pc+1)) with mem:=s.mem.set (f.reg (insOf p f).a).toNat (f.reg (insOf p f).b)} from by unfold execSt;rw[if_neg (by simp[h1]),if_neg (by omega),if_neg (by omega),if_neg (by omega),if_pos h2])
 clear X h
 obtain⟨x,hx⟩:∃x,insOf p f=x:=⟨_,rfl⟩
 rw[hx] at ga gb c0 c1 c2 c3 c4 dst0 dst1 a0 a1 b0 b1 h1 h2 h3 h4
 rw[hx] at HEX
 have HXX:=Lib.hid hx
 clear hx
 obtain⟨op,dst,xa,xb,imm⟩:=x
 dsimp only at *
 subst h2
 go_enter Tryd.func48,Tryd.ntmps48
 go_wp2_with fail
 go_quiet (fail)
 obtain⟨w1,hw1⟩:∃w1,w.drewN nq=w1:=⟨_,rfl⟩
 rw[hw1]
 have X1:=HX.out.drewN nq
 rw[hw1] at X1
 clear hw1 HX e19 e2 e22 g0 g1 ga gb d2 c0 c1 c2 c3 c4 lE lg lp lc
 have e19:=X1.e19
 have e2:=X1.e2
 have e22:=X1.e22
 have g0:=X1.g0
 have g1:=X1.g1
 have ga:=X1.ga
 have gb:=X1.gb
 have d2:=X1.d2
 have c0:=X1.c0
 have c1:=X1.c1
 have c2:=X1.c2
 have c3:=X1.c3
 have c4:=X1.c4
 rw[HXX.out] at ga gb c0 c1 c2 c3 c4
 have lE:=X1.lE
 have lg:=X1.lg
 have lp:=X1.lp
 have lc:=X1.lc
 have HT2:Hid (∀w2,(w1.alloc (.cells #[.int .i64 (insOf p f).op, .int .i64 (insOf p f).dst, .int .i64 (insOf p f).a, .int .i64 (insOf p f).b, .int .i64 (insOf p f).imm] 58)).drew=w2→Top w0 w2 E pv s ES AS fs f k g cap w1.heap.size (insOf p f)):=Lib.hid (fun w2 h=>by
  rw[←h]
  exact⟨(X1.eng.alloc _).drew,hf,X1.hk,HR.out,HM.out,heap_alloc_new w1 _⟩)
 rw[HXX.out] at HT2
 clear X1
 dsimp only at ga gb c0 c1 c2 c3 c4
 go_wp2_with fail
 have KS:=Lib.hid (fun(w' :World) (hb:Below w1.heap.size w1 w')=>(⟨(hb.cell (p:=⟨E,22,none⟩) lE).trans e22,(hb.cell (p:=⟨g,_,none⟩) lg).trans g0,(hb.cell (p:=⟨pg,_,none⟩) lp).trans d2,(hb.cell (p:=⟨g,_,none⟩) lg).trans g1,(hb.cell (p:=⟨cg,_,none⟩) lc).trans c0,(hb.cell (p:=⟨cg,_,none⟩) lc).trans c1,(hb.cell (p:=⟨cg,_,none⟩) lc).trans c2,(hb.cell (p:=⟨cg,_,none⟩) lc).trans c3,(hb.cell (p:=⟨cg,_,none⟩) lc).trans c4⟩:w'.cell? ⟨E,22,none⟩=some (.slice (some ⟨pg,0,none⟩) N PC)∧w'.cell? ⟨g,k*14,none⟩=some (.int .i64 f.fn)∧w'.cell? ⟨pg,f.fn.toNat*3+2,none⟩=some (.slice (some ⟨cg,0,none⟩) M ccap)∧w'.cell? ⟨g,k*14+1,none⟩=some (.int .i64 f.pc)∧w'.cell? ⟨cg,f.pc.toNat*5,none⟩=some (.int .i64 14)∧w'.cell? ⟨cg,f.pc.toNat*5+1,none⟩=some (.int .i64 dst)∧w'.cell? ⟨cg,f.pc.toNat*5+2,none⟩=some (.int .i64 xa)∧w'.cell? ⟨cg,f.pc.toNat*5+3,none⟩=some (.int .i64 xb)∧w'.cell? ⟨cg,f.pc.toNat*5+4,none⟩=some (.int .i64 imm)))
 go_region_held3 (fun w' =>w'.cell? ⟨E,22,none⟩=some (.slice (some ⟨pg,0,none⟩) N PC)∧w'.cell? ⟨g,k*14,none⟩=some (.int .i64 f.fn)∧w'.cell? ⟨pg,f.fn.toNat*3+2,none⟩=some (.slice (some ⟨cg,0,none⟩) M ccap)∧w'.cell? ⟨g,k*14+1,none⟩=some (.int .i64 f.pc)∧w'.cell? ⟨cg,f.pc.toNat*5,none⟩=some (.int .i64 14)∧w'.cell? ⟨cg,f.pc.toNat*5+1,none⟩=some (.int .i64 dst)∧w'.cell? ⟨cg,f.pc.toNat*5+2,none⟩=some (.int .i64 xa)∧w'.cell? ⟨cg,f.pc.toNat*5+3,none⟩=some (.int .i64 xb)∧w'.cell? ⟨cg,f.pc.toNat*5+4,none⟩=some (.int .i64 imm)) (exact KS.out _ (by have hb:=Below.refl w1.heap.size w1;exact Bq)) (first|fail)
 all_goals (
  rename_i hHeld
  clear hHeld KS)
 obtain⟨w2,hw2⟩:∃w2,(w1.alloc (.cells #[.int .i64 14, .int .i64 dst, .int .i64 xa, .int .i64 xb, .int .i64 imm] 58)).drew=w2:=⟨_,rfl⟩
 rw[hw2]
 have Tw2:=Lib.hid (HT2.out w2 hw2)
 clear hw2 HT2 e19 e2 e22 g0 g1 ga gb d2 c0 c1 c2 c3 c4 lE lg lp lc fn0 fn1 pc1 fn2 pc2 hk1 hk2 hk3 hfu'
 obtain⟨I,hI⟩:∃I,w1.heap.size=I:=⟨_,rfl⟩
 rw[hI] at Tw2⊢
 clear hI
 have i2:=(Tw2.out.iC 2).trans rfl
 have i3:=(Tw2.out.iC 3).trans rfl
 have ga:=Tw2.out.cR a0 a1
 have gb:=Tw2.out.cR b0 b1
 go_wp2_with fail
 go_quiet (fail)
 obtain⟨w3,hw3⟩:∃w3,w2.drewN nq=w3:=⟨_,rfl⟩
 rw[hw3]
 have Tw3:Hid (Top w0 w3 E pv s ES AS fs f k g cap I ⟨14,dst,xa,xb,imm⟩):=Lib.hid (by rw[←hw3];exact Tw2.out.drewN nq)
 clear hw3 Tw2 i2 i3 ga gb
 have i0:=(Tw3.out.iC 0).trans rfl
 have i4:=(Tw3.out.iC 4).trans rfl
 have i1:=(Tw3.out.iC 1).trans rfl
 have qf:w3.cell? ⟨E,19,none⟩=some (.int .i64 s.fuel):=Tw3.out.e19
 have ff:=Tw3.out.eng.frozen 19
 go_wp2_with (first
  |(go_at_call 79;refine(spure_any _ _ _ _ _).mono ?_;rintro e w' ⟨rfl,rfl⟩)
  |(obtain⟨w4,hw4⟩:∃w4,w3.setCell ⟨E,19,none⟩ (.int .i64 (s.fuel-1))=w4:=⟨_,rfl⟩;rw[hw4];have Tw4:=Lib.hid (Tw3.out.fuel (s.fuel-1));rw[hw4] at Tw4;clear hw4 qf ff Tw3 i0 i1 i4;have i0:=(Tw4.out.iC 0).trans rfl;have qm:=Tw4.out.eng.cellM HM.out (i:=(f.reg xa).toNat) (by omega);have fm:=Tw4.out.eng.frozen (3+(f.reg xa).toNat))
  |(obtain⟨w5,hw5⟩:∃w5,w4.setCell ⟨E,3+(f.reg xa).toNat,none⟩ (.int .i64 (f.reg xb))=w5:=⟨_,rfl⟩;rw[hw5];have Tw5:=Lib.hid (Tw4.out.memo (i:=(f.reg xa).toNat) (by omega) (f.reg xb));rw[hw5] at Tw5;clear hw5 qm fm Tw4;have qp:w5.cell? ⟨g,k*14+1,none⟩=some (.int .i64 f.pc):=Tw5.out.c1;have fp:=Tw5.out.frz (k*14+1))
  |(obtain⟨w6,hw6⟩:∃w6,w5.setCell ⟨g,k*14+1,none⟩ (.int .i64 (f.pc+1))=w6:=⟨_,rfl⟩;rw[hw6];have Tw6:=Lib.hid (Tw5.out.pc (f.pc+1));rw[hw6] at Tw6;clear hw6 qp fp Tw5;skip))
 exact bodyPost_end (v:= .tuple #[]) (by simp[results,Tryd.results48,go_sem]) rfl ⟨rfl,_,_,_,by rw[HEX.out];exact Tw6.out.eng⟩
set_option maxRecDepth 100000 in
set_option maxHeartbeats 8000000 in
theorem next_jump{p:List Fnc}(hp:Right p){w0 w:World}{E:Nat}{pv FS ES AS:Value}{s:St}(h:EngAt w0 w E pv s FS ES AS)(hP:ProgAt w0 pv p)(hi:StInv p s)(hfu:s.fuel≠0){fs:List Fr}{f:Fr}(hf:s.frames=fs++[f])(h1:mkOk (insOf p f).op (f.reg (insOf p f).b)=false)(h2:(insOf p f).op=15):
 Calls Tryd.prog 48 #[.pointer (some ⟨E,0,none⟩)] w fun e w' =>e= .returned (.tuple #[])∧∃FS' ES' AS',EngAt w0 w' E pv (execSt p s fs f) FS' ES' AS' :=by
 obtain⟨k,g,cap,pg,N,PC,cg,M,ccap,X⟩:=nx_of hp h hP hi hf
 have HX:=Lib.hid X
 have HM:=Lib.hid hi.mem
 have HR:Hid (∀x∈s.frames,x.regs.length=12):=Lib.hid (fun x hx=>(hi.fr x hx).regs)
 have hfs:=X.fs0
 subst hfs
 have hfu' :(s.fuel==0)=false:=by simpa using hfu
 have hk1:IntKind.i64.wrap (k:Int)=k:=by have:=X.k8;rw[IntKind.wrap_i64];omega
 have hk2:(k:Int)<k+1:=by omega
 have hk3:(0:Int)≤k:=by omega
 have e19:=X.e19
 have e2:=X.e2
 have e22:=X.e22
 have g0:=X.g0
 have g1:=X.g1
 have ga:=X.ga
 have gb:=X.gb
 have d2:=X.d2
 have c0:=X.c0
 have c1:=X.c1
 have c2:=X.c2
 have c3:=X.c3
 have c4:=X.c4
 have fn0:=X.fn0
 have fn1:=X.fn1
 have pc0:=X.pc0
 have pc1:=X.pc1
 have M40:=X.M40
 have dst0:=X.dst0
 have dst1:=X.dst1
 have a0:=X.a0
 have a1:=X.a1
 have b0:=X.b0
 have b1:=X.b1
 have lE:=X.lE
 have lg:=X.lg
 have lp:=X.lp
 have lc:=X.lc
 have hpw:IntKind.i64.wrap (f.pc+1)=f.pc+1:=by rw[IntKind.wrap_i64];omega
 have hfw:IntKind.i64.wrap (s.fuel-1)=s.fuel-1:=by have:=hi.fuel0;have:=hi.fuel1;rw[IntKind.wrap_i64];omega
 have fn2:f.fn.toNat<N:=by omega
 have pc2:f.pc.toNat<M:=by omega
 have HEX:=Lib.hid (show execSt p s fs f=topSt s fs (f.at (insOf p f).imm) from by unfold execSt;rw[if_neg (by simp[h1]),if_neg (by omega),if_neg (by omega),if_neg (by omega),if_neg (by omega),if_pos h2])
 clear X h
 obtain⟨x,hx⟩:∃x,insOf p f=x:=⟨_,rfl⟩
 rw[hx] at ga gb c0 c1 c2 c3 c4 dst0 dst1 a0 a1 b0 b1 h1 h2
 rw[hx] at HEX
 have HXX:=Lib.hid hx
 clear hx
 obtain⟨op,dst,xa,xb,imm⟩:=x
 dsimp only at *
 subst h2
 go_enter Tryd.func48,Tryd.ntmps48
 go_wp2_with fail
 go_quiet (fail)
 obtain⟨w1,hw1⟩:∃w1,w.drewN nq=w1:=⟨_,rfl⟩
 rw[hw1]
 have X1:=HX.out.drewN nq
 rw[hw1] at X1
 clear hw1 HX e19 e2 e22 g0 g1 ga gb d2 c0 c1 c2 c3 c4 lE lg lp lc
 have e19:=X1.e19
 have e2:=X1.e2
 have e22:=X1.e22
 have g0:=X1.g0
 have g1:=X1.g1
 have ga:=X1.ga
 have gb:=X1.gb
 have d2:=X1.d2
 have c0:=X1.c0
 have c1:=X1.c1
 have c2:=X1.c2
 have c3:=X1.c3
 have c4:=X1.c4
 rw[HXX.out] at ga gb c0 c1 c2 c3 c4
 have lE:=X1.lE
 have lg:=X1.lg
 have lp:=X1.lp
 have lc:=X1.lc
 have HT2:Hid (∀w2,(w1.alloc (.cells #[.int .i64 (insOf p f).op, .int .i64 (insOf p f).dst, .int .i64 (insOf p f).a, .int .i64 (insOf p f).b, .int .i64 (insOf p f).imm] 58)).drew=w2→Top w0 w2 E pv s ES AS fs f k g cap w1.heap.size (insOf p f)):=Lib.hid (fun w2 h=>by
  rw[←h]
  exact⟨(X1.eng.alloc _).drew,hf,X1.hk,HR.out,HM.out,heap_alloc_new w1 _⟩)
 rw[HXX.out] at HT2
 clear X1
 dsimp only at ga gb c0 c1 c2 c3 c4
 go_wp2_with fail
 have KS:=Lib.hid (fun(w' :World) (hb:Below w1.heap.size w1 w')=>(⟨(hb.cell (p:=⟨E,22,none⟩) lE).trans e22,(hb.cell (p:=⟨g,_,none⟩) lg).trans g0,(hb.cell (p:=⟨pg,_,none⟩) lp).trans d2,(hb.cell (p:=⟨g,_,none⟩) lg).trans g1,(hb.cell (p:=⟨cg,_,none⟩) lc).trans c0,(hb.cell (p:=⟨cg,_,none⟩) lc).trans c1,(hb.cell (p:=⟨cg,_,none⟩) lc).trans c2,(hb.cell (p:=⟨cg,_,none⟩) lc).trans c3,(hb.cell (p:=⟨cg,_,none⟩) lc).trans c4⟩:w'.cell? ⟨E,22,none⟩=some (.slice (some ⟨pg,0,none⟩) N PC)∧w'.cell? ⟨g,k*14,none⟩=some (.int .i64 f.fn)∧w'.cell? ⟨pg,f.fn.toNat*3+2,none⟩=some (.slice (some ⟨cg,0,none⟩) M ccap)∧w'.cell? ⟨g,k*14+1,none⟩=some (.int .i64 f.pc)∧w'.cell? ⟨cg,f.pc.toNat*5,none⟩=some (.int .i64 15)∧w'.cell? ⟨cg,f.pc.toNat*5+1,none⟩=some (.int .i64 dst)∧w'.cell? ⟨cg,f.pc.toNat*5+2,none⟩=some (.int .i64 xa)∧w'.cell? ⟨cg,f.pc.toNat*5+3,none⟩=some (.int .i64 xb)∧w'.cell? ⟨cg,f.pc.toNat*5+4,none⟩=some (.int .i64 imm)))
 go_region_held3 (fun w' =>w'.cell? ⟨E,22,none⟩=some (.slice (some ⟨pg,0,none⟩) N PC)∧w'.cell? ⟨g,k*14,none⟩=some (.int .i64 f.fn)∧w'.cell? ⟨pg,f.fn.toNat*3+2,none⟩=some (.slice (some ⟨cg,0,none⟩) M ccap)∧w'.cell? ⟨g,k*14+1,none⟩=some (.int .i64 f.pc)∧w'.cell? ⟨cg,f.pc.toNat*5,none⟩=some (.int .i64 15)∧w'.cell? ⟨cg,f.pc.toNat*5+1,none⟩=some (.int .i64 dst)∧w'.cell? ⟨cg,f.pc.toNat*5+2,none⟩=some (.int .i64 xa)∧w'.cell? ⟨cg,f.pc.toNat*5+3,none⟩=some (.int .i64 xb)∧w'.cell? ⟨cg,f.pc.toNat*5+4,none⟩=some (.int .i64 imm)) (exact KS.out _ (by have hb:=Below.refl w1.heap.size w1;exact Bq)) (first|fail)
 all_goals (
  rename_i hHeld
  clear hHeld KS)
 obtain⟨w2,hw2⟩:∃w2,(w1.alloc (.cells #[.int .i64 15, .int .i64 dst, .int .i64 xa, .int .i64 xb, .int .i64 imm] 58)).drew=w2:=⟨_,rfl⟩
 rw[hw2]
 have Tw2:=Lib.hid (HT2.out w2 hw2)
 clear hw2 HT2 e19 e2 e22 g0 g1 ga gb d2 c0 c1 c2 c3 c4 lE lg lp lc fn0 fn1 pc1 fn2 pc2 hk1 hk2 hk3 hfu'
 obtain⟨I,hI⟩:∃I,w1.heap.size=I:=⟨_,rfl⟩
 rw[hI] at Tw2⊢
 clear hI
 have i2:=(Tw2.out.iC 2).trans rfl
 have i3:=(Tw2.out.iC 3).trans rfl
 have ga:=Tw2.out.cR a0 a1
 have gb:=Tw2.out.cR b0 b1
 go_wp2_with fail
 go_quiet (fail)
 obtain⟨w3,hw3⟩:∃w3,w2.drewN nq=w3:=⟨_,rfl⟩
 rw[hw3]
 have Tw3:Hid (Top w0 w3 E pv s ES AS fs f k g cap I ⟨15,dst,xa,xb,imm⟩):=Lib.hid (by rw[←hw3];exact Tw2.out.drewN nq)
 clear hw3 Tw2 i2 i3 ga gb
 have i0:=(Tw3.out.iC 0).trans rfl
 have i4:=(Tw3.out.iC 4).trans rfl
 have i1:=(Tw3.out.iC 1).trans rfl
 have qf:w3.cell? ⟨E,19,none⟩=some (.int .i64 s.fuel):=Tw3.out.e19
 have ff:=Tw3.out.eng.frozen 19
 go_wp2_with (first
  |(go_at_call 79;refine(spure_any _ _ _ _ _).mono ?_;rintro e w' ⟨rfl,rfl⟩)
  |(obtain⟨w4,hw4⟩:∃w4,w3.setCell ⟨E,19,none⟩ (.int .i64 (s.fuel-1))=w4:=⟨_,rfl⟩;rw[hw4];have Tw4:=Lib.hid (Tw3.out.fuel (s.fuel-1));rw[hw4] at Tw4;clear hw4 qf ff Tw3 i0 i1 i4;have i0:=(Tw4.out.iC 0).trans rfl;have i4:=(Tw4.out.iC 4).trans rfl;have qp:w4.cell? ⟨g,k*14+1,none⟩=some (.int .i64 f.pc):=Tw4.out.c1;have fp:=Tw4.out.frz (k*14+1))
  |(obtain⟨w5,hw5⟩:∃w5,w4.setCell ⟨g,k*14+1,none⟩ (.int .i64 imm)=w5:=⟨_,rfl⟩;rw[hw5];have Tw5:=Lib.hid (Tw4.out.pc imm);rw[hw5] at Tw5;clear hw5 qp fp Tw4;skip))
 exact bodyPost_end (v:= .tuple #[]) (by simp[results,Tryd.results48,go_sem]) rfl ⟨rfl,_,_,_,by rw[HEX.out];exact Tw5.out.eng⟩
set_option maxRecDepth 100000 in
set_option maxHeartbeats 8000000 in
theorem next_if0{p:List Fnc}(hp:Right p){w0 w:World}{E:Nat}{pv FS ES AS:Value}{s:St}(h:EngAt w0 w E pv s FS ES AS)(hP:ProgAt w0 pv p)(hi:StInv p s)(hfu:s.fuel≠0){fs:List Fr}{f:Fr}(hf:s.frames=fs++[f])(h1:mkOk (insOf p f).op (f.reg (insOf p f).b)=false)(h2:(insOf p f).op=16)(h3:f.reg (insOf p f).a=0):
 Calls Tryd.prog 48 #[.pointer (some ⟨E,0,none⟩)] w fun e w' =>e= .returned (.tuple #[])∧∃FS' ES' AS',EngAt w0 w' E pv (execSt p s fs f) FS' ES' AS' :=by
 obtain⟨k,g,cap,pg,N,PC,cg,M,ccap,X⟩:=nx_of hp h hP hi hf
 have HX:=Lib.hid X
 have HM:=Lib.hid hi.mem
 have HR:Hid (∀x∈s.frames,x.regs.length=12):=Lib.hid (fun x hx=>(hi.fr x hx).regs)
 have hfs:=X.fs0
 subst hfs
 have hfu' :(s.fuel==0)=false:=by simpa using hfu
 have hk1:IntKind.i64.wrap (k:Int)=k:=by have:=X.k8;rw[IntKind.wrap_i64];omega
 have hk2:(k:Int)<k+1:=by omega
 have hk3:(0:Int)≤k:=by omega
 have e19:=X.e19
 have e2:=X.e2
 have e22:=X.e22
 have g0:=X.g0
 have g1:=X.g1
 have ga:=X.ga
 have gb:=X.gb
 have d2:=X.d2
 have c0:=X.c0
 have c1:=X.c1
 have c2:=X.c2
 have c3:=X.c3
 have c4:=X.c4
 have fn0:=X.fn0
 have fn1:=X.fn1
 have pc0:=X.pc0
 have pc1:=X.pc1
 have M40:=X.M40
 have dst0:=X.dst0
 have dst1:=X.dst1
 have a0:=X.a0
 have a1:=X.a1
 have b0:=X.b0
 have b1:=X.b1
 have lE:=X.lE
 have lg:=X.lg
 have lp:=X.lp
 have lc:=X.lc
 have hpw:IntKind.i64.wrap (f.pc+1)=f.pc+1:=by rw[IntKind.wrap_i64];omega
 have hfw:IntKind.i64.wrap (s.fuel-1)=s.fuel-1:=by have:=hi.fuel0;have:=hi.fuel1;rw[IntKind.wrap_i64];omega
 have fn2:f.fn.toNat<N:=by omega
 have pc2:f.pc.toNat<M:=by omega
 have HEX:=Lib.hid (show execSt p s fs f=topSt s fs (f.at (f.pc+1)) from by unfold execSt;rw[if_neg (by simp[h1]),if_neg (by omega),if_neg (by omega),if_neg (by omega),if_neg (by omega),if_neg (by omega),if_pos h2,if_pos h3])
 clear X h
 obtain⟨x,hx⟩:∃x,insOf p f=x:=⟨_,rfl⟩
 rw[hx] at ga gb c0 c1 c2 c3 c4 dst0 dst1 a0 a1 b0 b1 h1 h2 h3
 have HXX:=Lib.hid hx
 clear hx
 obtain⟨op,dst,xa,xb,imm⟩:=x
 dsimp only at *
 subst h2
 go_enter Tryd.func48,Tryd.ntmps48
 go_wp2_with fail
 go_quiet (fail)
 obtain⟨w1,hw1⟩:∃w1,w.drewN nq=w1:=⟨_,rfl⟩
 rw[hw1]
 have X1:=HX.out.drewN nq
 rw[hw1] at X1
 clear hw1 HX e19 e2 e22 g0 g1 ga gb d2 c0 c1 c2 c3 c4 lE lg lp lc
 have e19:=X1.e19
 have e2:=X1.e2
 have e22:=X1.e22
 have g0:=X1.g0
 have g1:=X1.g1
 have ga:=X1.ga
 have gb:=X1.gb
 have d2:=X1.d2
 have c0:=X1.c0
 have c1:=X1.c1
 have c2:=X1.c2
 have c3:=X1.c3
 have c4:=X1.c4
 rw[HXX.out] at ga gb c0 c1 c2 c3 c4
 have lE:=X1.lE
 have lg:=X1.lg
 have lp:=X1.lp
 have lc:=X1.lc
 have HT2:Hid (∀w2,(w1.alloc (.cells #[.int .i64 (insOf p f).op, .int .i64 (insOf p f).dst, .int .i64 (insOf p f).a, .int .i64 (insOf p f).b, .int .i64 (insOf p f).imm] 58)).drew=w2→Top w0 w2 E pv s ES AS fs f k g cap w1.heap.size (insOf p f)):=Lib.hid (fun w2 h=>by
  rw[←h]
  exact⟨(X1.eng.alloc _).drew,hf,X1.hk,HR.out,HM.out,heap_alloc_new w1 _⟩)
 rw[HXX.out] at HT2
 clear X1
 dsimp only at ga gb c0 c1 c2 c3 c4
 go_wp2_with fail
 have KS:=Lib.hid (fun(w' :World) (hb:Below w1.heap.size w1 w')=>(⟨(hb.cell (p:=⟨E,22,none⟩) lE).trans e22,(hb.cell (p:=⟨g,_,none⟩) lg).trans g0,(hb.cell (p:=⟨pg,_,none⟩) lp).trans d2,(hb.cell (p:=⟨g,_,none⟩) lg).trans g1,(hb.cell (p:=⟨cg,_,none⟩) lc).trans c0,(hb.cell (p:=⟨cg,_,none⟩) lc).trans c1,(hb.cell (p:=⟨cg,_,none⟩) lc).trans c2,(hb.cell (p:=⟨cg,_,none⟩) lc).trans c3,(hb.cell (p:=⟨cg,_,none⟩) lc).trans c4⟩:w'.cell? ⟨E,22,none⟩=some (.slice (some ⟨pg,0,none⟩) N PC)∧w'.cell? ⟨g,k*14,none⟩=some (.int .i64 f.fn)∧w'.cell? ⟨pg,f.fn.toNat*3+2,none⟩=some (.slice (some ⟨cg,0,none⟩) M ccap)∧w'.cell? ⟨g,k*14+1,none⟩=some (.int .i64 f.pc)∧w'.cell? ⟨cg,f.pc.toNat*5,none⟩=some (.int .i64 16)∧w'.cell? ⟨cg,f.pc.toNat*5+1,none⟩=some (.int .i64 dst)∧w'.cell? ⟨cg,f.pc.toNat*5+2,none⟩=some (.int .i64 xa)∧w'.cell? ⟨cg,f.pc.toNat*5+3,none⟩=some (.int .i64 xb)∧w'.cell? ⟨cg,f.pc.toNat*5+4,none⟩=some (.int .i64 imm)))
 go_region_held3 (fun w' =>w'.cell? ⟨E,22,none⟩=some (.slice (some ⟨pg,0,none⟩) N PC)∧w'.cell? ⟨g,k*14,none⟩=some (.int .i64 f.fn)∧w'.cell? ⟨pg,f.fn.toNat*3+2,none⟩=some (.slice (some ⟨cg,0,none⟩) M ccap)∧w'.cell? ⟨g,k*14+1,none⟩=some (.int .i64 f.pc)∧w'.cell? ⟨cg,f.pc.toNat*5,none⟩=some (.int .i64 16)∧w'.cell? ⟨cg,f.pc.toNat*5+1,none⟩=some (.int .i64 dst)∧w'.cell? ⟨cg,f.pc.toNat*5+2,none⟩=some (.int .i64 xa)∧w'.cell? ⟨cg,f.pc.toNat*5+3,none⟩=some (.int .i64 xb)∧w'.cell? ⟨cg,f.pc.toNat*5+4,none⟩=some (.int .i64 imm)) (exact KS.out _ (by have hb:=Below.refl w1.heap.size w1;exact Bq)) (first|fail)
 all_goals (
  rename_i hHeld
  clear hHeld KS)
 obtain⟨w2,hw2⟩:∃w2,(w1.alloc (.cells #[.int .i64 16, .int .i64 dst, .int .i64 xa, .int .i64 xb, .int .i64 imm] 58)).drew=w2:=⟨_,rfl⟩
 rw[hw2]
 have Tw2:=Lib.hid (HT2.out w2 hw2)
 clear hw2 HT2 e19 e2 e22 g0 g1 ga gb d2 c0 c1 c2 c3 c4 lE lg lp lc fn0 fn1 pc1 fn2 pc2 hk1 hk2 hk3 hfu'
 obtain⟨I,hI⟩:∃I,w1.heap.size=I:=⟨_,rfl⟩
 rw[hI] at Tw2⊢
 clear hI
 have i2:=(Tw2.out.iC 2).trans rfl
 have i3:=(Tw2.out.iC 3).trans rfl
 have ga:=Tw2.out.cR a0 a1
 have gb:=Tw2.out.cR b0 b1
 go_wp2_with fail
 go_quiet (fail)
 obtain⟨w3,hw3⟩:∃w3,w2.drewN nq=w3:=⟨_,rfl⟩
 rw[hw3]
 have Tw3:Hid (Top w0 w3 E pv s ES AS fs f k g cap I ⟨16,dst,xa,xb,imm⟩):=Lib.hid (by rw[←hw3];exact Tw2.out.drewN nq)
 clear hw3 Tw2 i2 i3 ga gb
 have i0:=(Tw3.out.iC 0).trans rfl
 have i4:=(Tw3.out.iC 4).trans rfl
 have i1:=(Tw3.out.iC 1).trans rfl
 have qf:w3.cell? ⟨E,19,none⟩=some (.int .i64 s.fuel):=Tw3.out.e19
 have ff:=Tw3.out.eng.frozen 19
 have hz:(f.reg xa !=0)=false:=by simp[h3]
 go_wp2_with (first
  |(go_at_call 79;refine(spure_any _ _ _ _ _).mono ?_;rintro e w' ⟨rfl,rfl⟩)
  |(obtain⟨w4,hw4⟩:∃w4,w3.setCell ⟨E,19,none⟩ (.int .i64 (s.fuel-1))=w4:=⟨_,rfl⟩;rw[hw4];have Tw4:=Lib.hid (Tw3.out.fuel (s.fuel-1));rw[hw4] at Tw4;clear hw4 qf ff Tw3 i0 i1 i4;have i0:=(Tw4.out.iC 0).trans rfl;have qp:w4.cell? ⟨g,k*14+1,none⟩=some (.int .i64 f.pc):=Tw4.out.c1;have fp:=Tw4.out.frz (k*14+1))
  |(obtain⟨w5,hw5⟩:∃w5,w4.setCell ⟨g,k*14+1,none⟩ (.int .i64 (f.pc+1))=w5:=⟨_,rfl⟩;rw[hw5];have Tw5:=Lib.hid (Tw4.out.pc (f.pc+1));rw[hw5] at Tw5;clear hw5 qp fp Tw4;skip))
 exact bodyPost_end (v:= .tuple #[]) (by simp[results,Tryd.results48,go_sem]) rfl ⟨rfl,_,_,_,by rw[HEX.out];exact Tw5.out.eng⟩
set_option maxRecDepth 100000 in
set_option maxHeartbeats 8000000 in
theorem next_if1{p:List Fnc}(hp:Right p){w0 w:World}{E:Nat}{pv FS ES AS:Value}{s:St}(h:EngAt w0 w E pv s FS ES AS)(hP:ProgAt w0 pv p)(hi:StInv p s)(hfu:s.fuel≠0){fs:List Fr}{f:Fr}(hf:s.frames=fs++[f])(h1:mkOk (insOf p f).op (f.reg (insOf p f).b)=false)(h2:(insOf p f).op=16)(h3:f.reg (insOf p f).a≠0):
 Calls Tryd.prog 48 #[.pointer (some ⟨E,0,none⟩)] w fun e w' =>e= .returned (.tuple #[])∧∃FS' ES' AS',EngAt w0 w' E pv (execSt p s fs f) FS' ES' AS' :=by
 obtain⟨k,g,cap,pg,N,PC,cg,M,ccap,X⟩:=nx_of hp h hP hi hf
 have HX:=Lib.hid X
 have HM:=Lib.hid hi.mem
 have HR:Hid (∀x∈s.frames,x.regs.length=12):=Lib.hid (fun x hx=>(hi.fr x hx).regs)
 have hfs:=X.fs0
 subst hfs
 have hfu' :(s.fuel==0)=false:=by simpa using hfu
 have hk1:IntKind.i64.wrap (k:Int)=k:=by have:=X.k8;rw[IntKind.wrap_i64];omega
 have hk2:(k:Int)<k+1:=by omega
 have hk3:(0:Int)≤k:=by omega
 have e19:=X.e19
 have e2:=X.e2
 have e22:=X.e22
 have g0:=X.g0
 have g1:=X.g1
 have ga:=X.ga
 have gb:=X.gb
 have d2:=X.d2
 have c0:=X.c0
 have c1:=X.c1
 have c2:=X.c2
 have c3:=X.c3
 have c4:=X.c4
 have fn0:=X.fn0
 have fn1:=X.fn1
 have pc0:=X.pc0
 have pc1:=X.pc1
 have M40:=X.M40
 have dst0:=X.dst0
 have dst1:=X.dst1
 have a0:=X.a0
 have a1:=X.a1
 have b0:=X.b0
 have b1:=X.b1
 have lE:=X.lE
 have lg:=X.lg
 have lp:=X.lp
 have lc:=X.lc
 have hpw:IntKind.i64.wrap (f.pc+1)=f.pc+1:=by rw[IntKind.wrap_i64];omega
 have hfw:IntKind.i64.wrap (s.fuel-1)=s.fuel-1:=by have:=hi.fuel0;have:=hi.fuel1;rw[IntKind.wrap_i64];omega
 have fn2:f.fn.toNat<N:=by omega
 have pc2:f.pc.toNat<M:=by omega
 have HEX:=Lib.hid (show execSt p s fs f=topSt s fs (f.at (insOf p f).imm) from by unfold execSt;rw[if_neg (by simp[h1]),if_neg (by omega),if_neg (by omega),if_neg (by omega),if_neg (by omega),if_neg (by omega),if_pos h2,if_neg h3])
 clear X h
 obtain⟨x,hx⟩:∃x,insOf p f=x:=⟨_,rfl⟩
 rw[hx] at ga gb c0 c1 c2 c3 c4 dst0 dst1 a0 a1 b0 b1 h1 h2 h3
 rw[hx] at HEX
 have HXX:=Lib.hid hx
 clear hx
 obtain⟨op,dst,xa,xb,imm⟩:=x
 dsimp only at *
 subst h2
 go_enter Tryd.func48,Tryd.ntmps48
 go_wp2_with fail
 go_quiet (fail)
 obtain⟨w1,hw1⟩:∃w1,w.drewN nq=w1:=⟨_,rfl⟩
 rw[hw1]
 have X1:=HX.out.drewN nq
 rw[hw1] at X1
 clear hw1 HX e19 e2 e22 g0 g1 ga gb d2 c0 c1 c2 c3 c4 lE lg lp lc
 have e19:=X1.e19
 have e2:=X1.e2
 have e22:=X1.e22
 have g0:=X1.g0
 have g1:=X1.g1
 have ga:=X1.ga
 have gb:=X1.gb
 have d2:=X1.d2
 have c0:=X1.c0
 have c1:=X1.c1
 have c2:=X1.c2
 have c3:=X1.c3
 have c4:=X1.c4
 rw[HXX.out] at ga gb c0 c1 c2 c3 c4
 have lE:=X1.lE
 have lg:=X1.lg
 have lp:=X1.lp
 have lc:=X1.lc
 have HT2:Hid (∀w2,(w1.alloc (.cells #[.int .i64 (insOf p f).op, .int .i64 (insOf p f).dst, .int .i64 (insOf p f).a, .int .i64 (insOf p f).b, .int .i64 (insOf p f).imm] 58)).drew=w2→Top w0 w2 E pv s ES AS fs f k g cap w1.heap.size (insOf p f)):=Lib.hid (fun w2 h=>by
  rw[←h]
  exact⟨(X1.eng.alloc _).drew,hf,X1.hk,HR.out,HM.out,heap_alloc_new w1 _⟩)
 rw[HXX.out] at HT2
 clear X1
 dsimp only at ga gb c0 c1 c2 c3 c4
 go_wp2_with fail
 have KS:=Lib.hid (fun(w' :World) (hb:Below w1.heap.size w1 w')=>(⟨(hb.cell (p:=⟨E,22,none⟩) lE).trans e22,(hb.cell (p:=⟨g,_,none⟩) lg).trans g0,(hb.cell (p:=⟨pg,_,none⟩) lp).trans d2,(hb.cell (p:=⟨g,_,none⟩) lg).trans g1,(hb.cell (p:=⟨cg,_,none⟩) lc).trans c0,(hb.cell (p:=⟨cg,_,none⟩) lc).trans c1,(hb.cell (p:=⟨cg,_,none⟩) lc).trans c2,(hb.cell (p:=⟨cg,_,none⟩) lc).trans c3,(hb.cell (p:=⟨cg,_,none⟩) lc).trans c4⟩:w'.cell? ⟨E,22,none⟩=some (.slice (some ⟨pg,0,none⟩) N PC)∧w'.cell? ⟨g,k*14,none⟩=some (.int .i64 f.fn)∧w'.cell? ⟨pg,f.fn.toNat*3+2,none⟩=some (.slice (some ⟨cg,0,none⟩) M ccap)∧w'.cell? ⟨g,k*14+1,none⟩=some (.int .i64 f.pc)∧w'.cell? ⟨cg,f.pc.toNat*5,none⟩=some (.int .i64 16)∧w'.cell? ⟨cg,f.pc.toNat*5+1,none⟩=some (.int .i64 dst)∧w'.cell? ⟨cg,f.pc.toNat*5+2,none⟩=some (.int .i64 xa)∧w'.cell? ⟨cg,f.pc.toNat*5+3,none⟩=some (.int .i64 xb)∧w'.cell? ⟨cg,f.pc.toNat*5+4,none⟩=some (.int .i64 imm)))
 go_region_held3 (fun w' =>w'.cell? ⟨E,22,none⟩=some (.slice (some ⟨pg,0,none⟩) N PC)∧w'.cell? ⟨g,k*14,none⟩=some (.int .i64 f.fn)∧w'.cell? ⟨pg,f.fn.toNat*3+2,none⟩=some (.slice (some ⟨cg,0,none⟩) M ccap)∧w'.cell? ⟨g,k*14+1,none⟩=some (.int .i64 f.pc)∧w'.cell? ⟨cg,f.pc.toNat*5,none⟩=some (.int .i64 16)∧w'.cell? ⟨cg,f.pc.toNat*5+1,none⟩=some (.int .i64 dst)∧w'.cell? ⟨cg,f.pc.toNat*5+2,none⟩=some (.int .i64 xa)∧w'.cell? ⟨cg,f.pc.toNat*5+3,none⟩=some (.int .i64 xb)∧w'.cell? ⟨cg,f.pc.toNat*5+4,none⟩=some (.int .i64 imm)) (exact KS.out _ (by have hb:=Below.refl w1.heap.size w1;exact Bq)) (first|fail)
 all_goals (
  rename_i hHeld
  clear hHeld KS)
 obtain⟨w2,hw2⟩:∃w2,(w1.alloc (.cells #[.int .i64 16, .int .i64 dst, .int .i64 xa, .int .i64 xb, .int .i64 imm] 58)).drew=w2:=⟨_,rfl⟩
 rw[hw2]
 have Tw2:=Lib.hid (HT2.out w2 hw2)
 clear hw2 HT2 e19 e2 e22 g0 g1 ga gb d2 c0 c1 c2 c3 c4 lE lg lp lc fn0 fn1 pc1 fn2 pc2 hk1 hk2 hk3 hfu'
 obtain⟨I,hI⟩:∃I,w1.heap.size=I:=⟨_,rfl⟩
 rw[hI] at Tw2⊢
 clear hI
 have i2:=(Tw2.out.iC 2).trans rfl
 have i3:=(Tw2.out.iC 3).trans rfl
 have ga:=Tw2.out.cR a0 a1
 have gb:=Tw2.out.cR b0 b1
 go_wp2_with fail
 go_quiet (fail)
 obtain⟨w3,hw3⟩:∃w3,w2.drewN nq=w3:=⟨_,rfl⟩
 rw[hw3]
 have Tw3:Hid (Top w0 w3 E pv s ES AS fs f k g cap I ⟨16,dst,xa,xb,imm⟩):=Lib.hid (by rw[←hw3];exact Tw2.out.drewN nq)
 clear hw3 Tw2 i2 i3 ga gb
 have i0:=(Tw3.out.iC 0).trans rfl
 have i4:=(Tw3.out.iC 4).trans rfl
 have i1:=(Tw3.out.iC 1).trans rfl
 have qf:w3.cell? ⟨E,19,none⟩=some (.int .i64 s.fuel):=Tw3.out.e19
 have ff:=Tw3.out.eng.frozen 19
 have hz:(f.reg xa !=0)=true:=by simpa using h3
 go_wp2_with (first
  |(go_at_call 79;refine(spure_any _ _ _ _ _).mono ?_;rintro e w' ⟨rfl,rfl⟩)
  |(obtain⟨w4,hw4⟩:∃w4,w3.setCell ⟨E,19,none⟩ (.int .i64 (s.fuel-1))=w4:=⟨_,rfl⟩;rw[hw4];have Tw4:=Lib.hid (Tw3.out.fuel (s.fuel-1));rw[hw4] at Tw4;clear hw4 qf ff Tw3 i0 i1 i4;have i0:=(Tw4.out.iC 0).trans rfl;have qp:w4.cell? ⟨g,k*14+1,none⟩=some (.int .i64 f.pc):=Tw4.out.c1;have fp:=Tw4.out.frz (k*14+1))
  |(obtain⟨w5,hw5⟩:∃w5,w4.setCell ⟨g,k*14+1,none⟩ (.int .i64 (f.pc+1))=w5:=⟨_,rfl⟩;rw[hw5];have Tw5:=Lib.hid (Tw4.out.pc (f.pc+1));rw[hw5] at Tw5;clear hw5 qp fp Tw4;have i4:=(Tw5.out.iC 4).trans rfl;have qp:w5.cell? ⟨g,k*14+1,none⟩=some (.int .i64 (f.pc+1)):=Tw5.out.c1;have fp:=Tw5.out.frz (k*14+1))
  |(obtain⟨w6,hw6⟩:∃w6,w5.setCell ⟨g,k*14+1,none⟩ (.int .i64 imm)=w6:=⟨_,rfl⟩;rw[hw6];have Tw6:=Lib.hid (Tw5.out.pc imm);rw[hw6] at Tw6;clear hw6 qp fp Tw5;skip))
 exact bodyPost_end (v:= .tuple #[]) (by simp[results,Tryd.results48,go_sem]) rfl ⟨rfl,_,_,_,by rw[HEX.out];exact Tw6.out.eng⟩
set_option maxRecDepth 100000 in
set_option maxHeartbeats 8000000 in
theorem next_deep{p:List Fnc}(hp:Right p){w0 w:World}{E:Nat}{pv FS ES AS:Value}{s:St}(h:EngAt w0 w E pv s FS ES AS)(hP:ProgAt w0 pv p)(hi:StInv p s)(hfu:s.fuel≠0){fs:List Fr}{f:Fr}(hf:s.frames=fs++[f])(h1:mkOk (insOf p f).op (f.reg (insOf p f).b)=false)(h2:(insOf p f).op=17)(h3:fs.length+1=8):
 Calls Tryd.prog 48 #[.pointer (some ⟨E,0,none⟩)] w fun e w' =>e= .returned (.tuple #[])∧∃FS' ES' AS',EngAt w0 w' E pv (execSt p s fs f) FS' ES' AS' :=by
 obtain⟨k,g,cap,pg,N,PC,cg,M,ccap,X⟩:=nx_of hp h hP hi hf
 have HX:=Lib.hid X
 have HM:=Lib.hid hi.mem
 have HR:Hid (∀x∈s.frames,x.regs.length=12):=Lib.hid (fun x hx=>(hi.fr x hx).regs)
 have hfs:=X.fs0
 subst hfs
 have hfu' :(s.fuel==0)=false:=by simpa using hfu
 have hk1:IntKind.i64.wrap (k:Int)=k:=by have:=X.k8;rw[IntKind.wrap_i64];omega
 have hk2:(k:Int)<k+1:=by omega
 have hk3:(0:Int)≤k:=by omega
 have e19:=X.e19
 have e2:=X.e2
 have e22:=X.e22
 have g0:=X.g0
 have g1:=X.g1
 have ga:=X.ga
 have gb:=X.gb
 have d2:=X.d2
 have c0:=X.c0
 have c1:=X.c1
 have c2:=X.c2
 have c3:=X.c3
 have c4:=X.c4
 have fn0:=X.fn0
 have fn1:=X.fn1
 have pc0:=X.pc0
 have pc1:=X.pc1
 have M40:=X.M40
 have dst0:=X.dst0
 have dst1:=X.dst1
 have a0:=X.a0
 have a1:=X.a1
 have b0:=X.b0
 have b1:=X.b1
 have lE:=X.lE
 have lg:=X.lg
 have lp:=X.lp
 have lc:=X.lc
 have hpw:IntKind.i64.wrap (f.pc+1)=f.pc+1:=by rw[IntKind.wrap_i64];omega
 have hfw:IntKind.i64.wrap (s.fuel-1)=s.fuel-1:=by have:=hi.fuel0;have:=hi.fuel1;rw[IntKind.wrap_i64];omega
 have fn2:f.fn.toNat<N:=by omega
 have pc2:f.pc.toNat<M:=by omega
 have HEX:=Lib.hid (show execSt p s fs f={s with fuel:=s.fuel-1,status:=5} from by unfold execSt;rw[if_neg (by simp[h1]),if_neg (by omega),if_neg (by omega),if_neg (by omega),if_neg (by omega),if_neg (by omega),if_neg (by omega),if_pos h2,if_pos h3])
 clear X h
 obtain⟨x,hx⟩:∃x,insOf p f=x:=⟨_,rfl⟩
 rw[hx] at ga gb c0 c1 c2 c3 c4 dst0 dst1 a0 a1 b0 b1 h1 h2
 have HXX:=Lib.hid hx
 clear hx
 obtain⟨op,dst,xa,xb,imm⟩:=x
 dsimp only at *
 subst h2
 go_enter Tryd.func48,Tryd.ntmps48
 go_wp2_with fail
 go_quiet (fail)
 obtain⟨w1,hw1⟩:∃w1,w.drewN nq=w1:=⟨_,rfl⟩
 rw[hw1]
 have X1:=HX.out.drewN nq
 rw[hw1] at X1
 clear hw1 HX e19 e2 e22 g0 g1 ga gb d2 c0 c1 c2 c3 c4 lE lg lp lc
 have e19:=X1.e19
 have e2:=X1.e2
 have e22:=X1.e22
 have g0:=X1.g0
 have g1:=X1.g1
 have ga:=X1.ga
 have gb:=X1.gb
 have d2:=X1.d2
 have c0:=X1.c0
 have c1:=X1.c1
 have c2:=X1.c2
 have c3:=X1.c3
 have c4:=X1.c4
 rw[HXX.out] at ga gb c0 c1 c2 c3 c4
 have lE:=X1.lE
 have lg:=X1.lg
 have lp:=X1.lp
 have lc:=X1.lc
 have HT2:Hid (∀w2,(w1.alloc (.cells #[.int .i64 (insOf p f).op, .int .i64 (insOf p f).dst, .int .i64 (insOf p f).a, .int .i64 (insOf p f).b, .int .i64 (insOf p f).imm] 58)).drew=w2→Top w0 w2 E pv s ES AS fs f k g cap w1.heap.size (insOf p f)):=Lib.hid (fun w2 h=>by
  rw[←h]
  exact⟨(X1.eng.alloc _).drew,hf,X1.hk,HR.out,HM.out,heap_alloc_new w1 _⟩)
 rw[HXX.out] at HT2
 clear X1
 dsimp only at ga gb c0 c1 c2 c3 c4
 go_wp2_with fail
 have KS:=Lib.hid (fun(w' :World) (hb:Below w1.heap.size w1 w')=>(⟨(hb.cell (p:=⟨E,22,none⟩) lE).trans e22,(hb.cell (p:=⟨g,_,none⟩) lg).trans g0,(hb.cell (p:=⟨pg,_,none⟩) lp).trans d2,(hb.cell (p:=⟨g,_,none⟩) lg).trans g1,(hb.cell (p:=⟨cg,_,none⟩) lc).trans c0,(hb.cell (p:=⟨cg,_,none⟩) lc).trans c1,(hb.cell (p:=⟨cg,_,none⟩) lc).trans c2,(hb.cell (p:=⟨cg,_,none⟩) lc).trans c3,(hb.cell (p:=⟨cg,_,none⟩) lc).trans c4⟩:w'.cell? ⟨E,22,none⟩=some (.slice (some ⟨pg,0,none⟩) N PC)∧w'.cell? ⟨g,k*14,none⟩=some (.int .i64 f.fn)∧w'.cell? ⟨pg,f.fn.toNat*3+2,none⟩=some (.slice (some ⟨cg,0,none⟩) M ccap)∧w'.cell? ⟨g,k*14+1,none⟩=some (.int .i64 f.pc)∧w'.cell? ⟨cg,f.pc.toNat*5,none⟩=some (.int .i64 17)∧w'.cell? ⟨cg,f.pc.toNat*5+1,none⟩=some (.int .i64 dst)∧w'.cell? ⟨cg,f.pc.toNat*5+2,none⟩=some (.int .i64 xa)∧w'.cell? ⟨cg,f.pc.toNat*5+3,none⟩=some (.int .i64 xb)∧w'.cell? ⟨cg,f.pc.toNat*5+4,none⟩=some (.int .i64 imm)))
 go_region_held3 (fun w' =>w'.cell? ⟨E,22,none⟩=some (.slice (some ⟨pg,0,none⟩) N PC)∧w'.cell? ⟨g,k*14,none⟩=some (.int .i64 f.fn)∧w'.cell? ⟨pg,f.fn.toNat*3+2,none⟩=some (.slice (some ⟨cg,0,none⟩) M ccap)∧w'.cell? ⟨g,k*14+1,none⟩=some (.int .i64 f.pc)∧w'.cell? ⟨cg,f.pc.toNat*5,none⟩=some (.int .i64 17)∧w'.cell? ⟨cg,f.pc.toNat*5+1,none⟩=some (.int .i64 dst)∧w'.cell? ⟨cg,f.pc.toNat*5+2,none⟩=some (.int .i64 xa)∧w'.cell? ⟨cg,f.pc.toNat*5+3,none⟩=some (.int .i64 xb)∧w'.cell? ⟨cg,f.pc.toNat*5+4,none⟩=some (.int .i64 imm)) (exact KS.out _ (by have hb:=Below.refl w1.heap.size w1;exact Bq)) (first|fail)
 all_goals (
  rename_i hHeld
  clear hHeld KS)
 obtain⟨w2,hw2⟩:∃w2,(w1.alloc (.cells #[.int .i64 17, .int .i64 dst, .int .i64 xa, .int .i64 xb, .int .i64 imm] 58)).drew=w2:=⟨_,rfl⟩
 rw[hw2]
 have Tw2:=Lib.hid (HT2.out w2 hw2)
 clear hw2 HT2 e19 e2 e22 g0 g1 ga gb d2 c0 c1 c2 c3 c4 lE lg lp lc fn0 fn1 pc1 fn2 pc2 hk1 hk2 hk3 hfu'
 obtain⟨I,hI⟩:∃I,w1.heap.size=I:=⟨_,rfl⟩
 rw[hI] at Tw2⊢
 clear hI
 have i2:=(Tw2.out.iC 2).trans rfl
 have i3:=(Tw2.out.iC 3).trans rfl
 have ga:=Tw2.out.cR a0 a1
 have gb:=Tw2.out.cR b0 b1
 go_wp2_with fail
 go_quiet (fail)
 obtain⟨w3,hw3⟩:∃w3,w2.drewN nq=w3:=⟨_,rfl⟩
 rw[hw3]
 have Tw3:Hid (Top w0 w3 E pv s ES AS fs f k g cap I ⟨17,dst,xa,xb,imm⟩):=Lib.hid (by rw[←hw3];exact Tw2.out.drewN nq)
 clear hw3 Tw2 i2 i3 ga gb
 have i0:=(Tw3.out.iC 0).trans rfl
 have i4:=(Tw3.out.iC 4).trans rfl
 have i1:=(Tw3.out.iC 1).trans rfl
 have qf:w3.cell? ⟨E,19,none⟩=some (.int .i64 s.fuel):=Tw3.out.e19
 have ff:=Tw3.out.eng.frozen 19
 have hlen:s.frames.length=8:=by rw[hf];simpa using h3
 go_wp2_with (first
  |(go_at_call 79;refine(spure_any _ _ _ _ _).mono ?_;rintro e w' ⟨rfl,rfl⟩)
  |(obtain⟨w4,hw4⟩:∃w4,w3.setCell ⟨E,19,none⟩ (.int .i64 (s.fuel-1))=w4:=⟨_,rfl⟩;rw[hw4];have Tw4:=Lib.hid (Tw3.out.fuel (s.fuel-1));rw[hw4] at Tw4;clear hw4 qf ff Tw3 i0 i1 i4;have i0:=(Tw4.out.iC 0).trans rfl;have i1:=(Tw4.out.iC 1).trans rfl;have i2:=(Tw4.out.iC 2).trans rfl;have i3:=(Tw4.out.iC 3).trans rfl;have i4:=(Tw4.out.iC 4).trans rfl)
  |(go_at_call 80;go_must (refine(call_deep Tw4.out.eng HM.out hlen 17 dst xa xb imm (f.reg xa) (f.reg xb)).mono ?_;rintro e w5 ⟨rfl,h5⟩)))
 rw[HEX.out]
 exact bodyPost_end (v:= .tuple #[]) (by simp[results,Tryd.results48,go_sem]) rfl ⟨rfl,_,_,_,h5⟩
set_option maxRecDepth 100000 in
set_option maxHeartbeats 8000000 in
theorem next_call{p:List Fnc}(hp:Right p){w0 w:World}{E:Nat}{pv FS ES AS:Value}{s:St}(h:EngAt w0 w E pv s FS ES AS)(hP:ProgAt w0 pv p)(hi:StInv p s)(hfu:s.fuel≠0){fs:List Fr}{f:Fr}(hf:s.frames=fs++[f])(h1:mkOk (insOf p f).op (f.reg (insOf p f).b)=false)(h2:(insOf p f).op=17)(h3:fs.length+1≠8):
 Calls Tryd.prog 48 #[.pointer (some ⟨E,0,none⟩)] w fun e w' =>e= .returned (.tuple #[])∧∃FS' ES' AS',EngAt w0 w' E pv (execSt p s fs f) FS' ES' AS' :=by
 obtain⟨k,g,cap,pg,N,PC,cg,M,ccap,X⟩:=nx_of hp h hP hi hf
 have HX:=Lib.hid X
 have HM:=Lib.hid hi.mem
 have HR:Hid (∀x∈s.frames,x.regs.length=12):=Lib.hid (fun x hx=>(hi.fr x hx).regs)
 have hfs:=X.fs0
 subst hfs
 have hfu' :(s.fuel==0)=false:=by simpa using hfu
 have hk1:IntKind.i64.wrap (k:Int)=k:=by have:=X.k8;rw[IntKind.wrap_i64];omega
 have hk2:(k:Int)<k+1:=by omega
 have hk3:(0:Int)≤k:=by omega
 have e19:=X.e19
 have e2:=X.e2
 have e22:=X.e22
 have g0:=X.g0
 have g1:=X.g1
 have ga:=X.ga
 have gb:=X.gb
 have d2:=X.d2
 have c0:=X.c0
 have c1:=X.c1
 have c2:=X.c2
 have c3:=X.c3
 have c4:=X.c4
 have fn0:=X.fn0
 have fn1:=X.fn1
 have pc0:=X.pc0
 have pc1:=X.pc1
 have M40:=X.M40
 have dst0:=X.dst0
 have dst1:=X.dst1
 have a0:=X.a0
 have a1:=X.a1
 have b0:=X.b0
 have b1:=X.b1
 have lE:=X.lE
 have lg:=X.lg
 have lp:=X.lp
 have lc:=X.lc
 have hpw:IntKind.i64.wrap (f.pc+1)=f.pc+1:=by rw[IntKind.wrap_i64];omega
 have hfw:IntKind.i64.wrap (s.fuel-1)=s.fuel-1:=by have:=hi.fuel0;have:=hi.fuel1;rw[IntKind.wrap_i64];omega
 have fn2:f.fn.toNat<N:=by omega
 have pc2:f.pc.toNat<M:=by omega
 have HEX:=Lib.hid (show execSt p s fs f={s with fuel:=s.fuel-1,frames:=fs++[f,newFr (insOf p f).imm (fnOf p (insOf p f).imm).params (f.reg (insOf p f).a) (f.reg (insOf p f).b)]} from by unfold execSt;rw[if_neg (by simp[h1]),if_neg (by omega),if_neg (by omega),if_neg (by omega),if_neg (by omega),if_neg (by omega),if_neg (by omega),if_pos h2,if_neg h3])
 clear X h
 obtain⟨x,hx⟩:∃x,insOf p f=x:=⟨_,rfl⟩
 rw[hx] at ga gb c0 c1 c2 c3 c4 dst0 dst1 a0 a1 b0 b1 h1 h2
 rw[hx] at HEX
 have HXX:=Lib.hid hx
 clear hx
 obtain⟨op,dst,xa,xb,imm⟩:=x
 dsimp only at *
 subst h2
 go_enter Tryd.func48,Tryd.ntmps48
 go_wp2_with fail
 go_quiet (fail)
 obtain⟨w1,hw1⟩:∃w1,w.drewN nq=w1:=⟨_,rfl⟩
 rw[hw1]
 have X1:=HX.out.drewN nq
 rw[hw1] at X1
 clear hw1 HX e19 e2 e22 g0 g1 ga gb d2 c0 c1 c2 c3 c4 lE lg lp lc
 have e19:=X1.e19
 have e2:=X1.e2
 have e22:=X1.e22
 have g0:=X1.g0
 have g1:=X1.g1
 have ga:=X1.ga
 have gb:=X1.gb
 have d2:=X1.d2
 have c0:=X1.c0
 have c1:=X1.c1
 have c2:=X1.c2
 have c3:=X1.c3
 have c4:=X1.c4
 rw[HXX.out] at ga gb c0 c1 c2 c3 c4
 have lE:=X1.lE
 have lg:=X1.lg
 have lp:=X1.lp
 have lc:=X1.lc
 have HT2:Hid (∀w2,(w1.alloc (.cells #[.int .i64 (insOf p f).op, .int .i64 (insOf p f).dst, .int .i64 (insOf p f).a, .int .i64 (insOf p f).b, .int .i64 (insOf p f).imm] 58)).drew=w2→Top w0 w2 E pv s ES AS fs f k g cap w1.heap.size (insOf p f)):=Lib.hid (fun w2 h=>by
  rw[←h]
  exact⟨(X1.eng.alloc _).drew,hf,X1.hk,HR.out,HM.out,heap_alloc_new w1 _⟩)
 rw[HXX.out] at HT2
 clear X1
 dsimp only at ga gb c0 c1 c2 c3 c4
 go_wp2_with fail
 have KS:=Lib.hid (fun(w' :World) (hb:Below w1.heap.size w1 w')=>(⟨(hb.cell (p:=⟨E,22,none⟩) lE).trans e22,(hb.cell (p:=⟨g,_,none⟩) lg).trans g0,(hb.cell (p:=⟨pg,_,none⟩) lp).trans d2,(hb.cell (p:=⟨g,_,none⟩) lg).trans g1,(hb.cell (p:=⟨cg,_,none⟩) lc).trans c0,(hb.cell (p:=⟨cg,_,none⟩) lc).trans c1,(hb.cell (p:=⟨cg,_,none⟩) lc).trans c2,(hb.cell (p:=⟨cg,_,none⟩) lc).trans c3,(hb.cell (p:=⟨cg,_,none⟩) lc).trans c4⟩:w'.cell? ⟨E,22,none⟩=some (.slice (some ⟨pg,0,none⟩) N PC)∧w'.cell? ⟨g,k*14,none⟩=some (.int .i64 f.fn)∧w'.cell? ⟨pg,f.fn.toNat*3+2,none⟩=some (.slice (some ⟨cg,0,none⟩) M ccap)∧w'.cell? ⟨g,k*14+1,none⟩=some (.int .i64 f.pc)∧w'.cell? ⟨cg,f.pc.toNat*5,none⟩=some (.int .i64 17)∧w'.cell? ⟨cg,f.pc.toNat*5+1,none⟩=some (.int .i64 dst)∧w'.cell? ⟨cg,f.pc.toNat*5+2,none⟩=some (.int .i64 xa)∧w'.cell? ⟨cg,f.pc.toNat*5+3,none⟩=some (.int .i64 xb)∧w'.cell? ⟨cg,f.pc.toNat*5+4,none⟩=some (.int .i64 imm)))
 go_region_held3 (fun w' =>w'.cell? ⟨E,22,none⟩=some (.slice (some ⟨pg,0,none⟩) N PC)∧w'.cell? ⟨g,k*14,none⟩=some (.int .i64 f.fn)∧w'.cell? ⟨pg,f.fn.toNat*3+2,none⟩=some (.slice (some ⟨cg,0,none⟩) M ccap)∧w'.cell? ⟨g,k*14+1,none⟩=some (.int .i64 f.pc)∧w'.cell? ⟨cg,f.pc.toNat*5,none⟩=some (.int .i64 17)∧w'.cell? ⟨cg,f.pc.toNat*5+1,none⟩=some (.int .i64 dst)∧w'.cell? ⟨cg,f.pc.toNat*5+2,none⟩=some (.int .i64 xa)∧w'.cell? ⟨cg,f.pc.toNat*5+3,none⟩=some (.int .i64 xb)∧w'.cell? ⟨cg,f.pc.toNat*5+4,none⟩=some (.int .i64 imm)) (exact KS.out _ (by have hb:=Below.refl w1.heap.size w1;exact Bq)) (first|fail)
 all_goals (
  rename_i hHeld
  clear hHeld KS)
 obtain⟨w2,hw2⟩:∃w2,(w1.alloc (.cells #[.int .i64 17, .int .i64 dst, .int .i64 xa, .int .i64 xb, .int .i64 imm] 58)).drew=w2:=⟨_,rfl⟩
 rw[hw2]
 have Tw2:=Lib.hid (HT2.out w2 hw2)
 clear hw2 HT2 e19 e2 e22 g0 g1 ga gb d2 c0 c1 c2 c3 c4 lE lg lp lc fn0 fn1 pc1 fn2 pc2 hk1 hk2 hk3 hfu'
 obtain⟨I,hI⟩:∃I,w1.heap.size=I:=⟨_,rfl⟩
 rw[hI] at Tw2⊢
 clear hI
 have i2:=(Tw2.out.iC 2).trans rfl
 have i3:=(Tw2.out.iC 3).trans rfl
 have ga:=Tw2.out.cR a0 a1
 have gb:=Tw2.out.cR b0 b1
 go_wp2_with fail
 go_quiet (fail)
 obtain⟨w3,hw3⟩:∃w3,w2.drewN nq=w3:=⟨_,rfl⟩
 rw[hw3]
 have Tw3:Hid (Top w0 w3 E pv s ES AS fs f k g cap I ⟨17,dst,xa,xb,imm⟩):=Lib.hid (by rw[←hw3];exact Tw2.out.drewN nq)
 clear hw3 Tw2 i2 i3 ga gb
 have i0:=(Tw3.out.iC 0).trans rfl
 have i4:=(Tw3.out.iC 4).trans rfl
 have i1:=(Tw3.out.iC 1).trans rfl
 have qf:w3.cell? ⟨E,19,none⟩=some (.int .i64 s.fuel):=Tw3.out.e19
 have ff:=Tw3.out.eng.frozen 19
 have hlen:s.frames.length<8:=by have:=hi.deep;rw[hf] at this⊢;simp at this⊢;omega
 have hO:=hp.ins (hi.fr f (by rw[hf];simp))
 rw[HXX.out] at hO
 obtain⟨m0,m1⟩:=hO.call rfl
 dsimp only at m0 m1
 have hFe:p[imm.toNat]? =some (fnOf p imm):=by
  have hl:imm.toNat<p.length:=by omega
  rw[gE hl,fnOf_get (gE hl)]
 have hFo:=hp.ok.fn _ (gM hFe)
 have HCA:=Lib.hid (fun(w:World) (h:EngAt w0 w E pv {s with fuel:=s.fuel-1} (.slice (some ⟨g,0,none⟩) (k+1) cap) ES AS)=>call_push h hP HM.out hlen 17 dst xa xb imm (f.reg xa) (f.reg xb) m0 hFe hFo.p1 hFo.p2)
 have e:s.frames++[newFr imm (fnOf p imm).params (f.reg xa) (f.reg xb)]=fs++[f,newFr imm (fnOf p imm).params (f.reg xa) (f.reg xb)]:=by rw[hf];simp
 rw[←e] at HEX
 clear hO hFe hFo m0 m1
 go_wp2_with (first
  |(go_at_call 79;refine(spure_any _ _ _ _ _).mono ?_;rintro e w' ⟨rfl,rfl⟩)
  |(obtain⟨w4,hw4⟩:∃w4,w3.setCell ⟨E,19,none⟩ (.int .i64 (s.fuel-1))=w4:=⟨_,rfl⟩;rw[hw4];have Tw4:=Lib.hid (Tw3.out.fuel (s.fuel-1));rw[hw4] at Tw4;clear hw4 qf ff Tw3 i0 i1 i4;have i0:=(Tw4.out.iC 0).trans rfl;have i1:=(Tw4.out.iC 1).trans rfl;have i2:=(Tw4.out.iC 2).trans rfl;have i3:=(Tw4.out.iC 3).trans rfl;have i4:=(Tw4.out.iC 4).trans rfl)
  |(go_at_call 80;go_must (refine(HCA.out _ Tw4.out.eng).mono ?_;rintro e w5 ⟨rfl,FS',h5⟩)))
 rw[HEX.out]
 exact bodyPost_end (v:= .tuple #[]) (by simp[results,Tryd.results48,go_sem]) rfl ⟨rfl,_,_,_,h5⟩
set_option maxRecDepth 100000 in
set_option maxHeartbeats 8000000 in
theorem next_host{p:List Fnc}(hp:Right p){w0 w:World}{E:Nat}{pv FS ES AS:Value}{s:St}(h:EngAt w0 w E pv s FS ES AS)(hP:ProgAt w0 pv p)(hi:StInv p s)(hfu:s.fuel≠0){fs:List Fr}{f:Fr}(hf:s.frames=fs++[f])(h1:mkOk (insOf p f).op (f.reg (insOf p f).b)=false)(h2:(insOf p f).op=18):
 Calls Tryd.prog 48 #[.pointer (some ⟨E,0,none⟩)] w fun e w' =>e= .returned (.tuple #[])∧∃FS' ES' AS',EngAt w0 w' E pv (execSt p s fs f) FS' ES' AS' :=by
 obtain⟨k,g,cap,pg,N,PC,cg,M,ccap,X⟩:=nx_of hp h hP hi hf
 have HX:=Lib.hid X
 have HM:=Lib.hid hi.mem
 have HR:Hid (∀x∈s.frames,x.regs.length=12):=Lib.hid (fun x hx=>(hi.fr x hx).regs)
 have hfs:=X.fs0
 subst hfs
 have hfu' :(s.fuel==0)=false:=by simpa using hfu
 have hk1:IntKind.i64.wrap (k:Int)=k:=by have:=X.k8;rw[IntKind.wrap_i64];omega
 have hk2:(k:Int)<k+1:=by omega
 have hk3:(0:Int)≤k:=by omega
 have e19:=X.e19
 have e2:=X.e2
 have e22:=X.e22
 have g0:=X.g0
 have g1:=X.g1
 have ga:=X.ga
 have gb:=X.gb
 have d2:=X.d2
 have c0:=X.c0
 have c1:=X.c1
 have c2:=X.c2
 have c3:=X.c3
 have c4:=X.c4
 have fn0:=X.fn0
 have fn1:=X.fn1
 have pc0:=X.pc0
 have pc1:=X.pc1
 have M40:=X.M40
 have dst0:=X.dst0
 have dst1:=X.dst1
 have a0:=X.a0
 have a1:=X.a1
 have b0:=X.b0
 have b1:=X.b1
 have lE:=X.lE
 have lg:=X.lg
 have lp:=X.lp
 have lc:=X.lc
 have hpw:IntKind.i64.wrap (f.pc+1)=f.pc+1:=by rw[IntKind.wrap_i64];omega
 have hfw:IntKind.i64.wrap (s.fuel-1)=s.fuel-1:=by have:=hi.fuel0;have:=hi.fuel1;rw[IntKind.wrap_i64];omega
 have fn2:f.fn.toNat<N:=by omega
 have pc2:f.pc.toNat<M:=by omega
 have HEX:=Lib.hid (show execSt p s fs f={topSt s fs ((f.put (insOf p f).dst (s.answers.headD 0)).at (f.pc+1)) with events:=s.events++[f.reg (insOf p f).a],answers:=s.answers.tail} from by unfold execSt;rw[if_neg (by simp[h1]),if_neg (by omega),if_neg (by omega),if_neg (by omega),if_neg (by omega),if_neg (by omega),if_neg (by omega),if_neg (by omega),if_pos h2])
 clear X h
 obtain⟨x,hx⟩:∃x,insOf p f=x:=⟨_,rfl⟩
 rw[hx] at ga gb c0 c1 c2 c3 c4 dst0 dst1 a0 a1 b0 b1 h1 h2
 rw[hx] at HEX
 have HXX:=Lib.hid hx
 clear hx
 obtain⟨op,dst,xa,xb,imm⟩:=x
 dsimp only at *
 subst h2
 go_enter Tryd.func48,Tryd.ntmps48
 go_wp2_with fail
 go_quiet (fail)
 obtain⟨w1,hw1⟩:∃w1,w.drewN nq=w1:=⟨_,rfl⟩
 rw[hw1]
 have X1:=HX.out.drewN nq
 rw[hw1] at X1
 clear hw1 HX e19 e2 e22 g0 g1 ga gb d2 c0 c1 c2 c3 c4 lE lg lp lc
 have e19:=X1.e19
 have e2:=X1.e2
 have e22:=X1.e22
 have g0:=X1.g0
 have g1:=X1.g1
 have ga:=X1.ga
 have gb:=X1.gb
 have d2:=X1.d2
 have c0:=X1.c0
 have c1:=X1.c1
 have c2:=X1.c2
 have c3:=X1.c3
 have c4:=X1.c4
 rw[HXX.out] at ga gb c0 c1 c2 c3 c4
 have lE:=X1.lE
 have lg:=X1.lg
 have lp:=X1.lp
 have lc:=X1.lc
 have HT2:Hid (∀w2,(w1.alloc (.cells #[.int .i64 (insOf p f).op, .int .i64 (insOf p f).dst, .int .i64 (insOf p f).a, .int .i64 (insOf p f).b, .int .i64 (insOf p f).imm] 58)).drew=w2→Top w0 w2 E pv s ES AS fs f k g cap w1.heap.size (insOf p f)):=Lib.hid (fun w2 h=>by
  rw[←h]
  exact⟨(X1.eng.alloc _).drew,hf,X1.hk,HR.out,HM.out,heap_alloc_new w1 _⟩)
 rw[HXX.out] at HT2
 clear X1
 dsimp only at ga gb c0 c1 c2 c3 c4
 go_wp2_with fail
 have KS:=Lib.hid (fun(w' :World) (hb:Below w1.heap.size w1 w')=>(⟨(hb.cell (p:=⟨E,22,none⟩) lE).trans e22,(hb.cell (p:=⟨g,_,none⟩) lg).trans g0,(hb.cell (p:=⟨pg,_,none⟩) lp).trans d2,(hb.cell (p:=⟨g,_,none⟩) lg).trans g1,(hb.cell (p:=⟨cg,_,none⟩) lc).trans c0,(hb.cell (p:=⟨cg,_,none⟩) lc).trans c1,(hb.cell (p:=⟨cg,_,none⟩) lc).trans c2,(hb.cell (p:=⟨cg,_,none⟩) lc).trans c3,(hb.cell (p:=⟨cg,_,none⟩) lc).trans c4⟩:w'.cell? ⟨E,22,none⟩=some (.slice (some ⟨pg,0,none⟩) N PC)∧w'.cell? ⟨g,k*14,none⟩=some (.int .i64 f.fn)∧w'.cell? ⟨pg,f.fn.toNat*3+2,none⟩=some (.slice (some ⟨cg,0,none⟩) M ccap)∧w'.cell? ⟨g,k*14+1,none⟩=some (.int .i64 f.pc)∧w'.cell? ⟨cg,f.pc.toNat*5,none⟩=some (.int .i64 18)∧w'.cell? ⟨cg,f.pc.toNat*5+1,none⟩=some (.int .i64 dst)∧w'.cell? ⟨cg,f.pc.toNat*5+2,none⟩=some (.int .i64 xa)∧w'.cell? ⟨cg,f.pc.toNat*5+3,none⟩=some (.int .i64 xb)∧w'.cell? ⟨cg,f.pc.toNat*5+4,none⟩=some (.int .i64 imm)))
 go_region_held3 (fun w' =>w'.cell? ⟨E,22,none⟩=some (.slice (some ⟨pg,0,none⟩) N PC)∧w'.cell? ⟨g,k*14,none⟩=some (.int .i64 f.fn)∧w'.cell? ⟨pg,f.fn.toNat*3+2,none⟩=some (.slice (some ⟨cg,0,none⟩) M ccap)∧w'.cell? ⟨g,k*14+1,none⟩=some (.int .i64 f.pc)∧w'.cell? ⟨cg,f.pc.toNat*5,none⟩=some (.int .i64 18)∧w'.cell? ⟨cg,f.pc.toNat*5+1,none⟩=some (.int .i64 dst)∧w'.cell? ⟨cg,f.pc.toNat*5+2,none⟩=some (.int .i64 xa)∧w'.cell? ⟨cg,f.pc.toNat*5+3,none⟩=some (.int .i64 xb)∧w'.cell? ⟨cg,f.pc.toNat*5+4,none⟩=some (.int .i64 imm)) (exact KS.out _ (by have hb:=Below.refl w1.heap.size w1;exact Bq)) (first|fail)
 all_goals (
  rename_i hHeld
  clear hHeld KS)
 obtain⟨w2,hw2⟩:∃w2,(w1.alloc (.cells #[.int .i64 18, .int .i64 dst, .int .i64 xa, .int .i64 xb, .int .i64 imm] 58)).drew=w2:=⟨_,rfl⟩
 rw[hw2]
 have Tw2:=Lib.hid (HT2.out w2 hw2)
 clear hw2 HT2 e19 e2 e22 g0 g1 ga gb d2 c0 c1 c2 c3 c4 lE lg lp lc fn0 fn1 pc1 fn2 pc2 hk1 hk2 hk3 hfu'
 obtain⟨I,hI⟩:∃I,w1.heap.size=I:=⟨_,rfl⟩
 rw[hI] at Tw2⊢
 clear hI
 have i2:=(Tw2.out.iC 2).trans rfl
 have i3:=(Tw2.out.iC 3).trans rfl
 have ga:=Tw2.out.cR a0 a1
 have gb:=Tw2.out.cR b0 b1
 go_wp2_with fail
 go_quiet (fail)
 obtain⟨w3,hw3⟩:∃w3,w2.drewN nq=w3:=⟨_,rfl⟩
 rw[hw3]
 have Tw3:Hid (Top w0 w3 E pv s ES AS fs f k g cap I ⟨18,dst,xa,xb,imm⟩):=Lib.hid (by rw[←hw3];exact Tw2.out.drewN nq)
 clear hw3 Tw2 i2 i3 ga gb
 have i0:=(Tw3.out.iC 0).trans rfl
 have i4:=(Tw3.out.iC 4).trans rfl
 have i1:=(Tw3.out.iC 1).trans rfl
 have qf:w3.cell? ⟨E,19,none⟩=some (.int .i64 s.fuel):=Tw3.out.e19
 have ff:=Tw3.out.eng.frozen 19
 have hev:s.events.length≤1000000:=by have:=hi.ev;have:=hi.fuel0;omega
 go_wp2_with (first
  |(go_at_call 79;refine(spure_any _ _ _ _ _).mono ?_;rintro e w' ⟨rfl,rfl⟩)
  |(obtain⟨w4,hw4⟩:∃w4,w3.setCell ⟨E,19,none⟩ (.int .i64 (s.fuel-1))=w4:=⟨_,rfl⟩;rw[hw4];have Tw4:=Lib.hid (Tw3.out.fuel (s.fuel-1));rw[hw4] at Tw4;clear hw4 qf ff Tw3 i0 i1 i4;have i0:=(Tw4.out.iC 0).trans rfl))
 have i1:=(Tw4.out.iC 1).trans (show _=some (Value.int .i64 dst) from rfl)
 have HCA:=Lib.hid (fun(w:World) (h:EngAt w0 w E pv {s with fuel:=s.fuel-1} (.slice (some ⟨g,0,none⟩) (k+1) cap) ES AS)=>answer_any h HM.out hev (f.reg xa))
 obtain⟨n,hn⟩:∃n,s.answers.headD 0=n:=⟨_,rfl⟩
 dsimp only at HCA
 rw[hn] at HEX HCA
 clear hn i0
 go_region_held3 (fun w' =>w'.cell? ⟨I,1,none⟩=some (.int .i64 dst)) (first|exact i1|exact y1|exact((Tw5.out.put dst0 dst1 n).iC 1).trans rfl) (first|(go_at_call 81;go_must (refine(HCA.out _ Tw4.out.drew.eng).mono ?_;rintro e w5 ⟨rfl,⟨ES',AS',h5⟩,hki⟩;have Tw5:Hid (Top w0 w5 E pv {s with fuel:=s.fuel-1,events:=s.events++[f.reg xa],answers:=s.answers.tail} ES' AS' fs f k g cap I ⟨18,dst,xa,xb,imm⟩):=Lib.hid ⟨h5,Tw4.out.hf,Tw4.out.hk,Tw4.out.hr,Tw4.out.hm,hki _ _ _ Tw4.out.ins⟩;clear h5 hki;have y1:=(Tw5.out.iC 1).trans (show _=some (Value.int .i64 dst) from rfl);have qd:w5.cell? ⟨g,k*14+2+dst.toNat,none⟩=some (.int .i64 (f.reg dst)):=Tw5.out.cR dst0 dst1;have fd:=Tw5.out.frz (k*14+2+dst.toNat))))
 all_goals (
  rename_i hHeld
  clear hHeld y1 i1 HCA)
 obtain⟨w6,hw6⟩:∃w6,w5.setCell ⟨g,k*14+2+dst.toNat,none⟩ (.int .i64 n)=w6:=⟨_,rfl⟩
 have Tw6:=Lib.hid (Tw5.out.put dst0 dst1 n)
 rw[hw6] at Tw6⊢
 clear hw6 qd fd Tw5
 have qp:w6.cell? ⟨g,k*14+1,none⟩=some (.int .i64 f.pc):=Tw6.out.c1
 have fp:=Tw6.out.frz (k*14+1)
 go_wp2_with (first
  |(obtain⟨w7,hw7⟩:∃w7,w6.setCell ⟨g,k*14+1,none⟩ (.int .i64 (f.pc+1))=w7:=⟨_,rfl⟩;rw[hw7];have Tw7:=Lib.hid (Tw6.out.pc (f.pc+1));rw[hw7] at Tw7;clear hw7 qp fp Tw6;skip))
 rw[HEX.out]
 exact bodyPost_end (v:= .tuple #[]) (by simp[results,Tryd.results48,go_sem]) rfl ⟨rfl,_,_,_,Tw7.out.eng⟩
set_option maxRecDepth 100000 in
set_option maxHeartbeats 8000000 in
theorem next_ret1{p:List Fnc}(hp:Right p){w0 w:World}{E:Nat}{pv FS ES AS:Value}{s:St}(h:EngAt w0 w E pv s FS ES AS)(hP:ProgAt w0 pv p)(hi:StInv p s)(hfu:s.fuel≠0){fs:List Fr}{f:Fr}(hf:s.frames=fs++[f])(h1:mkOk (insOf p f).op (f.reg (insOf p f).b)=false)(h2:(insOf p f).op=19)(h3:fs=[]):
 Calls Tryd.prog 48 #[.pointer (some ⟨E,0,none⟩)] w fun e w' =>e= .returned (.tuple #[])∧∃FS' ES' AS',EngAt w0 w' E pv (execSt p s fs f) FS' ES' AS' :=by
 obtain⟨k,g,cap,pg,N,PC,cg,M,ccap,X⟩:=nx_of hp h hP hi hf
 have HX:=Lib.hid X
 have HM:=Lib.hid hi.mem
 have HR:Hid (∀x∈s.frames,x.regs.length=12):=Lib.hid (fun x hx=>(hi.fr x hx).regs)
 have hfs:=X.fs0
 subst hfs
 have hfu' :(s.fuel==0)=false:=by simpa using hfu
 have hk1:IntKind.i64.wrap (k:Int)=k:=by have:=X.k8;rw[IntKind.wrap_i64];omega
 have hk2:(k:Int)<k+1:=by omega
 have hk3:(0:Int)≤k:=by omega
 have e19:=X.e19
 have e2:=X.e2
 have e22:=X.e22
 have g0:=X.g0
 have g1:=X.g1
 have ga:=X.ga
 have gb:=X.gb
 have d2:=X.d2
 have c0:=X.c0
 have c1:=X.c1
 have c2:=X.c2
 have c3:=X.c3
 have c4:=X.c4
 have fn0:=X.fn0
 have fn1:=X.fn1
 have pc0:=X.pc0
 have pc1:=X.pc1
 have M40:=X.M40
 have dst0:=X.dst0
 have dst1:=X.dst1
 have a0:=X.a0
 have a1:=X.a1
 have b0:=X.b0
 have b1:=X.b1
 have lE:=X.lE
 have lg:=X.lg
 have lp:=X.lp
 have lc:=X.lc
 have hpw:IntKind.i64.wrap (f.pc+1)=f.pc+1:=by rw[IntKind.wrap_i64];omega
 have hfw:IntKind.i64.wrap (s.fuel-1)=s.fuel-1:=by have:=hi.fuel0;have:=hi.fuel1;rw[IntKind.wrap_i64];omega
 have fn2:f.fn.toNat<N:=by omega
 have pc2:f.pc.toNat<M:=by omega
 have HEX:=Lib.hid (show execSt p s fs f={s with fuel:=s.fuel-1,frames:=[],value:=f.reg (insOf p f).a,status:=1} from by unfold execSt;rw[if_neg (by simp[h1]),if_neg (by omega),if_neg (by omega),if_neg (by omega),if_neg (by omega),if_neg (by omega),if_neg (by omega),if_neg (by omega),if_neg (by omega)];rw[h3];rfl)
 clear X h
 obtain⟨x,hx⟩:∃x,insOf p f=x:=⟨_,rfl⟩
 rw[hx] at ga gb c0 c1 c2 c3 c4 dst0 dst1 a0 a1 b0 b1 h1 h2
 rw[hx] at HEX
 have HXX:=Lib.hid hx
 clear hx
 obtain⟨op,dst,xa,xb,imm⟩:=x
 dsimp only at *
 subst h2
 go_enter Tryd.func48,Tryd.ntmps48
 go_wp2_with fail
 go_quiet (fail)
 obtain⟨w1,hw1⟩:∃w1,w.drewN nq=w1:=⟨_,rfl⟩
 rw[hw1]
 have X1:=HX.out.drewN nq
 rw[hw1] at X1
 clear hw1 HX e19 e2 e22 g0 g1 ga gb d2 c0 c1 c2 c3 c4 lE lg lp lc
 have e19:=X1.e19
 have e2:=X1.e2
 have e22:=X1.e22
 have g0:=X1.g0
 have g1:=X1.g1
 have ga:=X1.ga
 have gb:=X1.gb
 have d2:=X1.d2
 have c0:=X1.c0
 have c1:=X1.c1
 have c2:=X1.c2
 have c3:=X1.c3
 have c4:=X1.c4
 rw[HXX.out] at ga gb c0 c1 c2 c3 c4
 have lE:=X1.lE
 have lg:=X1.lg
 have lp:=X1.lp
 have lc:=X1.lc
 have HT2:Hid (∀w2,(w1.alloc (.cells #[.int .i64 (insOf p f).op, .int .i64 (insOf p f).dst, .int .i64 (insOf p f).a, .int .i64 (insOf p f).b, .int .i64 (insOf p f).imm] 58)).drew=w2→Top w0 w2 E pv s ES AS fs f k g cap w1.heap.size (insOf p f)):=Lib.hid (fun w2 h=>by
  rw[←h]
  exact⟨(X1.eng.alloc _).drew,hf,X1.hk,HR.out,HM.out,heap_alloc_new w1 _⟩)
 rw[HXX.out] at HT2
 clear X1
 dsimp only at ga gb c0 c1 c2 c3 c4
 go_wp2_with fail
 have KS:=Lib.hid (fun(w' :World) (hb:Below w1.heap.size w1 w')=>(⟨(hb.cell (p:=⟨E,22,none⟩) lE).trans e22,(hb.cell (p:=⟨g,_,none⟩) lg).trans g0,(hb.cell (p:=⟨pg,_,none⟩) lp).trans d2,(hb.cell (p:=⟨g,_,none⟩) lg).trans g1,(hb.cell (p:=⟨cg,_,none⟩) lc).trans c0,(hb.cell (p:=⟨cg,_,none⟩) lc).trans c1,(hb.cell (p:=⟨cg,_,none⟩) lc).trans c2,(hb.cell (p:=⟨cg,_,none⟩) lc).trans c3,(hb.cell (p:=⟨cg,_,none⟩) lc).trans c4⟩:w'.cell? ⟨E,22,none⟩=some (.slice (some ⟨pg,0,none⟩) N PC)∧w'.cell? ⟨g,k*14,none⟩=some (.int .i64 f.fn)∧w'.cell? ⟨pg,f.fn.toNat*3+2,none⟩=some (.slice (some ⟨cg,0,none⟩) M ccap)∧w'.cell? ⟨g,k*14+1,none⟩=some (.int .i64 f.pc)∧w'.cell? ⟨cg,f.pc.toNat*5,none⟩=some (.int .i64 19)∧w'.cell? ⟨cg,f.pc.toNat*5+1,none⟩=some (.int .i64 dst)∧w'.cell? ⟨cg,f.pc.toNat*5+2,none⟩=some (.int .i64 xa)∧w'.cell? ⟨cg,f.pc.toNat*5+3,none⟩=some (.int .i64 xb)∧w'.cell? ⟨cg,f.pc.toNat*5+4,none⟩=some (.int .i64 imm)))
 go_region_held3 (fun w' =>w'.cell? ⟨E,22,none⟩=some (.slice (some ⟨pg,0,none⟩) N PC)∧w'.cell? ⟨g,k*14,none⟩=some (.int .i64 f.fn)∧w'.cell? ⟨pg,f.fn.toNat*3+2,none⟩=some (.slice (some ⟨cg,0,none⟩) M ccap)∧w'.cell? ⟨g,k*14+1,none⟩=some (.int .i64 f.pc)∧w'.cell? ⟨cg,f.pc.toNat*5,none⟩=some (.int .i64 19)∧w'.cell? ⟨cg,f.pc.toNat*5+1,none⟩=some (.int .i64 dst)∧w'.cell? ⟨cg,f.pc.toNat*5+2,none⟩=some (.int .i64 xa)∧w'.cell? ⟨cg,f.pc.toNat*5+3,none⟩=some (.int .i64 xb)∧w'.cell? ⟨cg,f.pc.toNat*5+4,none⟩=some (.int .i64 imm)) (exact KS.out _ (by have hb:=Below.refl w1.heap.size w1;exact Bq)) (first|fail)
 all_goals (
  rename_i hHeld
  clear hHeld KS)
 obtain⟨w2,hw2⟩:∃w2,(w1.alloc (.cells #[.int .i64 19, .int .i64 dst, .int .i64 xa, .int .i64 xb, .int .i64 imm] 58)).drew=w2:=⟨_,rfl⟩
 rw[hw2]
 have Tw2:=Lib.hid (HT2.out w2 hw2)
 clear hw2 HT2 e19 e2 e22 g0 g1 ga gb d2 c0 c1 c2 c3 c4 lE lg lp lc fn0 fn1 pc1 fn2 pc2 hk1 hk2 hk3 hfu'
 obtain⟨I,hI⟩:∃I,w1.heap.size=I:=⟨_,rfl⟩
 rw[hI] at Tw2⊢
 clear hI
 have i2:=(Tw2.out.iC 2).trans rfl
 have i3:=(Tw2.out.iC 3).trans rfl
 have ga:=Tw2.out.cR a0 a1
 have gb:=Tw2.out.cR b0 b1
 go_wp2_with fail
 go_quiet (fail)
 obtain⟨w3,hw3⟩:∃w3,w2.drewN nq=w3:=⟨_,rfl⟩
 rw[hw3]
 have Tw3:Hid (Top w0 w3 E pv s ES AS fs f k g cap I ⟨19,dst,xa,xb,imm⟩):=Lib.hid (by rw[←hw3];exact Tw2.out.drewN nq)
 clear hw3 Tw2 i2 i3 ga gb
 have i0:=(Tw3.out.iC 0).trans rfl
 have i4:=(Tw3.out.iC 4).trans rfl
 have i1:=(Tw3.out.iC 1).trans rfl
 have qf:w3.cell? ⟨E,19,none⟩=some (.int .i64 s.fuel):=Tw3.out.e19
 have ff:=Tw3.out.eng.frozen 19
 have hf1:s.frames=[f]:=by rw[hf,h3];rfl
 go_wp2_with (first
  |(go_at_call 79;refine(spure_any _ _ _ _ _).mono ?_;rintro e w' ⟨rfl,rfl⟩)
  |(obtain⟨w4,hw4⟩:∃w4,w3.setCell ⟨E,19,none⟩ (.int .i64 (s.fuel-1))=w4:=⟨_,rfl⟩;rw[hw4];have Tw4:=Lib.hid (Tw3.out.fuel (s.fuel-1));rw[hw4] at Tw4;clear hw4 qf ff Tw3 i0 i1 i4;have i0:=(Tw4.out.iC 0).trans rfl)
  |(go_at_call 82;go_must (refine(ret_last Tw4.out.eng HM.out hf1 HR.out (f.reg xa)).mono ?_;rintro e w5 ⟨rfl,FS',h5⟩)))
 rw[HEX.out]
 exact bodyPost_end (v:= .tuple #[]) (by simp[results,Tryd.results48,go_sem]) rfl ⟨rfl,_,_,_,h5⟩
set_option maxRecDepth 100000 in
set_option maxHeartbeats 8000000 in
theorem next_ret2{p:List Fnc}(hp:Right p){w0 w:World}{E:Nat}{pv FS ES AS:Value}{s:St}(h:EngAt w0 w E pv s FS ES AS)(hP:ProgAt w0 pv p)(hi:StInv p s)(hfu:s.fuel≠0){fs:List Fr}{f:Fr}(hf:s.frames=fs++[f])(h1:mkOk (insOf p f).op (f.reg (insOf p f).b)=false)(h2:(insOf p f).op=19){gs:List Fr}{u:Fr}(h3:fs=gs++[u]):
 Calls Tryd.prog 48 #[.pointer (some ⟨E,0,none⟩)] w fun e w' =>e= .returned (.tuple #[])∧∃FS' ES' AS',EngAt w0 w' E pv (execSt p s fs f) FS' ES' AS' :=by
 obtain⟨k,g,cap,pg,N,PC,cg,M,ccap,X⟩:=nx_of hp h hP hi hf
 have HX:=Lib.hid X
 have HM:=Lib.hid hi.mem
 have HR:Hid (∀x∈s.frames,x.regs.length=12):=Lib.hid (fun x hx=>(hi.fr x hx).regs)
 have hfs:=X.fs0
 subst hfs
 have hfu' :(s.fuel==0)=false:=by simpa using hfu
 have hk1:IntKind.i64.wrap (k:Int)=k:=by have:=X.k8;rw[IntKind.wrap_i64];omega
 have hk2:(k:Int)<k+1:=by omega
 have hk3:(0:Int)≤k:=by omega
 have e19:=X.e19
 have e2:=X.e2
 have e22:=X.e22
 have g0:=X.g0
 have g1:=X.g1
 have ga:=X.ga
 have gb:=X.gb
 have d2:=X.d2
 have c0:=X.c0
 have c1:=X.c1
 have c2:=X.c2
 have c3:=X.c3
 have c4:=X.c4
 have fn0:=X.fn0
 have fn1:=X.fn1
 have pc0:=X.pc0
 have pc1:=X.pc1
 have M40:=X.M40
 have dst0:=X.dst0
 have dst1:=X.dst1
 have a0:=X.a0
 have a1:=X.a1
 have b0:=X.b0
 have b1:=X.b1
 have lE:=X.lE
 have lg:=X.lg
 have lp:=X.lp
 have lc:=X.lc
 have hpw:IntKind.i64.wrap (f.pc+1)=f.pc+1:=by rw[IntKind.wrap_i64];omega
 have hfw:IntKind.i64.wrap (s.fuel-1)=s.fuel-1:=by have:=hi.fuel0;have:=hi.fuel1;rw[IntKind.wrap_i64];omega
 have fn2:f.fn.toNat<N:=by omega
 have pc2:f.pc.toNat<M:=by omega
 have HEX:=Lib.hid (show execSt p s fs f={s with fuel:=s.fuel-1,frames:=gs++[retFr p u (f.reg (insOf p f).a)]} from by unfold execSt;rw[if_neg (by simp[h1]),if_neg (by omega),if_neg (by omega),if_neg (by omega),if_neg (by omega),if_neg (by omega),if_neg (by omega),if_neg (by omega),if_neg (by omega)];rw[h3];simp)
 clear X h
 obtain⟨x,hx⟩:∃x,insOf p f=x:=⟨_,rfl⟩
 rw[hx] at ga gb c0 c1 c2 c3 c4 dst0 dst1 a0 a1 b0 b1 h1 h2
 rw[hx] at HEX
 have HXX:=Lib.hid hx
 clear hx
 obtain⟨op,dst,xa,xb,imm⟩:=x
 dsimp only at *
 subst h2
 go_enter Tryd.func48,Tryd.ntmps48
 go_wp2_with fail
 go_quiet (fail)
 obtain⟨w1,hw1⟩:∃w1,w.drewN nq=w1:=⟨_,rfl⟩
 rw[hw1]
 have X1:=HX.out.drewN nq
 rw[hw1] at X1
 clear hw1 HX e19 e2 e22 g0 g1 ga gb d2 c0 c1 c2 c3 c4 lE lg lp lc
 have e19:=X1.e19
 have e2:=X1.e2
 have e22:=X1.e22
 have g0:=X1.g0
 have g1:=X1.g1
 have ga:=X1.ga
 have gb:=X1.gb
 have d2:=X1.d2
 have c0:=X1.c0
 have c1:=X1.c1
 have c2:=X1.c2
 have c3:=X1.c3
 have c4:=X1.c4
 rw[HXX.out] at ga gb c0 c1 c2 c3 c4
 have lE:=X1.lE
 have lg:=X1.lg
 have lp:=X1.lp
 have lc:=X1.lc
 have HT2:Hid (∀w2,(w1.alloc (.cells #[.int .i64 (insOf p f).op, .int .i64 (insOf p f).dst, .int .i64 (insOf p f).a, .int .i64 (insOf p f).b, .int .i64 (insOf p f).imm] 58)).drew=w2→Top w0 w2 E pv s ES AS fs f k g cap w1.heap.size (insOf p f)):=Lib.hid (fun w2 h=>by
  rw[←h]
  exact⟨(X1.eng.alloc _).drew,hf,X1.hk,HR.out,HM.out,heap_alloc_new w1 _⟩)
 rw[HXX.out] at HT2
 clear X1
 dsimp only at ga gb c0 c1 c2 c3 c4
 go_wp2_with fail
 have KS:=Lib.hid (fun(w' :World) (hb:Below w1.heap.size w1 w')=>(⟨(hb.cell (p:=⟨E,22,none⟩) lE).trans e22,(hb.cell (p:=⟨g,_,none⟩) lg).trans g0,(hb.cell (p:=⟨pg,_,none⟩) lp).trans d2,(hb.cell (p:=⟨g,_,none⟩) lg).trans g1,(hb.cell (p:=⟨cg,_,none⟩) lc).trans c0,(hb.cell (p:=⟨cg,_,none⟩) lc).trans c1,(hb.cell (p:=⟨cg,_,none⟩) lc).trans c2,(hb.cell (p:=⟨cg,_,none⟩) lc).trans c3,(hb.cell (p:=⟨cg,_,none⟩) lc).trans c4⟩:w'.cell? ⟨E,22,none⟩=some (.slice (some ⟨pg,0,none⟩) N PC)∧w'.cell? ⟨g,k*14,none⟩=some (.int .i64 f.fn)∧w'.cell? ⟨pg,f.fn.toNat*3+2,none⟩=some (.slice (some ⟨cg,0,none⟩) M ccap)∧w'.cell? ⟨g,k*14+1,none⟩=some (.int .i64 f.pc)∧w'.cell? ⟨cg,f.pc.toNat*5,none⟩=some (.int .i64 19)∧w'.cell? ⟨cg,f.pc.toNat*5+1,none⟩=some (.int .i64 dst)∧w'.cell? ⟨cg,f.pc.toNat*5+2,none⟩=some (.int .i64 xa)∧w'.cell? ⟨cg,f.pc.toNat*5+3,none⟩=some (.int .i64 xb)∧w'.cell? ⟨cg,f.pc.toNat*5+4,none⟩=some (.int .i64 imm)))
 go_region_held3 (fun w' =>w'.cell? ⟨E,22,none⟩=some (.slice (some ⟨pg,0,none⟩) N PC)∧w'.cell? ⟨g,k*14,none⟩=some (.int .i64 f.fn)∧w'.cell? ⟨pg,f.fn.toNat*3+2,none⟩=some (.slice (some ⟨cg,0,none⟩) M ccap)∧w'.cell? ⟨g,k*14+1,none⟩=some (.int .i64 f.pc)∧w'.cell? ⟨cg,f.pc.toNat*5,none⟩=some (.int .i64 19)∧w'.cell? ⟨cg,f.pc.toNat*5+1,none⟩=some (.int .i64 dst)∧w'.cell? ⟨cg,f.pc.toNat*5+2,none⟩=some (.int .i64 xa)∧w'.cell? ⟨cg,f.pc.toNat*5+3,none⟩=some (.int .i64 xb)∧w'.cell? ⟨cg,f.pc.toNat*5+4,none⟩=some (.int .i64 imm)) (exact KS.out _ (by have hb:=Below.refl w1.heap.size w1;exact Bq)) (first|fail)
 all_goals (
  rename_i hHeld
  clear hHeld KS)
 obtain⟨w2,hw2⟩:∃w2,(w1.alloc (.cells #[.int .i64 19, .int .i64 dst, .int .i64 xa, .int .i64 xb, .int .i64 imm] 58)).drew=w2:=⟨_,rfl⟩
 rw[hw2]
 have Tw2:=Lib.hid (HT2.out w2 hw2)
 clear hw2 HT2 e19 e2 e22 g0 g1 ga gb d2 c0 c1 c2 c3 c4 lE lg lp lc fn0 fn1 pc1 fn2 pc2 hk1 hk2 hk3 hfu'
 obtain⟨I,hI⟩:∃I,w1.heap.size=I:=⟨_,rfl⟩
 rw[hI] at Tw2⊢
 clear hI
 have i2:=(Tw2.out.iC 2).trans rfl
 have i3:=(Tw2.out.iC 3).trans rfl
 have ga:=Tw2.out.cR a0 a1
 have gb:=Tw2.out.cR b0 b1
 go_wp2_with fail
 go_quiet (fail)
 obtain⟨w3,hw3⟩:∃w3,w2.drewN nq=w3:=⟨_,rfl⟩
 rw[hw3]
 have Tw3:Hid (Top w0 w3 E pv s ES AS fs f k g cap I ⟨19,dst,xa,xb,imm⟩):=Lib.hid (by rw[←hw3];exact Tw2.out.drewN nq)
 clear hw3 Tw2 i2 i3 ga gb
 have i0:=(Tw3.out.iC 0).trans rfl
 have i4:=(Tw3.out.iC 4).trans rfl
 have i1:=(Tw3.out.iC 1).trans rfl
 have qf:w3.cell? ⟨E,19,none⟩=some (.int .i64 s.fuel):=Tw3.out.e19
 have ff:=Tw3.out.eng.frozen 19
 have hf1:s.frames=gs++[u]++[f]:=by rw[hf,h3]
 have hu:FrOk p u:=hi.fr u (by rw[hf1];simp)
 have hgl:gs.length≤8:=by have:=hi.deep;rw[hf1] at this;simp at this;omega
 have HCA:=Lib.hid (fun(w:World) (h:EngAt w0 w E pv {s with fuel:=s.fuel-1} (.slice (some ⟨g,0,none⟩) (k+1) cap) ES AS)=>ret_up hp h hP HM.out hf1 HR.out hu hgl (f.reg xa))
 go_wp2_with (first
  |(go_at_call 79;refine(spure_any _ _ _ _ _).mono ?_;rintro e w' ⟨rfl,rfl⟩)
  |(obtain⟨w4,hw4⟩:∃w4,w3.setCell ⟨E,19,none⟩ (.int .i64 (s.fuel-1))=w4:=⟨_,rfl⟩;rw[hw4];have Tw4:=Lib.hid (Tw3.out.fuel (s.fuel-1));rw[hw4] at Tw4;clear hw4 qf ff Tw3 i0 i1 i4;have i0:=(Tw4.out.iC 0).trans rfl)
  |(go_at_call 82;go_must (refine(HCA.out _ Tw4.out.eng).mono ?_;rintro e w5 ⟨rfl,FS',h5⟩)))
 rw[HEX.out]
 exact bodyPost_end (v:= .tuple #[]) (by simp[results,Tryd.results48,go_sem]) rfl ⟨rfl,_,_,_,h5⟩
set_option maxRecDepth 100000 in
theorem next_empty{w0 w:World}{E:Nat}{pv FS ES AS:Value}{s:St}(h:EngAt w0 w E pv s FS ES AS)(hm:s.mem.length=16)(hfu:s.fuel=0):
 Calls Tryd.prog 48 #[.pointer (some ⟨E,0,none⟩)] w fun e w' =>e= .returned (.tuple #[])∧EngAt w0 w' E pv {s with status:=2} FS ES AS:=by
 have e19:=(h.cellC hm (i:=19) (by omega)).trans (stC_19 _ _ _ hm)
 rw[hfu] at e19
 have HH:=Lib.hid h
 have HM:=Lib.hid hm
 clear h hm
 go_enter Tryd.func48,Tryd.ntmps48
 go_wp2_with (go_at_call 78;go_must (refine(halt_any HH.out HM.out 2).mono ?_;rintro e w4 ⟨rfl,h4⟩))
 exact bodyPost_ret (v:= .tuple #[]) (by simp[results,Tryd.results48,go_sem]) rfl ⟨rfl,h4⟩
theorem enext_any{p:List Fnc}(hp:Right p){w0 w:World}{E:Nat}{pv FS ES AS:Value}{s:St}(h:EngAt w0 w E pv s FS ES AS)(hP:ProgAt w0 pv p)(hi:StInv p s)(hst:s.status=0):
 Calls Tryd.prog 48 #[.pointer (some ⟨E,0,none⟩)] w fun e w' =>e= .returned (.tuple #[])∧∃FS' ES' AS',EngAt w0 w' E pv (stepSt p s) FS' ES' AS' :=by
 by_cases hfu:s.fuel=0
 ·refine(next_empty h hi.mem hfu).mono ?_
  rintro e w' ⟨rfl,h'⟩
  refine⟨rfl,FS,ES,AS,?_⟩
  unfold stepSt
  rw[if_pos hfu];exact h'
 obtain⟨fs,f,hf⟩:=hi.running hst
 rw[stepSt_exec hf hfu]
 by_cases h1:mkOk (insOf p f).op (f.reg (insOf p f).b)=true
 ·exact next_pure hp h hP hi hfu hf h1
 have h1' :mkOk (insOf p f).op (f.reg (insOf p f).b)=false:=by simpa using h1
 have hO:=hp.ins (hi.fr f (by rw[hf];simp))
 have o1:=hO.op1
 have o2:=hO.op2
 by_cases c5:(insOf p f).op=5
 ·exact next_zero hp h hP hi hfu hf h1' c5
 have o3:13≤(insOf p f).op:=by simp[mkOk] at h1;omega
 by_cases c13:(insOf p f).op=13
 ·by_cases ha:f.reg (insOf p f).a<0
  ·exact next_out13a hp h hP hi hfu hf h1' c13 ha
  ·by_cases hb:16≤f.reg (insOf p f).a
   ·exact next_out13b hp h hP hi hfu hf h1' c13 hb
   ·exact next_load hp h hP hi hfu hf h1' c13 (by omega) (by omega)
 by_cases c14:(insOf p f).op=14
 ·by_cases ha:f.reg (insOf p f).a<0
  ·exact next_out14a hp h hP hi hfu hf h1' c14 ha
  ·by_cases hb:16≤f.reg (insOf p f).a
   ·exact next_out14b hp h hP hi hfu hf h1' c14 hb
   ·exact next_store hp h hP hi hfu hf h1' c14 (by omega) (by omega)
 by_cases c15:(insOf p f).op=15
 ·exact next_jump hp h hP hi hfu hf h1' c15
 by_cases c16:(insOf p f).op=16
 ·by_cases ha:f.reg (insOf p f).a=0
  ·exact next_if0 hp h hP hi hfu hf h1' c16 ha
  ·exact next_if1 hp h hP hi hfu hf h1' c16 ha
 by_cases c17:(insOf p f).op=17
 ·by_cases hd:fs.length+1=8
  ·exact next_deep hp h hP hi hfu hf h1' c17 hd
  ·exact next_call hp h hP hi hfu hf h1' c17 hd
 by_cases c18:(insOf p f).op=18
 ·exact next_host hp h hP hi hfu hf h1' c18
 have c19:(insOf p f).op=19:=by omega
 rcases List.eq_nil_or_concat fs with hn|⟨gs,u,hn⟩
 ·exact next_ret1 hp h hP hi hfu hf h1' c19 hn
 ·exact next_ret2 hp h hP hi hfu hf h1' c19 (hn.trans List.concat_eq_append)
end Go.Proofs.YtedcjapmmnbamaaDoor
