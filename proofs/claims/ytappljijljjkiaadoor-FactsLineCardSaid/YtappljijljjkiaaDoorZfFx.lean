/-
  The walk of FactsLine: it returns true.
-/
import Derived.Test.YtappljijljjkiaaDoorZfFd6
import Derived.Test.YtappljijljjkiaaDoorZfFlP
import Derived.Test.YtappljijljjkiaaDoorZfSu3
import Derived.Test.YtappljijljjkiaaDoorZfOpI
namespace Go.Proofs.YtappljijljjkiaaDoor
open Go.RowKit Tier
structure LX(w2:World)(Lf B:Nat)(W:World)(v:Value)(n:Nat)(l:List Ins):Prop where
 box:W.heap[Lf]? =some (.cells #[.int .i64 0, .int .i64 12,v] 36 (0,0))
 own:W.ownsRow B 42 5 v n (codeCells l)
 base:Below Lf w2 W
 lt:Lf<B
 le:B≤W.heap.size
section
variable {w2 W w9:World}{Lf B n:Nat}{v v9:Value}{l:List Ins}
theorem LX.lo(h:LX w2 Lf B W v n l):Lf≤W.heap.size:=by have:=h.lt;have:=h.le;omega
theorem LX.keeps(h:LX w2 Lf B W v n l)(hb:Below W.heap.size W w9):LX w2 Lf B w9 v n l:=
 ⟨(hb.block _ (block_lt h.box)).trans h.box,own_below h.own hb,h.base.trans (hb.mono h.lo),h.lt,Nat.le_trans h.le hb.size⟩
theorem LX.alloc(h:LX w2 Lf B W v n l)(o:Obj):LX w2 Lf B (W.alloc o) v n l:=h.keeps ((Below.refl _ _).alloc (Nat.le_refl _) _)
theorem LX.ne(h:LX w2 Lf B W v n l):v.ownBlock≠some Lf:=fun e=>by have:=(World.ownsRow.lt h.own Lf e).1;have:=h.lt;omega
theorem LX.grown(h:LX w2 Lf B W v n l)(hg:W.grownBy w9 v.ownBlock):w9.heap[Lf]? =some (.cells #[.int .i64 0, .int .i64 12,v] 36 (0,0)):=
 (hg.block Lf (block_lt h.box) (fun e=>h.ne e.symm)).trans h.box
theorem LX.put(h:LX w2 Lf B W v n l)(hg:W.grownBy w9 v.ownBlock)(x:Ins)(ho:w9.ownsRow B 42 5 v9 (n+1) (codeCells l++x.cells)):LX w2 Lf B (w9.setCell ⟨Lf,2,none⟩ v9) v9 (n+1) (l++[x]):=by
 have hx:=block_set (h.grown hg) 2 v9
 refine⟨hx,?_,?_,h.lt,?_⟩
 ·have e:codeCells (l++[x])=codeCells l++x.cells:=by simp[codeCells]
  rw[e]
  exact own_setCell ho (a:=⟨Lf,2,none⟩) h.lt v9
 ·exact(h.base.grown hg h.lo (fun k hk=>by have:=(World.ownsRow.lt h.own k hk).1;have:=h.lt;omega)).setCell (Nat.le_refl _) _
 ·have:=h.le;have:=hg.size;simp;omega
end
theorem LineP.two{n vl:Nat}{R:Int}{s s' :SB}{y:SV}(h:LineP n vl R s y)(e:s.parts=s'.parts):LineP n vl R s' y:=by
 obtain⟨e1,e2⟩:=insA_two e 0
 exact⟨by rw[←e1];exact h.il,h.cnt,h.all,by rw[←e2];exact h.back⟩
theorem setL_snoc(k:Nat):setL (k+1)=setL k++[setI k]:=by unfold setL;rw[List.range_succ,List.map_append];rfl
theorem take_ok(c:List Ins)(n:Nat){x:Ins}(h:c[n]? =some x):(c.take (n+1)).filter okL=(c.take n).filter okL++if okL x=true then[x] else[]:=by
 rw[List.take_add_one,h,List.filter_append]
 congr 1
 cases e:okL x<;>simp[e]
theorem one_prog2{W:World}{F:Fnc}{gf n:Nat}{v:Value}(hc:CodeAt W v F.code)(h2:W.heap[gf]? =some (.cells #[.int .i64 F.params, .int .i64 F.regs,v] 36 (0,0)))(hn:n=1):ProgAt W (.slice (some ⟨gf,0,none⟩) n n) [F]:=by
 subst hn
 exact⟨0,[v],rfl,own_raw (xs:=fnCells [F] [v]) h2 rfl (by omega),fun i u f hu hf=>by
  cases i with
  |succ i=>cases hf
  |zero=>
   have e1:v=u:=Option.some.inj hu
   have e2:F=f:=Option.some.inj hf
   subst e1 e2
   exact hc⟩
set_option maxRecDepth 100000 in
set_option maxHeartbeats 8000000 in
theorem factsLine_walk(A:Option Addr)(l:List Fnc)(cap:Nat)(w:World)(ht:Tab w)(hraw:RawsAt w A l)(hln:(l.length:Int)≤9223372036854775807):
 Calls Tryd.prog 11 #[.slice A l.length cap] w fun e w' =>e= .returned (.bool true)∧Below w.heap.size w w' :=by
 have HT:=Lib.hid ht
 have HR:=Lib.hid hraw
 have HCK:=Lib.hid (mkP_right l)
 clear ht hraw
 go_enter Tryd.func11,Tryd.ntmps11
 go_wp2_with fail
 refine(program_any A cap l _ HT.out hln HR.out).mono ?_
 rintro e w1 ⟨⟨A1,cap1,vs,rfl,hpv⟩,hb1⟩
 have HB1:=Lib.hid hb1
 clear hb1
 generalize mkP l=p at *
 have hok:=(right_of HCK.out).ok
 have hl1:=hok.l1
 have hl2:=hok.l2
 obtain⟨f,p',rfl⟩:∃f p',p=f::p' :=by
  cases p with
  |nil=>simp at hl1
  |cons f p' =>exact⟨f,p',rfl⟩
 have hfo:=hok.fn f (by simp)
 obtain⟨A0,cap0,hA0,hA⟩:=hpv.at.slice
 simp only[Value.slice.injEq,true_and] at hA0
 obtain⟨g,hAg,hg,hfn1⟩:=hA (by omega)
 obtain⟨rfl,rfl⟩:=hA0
 obtain⟨u,hu,c0,c1,c2⟩:=hfn1 0 f rfl
 obtain⟨FA,fcap,rfl,hFA⟩:=hu.slice
 subst hAg
 simp only[List.length_cons] at hl1 hl2 hg⊢
 have n1:=hfo.c1
 have n2:=hfo.c2
 obtain⟨gc,rfl,hgc,hins⟩:=hFA (by omega)
 have HFO:=Lib.hid hfo
 have HINS:=Lib.hid hins
 obtain⟨M,hM⟩:∃n,f.code.length=n:=⟨_,rfl⟩
 obtain⟨N,hN⟩:∃n,p'.length+1=n:=⟨_,rfl⟩
 have HM:=Lib.hid hM
 rw[hM] at n1 n2 c2
 rw[hN] at hl1 hl2⊢
 clear hA hFA hins hpv hok hfo hM hN hfn1 hu c0 c1
 have hz1:=hgc
 go_upto_region 3 with fail
 obtain⟨w2,hw2⟩:∃W,w1.alloc (.cells #[.slice (some ⟨g,0,none⟩) N cap1] 25)=W:=⟨_,rfl⟩
 obtain⟨Lp,hLp⟩:∃n,w1.heap.size=n:=⟨_,rfl⟩
 have hx2:w2.heap[Lp]? =some (.cells #[.slice (some ⟨g,0,none⟩) N cap1] 25 (0,0)):=by rw[←hw2,←hLp];exact heap_alloc_new _ _
 have hb12:Below w1.heap.size w1 w2:=by rw[←hw2];exact(Below.refl _ _).alloc (Nat.le_refl _) _
 have HBW2:=Lib.hid (HB1.out.trans (hb12.mono HB1.out.size))
 rw[hw2]
 obtain⟨w3,hw3⟩:∃W,w2.alloc (.cells #[.int .i64 0, .int .i64 12, .slice none 0 0] 36)=W:=⟨_,rfl⟩
 obtain⟨Lf,hLe⟩:∃n,Lp+1=n:=⟨_,rfl⟩
 have hLf:w2.heap.size=Lf:=by rw[←hw2,←hLe,←hLp];simp
 have hx3:w3.heap[Lf]? =some (.cells #[.int .i64 0, .int .i64 12, .slice none 0 0] 36 (0,0)):=by rw[←hw3,←hLf];exact heap_alloc_new _ _
 have hs3:w3.heap.size=Lf+1:=by rw[←hw3,←hLf];simp
 obtain⟨B,hBB⟩:∃n,Lf+1=n:=⟨_,rfl⟩
 have HX0:Hid (LX w2 Lf B w3 (.slice none 0 0) 0 []):=Lib.hid ⟨hx3,World.ownsRow_nil _ _ _ _,by rw[←hw3,←hLf];exact(Below.refl _ _).alloc (Nat.le_refl _) _,by omega,by omega⟩
 have HGL:=Lib.hid (show g<Lf∧gc<Lf∧Lp<Lf∧w.heap.size≤Lf from by
  have h1:=hb12.size
  have h2:=block_lt hx2
  have h3:=HBW2.out.size
  rw[hLf] at h1 h2 h3
  exact⟨by omega,by omega,h2,h3⟩)
 rw[hw3,hLp,hLe]
 have KW:=Lib.hid (fun(W:World) (hb:Below Lf w2 W)=>(by
  obtain⟨q1,q2,q3,-⟩:=HGL.out
  have hs:=hb.size
  rw[hLf] at hs
  exact⟨(hb.cell (p:=⟨Lp,_,none⟩) q3).trans (cell_block hx2 0),(hb.cell (p:=⟨g,_,none⟩) q1).trans ((hb12.cell (p:=⟨g,_,none⟩) hg).trans c2),by omega,by omega,by omega⟩:
  W.cell? ⟨Lp,0,none⟩=some (.slice (some ⟨g,0,none⟩) N cap1)∧W.cell? ⟨g,2,none⟩=some (.slice (some ⟨gc,0,none⟩) M fcap)∧Lp<W.heap.size∧g<W.heap.size∧gc<W.heap.size))
 have KI:=Lib.hid (fun(W:World) (hb:Below Lf w2 W) (i:Nat) (x:Ins) (hx:f.code[i]? =some x)=>(by
  obtain⟨h0,h1,h2,h3,h4⟩:=HINS.out i x hx
  have key:∀j,W.cell? ⟨gc,j,none⟩=w1.cell? ⟨gc,j,none⟩:=fun j=>(hb.cell (p:=⟨gc,j,none⟩) HGL.out.2.1).trans (hb12.cell (p:=⟨gc,j,none⟩) hgc)
  exact⟨(key _).trans h0,(key _).trans h1,(key _).trans h2,(key _).trans h3,(key _).trans h4⟩:
  W.cell? ⟨gc,i*5,none⟩=some (.int .i64 x.op)∧W.cell? ⟨gc,i*5+1,none⟩=some (.int .i64 x.dst)∧W.cell? ⟨gc,i*5+2,none⟩=some (.int .i64 x.a)∧W.cell? ⟨gc,i*5+3,none⟩=some (.int .i64 x.b)∧W.cell? ⟨gc,i*5+4,none⟩=some (.int .i64 x.imm)))
 obtain⟨i0,hI0,hz0,hz1',hz2⟩:=info_parts infoIns
 have hz1:=hz1'
 clear hw2 hw3 hx2 hx3 hb12 hs3 hg hgc c2 hz1' hLp hLe hBB
 go_wp2_with fail
 go_loopw [5] (fun v5 wr=>∃(r:Nat) (v4:Value),r≤12∧v5= .int .i64 (r:Int)∧LX w2 Lf B wr v4 r (setL r)) (fun v5 _=>12-(intOf v5).toNat)
 case atStart=>exact⟨0,_,by omega,rfl,HX0.out⟩
 case round=>
  obtain⟨r,v4,hr,rfl,hX⟩:=hrel
  have HX:=Lib.hid hX
  obtain⟨A4,c4,hv4,-⟩:=own_slice hX.own
  subst hv4
  have b2:=cell_block hX.box 2
  have zb:=block_lt hX.box
  by_cases hr12:r=12
  ·subst hr12
   clear hr hX
   go_upto_region 8 with fail
   generalize hwo:wr=wo at *
   clear hwo b2 zb
   rw[show((12:Nat):Int)=12 from rfl]
   go_loopw [6] (fun v6 wr=>∃(i n:Nat) (A4:Option Addr) (c4:Nat),i≤M∧v6= .int .i64 (i:Int)∧12+((f.code.take i).filter okL).length=n∧n≤35∧LX w2 Lf B wr (.slice A4 n c4) n (setL 12++(f.code.take i).filter okL)) (fun v6 _=>M-(intOf v6).toNat)
   case atStart=>exact⟨0,12,A4,c4,by omega,rfl,rfl,by omega,by simpa using HX.out⟩
   case round=>
    obtain⟨i,n,A4,c4,hi,rfl,hn,hn35,hX⟩:=hrel
    clear HX
    obtain⟨L,hL⟩:∃L,(f.code.take i).filter okL=L:=⟨_,rfl⟩
    rw[hL] at hn hX
    have HX:=Lib.hid hX
    have HL:=Lib.hid hL
    have HN:=Lib.hid hn
    have b2:=cell_block hX.box 2
    have zb:=block_lt hX.box
    obtain⟨k0,k1,k2,k3,k4⟩:=KW.out wr hX.base
    clear hL hn
    by_cases hc:i<M∧n<35
    ·obtain⟨hc1,hc2⟩:=hc
     have hi1:(i:Int)<M:=by omega
     have hi2:(0:Int)≤i:=by omega
     have hn1:(n:Int)<35:=by omega
     obtain⟨x,hx⟩:∃x,f.code[i]? =some x:=⟨_,gE (by rw[HM.out];omega)⟩
     obtain⟨g0,g1,g2,g3,g4⟩:=KI.out wr hX.base i x hx
     have hls:=take_ok f.code i hx
     rw[HL.out] at hls
     have HLS:=Lib.hid hls
     obtain⟨xo,xd,xa,xb,xm⟩:=x
     dsimp only at g0 g1 g2 g3 g4
     obtain⟨Lb,hLb⟩:∃n,wr.heap.size=n:=⟨_,rfl⟩
     obtain⟨w7,hw7⟩:∃W,wr.alloc (.cells #[.int .i64 xo, .int .i64 xd, .int .i64 xa, .int .i64 xb, .int .i64 xm] 42)=W:=⟨_,rfl⟩
     have hb7:Below wr.heap.size wr w7:=by rw[←hw7];exact(Below.refl _ _).alloc (Nat.le_refl _) _
     have hB7:w7.heap[Lb]? =some (.cells #[.int .i64 xo, .int .i64 xd, .int .i64 xa, .int .i64 xb, .int .i64 xm] 42 (0,0)):=by rw[←hw7,←hLb];exact heap_alloc_new _ _
     have HX7:=Lib.hid (hX.keeps hb7)
     clear hX hx hls
     go_upto_region 11 with fail
     clear hw7 hb7 g0 g1 g2 g3 g4 k0 k1 k2 k3 k4 b2 zb hLb
     have r0:w7.cell? ⟨Lb,0,none⟩=some (.int .i64 xo):=cell_block hB7 0
     have r1:w7.cell? ⟨Lb,1,none⟩=some (.int .i64 xd):=cell_block hB7 1
     have r2:w7.cell? ⟨Lb,2,none⟩=some (.int .i64 xa):=cell_block hB7 2
     have r3:w7.cell? ⟨Lb,3,none⟩=some (.int .i64 xb):=cell_block hB7 3
     have r4:w7.cell? ⟨Lb,4,none⟩=some (.int .i64 xm):=cell_block hB7 4
     have zL:=block_lt hB7
     have b2:=cell_block HX7.out.box 2
     have zb:=block_lt HX7.out.box
     clear hB7
     by_cases hk:okL ⟨xo,xd,xa,xb,xm⟩=true
     ·have hk' :=hk
      unfold okL at hk'
      obtain⟨h3,h4⟩:=Bool.and_eq_true_iff.1 hk'
      have h12:xo≤12:=of_decide_eq_true h3
      have h5:xo≠5:=of_decide_eq_true h4
      have h5b:(xo !=5)=true:=bne_iff_ne.2 h5
      have HK:=Lib.hid hk
      clear hk hk' h3 h4 h5
      go_wp2_with (at_builtin;go_must (refine wpList_append_own _ rfl _ _ 34 rfl B 42 i0 _ 5 40 Tryd.underlying34 hI0 hz0 hz1 hz2 rfl (by decide) (.slice A4 n c4) n (codeCells (setL 12++L)) rfl (HX7.out.alloc _).own ⟨w7.heap.size,0,none⟩ 1 1 [.int .i64 xo, .int .i64 xd, .int .i64 xa, .int .i64 xb, .int .i64 xm] rfl rfl (World.news_of_block (cs:= #[.int .i64 xo, .int .i64 xd, .int .i64 xa, .int .i64 xb, .int .i64 xm]) (t:=42) (fr:=(0,0)) (by simpa using heap_alloc_new w7 (.cells #[.int .i64 xo, .int .i64 xd, .int .i64 xa, .int .i64 xb, .int .i64 xm] 42))) (by simp[Value.oneCell']) (by unfold maxLen;omega) (by omega) (by have h:=HX7.out.le;simp;omega) ?_);go_must (intro v9 w9 hown9 hg9 _;obtain⟨A9,cap9,hv9,-⟩:=own_slice hown9;rw[hv9] at hown9;rw[hv9];have hgx:=(HX7.out.alloc _).grown hg9;have c2:=cell_block hgx 2;have zf:=block_lt hgx;have ff:=frozen_block hgx 2;have HXP:=Lib.hid ((HX7.out.alloc _).put hg9 ⟨xo,xd,xa,xb,xm⟩ hown9);clear hown9 hg9 hv9 hgx))
      go_roundw
      case rel=>exact⟨i+1,n+1,A9,cap9,by omega,by go_num,by rw[HLS.out,if_pos HK.out,List.length_append,←HN.out];rfl,by omega,by rw[HLS.out,if_pos HK.out,←List.append_assoc];exact HXP.out⟩
      case measure=>simp[intOf];omega
     ·have hk' :=hk
      unfold okL at hk'
      simp only[Bool.and_eq_true,decide_eq_true_eq] at hk'
      have HK:=Lib.hid hk
      clear hk r1 r2 r3 r4
      by_cases h12:xo≤12
      ·have h5b:(xo !=5)=false:=by
        have:xo=5:=Decidable.byContradiction fun h=>hk' ⟨h12,h⟩
        rw[this];rfl
       clear hk'
       go_wp2_with fail
       go_roundw
       case rel=>exact⟨i+1,n,A4,c4,by omega,by go_num,by rw[HLS.out,if_neg HK.out,List.append_nil];exact HN.out,by omega,by rw[HLS.out,if_neg HK.out,List.append_nil];exact HX7.out⟩
       case measure=>simp[intOf];omega
      ·clear hk'
       go_wp2_with fail
       go_roundw
       case rel=>exact⟨i+1,n,A4,c4,by omega,by go_num,by rw[HLS.out,if_neg HK.out,List.append_nil];exact HN.out,by omega,by rw[HLS.out,if_neg HK.out,List.append_nil];exact HX7.out⟩
       case measure=>simp[intOf];omega
    ·rcases(show i=M∨(i<M∧n=35) by omega) with hiM|⟨hiM,hn3⟩
     case' inl=>
      have ht1:¬(i:Int)<M:=by omega
      clear hc hX
      go_upto_region 13 with fail
      clear ht1 hiM
     case' inr=>
      have hi1:(i:Int)<M:=by omega
      have ht1:¬(n:Int)<35:=by omega
      clear hc hX
      go_upto_region 13 with fail
      clear hi1 hiM ht1 hn3
     all_goals (
      have HD:Hid (DOk L):=Lib.hid ⟨by have:=HN.out;omega,fun x hx=>by
       rw[←HL.out] at hx
       obtain⟨h1,h2⟩:=List.mem_filter.1 hx
       unfold okL at h2
       obtain⟨h3,h4⟩:=Bool.and_eq_true_iff.1 h2
       exact⟨of_decide_eq_true h3,of_decide_eq_true h4,_,_,_,HFO.out.r2,HFO.out.ins x (List.mem_of_mem_take h1)⟩⟩
      go_upto_region 14 with(at_builtin;go_must (refine wpList_append_own _ rfl _ _ 34 rfl B 42 i0 _ 5 40 Tryd.underlying34 hI0 hz0 hz1 hz2 rfl (by decide) (.slice A4 n c4) n (codeCells (setL 12++L)) rfl (HX.out.alloc _).own ⟨wr.heap.size,0,none⟩ 1 1 [.int .i64 19, .int .i64 0, .int .i64 1, .int .i64 0, .int .i64 0] rfl rfl (World.news_of_block (cs:= #[.int .i64 19, .int .i64 0, .int .i64 1, .int .i64 0, .int .i64 0]) (t:=42) (fr:=(0,0)) (by simpa using heap_alloc_new wr (.cells #[.int .i64 19, .int .i64 0, .int .i64 1, .int .i64 0, .int .i64 0] 42))) (by simp[Value.oneCell']) (by unfold maxLen;omega) (by omega) (by have h:=HX.out.le;simp;omega) ?_);go_must (intro v9 w9 hown9 hg9 _;obtain⟨A9,cap9,hv9,-⟩:=own_slice hown9;rw[hv9] at hown9;rw[hv9];have hgx:=(HX.out.alloc _).grown hg9;have c2:=cell_block hgx 2;have zf:=block_lt hgx;have ff:=frozen_block hgx 2;have HXP:=Lib.hid ((HX.out.alloc _).put hg9 ⟨19,0,1,0,0⟩ hown9);clear hown9 hg9 hv9 hgx))
      clear c2 zf ff
      obtain⟨wz,hwz⟩:∃W,w9.setCell ⟨Lf,2,none⟩ (.slice A9 (n+1) cap9)=W:=⟨_,rfl⟩
      rw[hwz] at HXP⊢
      clear hwz
      have q0:=cell_block HXP.out.box 0
      have q1:=cell_block HXP.out.box 1
      have q2:=cell_block HXP.out.box 2
      have zq:=block_lt HXP.out.box
      obtain⟨La,hLa⟩:∃L,wz.heap.size=L:=⟨_,rfl⟩
      obtain⟨wa,hwa⟩:∃W,wz.alloc (.cells #[.int .i64 0, .int .i64 12, .slice A9 (n+1) cap9] 36)=W:=⟨_,rfl⟩
      obtain⟨Lq,hLq⟩:∃L,wa.heap.size=L:=⟨_,rfl⟩
      obtain⟨w3,hw3⟩:∃W,wa.alloc (.cells #[.slice (some ⟨La,0,none⟩) 1 1] 25)=W:=⟨_,rfl⟩
      have HX:Hid ((w3.heap[La]? =some (.cells #[.int .i64 0, .int .i64 12, .slice A9 (n+1) cap9] 36 (0,0)))∧w3.heap[Lq]? =some (.cells #[.slice (some ⟨La,0,none⟩) 1 1] 25 (0,0))∧Below La wz w3∧La<Lq):=Lib.hid (by
       have sb:Lq=La+1:=by rw[←hLq,←hwa,←hLa];simp
       have bb:Below La wz wa:=by rw[←hwa,←hLa];exact(Below.refl _ _).alloc (Nat.le_refl _) _
       have bc:Below Lq wa w3:=by rw[←hw3,←hLq];exact(Below.refl _ _).alloc (Nat.le_refl _) _
       have xb:wa.heap[La]? =some (.cells #[.int .i64 0, .int .i64 12, .slice A9 (n+1) cap9] 36 (0,0)):=by rw[←hwa,←hLa];exact heap_alloc_new _ _
       have xc:w3.heap[Lq]? =some (.cells #[.slice (some ⟨La,0,none⟩) 1 1] 25 (0,0)):=by rw[←hw3,←hLq];exact heap_alloc_new _ _
       exact⟨(bc.block La (by omega)).trans xb,xc,bb.trans (bc.mono (by omega)),by omega⟩)
      go_upto_region 15 with fail
      have hbz:Below wz.heap.size wz w3:=by rw[hLa];exact HX.out.2.2.1
      have HX3:=Lib.hid HX.out.2.1
      have HLX:=Lib.hid (HXP.out.keeps hbz)
      have hlen:(setL 12++L++[(⟨19,0,1,0,0⟩:Ins)]).length=n+1:=by rw[List.length_append,List.length_append,setL_len,List.length_singleton];have:=HN.out;omega
      have hpa:ProgAt w3 (.slice (some ⟨La,0,none⟩) 1 1) [lineF L]:=one_prog2 (F:=lineF L) ⟨B,by
       show w3.ownsRow B _ 5 _ (setL 12++L++[(⟨19,0,1,0,0⟩:Ins)]).length _
       rw[hlen]
       exact HLX.out.own⟩ HX.out.1 rfl
      have HBW3:Hid (Below w.heap.size w w3):=Lib.hid (HBW2.out.trans (HLX.out.base.mono HGL.out.2.2.2))
      obtain⟨F,hFe⟩:∃F,lineF L=F:=⟨_,rfl⟩
      obtain⟨R,hR⟩:∃R,(runR (lineF L) (L.length+12)).getD 1 0=R:=⟨_,rfl⟩
      have HCK2:Hid (checkP [F]=0):=Lib.hid (hFe▸line_ok HD.out)
      have HP0:Hid (F.params=0):=Lib.hid (by rw[←hFe];rfl)
      have HLAW:=Lib.hid (fun(O:List Nat) (bs:List BR) (l:List Int) (s s1 s2:SB) (K:Nat) (y:SV) (h:BuiltX [F] F O bs K s1 s2 l s) (he:EndF (actsF F bs s) bs.length (stF F.params.toNat (valN F bs s2 l) bs.length) y)=>(by
       subst hFe hR
       have:=line_law HD.out h he
       rw[show L.length+13=n+1 by have:=HN.out;omega] at this
       exact this:bs.length=1∧LineP (n+1) (valN F bs s2 l) R s y))
      have HRUN:Hid ((walkSt [F] 10001 (beginSt [] [] 100)).status=1∧(walkSt [F] 10001 (beginSt [] [] 100)).value=R):=Lib.hid (by subst hFe hR;exact line_run HD.out)
      rw[hFe] at hpa
      have HPA:=Lib.hid hpa
      have HT3:=Lib.hid (HT.out.keeps HBW3.out)
      have HINV:Hid (StInv [F] (walkSt [F] 10001 (beginSt [] [] 100))):=Lib.hid ((StInv.walk (right_of HCK2.out) 10001 (begin_inv (right_of HCK2.out) [] [] 100 (by simp) (by simp) (by omega) (by omega))))
      have HFC:Hid (Calls Tryd.prog 19 #[.agg #[.slice (some ⟨La,0,none⟩) 1 1], .int .i64 0] w3 fun e w' =>FactsRet [F] F w3.heap.size e w' ∧Below w3.heap.size w3 w'):=Lib.hid (facts_any [F] F (some ⟨La,0,none⟩) 1 0 w3 HT3.out HPA.out HCK2.out rfl)
      have HBU:Hid (∀W,Below w3.heap.size w3 W→Calls Tryd.prog 20 #[.agg #[.slice (some ⟨La,0,none⟩) 1 1], .int .i64 0] W fun e w' =>BuildRet [F] F W.heap.size e w' ∧Below W.heap.size W w'):=Lib.hid (fun W hb=>build_all (some ⟨La,0,none⟩) 1 0 W (HT3.out.keeps hb) (HPA.out.keeps hb) HCK2.out rfl)
      have HRN:Hid (∀W,Below w3.heap.size w3 W→Calls Tryd.prog 26 #[.agg #[.slice (some ⟨La,0,none⟩) 1 1], .slice none 0 0, .slice none 0 0, .int .i64 100] W fun e w' =>(∃C:List Value,e= .returned (.tuple #[.agg C.toArray, .int .i64 0])∧CellsSt C w' W.heap.size (walkSt [F] 10001 (beginSt [] [] 100)))∧Below W.heap.size W w'):=Lib.hid (fun W hb=>srun_any HCK2.out [] [] none 0 none 0 100 (some ⟨La,0,none⟩) 1 W (HT3.out.keeps hb) (HPA.out.keeps hb) (fun h=>absurd h (by simp)) HP0.out (fun h=>absurd h (by simp)) (by simp) (by omega) (by omega))
      have p1:=cell_block HX3.out 0
      have zp1:=block_lt HX3.out
      clear hwa hw3 hLa hLq HX hFe hR hpa hbz hlen q0 q1 q2 zq HXP KI
      go_upto_region 16 with(go_at_call 19;go_must (refine HFC.out.mono ?_;rintro e w4 ⟨⟨s0,O0,bs0,K0,s10,s20,l0,y,gf,gm,rfl,hzf,hzm,hbx0,hend,hff,hfm⟩,hb⟩;obtain⟨hb1,hsp⟩:=HLAW.out _ _ _ _ _ _ _ _ hbx0 hend;have hfm0:=hbx0.form hend;rw[hb1];have HBX0:=Lib.hid hbx0;have HSP:=Lib.hid hsp;have HB4:=Lib.hid hb1;have HFF:=Lib.hid hff;have HFL:=Lib.hid hfm0.n;have HB34:=Lib.hid hb;have HX3b:=Lib.hid ((hb.block Lq zp1).trans HX3.out);have p2:=cell_block HX3b.out 0;have zp2:=block_lt HX3b.out;clear hzf hzm hbx0 hend hff hfm hb hsp hb1 hfm0 p1 zp1))
      go_upto_region 17 with(go_at_call 20;go_must (refine(HBU.out _ HB34.out).mono ?_;rintro e w5 ⟨⟨b,c,s,V,O,bs,K,s2,l2,rfl,hbb,hsb,hbl⟩,hb⟩;have HBX:=Lib.hid (BuiltX.mk hbl HCK2.out (.head _) rfl:BuiltX _ _ O bs K _ s2 l2 s);have hun:=HBX.out.unique HBX0.out;have HUN:=Lib.hid hun.1;have hbsl:bs.length=1:=hun.2.1.trans HB4.out;obtain⟨Ap,cp,hvp,-,hpA⟩:=hsb.rowV .parts (n:=1) (by show s.parts.length=1;rw[HBX.out.finP.len,hbsl]);obtain⟨gp,rfl,-,-⟩:=hpA (by omega);have HVP:=Lib.hid hvp;have HSB:=Lib.hid hsb;have HBSL:=Lib.hid hbsl;have hvl:=hun.2.2.1;rw[hvp,show((F.params.toNat+(allG {s2 with same:=l2} bs.length).length:Nat):Int)=((valN F bs0 s20 l0:Nat):Int) from congrArg Int.ofNat hvl,HP0.out];have HB45:=Lib.hid hb;have HX3c:=Lib.hid ((HB45.out.block Lq (block_lt HX3b.out)).trans HX3b.out);clear hbb hsb hbl hb hvp hvl hbsl hpA hun p2 zp2))
      have hvs:=HBX0.out.few.1
      obtain⟨vl,hvl⟩:∃v,valN F bs0 s20 l0=v:=⟨_,rfl⟩
      rw[hvl] at hvs HSP HFL⊢
      have HS2:=Lib.hid (HSP.out.two HUN.out.symm)
      have HSL:Hid (s.parts.length=1):=Lib.hid (by rw[HBX.out.finP.len,HBSL.out])
      have HIL:=Lib.hid HBX.out.finP.inn
      obtain⟨w6,hw6⟩:∃W,w5.alloc (.cells #[.int .i64 0, .int .i64 (vl:Int), .slice (some ⟨gp,0,none⟩) 1 cp] 49)=W:=⟨_,rfl⟩
      have HXS:Hid (w6.heap[w5.heap.size]? =some (.cells #[.int .i64 0, .int .i64 (vl:Int), .slice (some ⟨gp,0,none⟩) 1 cp] 49 (0,0))):=Lib.hid (hw6▸heap_alloc_new _ _)
      have HB56:Hid (Below w5.heap.size w5 w6):=Lib.hid (hw6▸(Below.refl _ _).alloc (Nat.le_refl _) _)
      have HB46:=Lib.hid (HB45.out.trans (HB56.out.mono HB45.out.size))
      have HB36:=Lib.hid (HB34.out.trans (HB46.out.mono HB34.out.size))
      have HX6:=Lib.hid ((HB56.out.block Lq (block_lt HX3c.out)).trans HX3c.out)
      have p6:=cell_block HX6.out 0
      have zp6:=block_lt HX6.out
      rw[hw6]
      clear hw6 hvl HSP HUN HBX0 HFC HBU
      have hzst:=zero_st
      go_upto_region 18 with(first|(go_at_call 26;go_must (refine(HRN.out _ HB36.out).mono ?_;rintro e w7 ⟨⟨CR,rfl,hCR⟩,hb⟩;have HB67:=Lib.hid hb;obtain⟨_,_,_,_,_,_,hci⟩:=hCR.cin HINV.out.mem (fun f hf=>(HINV.out.fr f hf).regs);have HCI:=Lib.hid (show CR.length=22∧CR[0]? =some (.int .i64 1)∧CR[1]? =some (.int .i64 R)∧CR.toArray.all (·.oneCell')=true from⟨hci.len,by rw[hci.c0,HRUN.out.1],by rw[hci.c1,HRUN.out.2],hci.one⟩);clear hCR hb hci p6 zp6))|(refine wpList_store_mid (by rfl) 70 _ _ (by rfl) w7.heap.size 0 CR.toArray (by rfl) (by rfl) (there_new w7 zeroV _ (by rw[zeroV_length];simp[HCI.out.1])) (by simpa using info_st HCI.out.1) HCI.out.2.2.2 ?_;obtain⟨w8,hw8⟩:∃W,(w7.alloc (.cells zeroV.toArray 70)).setCells w7.heap.size 0 CR.toArray.toList=W:=⟨_,rfl⟩;have HX8:Hid (w8.heap[w7.heap.size]? =some (.cells CR.toArray 70 (0,0))):=Lib.hid (hw8▸block_full (heap_alloc_new w7 _) CR (by simp[HCI.out.1,zeroV_length]));have HB78:Hid (Below w7.heap.size w7 w8):=Lib.hid (hw8▸below_setCells (Nat.le_refl _) _ _ _ ((Below.refl _ _).alloc (Nat.le_refl _) _));rw[hw8];clear hw8))
      have HB68:=Lib.hid (HB67.out.trans (HB78.out.mono HB67.out.size))
      have HB38:=Lib.hid (HB36.out.trans (HB68.out.mono HB36.out.size))
      have HB08:=Lib.hid (HBW3.out.trans (HB38.out.mono HBW3.out.size))
      have HSB8:=Lib.hid (HSB.out.keeps (HB56.out.trans (HB68.out.mono HB56.out.size)))
      have hff:=(HB68.out.block _ (block_lt ((HB46.out.block _ (block_lt HFF.out)).trans HFF.out))).trans ((HB46.out.block _ (block_lt HFF.out)).trans HFF.out)
      have hyn:=HFL.out
      have hxs:=(HB68.out.block _ (block_lt HXS.out)).trans HXS.out
      have hfb:=(HLX.out.keeps HB38.out).box
      obtain⟨Ls,hLs⟩:∃n,w5.heap.size=n:=⟨_,rfl⟩
      obtain⟨Lr,hLr⟩:∃n,w7.heap.size=n:=⟨_,rfl⟩
      have hx8:=HX8.out
      rw[hLs] at hxs⊢
      rw[hLr] at hx8⊢
      obtain⟨AI,ci,hvi,-,hia⟩:=HSB8.out.rowV (.ins 0) (n:=n+1) HS2.out.il
      obtain⟨gi,rfl,-,hgi⟩:=hia (by omega)
      have hpart:w8.cell? ⟨gp,2,none⟩=some (.slice (some ⟨gi,0,none⟩) (n+1) ci):=by
       have h1:=(HSB8.out.partCell HIL.out HVP.out (i:=0) (by rw[HSL.out];omega)).2
       rw[hvi] at h1
       exact h1
      obtain⟨d,hd,hdv,hdR⟩:=HS2.out.back
      have hback:w8.cell? ⟨gi,n*6+2,none⟩=some (.int .i64 (d:Int)):=by
       have h1:=(HSB8.out.insCell hvi (k:=n) (by rw[HS2.out.il];omega)).2.2.1
       have h2:(s.insA 0 n).a=d:=hd
       rw[h2] at h1
       exact h1
      have KX:=Lib.hid (fun(W:World) (hb:Below w8.heap.size w8 W)=>(by
       have hx:=(hb.block _ (block_lt hxs)).trans hxs
       have hf:=(hb.block _ (block_lt hfb)).trans hfb
       have hr:=(hb.block _ (block_lt hx8)).trans hx8
       have zgp:=(HSB8.out.rlt .parts (g:=gp) (by rw[HVP.out];rfl)).2
       exact⟨cell_block hx 1,cell_block hx 2,cell_block hf 2,(hb.cell (p:=⟨gp,2,none⟩) zgp).trans hpart,(hb.cell (p:=⟨gi,_,none⟩) hgi).trans hback,(cell_block hr 0).trans (List.getElem?_toArray.trans HCI.out.2.1),(cell_block hr 1).trans (List.getElem?_toArray.trans HCI.out.2.2.1),block_lt hx,block_lt hf,block_lt hr,Nat.lt_of_lt_of_le (block_lt hff) hb.size,Nat.lt_of_lt_of_le zgp hb.size,Nat.lt_of_lt_of_le hgi hb.size⟩:
       W.cell? ⟨Ls,1,none⟩=some (.int .i64 (vl:Int))∧W.cell? ⟨Ls,2,none⟩=some (.slice (some ⟨gp,0,none⟩) 1 cp)∧W.cell? ⟨Lf,2,none⟩=some (.slice A9 (n+1) cap9)∧W.cell? ⟨gp,2,none⟩=some (.slice (some ⟨gi,0,none⟩) (n+1) ci)∧W.cell? ⟨gi,n*6+2,none⟩=some (.int .i64 (d:Int))∧W.cell? ⟨Lr,0,none⟩=some (.int .i64 1)∧W.cell? ⟨Lr,1,none⟩=some (.int .i64 R)∧Ls<W.heap.size∧Lf<W.heap.size∧Lr<W.heap.size∧gf<W.heap.size∧gp<W.heap.size∧gi<W.heap.size))
      have KF:=Lib.hid (fun(W:World) (hb:Below w8.heap.size w8 W) (v:Nat) (hv:v<vl)=>(fact_cell ((hb.block _ (block_lt hff)).trans hff) (by rw[hyn];exact hv):W.cell? ⟨gf,v*2,none⟩=some (.int .i64 (y.F.getD v noF).k)∧W.cell? ⟨gf,v*2+1,none⟩=some (.int .i64 (y.F.getD v noF).v)))
      have hn40:n≤40:=by omega
      have HDD:=Lib.hid (show d<vl∧(y.F.getD d noF).v=R from⟨hdv,hdR⟩)
      have HB88:Hid (Below w8.heap.size w8 w8):=Lib.hid (Below.refl _ _)
      have hnw:IntKind.i64.wrap (((n:Int)+1)-1)=n:=by rw[IntKind.wrap_i64];omega
      obtain⟨k1,k2,k3,k4,k5,k6,k7,z1,z2,z3,z4,z5,z6⟩:=KX.out w8 HB88.out
      clear hff hyn hxs hfb hx8 hLs hLr hvi hia hgi hpart hd hdv hdR hback HXS HX8 HFF HSB HSB8 KW hzst
      go_quiet (fail)
      go_wp2_with fail
      clear k1 k2 k3 k4 k5 k6 k7 z1 z2 z3 z4 z5 z6
      go_loopw [16] (fun x wr=>∃v:Nat,v≤vl∧x= .int .i64 (v:Int)∧Below w8.heap.size w8 wr) (fun x _=>vl-(intOf x).toNat)
      case atStart=>exact⟨0,by omega,rfl,by first|exact below_drewN HB88.out _|exact HB88.out⟩
      case round=>
       obtain⟨v,hv,rfl,hb⟩:=hrel
       have HB:=Lib.hid hb
       obtain⟨k1,k2,k3,k4,k5,k6,k7,z1,z2,z3,z4,z5,z6⟩:=KX.out _ hb
       by_cases hv0:v=vl
       ·obtain⟨f0,f1⟩:=KF.out _ hb d HDD.out.1
        rw[HDD.out.2] at f1
        have hd1:(d:Int)<vl:=by have:=HDD.out.1;omega
        have hd2:(0:Int)≤d:=by omega
        have hv0' :=hv0.symm
        subst hv0'
        clear hb hv hv0
        go_wp2_with fail
        go_quiet (fail)
        go_wp2_with fail
        go_quiet (fail)
        go_wp2_with fail
        go_ret
        exact⟨rfl,HB08.out.trans ((by first|exact HB.out|exact below_drewN HB.out _|exact below_drewN (below_drewN HB.out _) _:Below w8.heap.size w8 _).mono HB08.out.size)⟩
       ·have hv1:(v:Int)<vl:=by omega
        have hv2:(0:Int)≤v:=by omega
        obtain⟨f0,-⟩:=KF.out _ hb v (by omega)
        rw[HS2.out.all v (by omega)] at f0
        clear hb
        go_wp2_with fail
        go_roundw
        case rel=>exact⟨v+1,by omega,by go_num,HB.out⟩
        case measure=>simp[intOf];omega)
  ·have hr1:(r:Int)<12:=by omega
   have hr2:(0:Int)≤r:=by omega
   have hw1:IntKind.i64.wrap (3*(r:Int))=3*r:=by rw[IntKind.wrap_i64];omega
   clear hX
   go_wp2_with (at_builtin;go_must (refine wpList_append_own _ rfl _ _ 34 rfl B 42 i0 _ 5 40 Tryd.underlying34 hI0 hz0 hz1 hz2 rfl (by decide) (.slice A4 r c4) r (codeCells (setL r)) rfl (HX.out.alloc _).own ⟨wr.heap.size,0,none⟩ 1 1 [.int .i64 1, .int .i64 (r:Int), .int .i64 0, .int .i64 0, .int .i64 (3*(r:Int))] rfl rfl (World.news_of_block (cs:= #[.int .i64 1, .int .i64 (r:Int), .int .i64 0, .int .i64 0, .int .i64 (3*(r:Int))]) (t:=42) (fr:=(0,0)) (by simpa using heap_alloc_new wr (.cells #[.int .i64 1, .int .i64 (r:Int), .int .i64 0, .int .i64 0, .int .i64 (3*(r:Int))] 42))) (by simp[Value.oneCell']) (by unfold maxLen;omega) (by omega) (by have h:=HX.out.le;simp;omega) ?_);go_must (intro v9 w9 hown9 hg9 _;obtain⟨A9,cap9,hv9,-⟩:=own_slice hown9;rw[hv9] at hown9;rw[hv9];have hgx:=(HX.out.alloc _).grown hg9;have c2:=cell_block hgx 2;have zf:=block_lt hgx;have ff:=frozen_block hgx 2;have HXP:=Lib.hid ((HX.out.alloc _).put hg9 (setI r) hown9);clear hown9 hg9 hv9 hgx))
   go_roundw
   case rel=>exact⟨r+1,_,by omega,by go_num,by rw[setL_snoc];exact HXP.out⟩
   case measure=>simp[intOf];omega
end Go.Proofs.YtappljijljjkiaaDoor
