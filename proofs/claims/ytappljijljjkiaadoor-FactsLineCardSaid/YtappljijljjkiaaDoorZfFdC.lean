/-
  The solver's beginning in memory; block's contract in a function that was built.
-/
import Derived.Test.YtappljijljjkiaaDoorZfFdB
import Derived.Test.YtappljijljjkiaaDoorZfSv5
namespace Go.Proofs.YtappljijljjkiaaDoor
open Go.RowKit Tier
theorem infoFact:(Tryd.prog.info? 58).map (fun i=>(i.zero,i.size,i.bytes))=some (some (.agg #[.int .i64 0, .int .i64 0]),2,16):=by kernel_rfl
theorem make_facts(N:Nat)(hN:N≤10000)(w:World):(Instr.makeSlice 43 (.int .i64 (N:Int)) (.int .i64 (N:Int))).run Tryd.prog w= .ok (.slice (some ⟨w.heap.size,0,none⟩) N N) (w.alloc (.cells (madeCells #[.int .i64 0, .int .i64 0] (N*2)) 58)):=by
 obtain⟨i,hi,hzz⟩:=Option.map_eq_some_iff.1 infoFact
 simp only[Prod.mk.injEq] at hzz
 obtain⟨hz,hs,hb⟩:=hzz
 have hr:=run_make (P:=Tryd.prog) w 43 58 i _ Tryd.underlying43 hi hz .i64 .i64 N N (by omega) (Int.le_refl _) (by rw[hb];omega) (by omega)
 simp only[Int.toNat_natCast,hs] at hr
 exact hr
theorem made_facts(n:Nat):madeCells #[Value.int .i64 0, .int .i64 0] (n*2)=(factCells (parF 0 n)).toArray:=by
 have hl:(parF 0 n).length=n:=by simp[parF]
 apply Array.ext_getElem?
 intro i
 by_cases h:i<n*2
 ·have h1:i / 2<(parF 0 n).length:=by rw[hl];omega
  have e:(factCells (parF 0 n))[i / 2*2+i % 2]? =(((parF 0 n).getD (i / 2) noF).cells)[i % 2]? :=flat_at (f:=fun i=>((parF 0 n).getD i noF).cells) (n:=2) (t:=i % 2) (fun _ _=>rfl) h1 (by omega)
  rw[show i / 2*2+i % 2=i by omega,parF_get,if_neg (by omega)] at e
  refine Eq.trans ?_ (List.getElem?_toArray.trans e).symm
  rcases Nat.mod_two_eq_zero_or_one i with h3|h3<;>simp[madeCells,h,h3,noF,FactS.cells]
 ·rw[Array.getElem?_eq_none (by simp[madeCells];omega),List.getElem?_toArray,List.getElem?_eq_none (by rw[factCells_len,hl];omega)]
theorem parF_set{k n:Nat}:(parF k n).set k ⟨2,0⟩=parF (k+1) n:=by
 apply List.ext_getElem?
 intro j
 have e:∀P,(parF P n)[j]? =if j<n then some (if j<P then(⟨2,0⟩:FactS) else noF) else none:=fun P=>by
  unfold parF
  rw[List.getElem?_map]
  by_cases h:j<n
  ·rw[List.getElem?_range h,if_pos h];rfl
  ·rw[List.getElem?_eq_none (by simp;omega),if_neg h];rfl
 rw[List.getElem?_set,e,e]
 have hl:(parF k n).length=n:=by simp[parF]
 rw[hl]
 by_cases h:k=j
 ·subst h
  rw[if_pos rfl]
  by_cases h2:k<n
  ·rw[if_pos h2,if_pos h2,if_pos (by omega)]
  ·rw[if_neg h2,if_neg h2]
 ·rw[if_neg h]
  by_cases h2:j<n
  ·rw[if_pos h2,if_pos h2]
   by_cases h3:j<k
   ·rw[if_pos h3,if_pos (by omega)]
   ·rw[if_neg h3,if_neg (by omega)]
  ·rw[if_neg h2,if_neg h2]
theorem SolAt.par{w:World}{b ne:Nat}{h:SH}{x:SV}(s:SolAt w b h ne x){i:Nat}(hi:i<h.n)(f:FactS):
 SolAt (w.setCells h.gf (i*2) [.int .i64 f.k, .int .i64 f.v]) b h ne {x with F:=x.F.set i f}∧FrV w b h (w.setCells h.gf (i*2) [.int .i64 f.k, .int .i64 f.v]):=by
 obtain⟨n1,n2,n3,n4,n5,n6⟩:=s.dis
 have hi' :i<x.F.length:=by rw[s.fl];exact hi
 obtain⟨es,clock,hm⟩:=s.ed.map
 have e1:=block_setCells_ne [.int .i64 f.k, .int .i64 f.v] s.box (fun e=>n1 e.symm) (i*2)
 have e2:(w.setCells h.gf (i*2) [.int .i64 f.k, .int .i64 f.v]).heap[h.gf]? =some (.cells (factCells (x.F.set i f)).toArray 58 (0,0)):=by
  have h2:=block_put s.facts (i:=i*2) (v:= .int .i64 f.k) rfl
  have h3:=block_put h2 (i:=i*2+1) (v:= .int .i64 f.v) rfl
  refine h3.trans ?_
  congr 2
  have hs:=flat_sets (f:=fun i=>(x.F.getD i noF).cells) (f' :=fun j=>((x.F.set i f).getD j noF).cells) (m:=x.F.length) (n:=2) (i:=i) (fun _ _=>rfl) hi' f.cells rfl (fun k hk=>by
   show((x.F.set i f).getD k noF).cells=(x.F.getD k noF).cells
   rw[gD,List.getElem?_set_ne (fun e=>hk e.symm),←gD]) (by
   show((x.F.set i f).getD i noF).cells=_
   rw[gD,List.getElem?_set_self hi'];rfl)
  have e:factCells (x.F.set i f)=(List.range x.F.length).flatMap fun j=>((x.F.set i f).getD j noF).cells:=by
   unfold factCells;rw[List.length_set]
  rw[e,←hs];rfl
 refine⟨⟨e1,e2,block_setCells_ne _ s.met n4 _,s.ed.of_block ?_,by rw[List.length_set];exact s.fl,s.ml⟩,base0 rfl rfl rfl (by simp[size_setCells]),?_,fun k hk _ k2 _ _=> ?_⟩
 ·rw[hm];exact block_setCells_ne _ hm n5 _
 ·simp[size_setCells]
 ·obtain⟨o,ho⟩:∃o,w.heap[k]? =some o:=⟨_,Array.getElem?_eq_getElem hk⟩
  rw[ho]
  exact block_setCells_ne _ ho (fun e=>k2 e.symm) _
theorem SolAt.off{w:World}{b ne:Nat}{h:SH}{x:SV}(s:SolAt w b h ne x):SolAt (w.setCell ⟨b,7,none⟩ (.bool false)) b h ne (offF x)∧FrV w b h (w.setCell ⟨b,7,none⟩ (.bool false)):=by
 obtain⟨n1,n2,n3,n4,n5,n6⟩:=s.dis
 obtain⟨es,clock,hm⟩:=s.ed.map
 refine⟨⟨block_put s.box rfl,block_set_ne s.facts n1 7 _,block_set_ne s.met n2 7 _,s.ed.of_block ?_,s.fl,s.ml⟩,base0 rfl rfl rfl (by simp[World.setCell]),?_,fun k hk k1 _ _ _=> ?_⟩
 ·rw[hm];exact block_set_ne hm n3 7 _
 ·simp[World.setCell]
 ·obtain⟨o,ho⟩:∃o,w.heap[k]? =some o:=⟨_,Array.getElem?_eq_getElem hk⟩
  rw[ho]
  exact block_set_ne ho (fun e=>k1 e.symm) 7 _
theorem FrV.below{w w' :World}{B b:Nat}{h:SH}(f:FrV w b h w')(hB:B≤w.heap.size)(h1:B≤b)(h2:B≤h.gf)(h3:B≤h.gm)(h4:B≤h.ge):Below B w w' :=
 ⟨f.base.os,f.base.tape,f.base.output,f.size,fun k hk=>f.kept k (by omega) (by omega) (by omega) (by omega) (by omega)⟩
theorem EdAt.raw{W:World}{g:Nat}(h:W.heap[g]? =some (.map #[] 0)):EdAt W g 0 fun _ _=>false:=by
 obtain⟨D,⟨es,clock,h1,r⟩,h2,h3⟩:=EdAt.made W
 rw[heap_alloc_new] at h1
 injection h1 with h1
 injection h1 with e1 e2
 subst e1 e2
 exact⟨D,⟨#[],0,h,r⟩,h2,h3⟩
theorem SolAt.start{W:World}{b n H:Nat}{h:SH}(hn:h.n=n)(hH:h.H=H)(h1:W.heap[b]? =some (.cells (h.cells false).toArray 118 (0,0)))(h2:W.heap[h.gf]? =some (.cells (madeCells #[Value.int .i64 0, .int .i64 0] (n*2)) 58 (0,0)))(h3:W.heap[h.gm]? =some (.cells (madeCells #[Value.bool false] H) 4 (0,0)))(h4:EdAt W h.ge 0 fun _ _=>false):SolAt W b h 0 (begF 0 n H):=by
 refine⟨h1,by rw[h2,made_facts];rfl,by rw[h3,made_bR];rfl,h4,by rw[hn];simp[begF,parF],by rw[hH];simp[begF]⟩
theorem ecnt_zero(H:Nat):ecnt H (fun _ _=>false)=0:=by
 unfold ecnt
 rw[List.countP_eq_zero]
 intro _ _ h
 cases h
theorem acts_two{F:Fnc}{bs bs2:List BR}{s:SB}(h:prevL bs=prevL bs2):actsF F bs s=actsF F bs2 s:=by
 unfold actsF phA
 rw[h]
theorem FinP.two{p:List Fnc}{F:Fnc}{O:List Nat}{bs bs2:List BR}{s:SB}{vals:Nat}{g:Nat→Nat}{c:Nat→Nat→Nat}(hf:FinP p F O bs s vals g c)(hl:bs.length=bs2.length)(hp:prevL bs=prevL bs2):FinP p F O bs2 s vals g c:=by
 obtain⟨h1,h2,h3,h4,h5,h6,h7,h8,h9,h10,h11,h12,h13,h14,h15,h16,h17,h18,h19,h20⟩:=hf
 rw[hl] at h1 h3 h4 h5 h6 h7 h8 h9 h10 h11 h12 h13 h14 h15 h16 h19 h20
 rw[hp] at h6 h9
 exact⟨h1,h2,h3,h4,h5,h6,h7,h8,h9,h10,h11,h12,h13,h14,h15,h16,h17,h18,h19,h20⟩
theorem BuiltX.few{p:List Fnc}{F:Fnc}{O:List Nat}{bs:List BR}{K:Nat}{s1 s2 s:SB}{l:List Int}(h:BuiltX p F O bs K s1 s2 l s):valN F bs s2 l≤10000∧∀i,i<bs.length→0<(s.part i).ins.length∧(s.part i).ins.length≤40:=by
 have hR:=right_of h.hk
 have hfo:=hR.ok.fn F h.hF
 have hb:=h.b.bok.len
 have hH:bs.length≤40:=bs_le h.hk h.hF h.b.bok
 have key:∀i,i<bs.length→0<(s.part i).ins.length∧(s.part i).ins.length≤40:=fun i hi=>by
  rw[h.finP.il i hi]
  have h1:=toF_spec hR h.hF (hdA_mem2 (show i<(hdL F).length by rw[←hb];exact hi)).1
  have h2:=h1.1
  have h3:=h1.2.1
  have:=hfo.c2
  omega
 exact⟨h.finP.few (by have h1:=hfo.p1;have h2:=hfo.p2;omega) hH (fun i hi=>(key i hi).2),key⟩
theorem BuiltX.block{p:List Fnc}{F:Fnc}{O:List Nat}{bs bs2:List BR}{K:Nat}{s1 s2 s:SB}{l:List Int}(hx:BuiltX p F O bs K s1 s2 l s)(hok:BlkOk F bs2)(b:Nat)(h:SH)(x:SV)(gb Bb sb:Nat)(c:SC)(V:SK→Value)(i gp cp:Nat)(w:World)(hs:SolX w b h x)(hsb:SbAt w sb c s V)(hvp:V .parts= .slice (some ⟨gp,0,none⟩) bs2.length cp)(hh2:h.h2= .slice (some ⟨gp,0,none⟩) bs2.length cp)(hB:BlkB w gb Bb bs2)(hbv:h.bv= .slice (some ⟨gb,0,none⟩) bs2.length bs2.length)(hi:i<bs2.length)(hn:h.n=valN F bs s2 l)(hH:h.H=bs2.length):
 Calls Tryd.prog 44 #[.pointer (some ⟨b,0,none⟩), .int .i64 (i:Int)] w fun e w' =>e= .returned (.tuple #[])∧SolX w' b h (runsF (actsF F bs s i) x)∧FrV w b h w' :=by
 have hl:bs.length=bs2.length:=by rw[hx.b.bok.len,hok.len]
 have hp:=prevL_two hx.b.bok hok
 have hf:=hx.finP.two hl hp
 rw[acts_two hp,←block_runs]
 obtain⟨f1,f2⟩:=hx.few
 have hle:=bs_le hx.hk hx.hF hok
 exact block_any b h x p F O bs2 gb Bb sb c s V _ _ _ i gp cp w hf hs hsb hvp hh2 hB hok hbv hi hn hH hle f1 (nx_lt hx.hk hx.hF hok i hi) (Nat.le_trans (nxI_len F _) (by omega)) (f2 i (by omega)).1 (f2 i (by omega)).2 (prevF_len300 hx.hk hx.hF hok hle i) (fun k hk=>hf.pLt hi hk) (fun t ht=>hf.iLt hi ht)
def FactsRet(p:List Fnc)(F:Fnc)(B:Nat)(e:Ending)(w' :World):Prop:=∃s O bs K s1 s2 l y gf gm,e= .returned (.tuple #[.slice (some ⟨gf,0,none⟩) (valN F bs s2 l) (valN F bs s2 l), .slice (some ⟨gm,0,none⟩) bs.length bs.length, .int .i64 0])∧B≤gf∧B≤gm∧BuiltX p F O bs K s1 s2 l s∧EndF (actsF F bs s) bs.length (stF F.params.toNat (valN F bs s2 l) bs.length) y∧w'.heap[gf]? =some (.cells (factCells y.F).toArray 58 (0,0))∧w'.heap[gm]? =some (.cells (y.met.map Value.bool).toArray 4 (0,0))
theorem BuiltX.sys{p:List Fnc}{F:Fnc}{O:List Nat}{bs:List BR}{K:Nat}{s1 s2 s:SB}{l:List Int}(h:BuiltX p F O bs K s1 s2 l s):SysF (valN F bs s2 l) bs.length (actsF F bs s):=h.finP.sys (nx_lt h.hk h.hF h.b.bok)
theorem BuiltX.beg{p:List Fnc}{F:Fnc}{O:List Nat}{bs:List BR}{K:Nat}{s1 s2 s:SB}{l:List Int}(h:BuiltX p F O bs K s1 s2 l s):GoodF (valN F bs s2 l) bs.length (actsF F bs s) (stF F.params.toNat (valN F bs s2 l) bs.length):=h.finP.good (by
 rw[h.b.bok.len]
 exact(gI.1 (zero_head (right_of h.hk) h.hF)).1)
end Go.Proofs.YtappljijljjkiaaDoor
