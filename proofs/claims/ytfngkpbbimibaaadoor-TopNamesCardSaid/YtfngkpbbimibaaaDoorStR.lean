/-
  The contracts of the byte code's machine for states as rows of cells; states that lie in boxes; step.Run.
-/
import Derived.Test.YtfngkpbbimibaaaDoorStG
namespace Go.Proofs.YtfngkpbbimibaaaDoor
open Go.RowKit Tier
section
variable {p : List Fnc} {B : Nat} {C : List Value} {s : St} {A : Option Addr} {cap : Nat} {w : World}
theorem CellsSt.len (h : CellsSt C w B s) (hm : s.mem.length = 16) : C.length = 22 := by
  obtain ⟨FS, ES, AS, rfl, -⟩ := h
  exact stCells_length hm _ _ _
theorem CellsSt.one (h : CellsSt C w B s) : C.toArray.all (·.oneCell') = true := by
  obtain ⟨FS, ES, AS, rfl, h⟩ := h
  exact stC_one h
theorem scheck_c (hc : checkP p = 0) (ht : Tab w) (hP : ProgAt w (.slice A p.length cap) p) (hi : StInv p s) (h : CellsSt C w B s) :
    Calls Tryd.prog 46 #[.agg #[.slice A p.length cap], .agg C.toArray] w fun e w' => e = .returned (.int .i64 0) ∧ Below w.heap.size w w' := by
  obtain ⟨FS, ES, AS, rfl, hr⟩ := h
  exact scheck_any hc s FS ES AS A cap w ht hP hi hr
theorem swalk_c (hc : checkP p = 0) (n : Nat) (hn : n ≤ 1000000) (ht : Tab w) (hP : ProgAt w (.slice A p.length cap) p) (hi : StInv p s) (h : CellsSt C w B s) :
    Calls Tryd.prog 35 #[.agg #[.slice A p.length cap], .agg C.toArray, .int .i64 (n : Int)] w fun e w' => (∃ C' : List Value, e = .returned (.tuple #[.agg C'.toArray, .int .i64 0]) ∧ CellsSt C' w' w.heap.size (walkSt p n s)) ∧ Below w.heap.size w w' := by
  obtain ⟨FS, ES, AS, rfl, hr⟩ := h
  refine (swalk_any hc s FS ES AS A cap n hn w ht hP hi hr).mono ?_
  rintro e w' ⟨⟨v, rfl, hv⟩, hb⟩
  obtain ⟨C', rfl, hC⟩ := hv.cells
  exact ⟨⟨C', rfl, hC⟩, hb⟩
theorem swalkneg_c (hc : checkP p = 0) (n : Int) (hn : n < 0) (ht : Tab w) (hP : ProgAt w (.slice A p.length cap) p) (hi : StInv p s) (h : CellsSt C w B s) :
    Calls Tryd.prog 35 #[.agg #[.slice A p.length cap], .agg C.toArray, .int .i64 n] w fun e w' => e = .returned (.tuple #[.agg zeroV.toArray, .int .i64 2]) ∧ Below w.heap.size w w' := by
  obtain ⟨FS, ES, AS, rfl, hr⟩ := h
  exact swalk_neg hc s FS ES AS A cap n hn w ht hP hi hr
end
/-- A program's box, and states in boxes; wP: where the program was made. -/
structure Sx (wP : World) (pb : Nat) (pv : Value) (w : World) (l : List (Nat × List Value × St)) : Prop where
  below : Below wP.heap.size wP w
  pblk : w.heap[pb]? = some (.cells #[pv] 25 (0, 0))
  sts : ∀ x ∈ l, w.heap[x.1]? = some (.cells x.2.1.toArray 49 (0, 0)) ∧ CellsSt x.2.1 w wP.heap.size x.2.2
section
variable {wP w w' : World} {pb : Nat} {pv : Value} {l : List (Nat × List Value × St)}
theorem Sx.keeps (h : Sx wP pb pv w l) (hb : Below w.heap.size w w') : Sx wP pb pv w' l :=
  ⟨h.below.trans (hb.mono h.below.size), (hb.block _ (block_lt h.pblk)).trans h.pblk, fun x hx => ⟨(hb.block _ (block_lt (h.sts x hx).1)).trans (h.sts x hx).1, (h.sts x hx).2.below hb⟩⟩
theorem Sx.alloc (h : Sx wP pb pv w l) (o : Obj) : Sx wP pb pv (w.alloc o) l := h.keeps ((Below.refl _ _).alloc (Nat.le_refl _) _)
theorem Sx.drew (h : Sx wP pb pv w l) : Sx wP pb pv w.drew l := h.keeps (Below.refl _ _).drew
theorem Sx.drewN (h : Sx wP pb pv w l) (n : Nat) : Sx wP pb pv (w.drewN n) l := h.keeps (below_drewN (Below.refl _ _) n)
/-- A state goes into the box b, that holds no other state of those. -/
theorem Sx.put (h : Sx wP pb pv w l) {b : Nat} {Z : List Value} {C : List Value} {s : St} (hb : w.heap[b]? = some (.cells Z.toArray 49 (0, 0))) (hz : Z.length = 22) (hB : wP.heap.size ≤ b) (hC : CellsSt C w wP.heap.size s) (hl : C.length = 22) {l' : List (Nat × List Value × St)} (hn : ∀ x ∈ l', x ∈ l ∧ x.1 ≠ b) :
    Sx wP pb pv (w.setCells b 0 C) ((b, C, s) :: l') := by
  have hne : pb ≠ b := fun e => by
    have := h.pblk
    rw [e, hb] at this
    simp at this
  refine ⟨below_setCells hB _ _ _ h.below, block_setCells_ne _ h.pblk (fun e => hne e.symm) _, fun x hx => ?_⟩
  have key : ∀ {C' : List Value} {s' : St}, CellsSt C' w wP.heap.size s' → CellsSt C' (w.setCells b 0 C) wP.heap.size s' := fun hC' => by
    obtain ⟨FS, ES, AS, h1, h2⟩ := hC'
    exact ⟨FS, ES, AS, h1, strows_setCells (by decide) (by decide) _ _ h2 hb⟩
  rcases List.mem_cons.1 hx with rfl | hx
  · exact ⟨block_full hb _ (by simp [hl, hz]), key hC⟩
  · obtain ⟨h1, h2⟩ := hn x hx
    exact ⟨block_setCells_ne _ (h.sts x h1).1 (fun e => h2 e.symm) _, key (h.sts x h1).2⟩
/-- A state goes into a box of its own. -/
theorem Sx.add (h : Sx wP pb pv w l) {C : List Value} {s : St} (hC : CellsSt C w wP.heap.size s) (hm : s.mem.length = 16) : Sx wP pb pv ((w.alloc (.cells zeroV.toArray 49)).setCells w.heap.size 0 C) ((w.heap.size, C, s) :: l) := by
  have hb : Below w.heap.size w (w.alloc (.cells zeroV.toArray 49)) := (Below.refl _ _).alloc (Nat.le_refl _) _
  exact (h.keeps hb).put (heap_alloc_new w _) zeroV_length h.below.size (hC.below hb) (hC.len hm) (fun x hx => ⟨hx, fun e => by have := block_lt (h.sts x hx).1; omega⟩)
theorem Sx.there (h : Sx wP pb pv w l) {b : Nat} {C : List Value} {s : St} (hx : (b, C, s) ∈ l) {n : Nat} (hn : n ≤ C.length) : w.there b 0 n := there_block (h.sts _ hx).1 (by simpa using hn)
theorem there_new (w : World) (cs : List Value) (t : TypeId) {n : Nat} (hn : n ≤ cs.length) : (w.alloc (.cells cs.toArray t)).there w.heap.size 0 n := there_block (heap_alloc_new w _) (by simpa using hn)
theorem Sx.pcell (h : Sx wP pb pv w l) : w.cell? ⟨pb, 0, none⟩ = some pv := (cell_block h.pblk 0).trans rfl
theorem Sx.cell (h : Sx wP pb pv w l) {b : Nat} {C : List Value} {s : St} (hx : (b, C, s) ∈ l) (i : Nat) : w.cell? ⟨b, i, none⟩ = C[i]? := (cell_block (h.sts _ hx).1 i).trans List.getElem?_toArray
theorem Sx.range (h : Sx wP pb pv w l) {b : Nat} {C : List Value} {s : St} (hx : (b, C, s) ∈ l) : w.rangeAt b 0 C := range_block (h.sts _ hx).1
theorem Sx.lt (h : Sx wP pb pv w l) {b : Nat} {C : List Value} {s : St} (hx : (b, C, s) ∈ l) : b < w.heap.size := block_lt (h.sts _ hx).1
end
set_option maxRecDepth 100000 in
set_option maxHeartbeats 8000000 in
theorem srun_any {p : List Fnc} (hc : checkP p = 0) (args ans : List Int) (XA : Option Addr) (xcap : Nat) (YA : Option Addr) (ycap : Nat) (fuel : Int) (A : Option Addr) (cap : Nat) (w : World) (ht : Tab w) (hP : ProgAt w (.slice A p.length cap) p)
    (hx : IntsAt w XA args) (hlx : (fnOf p 0).params = args.length) (hy : IntsAt w YA ans) (hly : ans.length ≤ 100) (f0 : 0 ≤ fuel) (f1 : fuel ≤ 10000) :
    Calls Tryd.prog 30 #[.agg #[.slice A p.length cap], .slice XA args.length xcap, .slice YA ans.length ycap, .int .i64 fuel] w fun e w' => (∃ C : List Value, e = .returned (.tuple #[.agg C.toArray, .int .i64 0]) ∧ CellsSt C w' w.heap.size (walkSt p 10001 (beginSt args ans fuel))) ∧ Below w.heap.size w w' := by
  have hp := right_of hc
  have hla : args.length ≤ 2 := by
    have hl : 0 < p.length := by have := hp.ok.l1; omega
    have hf := hp.ok.fn p[0] (List.getElem_mem hl)
    have e : fnOf p 0 = p[0] := fnOf_get (fn := 0) (List.getElem?_eq_getElem hl)
    rw [e] at hlx
    have := hf.p2
    omega
  have hi0 := begin_inv hp args ans fuel (by omega) hly f0 f1
  have HBG := Lib.hid (fun (W : World) (h1 : Below w.heap.size w W) => sbegin_any hc args ans XA xcap YA ycap fuel A cap W (ht.keeps h1) (hP.keeps h1) (hx.keeps h1) hlx (hy.keeps h1) hly f0 f1)
  obtain ⟨s0, hs0⟩ : ∃ s0, beginSt args ans fuel = s0 := ⟨_, rfl⟩
  rw [hs0] at HBG hi0 ⊢
  obtain ⟨s1, hs1⟩ : ∃ s1, walkSt p 10001 s0 = s1 := ⟨_, rfl⟩
  have hi1 : StInv p s1 := by rw [← hs1]; exact hi0.walk hp _
  have HWK := Lib.hid (fun (C : List Value) (W : World) (hb : Below w.heap.size w W) (hC : CellsSt C W w.heap.size s0) => swalk_c hc 10001 (by omega) (ht.keeps hb) (hP.keeps hb) hi0 hC)
  rw [hs1] at HWK ⊢
  have HM0 := Lib.hid hi0.mem
  have HM1 := Lib.hid hi1.mem
  have hz := zero_st
  obtain ⟨m, hm⟩ : ∃ m, args.length = m := ⟨_, rfl⟩
  obtain ⟨n, hn⟩ : ∃ m, ans.length = m := ⟨_, rfl⟩
  rw [hm, hn] at HBG ⊢
  have hb0 := Lib.hid (((Below.refl w.heap.size w).alloc (Nat.le_refl _) (.cells #[.slice A p.length cap] 25)).alloc (by simp) (.cells zeroV.toArray 49))
  have HBB := Lib.hid (fun (w1 : World) (hb : Below ((w.alloc (.cells #[.slice A p.length cap] 25)).alloc (.cells zeroV.toArray 49)).heap.size ((w.alloc (.cells #[.slice A p.length cap] 25)).alloc (.cells zeroV.toArray 49)) w1) => (⟨⟨hb0.out.trans (hb.mono (by simp; omega)), (hb.block w.heap.size (by simp; omega)).trans (block_alloc (heap_alloc_new w _) _), fun x hx => by simp at hx⟩, (hb.block (w.heap.size + 1) (by simp)).trans (heap_alloc_new1 w _ _)⟩ : Sx w w.heap.size (.slice A p.length cap) w1 [] ∧ w1.heap[w.heap.size + 1]? = some (.cells zeroV.toArray 49 (0, 0))))
  clear ht hP hx hlx hy hly hi0 hi1 hs0 hs1 hm hn
  go_enter Tryd.func30, Tryd.ntmps30
  go_wp2_with fail
  refine (HBG.out _ hb0.out).mono ?_
  rintro e w1 ⟨⟨C1, rfl, hC1⟩, hb1⟩
  have HX1 := Lib.hid (HBB.out w1 hb1)
  have HC1 := Lib.hid (hC1.base (by simp; omega : w.heap.size ≤ _))
  have HI1 := Lib.hid (info_st (HC1.out.len HM0.out))
  have HL1 := Lib.hid (HC1.out.len HM0.out)
  clear hC1 hb1 HBB hb0 HBG
  go_wp2_with (first
    | (refine wpList_store_mid (by rfl) 49 _ _ (by rfl) w1.heap.size 0 C1.toArray (by rfl) (by rfl) (there_new w1 zeroV _ (by simp [HL1.out, zeroV_length])) (by simpa using HI1.out) HC1.out.one ?_; obtain ⟨w2, hw2⟩ : ∃ w2, (w1.alloc (.cells zeroV.toArray 49)).setCells w1.heap.size 0 C1.toArray.toList = w2 := ⟨_, rfl⟩; rw [hw2]; have HX2 : Hid (Sx w w.heap.size (.slice A p.length cap) w2 [(w1.heap.size, C1, s0)]) := Lib.hid (hw2 ▸ HX1.out.1.add HC1.out HM0.out); have HR2 : Hid (w2.heap[w.heap.size + 1]? = some (.cells zeroV.toArray 49 (0, 0))) := Lib.hid (hw2 ▸ block_setCells_ne _ (block_alloc HX1.out.2 _) (by have := block_lt HX1.out.2; omega) _); have c2 := HX2.out.pcell; clear hw2)
    | (refine wpList_load_mid (by rfl) 49 _ (by rfl) w1.heap.size 0 (by rfl) C1 _ (HX2.out.range (.head _)) Tryd.underlying49 (by rfl) HI1.out ?_))
  refine (HWK.out C1 _ HX2.out.below (HX2.out.sts _ (.head _)).2).mono ?_
  rintro e w3 ⟨⟨C3, rfl, hC3⟩, hb3⟩
  have HX3 := Lib.hid (HX2.out.keeps hb3)
  have HR3 := Lib.hid ((hb3.block _ (block_lt HR2.out)).trans HR2.out)
  have HC3 := Lib.hid (hC3.base HX2.out.below.size)
  have HI3 := Lib.hid (info_st (HC3.out.len HM1.out))
  have HTH := Lib.hid (there_block (n := C3.length) HR3.out (by rw [HC3.out.len HM1.out]; exact Nat.le_refl _))
  clear hC3 hb3 c2
  go_wp2_with (refine wpList_store_mid (by rfl) 49 _ _ (by rfl) (w.heap.size + 1) 0 C3.toArray (by rfl) (by rfl) HTH.out (by simpa using HI3.out) HC3.out.one ?_)
  have hrd := run_loadVar_mid (P := Tryd.prog) _ _ _ 49 C3 _ (World.rangeAt_setCells_same w3 (w.heap.size + 1) 0 C3 HTH.out) Tryd.underlying49 (by rfl) HI3.out
  refine bodyPost_ret (v := .tuple #[.agg C3.toArray, .int .i64 0]) (results_cell2 Tryd.results30 _ _ _ _ _ ?_ hrd) rfl ⟨⟨C3, rfl, ?_⟩, ?_⟩
  · rfl
  · obtain ⟨FS, ES, AS, h1, h2⟩ := HC3.out
    exact ⟨FS, ES, AS, h1, strows_setCells (by decide) (by decide) _ _ h2 HR3.out⟩
  · exact below_setCells (by simp) _ _ _ HX3.out.below
end Go.Proofs.YtfngkpbbimibaaaDoor
