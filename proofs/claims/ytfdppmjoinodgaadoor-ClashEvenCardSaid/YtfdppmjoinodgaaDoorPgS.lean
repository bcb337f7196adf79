/-
  What Program's own memory is between two rounds: two programs that grow beside each other.
-/
import Derived.Test.YtfdppmjoinodgaaDoorShS
import Derived.Test.YtfdppmjoinodgaaDoorFt
import Derived.Maps.AppendAt
import Derived.Test.YtfdppmjoinodgaaDoorPc
namespace Go.Proofs.YtfdppmjoinodgaaDoor
open Go.RowKit Tier
theorem apart_of {v1 v2 : Value} (h : ∀ k, v1.ownBlock = some k → v2.ownBlock ≠ some k) : v2.ownBlock = none ∨ v2.ownBlock ≠ v1.ownBlock := by
  cases h1 : v1.ownBlock with
  | none =>
    cases h2 : v2.ownBlock with
    | none => exact .inl rfl
    | some k => exact .inr (by simp)
  | some k => exact .inr (h k h1)
theorem ProgV.other {wy w1 : World} {B B2 : Nat} {v v2 : Value} {p : List Fnc} {vs : List Value} {n2 : Nat} {x2 : List Value} (h : ProgV wy B v p vs) (o : Obj) (h2 : wy.ownsRow B2 57 3 v2 n2 x2)
    (hap : v.ownBlock = none ∨ v.ownBlock ≠ v2.ownBlock) (hg : (wy.alloc o).grownBy w1 v2.ownBlock) : ProgV w1 B v p vs :=
  ⟨h.len, (h.own.alloc o).kept hg hap, fun i u f hu hf => ((h.code i u f hu hf).alloc o).kept hg (rows_apart (h.code i u f hu hf) h2 (by decide))⟩
structure SQ (w wr : World) (A1 : Option Addr) (cap1 i1 : Nat) (ps : List Fnc) (vs : List Value) (A2 : Option Addr) (cap2 i2 : Nat) (qs : List Fnc) (us : List Value) : Prop where
  len1 : ps.length = i1
  len2 : qs.length = i2
  blk0 : wr.heap[w.heap.size]? = some (.cells #[.slice none 0 0] 25 (0, 0))
  blk1 : wr.heap[w.heap.size + 1]? = some (.cells #[.slice A1 i1 cap1] 25 (0, 0))
  blk2 : wr.heap[w.heap.size + 1 + 1]? = some (.cells #[.slice A2 i2 cap2] 25 (0, 0))
  prog1 : ProgV wr (w.heap.size + 3) (.slice A1 i1 cap1) ps vs
  prog2 : ProgV wr (w.heap.size + 3) (.slice A2 i2 cap2) qs us
  ne : ∀ k, (Value.slice A1 i1 cap1).ownBlock = some k → (Value.slice A2 i2 cap2).ownBlock ≠ some k
  below : Below w.heap.size w wr
section
variable {w wr : World} {A1 A2 : Option Addr} {cap1 i1 cap2 i2 : Nat} {ps qs : List Fnc} {vs us : List Value}
theorem SQ.size (h : SQ w wr A1 cap1 i1 ps vs A2 cap2 i2 qs us) : w.heap.size + 1 + 1 < wr.heap.size := (Array.getElem?_eq_some_iff.1 h.blk2).1
theorem SQ.keeps {w' : World} (h : SQ w wr A1 cap1 i1 ps vs A2 cap2 i2 qs us) (hb : Below wr.heap.size wr w') : SQ w w' A1 cap1 i1 ps vs A2 cap2 i2 qs us :=
  ⟨h.len1, h.len2, (hb.block _ (by have := h.size; omega)).trans h.blk0, (hb.block _ (by have := h.size; omega)).trans h.blk1, (hb.block _ h.size).trans h.blk2, h.prog1.keeps hb, h.prog2.keeps hb, h.ne, h.below.trans (hb.mono h.below.size)⟩
theorem SQ.own1 (h : SQ w wr A1 cap1 i1 ps vs A2 cap2 i2 qs us) : wr.ownsRow (w.heap.size + 3) 57 3 (.slice A1 i1 cap1) i1 (fnCells ps vs) := by
  have := h.prog1.own
  rwa [h.len1] at this
theorem SQ.own2 (h : SQ w wr A1 cap1 i1 ps vs A2 cap2 i2 qs us) : wr.ownsRow (w.heap.size + 3) 57 3 (.slice A2 i2 cap2) i2 (fnCells qs us) := by
  have := h.prog2.own
  rwa [h.len2] at this
theorem SQ.start (w : World) : SQ w (((w.alloc (.cells #[.slice none 0 0] 25)).alloc (.cells #[.slice none 0 0] 25)).alloc (.cells #[.slice none 0 0] 25)) none 0 0 [] [] none 0 0 [] [] := by
  have hp : ∀ W : World, ProgV W (w.heap.size + 3) (.slice none 0 0) [] [] := fun W => ⟨rfl, World.ownsRow_nil _ _ _ _, fun i u f h => by simp at h⟩
  refine ⟨rfl, rfl, ?_, ?_, ?_, hp _, hp _, fun k h => by simp [Value.ownBlock] at h, ?_⟩
  · rw [Below.heap_alloc _ _ _ (by simp; omega), Below.heap_alloc _ _ _ (by simp)]; exact heap_alloc_new _ _
  · rw [Below.heap_alloc _ _ _ (by simp)]; exact heap_alloc_new2 _ _ _
  · have := heap_alloc_new2 (w.alloc (.cells #[.slice none 0 0] 25)) (.cells #[.slice none 0 0] 25) (.cells #[.slice none 0 0] 25)
    simpa using this
  · repeat (first | exact hb | exact Below.refl _ _ | apply Below.drew | apply below_drewN | refine Below.alloc ?_ (by first | omega | (simp; done) | (simp; omega)) _ | refine Below.setCell ?_ (by first | omega | (simp; done) | (simp; omega)) _)
theorem SQ.mid1 (h : SQ w wr A1 cap1 i1 ps vs A2 cap2 i2 qs us) (o : Obj) {w1 : World} (hg : (wr.alloc o).grownBy w1 (Value.slice A1 i1 cap1).ownBlock) :
    ∀ k, k ≤ w.heap.size + 1 + 1 → w1.heap[k]? = wr.heap[k]? := fun k hk => by
  have hs := h.size
  have hrow : ∀ k, (Value.slice A1 i1 cap1).ownBlock = some k → w.heap.size + 3 ≤ k := fun k hk => (World.ownsRow.lt h.prog1.own k hk).1
  rw [hg.block k (by simp; omega) (fun e => by have := hrow k e.symm; omega)]
  exact Below.heap_alloc _ _ _ (by omega)
theorem SQ.mid2 (h : SQ w wr A1 cap1 i1 ps vs A2 cap2 i2 qs us) (o : Obj) {w1 : World} (hg : (wr.alloc o).grownBy w1 (Value.slice A2 i2 cap2).ownBlock) :
    ∀ k, k ≤ w.heap.size + 1 + 1 → w1.heap[k]? = wr.heap[k]? := fun k hk => by
  have hs := h.size
  have hrow : ∀ k, (Value.slice A2 i2 cap2).ownBlock = some k → w.heap.size + 3 ≤ k := fun k hk => (World.ownsRow.lt h.prog2.own k hk).1
  rw [hg.block k (by simp; omega) (fun e => by have := hrow k e.symm; omega)]
  exact Below.heap_alloc _ _ _ (by omega)
theorem SQ.app1 (h : SQ w wr A1 cap1 i1 ps vs A2 cap2 i2 qs us) (f : Fnc) (u : Value) (o : Obj) {w1 : World} {A' : Option Addr} {cap' : Nat} (hu : wr.ownsRow (w.heap.size + 3) 54 5 u f.code.length (codeCells f.code))
    (hg : (wr.alloc o).grownBy w1 (Value.slice A1 i1 cap1).ownBlock)
    (ho : w1.ownsRow (w.heap.size + 3) 57 3 (.slice A' (i1 + 1) cap') (i1 + 1) (fnCells ps vs ++ [.int .i64 f.params, .int .i64 f.regs, u]))
    (hat : (Value.slice A' (i1 + 1) cap').ownBlock = (Value.slice A1 i1 cap1).ownBlock ∨ (Value.slice A' (i1 + 1) cap').ownBlock = some (wr.alloc o).heap.size) :
    SQ w (w1.setCell ⟨w.heap.size + 1, 0, none⟩ (.slice A' (i1 + 1) cap')) A' cap' (i1 + 1) (ps ++ [f]) (vs ++ [u]) A2 cap2 i2 qs us := by
  have hs := h.size
  have hm := h.mid1 o hg
  have hrow : ∀ k, (Value.slice A1 i1 cap1).ownBlock = some k → w.heap.size + 3 ≤ k := fun k hk => (World.ownsRow.lt h.prog1.own k hk).1
  have hset : ∀ k, k ≠ w.heap.size + 1 → (w1.setCell ⟨w.heap.size + 1, 0, none⟩ (.slice A' (i1 + 1) cap')).heap[k]? = w1.heap[k]? := fun k hk => Below.heap_setCell _ _ _ _ hk
  have hb1 : Below wr.heap.size wr (wr.alloc o) := (Below.refl _ _).alloc (Nat.le_refl _) _
  refine ⟨by rw [List.length_append, h.len1]; rfl, h.len2, ?_, ?_, ?_, ?_, ?_, ?_, ?_⟩
  · rw [hset _ (by omega), hm _ (by omega)]; exact h.blk0
  · have h2 := (hm (w.heap.size + 1) (by omega)).trans h.blk1
    simp only [World.setCell, Array.getElem?_modify, if_true, h2, Option.map_some]
    simp
  · rw [hset _ (by omega), hm _ (by omega)]; exact h.blk2
  · exact (h.prog1.app f u o hu hg (by rw [h.len1]; exact ho)).setCell (by simp) _
  · exact (h.prog2.other o h.own1 (apart_of h.ne) hg).setCell (by simp) _
  · intro k hk
    rcases hat with hat | hat
    · rw [hat] at hk; exact h.ne k hk
    · rw [hat] at hk
      intro e
      have := (World.ownsRow.lt h.prog2.own k e).2
      simp at hk; omega
  · refine Below.setCell ?_ (by simp) _
    refine (h.below.trans (hb1.mono h.below.size)).grown hg (by simp; omega) (fun k hk => by have := hrow k hk; omega)
theorem SQ.app2 (h : SQ w wr A1 cap1 i1 ps vs A2 cap2 i2 qs us) (f : Fnc) (u : Value) (o : Obj) {w1 : World} {A' : Option Addr} {cap' : Nat} (hu : wr.ownsRow (w.heap.size + 3) 54 5 u f.code.length (codeCells f.code))
    (hg : (wr.alloc o).grownBy w1 (Value.slice A2 i2 cap2).ownBlock)
    (ho : w1.ownsRow (w.heap.size + 3) 57 3 (.slice A' (i2 + 1) cap') (i2 + 1) (fnCells qs us ++ [.int .i64 f.params, .int .i64 f.regs, u]))
    (hat : (Value.slice A' (i2 + 1) cap').ownBlock = (Value.slice A2 i2 cap2).ownBlock ∨ (Value.slice A' (i2 + 1) cap').ownBlock = some (wr.alloc o).heap.size) :
    SQ w (w1.setCell ⟨w.heap.size + 1 + 1, 0, none⟩ (.slice A' (i2 + 1) cap')) A1 cap1 i1 ps vs A' cap' (i2 + 1) (qs ++ [f]) (us ++ [u]) := by
  have hs := h.size
  have hm := h.mid2 o hg
  have hrow : ∀ k, (Value.slice A2 i2 cap2).ownBlock = some k → w.heap.size + 3 ≤ k := fun k hk => (World.ownsRow.lt h.prog2.own k hk).1
  have hset : ∀ k, k ≠ w.heap.size + 1 + 1 → (w1.setCell ⟨w.heap.size + 1 + 1, 0, none⟩ (.slice A' (i2 + 1) cap')).heap[k]? = w1.heap[k]? := fun k hk => Below.heap_setCell _ _ _ _ hk
  have hb1 : Below wr.heap.size wr (wr.alloc o) := (Below.refl _ _).alloc (Nat.le_refl _) _
  have hne2 : ∀ k, (Value.slice A2 i2 cap2).ownBlock = some k → (Value.slice A1 i1 cap1).ownBlock ≠ some k := fun k hk e => h.ne k e hk
  refine ⟨h.len1, by rw [List.length_append, h.len2]; rfl, ?_, ?_, ?_, ?_, ?_, ?_, ?_⟩
  · rw [hset _ (by omega), hm _ (by omega)]; exact h.blk0
  · rw [hset _ (by omega), hm _ (by omega)]; exact h.blk1
  · have h2 := (hm (w.heap.size + 1 + 1) (by omega)).trans h.blk2
    simp only [World.setCell, Array.getElem?_modify, if_true, h2, Option.map_some]
    simp
  · exact (h.prog1.other o h.own2 (apart_of hne2) hg).setCell (by simp) _
  · exact (h.prog2.app f u o hu hg (by rw [h.len2]; exact ho)).setCell (by simp) _
  · intro k hk
    rcases hat with hat | hat
    · rw [hat]; exact h.ne k hk
    · rw [hat]
      intro e
      have := (World.ownsRow.lt h.prog1.own k hk).2
      simp at e; omega
  · refine Below.setCell ?_ (by simp; omega) _
    refine (h.below.trans (hb1.mono h.below.size)).grown hg (by simp; omega) (fun k hk => by have := hrow k hk; omega)
end
end Go.Proofs.YtfdppmjoinodgaaDoor
/-
  The contract of Program, which makes a right program out of raw numbers.
-/
namespace Go.Proofs.YtfdppmjoinodgaaDoor
open Go.RowKit Tier
set_option maxRecDepth 100000 in
set_option maxHeartbeats 8000000 in
theorem program_any (A : Option Addr) (cap : Nat) (l : List Fnc) (w : World) (ht : Tab w) (hln : (l.length : Int) ≤ 9223372036854775807) (hraw : RawsAt w A l) :
    Calls Tryd.prog 12 #[.slice A l.length cap] w fun e w' =>
      (∃ A' cap' vs, e = .returned (.agg #[.slice A' (mkP l).length cap']) ∧ ProgV w' (w.heap.size + 3) (.slice A' (mkP l).length cap') (mkP l) vs) ∧ Below w.heap.size w w' := by
  obtain ⟨i0, hi, hz0, hz1, hz2⟩ := info_parts infoFn
  have HT := Lib.hid ht
  have HMP := Lib.hid (mkProg_length l false)
  have HMQ := Lib.hid (mkProg_length l true)
  obtain ⟨mm, m1, m2, m3, m4⟩ : ∃ mm : Nat, (if (l.length : Int) < 1 then 1 else (l.length : Int)) = mm ∧ (if 1 < (l.length : Int) then (l.length : Int) else 1) = mm ∧ 1 ≤ mm ∧ mm = max l.length 1 := ⟨max l.length 1, by split <;> omega, by split <;> omega, by omega, rfl⟩
  obtain ⟨nn, n1, n2, n3, n4, n5⟩ : ∃ nn : Nat, (if (mm : Int) < 4 then (mm : Int) else 4) = nn ∧ (if (4 : Int) < mm then (4 : Int) else mm) = nn ∧ 1 ≤ nn ∧ nn ≤ 4 ∧ funcsN l = nn := ⟨min mm 4, by split <;> omega, by split <;> omega, by omega, by omega, by rw [funcsN, m4]⟩
  have HNN := Lib.hid n5
  clear n5 m4 ht
  generalize hLN : l.length = ln at *
  have HLN := Lib.hid hLN
  have HRAW := Lib.hid hraw
  clear hLN hraw
  go_enter Tryd.func12, Tryd.ntmps12
  go_wp2_with fail
  go_loopw [6] (fun v wr => ∃ (i : Nat) (A1 : Option Addr) (cap1 : Nat) (ps : List Fnc) (vs : List Value) (A2 : Option Addr) (cap2 : Nat) (qs : List Fnc) (us : List Value), i ≤ nn ∧ v = .int .i64 (i : Nat) ∧ ps = (mkProg l false).take i ∧ qs = (mkProg l true).take i ∧ SQ w wr A1 cap1 i ps vs A2 cap2 i qs us) (fun v _ => nn - (intOf v).toNat)
  case atStart => exact ⟨0, none, 0, [], [], none, 0, [], [], by omega, rfl, rfl, rfl, SQ.start w⟩
  case round =>
    obtain ⟨i, A1, cap1, ps, vs, A0, cap0, qs, us, hin, rfl, hps, hqs, hS⟩ := hrel
    have HPS := Lib.hid hps
    have HQS := Lib.hid hqs
    have HS := Lib.hid hS
    have q0 := cell_block hS.blk0
    have f0 := frozen_block hS.blk0
    have q1 := cell_block hS.blk1
    have f1 := frozen_block hS.blk1
    have q2 := cell_block hS.blk2
    have f2 := frozen_block hS.blk2
    have z1 := hS.size
    have z0 : w.heap.size < wr.heap.size := by omega
    have z2 : w.heap.size + 1 < wr.heap.size := by omega
    clear hps hqs hS
    by_cases hiN : i = nn
    · subst hiN
      have HPF := Lib.hid (show ps = mkProg l false from HPS.out.trans (List.take_of_length_le (by rw [HMP.out, HNN.out]; exact Nat.le_refl _)))
      have HQF := Lib.hid (show qs = mkProg l true from HQS.out.trans (List.take_of_length_le (by rw [HMQ.out, HNN.out]; exact Nat.le_refl _)))
      have HCK := Lib.hid (fun (W : World) (h1 : Tab W) (h2 : ProgAt W (.slice A1 ps.length cap1) ps) => pcheck_any ps A1 cap1 W h1 h2 (by have := HS.out.len1; omega) (fun f hf => by
        rw [HPF.out] at hf
        obtain ⟨g, rfl⟩ := mkProg_mem hf
        have := mkFn_size g.params g.regs g.code (funcsN l : Nat) false
        omega))
      rw [HS.out.len1] at HCK
      by_cases hz : checkP ps = 0
      · rw [hz] at HCK
        have HFIN := Lib.hid (show mkP l = ps by unfold mkP; rw [← HPF.out, if_pos hz])
        clear hz
        go_wp2_with (go_at_call 27; go_must (refine (HCK.out _ (by have hb := HS.out.below; exact HT.out.keeps (by repeat (first | exact hb | exact Below.refl _ _ | apply Below.drew | apply below_drewN | refine Below.alloc ?_ (by first | omega | (simp; done) | (simp; omega)) _ | refine Below.setCell ?_ (by first | omega | (simp; done) | (simp; omega)) _))) (HS.out.prog1.at.keeps (by have hb := Below.refl wr.heap.size wr; repeat (first | exact hb | exact Below.refl _ _ | apply Below.drew | apply below_drewN | refine Below.alloc ?_ (by first | omega | (simp; done) | (simp; omega)) _ | refine Below.setCell ?_ (by first | omega | (simp; done) | (simp; omega)) _)))).mono ?_; rintro e wx ⟨rfl, hbx⟩; have hbx' : Below wr.heap.size wr wx := (by refine Below.trans ?_ (hbx.mono (by simp)); have hb := Below.refl wr.heap.size wr; repeat (first | exact hb | exact Below.refl _ _ | apply Below.drew | apply below_drewN | refine Below.alloc ?_ (by first | omega | (simp; done) | (simp; omega)) _ | refine Below.setCell ?_ (by first | omega | (simp; done) | (simp; omega)) _)); have HSx := Lib.hid (HS.out.keeps hbx'); have x0 := cell_block HSx.out.blk0; have g0 := frozen_block HSx.out.blk0; have x1 := cell_block HSx.out.blk1; have x2 := cell_block HSx.out.blk2; have zx : w.heap.size + 1 + 1 < wx.heap.size := HSx.out.size; have zx0 : w.heap.size < wx.heap.size := (by omega); have zx1 : w.heap.size + 1 < wx.heap.size := (by omega); clear hbx hbx'))
        have hb := HSx.out.below
        refine bodyPost_ret (v := .agg #[.slice A1 i cap1]) (by simp [results, Tryd.results12, go_sem, x0]) rfl ⟨⟨A1, cap1, vs, ?_, ?_⟩, ?_⟩
        · rw [HFIN.out, HS.out.len1]
        · rw [HFIN.out, HS.out.len1]
          exact HSx.out.prog1.setCell (by simp) _
        · repeat (first | exact hb | exact Below.refl _ _ | apply Below.drew | apply below_drewN | refine Below.alloc ?_ (by first | omega | (simp; done) | (simp; omega)) _ | refine Below.setCell ?_ (by first | omega | (simp; done) | (simp; omega)) _)
      · have hne : (checkP ps == 0) = false := by simpa using hz
        have HFIN := Lib.hid (show mkP l = qs by unfold mkP; rw [← HPF.out, if_neg hz, ← HQF.out])
        clear hz
        generalize checkP ps = ee at *
        go_wp2_with (go_at_call 27; go_must (refine (HCK.out _ (by have hb := HS.out.below; exact HT.out.keeps (by repeat (first | exact hb | exact Below.refl _ _ | apply Below.drew | apply below_drewN | refine Below.alloc ?_ (by first | omega | (simp; done) | (simp; omega)) _ | refine Below.setCell ?_ (by first | omega | (simp; done) | (simp; omega)) _))) (HS.out.prog1.at.keeps (by have hb := Below.refl wr.heap.size wr; repeat (first | exact hb | exact Below.refl _ _ | apply Below.drew | apply below_drewN | refine Below.alloc ?_ (by first | omega | (simp; done) | (simp; omega)) _ | refine Below.setCell ?_ (by first | omega | (simp; done) | (simp; omega)) _)))).mono ?_; rintro e wx ⟨rfl, hbx⟩; have hbx' : Below wr.heap.size wr wx := (by refine Below.trans ?_ (hbx.mono (by simp)); have hb := Below.refl wr.heap.size wr; repeat (first | exact hb | exact Below.refl _ _ | apply Below.drew | apply below_drewN | refine Below.alloc ?_ (by first | omega | (simp; done) | (simp; omega)) _ | refine Below.setCell ?_ (by first | omega | (simp; done) | (simp; omega)) _)); have HSx := Lib.hid (HS.out.keeps hbx'); have x0 := cell_block HSx.out.blk0; have g0 := frozen_block HSx.out.blk0; have x1 := cell_block HSx.out.blk1; have x2 := cell_block HSx.out.blk2; have zx : w.heap.size + 1 + 1 < wx.heap.size := HSx.out.size; have zx0 : w.heap.size < wx.heap.size := (by omega); have zx1 : w.heap.size + 1 < wx.heap.size := (by omega); clear hbx hbx'))
        have hb := HSx.out.below
        refine bodyPost_ret (v := .agg #[.slice A0 i cap0]) (by simp [results, Tryd.results12, go_sem, x0]) rfl ⟨⟨A0, cap0, us, ?_, ?_⟩, ?_⟩
        · rw [HFIN.out, HS.out.len2]
        · rw [HFIN.out, HS.out.len2]
          exact HSx.out.prog2.setCell (by simp) _
        · repeat (first | exact hb | exact Below.refl _ _ | apply Below.drew | apply below_drewN | refine Below.alloc ?_ (by first | omega | (simp; done) | (simp; omega)) _ | refine Below.setCell ?_ (by first | omega | (simp; done) | (simp; omega)) _)
    · have hiN' : (i : Int) < nn := by omega
      clear hiN
      by_cases hil : i < ln
      · obtain ⟨⟨fp, fr, fc⟩, hx⟩ : ∃ x, l[i]? = some x := ⟨l[i]'(by rw [HLN.out]; exact hil), List.getElem?_eq_getElem _⟩
        obtain ⟨rb, ro, hRA, hrb, hcell⟩ := HRAW.out (by rw [HLN.out]; omega)
        obtain ⟨g0, g1, g2, CA, ccap, g3, d0, d1, d2⟩ := hcell i _ hx
        have HRO := Lib.hid (show rawOf l i = ⟨fp, fr, fc⟩ by rw [rawOf, hx]; rfl)
        dsimp only at *
        have HFP := Lib.hid (And.intro g0 (And.intro g1 g2))
        have HRW := Lib.hid g3
        rw [← HS.out.below.cell (p := ⟨rb, _, none⟩) hrb] at d0 d1 d2
        have hrbw : rb < wr.heap.size := Nat.lt_of_lt_of_le hrb HS.out.below.size
        have hi0 : (0 : Int) ≤ (i : Int) := by omega
        have hi1 : (i : Int) < (ln : Int) := by omega
        obtain ⟨F, hF⟩ : ∃ F, mkFn fp fr fc (nn : Int) false = F := ⟨_, rfl⟩
        obtain ⟨G, hG⟩ : ∃ G, mkFn fp fr fc (nn : Int) true = G := ⟨_, rfl⟩
        have HF := Lib.hid hF
        have HG := Lib.hid hG
        clear hcell hx g0 g1 g2 g3 hF hG
        subst hRA
        go_wp2_with (first | (have tok := HS3; at_builtin; go_must (refine wpList_append_own_at _ rfl _ _ 23 rfl (w.heap.size + 3) 57 i0 _ 3 40 Tryd.underlying23 hi hz0 hz1 hz2 rfl (by decide) (.slice A0 i cap0) i (fnCells qs us) rfl (own_below HS3.out.own2 ((Below.refl _ _).alloc (Nat.le_refl _) _)) ⟨w3.heap.size, 0, none⟩ 1 1 [.int .i64 G.params, .int .i64 G.regs, .slice A4 G.code.length cap4] rfl rfl (World.news_of_block (cs := #[.int .i64 G.params, .int .i64 G.regs, .slice A4 G.code.length cap4]) (t := 57) (fr := (0, 0)) (by simpa using heap_alloc_new (w3.setCell ⟨w.heap.size + 1, 0, none⟩ (.slice A3 (i + 1) cap3)) (.cells #[.int .i64 G.params, .int .i64 G.regs, .slice A4 G.code.length cap4] 57))) (by simp [Value.oneCell']) (by unfold maxLen; omega) (by omega) (by simp; omega) ?_); intro v5 w5 hown5 hg5 _ hat5; obtain ⟨A5, cap5, hv5, -⟩ := own_slice hown5; rw [hv5] at hown5 hat5; rw [hv5]; have mid := HS3.out.mid2 _ hg5; have HS5 := Lib.hid (HS3.out.app2 G (.slice A4 G.code.length cap4) _ HOY3.out hg5 hown5 hat5); have t2 := cell_block ((mid (w.heap.size + 1 + 1) (by omega)).trans HS3.out.blk2); have l2 := frozen_block ((mid (w.heap.size + 1 + 1) (by omega)).trans HS3.out.blk2); have zw5 : w.heap.size + 1 + 1 < w5.heap.size := (by have := HS5.out.size; simpa [World.setCell] using this); clear tok mid hown5 hg5 hat5) | (have tok := HSy; at_builtin; go_must (refine wpList_append_own_at _ rfl _ _ 23 rfl (w.heap.size + 3) 57 i0 _ 3 40 Tryd.underlying23 hi hz0 hz1 hz2 rfl (by decide) (.slice A1 i cap1) i (fnCells ps vs) rfl (own_below HSy.out.own1 (((Below.refl _ _).alloc (Nat.le_refl _) _).alloc (by simp) _)) ⟨wy.heap.size + 1, 0, none⟩ 1 1 [.int .i64 F.params, .int .i64 F.regs, .slice A2 F.code.length cap2] rfl rfl (World.news_of_block (cs := #[.int .i64 F.params, .int .i64 F.regs, .slice A2 F.code.length cap2]) (t := 57) (fr := (0, 0)) (heap_alloc_new2 _ _ _)) (by simp [Value.oneCell']) (by unfold maxLen; omega) (by omega) (by simp; omega) ?_); intro v3 w3 hown3 hg3 _ hat3; obtain ⟨A3, cap3, hv3, -⟩ := own_slice hown3; rw [hv3] at hown3 hat3; rw [hv3]; have HSz := Lib.hid (HSy.out.keeps ((Below.refl _ _).alloc (Nat.le_refl _) (.cells #[.int .i64 G.params, .int .i64 G.regs, .slice A4 G.code.length cap4] 57))); have mid := HSz.out.mid1 _ hg3; have hOYz := own_below HOY.out ((Below.refl _ _).alloc (Nat.le_refl _) (.cells #[.int .i64 G.params, .int .i64 G.regs, .slice A4 G.code.length cap4] 57)); have HOY3 := Lib.hid (own_setCell (a := ⟨w.heap.size + 1, 0, none⟩) ((hOYz.alloc _).kept hg3 (rows_apart hOYz HSz.out.own1 (by decide))) (by simp) (.slice A3 (i + 1) cap3)); have HS3 := Lib.hid (HSz.out.app1 F (.slice A2 F.code.length cap2) _ (own_below HOX2.out ((Below.refl _ _).alloc (Nat.le_refl _) _)) hg3 hown3 hat3); have u1 := cell_block ((mid (w.heap.size + 1) (by omega)).trans HSz.out.blk1); have j1 := frozen_block ((mid (w.heap.size + 1) (by omega)).trans HSz.out.blk1); have u2 := cell_block ((mid (w.heap.size + 1 + 1) (by omega)).trans HSz.out.blk2); have j2 := frozen_block ((mid (w.heap.size + 1 + 1) (by omega)).trans HSz.out.blk2); have hyb : w3.heap[wy.heap.size]? = some (.cells #[.int .i64 G.params, .int .i64 G.regs, .slice A4 G.code.length cap4] 57 (0, 0)) := (by rw [hg3.block wy.heap.size (by simp; omega) (fun e => by have := (World.ownsRow.lt HSy.out.own1 _ e.symm).2; omega), Below.heap_alloc _ _ _ (by simp)]; exact heap_alloc_new _ _); have yb := cell_block hyb; have zw3 : w.heap.size + 1 + 1 < w3.heap.size := (by have := HS3.out.size; simpa [World.setCell] using this); have zw4 : wy.heap.size < w3.heap.size := (Array.getElem?_eq_some_iff.1 hyb).1; clear tok mid hOYz hyb hown3 hg3 hat3 y1 k1 y2 k2) | (have tok := HSx; go_at_call 26; go_must (refine (fn_true fp fr CA fc ccap (nn : Int) _ HFP.out.1 HFP.out.2.1 (by omega) (by omega) HFP.out.2.2 (HRW.out.keeps (by have hb := HSx.out.below; repeat (first | exact hb | exact Below.refl _ _ | apply Below.drew | apply below_drewN | refine Below.alloc ?_ (by first | omega | (simp; done) | (simp; omega)) _ | refine Below.setCell ?_ (by first | omega | (simp; done) | (simp; omega)) _)))).mono ?_; rintro e wy ⟨⟨A4, cap4, he, hoy⟩, hby⟩; rw [HG.out] at he hoy; subst he; have hby' : Below wx.heap.size wx wy := (by refine Below.trans ?_ (hby.mono (by simp)); have hb := Below.refl wx.heap.size wx; repeat (first | exact hb | exact Below.refl _ _ | apply Below.drew | apply below_drewN | refine Below.alloc ?_ (by first | omega | (simp; done) | (simp; omega)) _ | refine Below.setCell ?_ (by first | omega | (simp; done) | (simp; omega)) _)); have hxb := (hby.block wx.heap.size (by simp)).trans (heap_alloc_new wx _); have xb := cell_block hxb; have zxb : wx.heap.size < wy.heap.size := (Array.getElem?_eq_some_iff.1 hxb).1; have HSy := Lib.hid (HSx.out.keeps hby'); have HOY := Lib.hid (own_base (B' := w.heap.size + 3) hoy (by have := zx; simp; omega)); have HOX2 := Lib.hid (own_below HOX.out hby'); have zy : w.heap.size + 1 + 1 < wy.heap.size := HSy.out.size; have zy1 : w.heap.size + 1 < wy.heap.size := (by omega); have y1 := cell_block HSy.out.blk1; have k1 := frozen_block HSy.out.blk1; have y2 := cell_block HSy.out.blk2; have k2 := frozen_block HSy.out.blk2; clear tok hxb hoy hby hby' x1 g1 x2 g2)) | (go_at_call 26; go_must (refine (fn_false fp fr CA fc ccap (nn : Int) _ HFP.out.1 HFP.out.2.1 (by omega) (by omega) HFP.out.2.2 (HRW.out.keeps (by have hb := HS.out.below; repeat (first | exact hb | exact Below.refl _ _ | apply Below.drew | apply below_drewN | refine Below.alloc ?_ (by first | omega | (simp; done) | (simp; omega)) _ | refine Below.setCell ?_ (by first | omega | (simp; done) | (simp; omega)) _)))).mono ?_; rintro e wx ⟨⟨A2, cap2, he, hox⟩, hbx⟩; rw [HF.out] at he hox; subst he; have hbx' : Below wr.heap.size wr wx := (by refine Below.trans ?_ (hbx.mono (by simp)); have hb := Below.refl wr.heap.size wr; repeat (first | exact hb | exact Below.refl _ _ | apply Below.drew | apply below_drewN | refine Below.alloc ?_ (by first | omega | (simp; done) | (simp; omega)) _ | refine Below.setCell ?_ (by first | omega | (simp; done) | (simp; omega)) _)); have hqb := (hbx.block wr.heap.size (by simp)).trans (heap_alloc_new wr _); have qb := cell_block hqb; have zqb : wr.heap.size < wx.heap.size := (Array.getElem?_eq_some_iff.1 hqb).1; have HSx := Lib.hid (HS.out.keeps hbx'); have HOX := Lib.hid (own_base (B' := w.heap.size + 3) hox (by have := z1; simp; omega)); have zx : w.heap.size + 1 + 1 < wx.heap.size := HSx.out.size; have x1 := cell_block HSx.out.blk1; have g1 := frozen_block HSx.out.blk1; have x2 := cell_block HSx.out.blk2; have g2 := frozen_block HSx.out.blk2; clear hqb hox hbx hbx')))
        go_roundw
        case rel => exact ⟨i + 1, A3, cap3, ps ++ [F], vs ++ [.slice A2 F.code.length cap2], A5, cap5, qs ++ [G], us ++ [.slice A4 G.code.length cap4], by omega, by go_num, by rw [HPS.out, mkProg_take l false i (by rw [HNN.out]; omega), HRO.out, HNN.out, ← HF.out], by rw [HQS.out, mkProg_take l true i (by rw [HNN.out]; omega), HRO.out, HNN.out, ← HG.out], HS5.out⟩
        case measure => simp [intOf]; omega
      · obtain ⟨F, hF⟩ : ∃ F, mkFn 0 0 [] (nn : Int) false = F := ⟨_, rfl⟩
        obtain ⟨G, hG⟩ : ∃ G, mkFn 0 0 [] (nn : Int) true = G := ⟨_, rfl⟩
        have HF := Lib.hid hF
        have HG := Lib.hid hG
        have HRO := Lib.hid (show rawOf l i = ⟨0, 0, []⟩ by rw [rawOf, List.getElem?_eq_none (by rw [HLN.out]; omega)]; rfl)
        have hl0 : ¬ (i : Int) < (ln : Int) := by omega
        obtain ⟨fp, hfp⟩ : ∃ fp : Int, fp = 0 := ⟨_, rfl⟩
        clear hF hG
        go_wp2_with (first | (have tok := HS3; at_builtin; go_must (refine wpList_append_own_at _ rfl _ _ 23 rfl (w.heap.size + 3) 57 i0 _ 3 40 Tryd.underlying23 hi hz0 hz1 hz2 rfl (by decide) (.slice A0 i cap0) i (fnCells qs us) rfl (own_below HS3.out.own2 ((Below.refl _ _).alloc (Nat.le_refl _) _)) ⟨w3.heap.size, 0, none⟩ 1 1 [.int .i64 G.params, .int .i64 G.regs, .slice A4 G.code.length cap4] rfl rfl (World.news_of_block (cs := #[.int .i64 G.params, .int .i64 G.regs, .slice A4 G.code.length cap4]) (t := 57) (fr := (0, 0)) (by simpa using heap_alloc_new (w3.setCell ⟨w.heap.size + 1, 0, none⟩ (.slice A3 (i + 1) cap3)) (.cells #[.int .i64 G.params, .int .i64 G.regs, .slice A4 G.code.length cap4] 57))) (by simp [Value.oneCell']) (by unfold maxLen; omega) (by omega) (by simp; omega) ?_); intro v5 w5 hown5 hg5 _ hat5; obtain ⟨A5, cap5, hv5, -⟩ := own_slice hown5; rw [hv5] at hown5 hat5; rw [hv5]; have mid := HS3.out.mid2 _ hg5; have HS5 := Lib.hid (HS3.out.app2 G (.slice A4 G.code.length cap4) _ HOY3.out hg5 hown5 hat5); have t2 := cell_block ((mid (w.heap.size + 1 + 1) (by omega)).trans HS3.out.blk2); have l2 := frozen_block ((mid (w.heap.size + 1 + 1) (by omega)).trans HS3.out.blk2); have zw5 : w.heap.size + 1 + 1 < w5.heap.size := (by have := HS5.out.size; simpa [World.setCell] using this); clear tok mid hown5 hg5 hat5) | (have tok := HSy; at_builtin; go_must (refine wpList_append_own_at _ rfl _ _ 23 rfl (w.heap.size + 3) 57 i0 _ 3 40 Tryd.underlying23 hi hz0 hz1 hz2 rfl (by decide) (.slice A1 i cap1) i (fnCells ps vs) rfl (own_below HSy.out.own1 (((Below.refl _ _).alloc (Nat.le_refl _) _).alloc (by simp) _)) ⟨wy.heap.size + 1, 0, none⟩ 1 1 [.int .i64 F.params, .int .i64 F.regs, .slice A2 F.code.length cap2] rfl rfl (World.news_of_block (cs := #[.int .i64 F.params, .int .i64 F.regs, .slice A2 F.code.length cap2]) (t := 57) (fr := (0, 0)) (heap_alloc_new2 _ _ _)) (by simp [Value.oneCell']) (by unfold maxLen; omega) (by omega) (by simp; omega) ?_); intro v3 w3 hown3 hg3 _ hat3; obtain ⟨A3, cap3, hv3, -⟩ := own_slice hown3; rw [hv3] at hown3 hat3; rw [hv3]; have HSz := Lib.hid (HSy.out.keeps ((Below.refl _ _).alloc (Nat.le_refl _) (.cells #[.int .i64 G.params, .int .i64 G.regs, .slice A4 G.code.length cap4] 57))); have mid := HSz.out.mid1 _ hg3; have hOYz := own_below HOY.out ((Below.refl _ _).alloc (Nat.le_refl _) (.cells #[.int .i64 G.params, .int .i64 G.regs, .slice A4 G.code.length cap4] 57)); have HOY3 := Lib.hid (own_setCell (a := ⟨w.heap.size + 1, 0, none⟩) ((hOYz.alloc _).kept hg3 (rows_apart hOYz HSz.out.own1 (by decide))) (by simp) (.slice A3 (i + 1) cap3)); have HS3 := Lib.hid (HSz.out.app1 F (.slice A2 F.code.length cap2) _ (own_below HOX2.out ((Below.refl _ _).alloc (Nat.le_refl _) _)) hg3 hown3 hat3); have u1 := cell_block ((mid (w.heap.size + 1) (by omega)).trans HSz.out.blk1); have j1 := frozen_block ((mid (w.heap.size + 1) (by omega)).trans HSz.out.blk1); have u2 := cell_block ((mid (w.heap.size + 1 + 1) (by omega)).trans HSz.out.blk2); have j2 := frozen_block ((mid (w.heap.size + 1 + 1) (by omega)).trans HSz.out.blk2); have hyb : w3.heap[wy.heap.size]? = some (.cells #[.int .i64 G.params, .int .i64 G.regs, .slice A4 G.code.length cap4] 57 (0, 0)) := (by rw [hg3.block wy.heap.size (by simp; omega) (fun e => by have := (World.ownsRow.lt HSy.out.own1 _ e.symm).2; omega), Below.heap_alloc _ _ _ (by simp)]; exact heap_alloc_new _ _); have yb := cell_block hyb; have zw3 : w.heap.size + 1 + 1 < w3.heap.size := (by have := HS3.out.size; simpa [World.setCell] using this); have zw4 : wy.heap.size < w3.heap.size := (Array.getElem?_eq_some_iff.1 hyb).1; clear tok mid hOYz hyb hown3 hg3 hat3 y1 k1 y2 k2) | (have tok := HSx; go_at_call 26; go_must (refine (fn_true 0 0 none [] 0 (nn : Int) _ (by unfold In; omega) (by unfold In; omega) (by omega) (by omega) (by simp) (fun h => by simp at h)).mono ?_; rintro e wy ⟨⟨A4, cap4, he, hoy⟩, hby⟩; rw [HG.out] at he hoy; subst he; have hby' : Below wx.heap.size wx wy := (by refine Below.trans ?_ (hby.mono (by simp)); have hb := Below.refl wx.heap.size wx; repeat (first | exact hb | exact Below.refl _ _ | apply Below.drew | apply below_drewN | refine Below.alloc ?_ (by first | omega | (simp; done) | (simp; omega)) _ | refine Below.setCell ?_ (by first | omega | (simp; done) | (simp; omega)) _)); have hxb := (hby.block wx.heap.size (by simp)).trans (heap_alloc_new wx _); have xb := cell_block hxb; have zxb : wx.heap.size < wy.heap.size := (Array.getElem?_eq_some_iff.1 hxb).1; have HSy := Lib.hid (HSx.out.keeps hby'); have HOY := Lib.hid (own_base (B' := w.heap.size + 3) hoy (by have := zx; simp; omega)); have HOX2 := Lib.hid (own_below HOX.out hby'); have zy : w.heap.size + 1 + 1 < wy.heap.size := HSy.out.size; have zy1 : w.heap.size + 1 < wy.heap.size := (by omega); have y1 := cell_block HSy.out.blk1; have k1 := frozen_block HSy.out.blk1; have y2 := cell_block HSy.out.blk2; have k2 := frozen_block HSy.out.blk2; clear tok hxb hoy hby hby' x1 g1 x2 g2)) | (go_at_call 26; go_must (refine (fn_false 0 0 none [] 0 (nn : Int) _ (by unfold In; omega) (by unfold In; omega) (by omega) (by omega) (by simp) (fun h => by simp at h)).mono ?_; rintro e wx ⟨⟨A2, cap2, he, hox⟩, hbx⟩; rw [HF.out] at he hox; subst he; have hbx' : Below wr.heap.size wr wx := (by refine Below.trans ?_ (hbx.mono (by simp)); have hb := Below.refl wr.heap.size wr; repeat (first | exact hb | exact Below.refl _ _ | apply Below.drew | apply below_drewN | refine Below.alloc ?_ (by first | omega | (simp; done) | (simp; omega)) _ | refine Below.setCell ?_ (by first | omega | (simp; done) | (simp; omega)) _)); have hqb := (hbx.block wr.heap.size (by simp)).trans (heap_alloc_new wr _); have qb := cell_block hqb; have zqb : wr.heap.size < wx.heap.size := (Array.getElem?_eq_some_iff.1 hqb).1; have HSx := Lib.hid (HS.out.keeps hbx'); have HOX := Lib.hid (own_base (B' := w.heap.size + 3) hox (by have := z1; simp; omega)); have zx : w.heap.size + 1 + 1 < wx.heap.size := HSx.out.size; have x1 := cell_block HSx.out.blk1; have g1 := frozen_block HSx.out.blk1; have x2 := cell_block HSx.out.blk2; have g2 := frozen_block HSx.out.blk2; clear hqb hox hbx hbx')))
        go_roundw
        case rel => exact ⟨i + 1, A3, cap3, ps ++ [F], vs ++ [.slice A2 F.code.length cap2], A5, cap5, qs ++ [G], us ++ [.slice A4 G.code.length cap4], by omega, by go_num, by rw [HPS.out, mkProg_take l false i (by rw [HNN.out]; omega), HRO.out, HNN.out, ← HF.out], by rw [HQS.out, mkProg_take l true i (by rw [HNN.out]; omega), HRO.out, HNN.out, ← HG.out], HS5.out⟩
        case measure => simp [intOf]; omega
end Go.Proofs.YtfdppmjoinodgaaDoor
