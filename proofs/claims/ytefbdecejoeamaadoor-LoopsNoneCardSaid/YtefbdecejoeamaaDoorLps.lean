/-
  The contract of flow.Loops.
-/
import Derived.Test.YtefbdecejoeamaaDoorLo
import Derived.Test.YtefbdecejoeamaaDoorAb
namespace Tier
open Go Go.RowKit Go.Proofs.YtefbdecejoeamaaDoor
/-- One step up the chain. -/
theorem dom_up {p : List Fnc} {F : Fnc} (hp : Right p) (hF : F ∈ p) {a m : Nat} (hm : m < (hdL F).length) (h0 : m ≠ 0) (hne : a ≠ m) : ¬ Av (Edg F) a (idomN F m) ↔ ¬ Av (Edg F) a m := by
  obtain ⟨-, h2⟩ := idomN_spec hp hF hm h0
  exact ⟨fun h => dom_trans h h2.2.1, fun h => h2.2.2 a hne h⟩
theorem dom_cnt {p : List Fnc} {F : Fnc} (hp : Right p) (hF : F ∈ p) {i : Nat} (hi : i < (hdL F).length) (h0 : i ≠ 0) : domC (Edg F) (hdL F).length (idomN F i) + 1 = domC (Edg F) (hdL F).length i :=
  idom_count (edg_dom hp hF) hi (idomN_spec hp hF hi h0).2
noncomputable def muK (F : Fnc) (n : Nat) (z : Int) : Nat := if z < 0 then 0 else domC (Edg F) n z.toNat + 1
/-- A row of a loop. -/
def LoopQ (F : Fnc) (row : List Nat) : Prop := ∃ head back, head < (hdL F).length ∧ Edg F back head ∧ ¬ Av (Edg F) head back ∧ LoopR F head back row
end Tier
namespace Go.Proofs.YtefbdecejoeamaaDoor
open Go.RowKit Tier
theorem infoSli : (Tryd.prog.info? 40).map (fun i => (i.zero, i.size, i.bytes)) = some (some (.slice none 0 0), 1, 24) := by kernel_rfl
set_option maxRecDepth 100000 in
set_option maxHeartbeats 8000000 in
theorem stands_any (p : List Fnc) (F : Fnc) (x ab a c : Nat) (r : Bool) (w : World) (hp : Right p) (hF : F ∈ p) (hx : w.cell? ⟨x, 0, none⟩ = some (.slice (some ⟨ab, 0, none⟩) (hdL F).length (hdL F).length)) (_zx : x < w.heap.size) (hI : IntsB w ab (abvL F)) (ha : a < (hdL F).length) (hc : c < (hdL F).length) (hr : r = true ↔ ¬ Av (Edg F) a c) :
    Calls Tryd.prog 72 #[.int .i64 (a : Int), .int .i64 (c : Int), .pointer (some ⟨x, 0, none⟩)] w fun e w' => e = .returned (.bool r) ∧ w = w' := by
  obtain ⟨H, hH⟩ : ∃ H, (hdL F).length = H := ⟨_, rfl⟩
  have HH := Lib.hid hH
  have hHM : H ≤ 40 := by have h0 := (hp.ok.fn F hF).c2; have h1 := hdTo_len F F.code.length; have h2 : hdTo F F.code.length = hdL F := rfl; rw [h2, hH] at h1; omega
  rw [hH] at ha hc hx
  have HP := Lib.hid hp
  have HF := Lib.hid hF
  have HX := Lib.hid hx
  have HI := Lib.hid hI
  have HR := Lib.hid hr
  have zab := hI.lt
  clear hp hF hI hr hH
  go_enter Tryd.func72, Tryd.ntmps72
  go_wp2_with fail
  go_loop [1] (fun v => (v = .int .i64 (-1) ∧ Av (Edg F) a c) ∨ ∃ m : Nat, m < H ∧ v = .int .i64 (m : Int) ∧ (¬ Av (Edg F) a m ↔ ¬ Av (Edg F) a c)) (fun v => muK F H (intOf v))
  case atStart => exact .inr ⟨c, hc, rfl, Iff.rfl⟩
  case round =>
    rcases hrel with ⟨rfl, hv⟩ | ⟨m, hm, rfl, hv⟩
    · have hne : ((-1 : Int) == (a : Int)) = false := beq_eq_false_iff_ne.2 (by omega)
      have hrf : r = false := by
        cases hrr : r with
        | false => rfl
        | true => exact absurd hv (HR.out.1 hrr)
      clear hv
      go_wp2_with fail
      go_ret
      exact ⟨rfl, rfl⟩
    · have m0 : (0 : Int) ≤ m := by omega
      have m1 : (m : Int) < H := by omega
      by_cases hma : m = a
      · subst hma
        have hne : ((m : Int) != (m : Int)) = false := by simp
        have hne2 : ((m : Int) == (m : Int)) = true := by simp
        have hrt : r = true := HR.out.2 (hv.1 (fun h => h.ne rfl))
        clear hv
        go_wp2_with fail
        go_ret
        exact ⟨rfl, rfl⟩
      · have hne : ((m : Int) != (a : Int)) = true := bne_iff_ne.2 (by omega)
        by_cases h0 : m = 0
        · subst h0
          have ca : w.cell? ⟨ab, 0, none⟩ = some (.int .i64 (-1)) := HI.out.cell (show (abvL F)[0]? = some (-1) from abvL_get (by rw [HH.out]; exact hm))
          have hva : Av (Edg F) a c := Classical.byContradiction fun hh => by
            have := dom_zero (hv.2 hh)
            exact hma this.symm
          clear hv
          go_wp2_with fail
          go_round
          case rel => exact .inl ⟨rfl, hva⟩
          case measure => simp [intOf, muK]
        · have ca : w.cell? ⟨ab, m, none⟩ = some (.int .i64 (idomN F m : Int)) := HI.out.cell (show (abvL F)[m]? = some (idomN F m : Int) from by rw [abvL_get (by rw [HH.out]; exact hm)]; unfold abvI; rw [if_neg h0])
          have hup := dom_up HP.out HF.out (a := a) (by rw [HH.out]; exact hm) h0 (fun e => hma e.symm)
          have hcn := dom_cnt HP.out HF.out (by rw [HH.out]; exact hm) h0
          have hil := (idomN_spec HP.out HF.out (by rw [HH.out]; exact hm) h0).1
          rw [HH.out] at hcn hil
          obtain ⟨q, hq⟩ : ∃ q, idomN F m = q := ⟨_, rfl⟩
          rw [hq] at ca hcn hil hup
          have HUP := Lib.hid (hup.trans hv)
          have HCN := Lib.hid hcn
          clear hv hup hcn hq
          go_wp2_with fail
          go_round
          case rel => exact .inr ⟨q, hil, rfl, HUP.out⟩
          case measure => have h1 := HCN.out; show muK F H (q : Int) < muK F H (m : Int); unfold muK; rw [if_neg (by omega), if_neg (by omega), Int.toNat_natCast, Int.toNat_natCast]; omega
/-- Whole numbers lie in memory as the slice v, from its block's first cell on. -/
def RowZ (w : World) (B : Nat) (v : Value) (l : List Int) : Prop :=
  ∃ A cap, v = .slice A l.length cap ∧ (0 < l.length → ∃ b cur, A = some ⟨b, 0, none⟩ ∧ B ≤ b ∧ w.heap[b]? = some (.cells cur 3 (0, 0)) ∧ ∀ (i : Nat) (x : Int), l[i]? = some x → cur[i]? = some (.int .i64 x))
theorem RowZ.below {w w' : World} {B : Nat} {v : Value} {l : List Int} (h : RowZ w B v l) (hb : Below w.heap.size w w') : RowZ w' B v l := by
  obtain ⟨A, cap, h1, h3⟩ := h
  refine ⟨A, cap, h1, fun hl => ?_⟩
  obtain ⟨b, cur, h4, h5, h6, h7⟩ := h3 hl
  exact ⟨b, cur, h4, h5, (hb.block b (Array.getElem?_eq_some_iff.1 h6).1).trans h6, h7⟩
theorem RowZ.base {w : World} {B B' : Nat} {v : Value} {l : List Int} (h : RowZ w B v l) (hB : B' ≤ B) : RowZ w B' v l := by
  obtain ⟨A, cap, h1, h3⟩ := h
  refine ⟨A, cap, h1, fun hl => ?_⟩
  obtain ⟨b, cur, h4, h5, h6, h7⟩ := h3 hl
  exact ⟨b, cur, h4, by omega, h6, h7⟩
theorem rowz_own {w : World} {B : Nat} {v : Value} {l : List Int} (h : OwnI w B v l) : RowZ w B v l := by
  rcases h.2 with ⟨rfl, h0⟩ | ⟨g, cap, cur, rfl, hg, hh, hn, hc, hs, ht⟩
  · exact ⟨none, 0, by rw [h0], by omega⟩
  · refine ⟨_, cap, rfl, fun _ => ⟨g, cur, rfl, hg, hh, fun i x hx => ?_⟩⟩
    have hi : i < l.length := (List.getElem?_eq_some_iff.1 hx).1
    have := congrArg (·[i]?) ht
    simp only [List.getElem?_take, Nat.mul_one, if_pos hi, List.getElem?_map, hx, Option.map_some] at this
    simpa using this
theorem RowZ.row {w : World} {B : Nat} {v : Value} {l : List Int} (h : RowZ w B v l) : ∃ A cap, v = .slice A l.length cap ∧ RowI w A l := by
  obtain ⟨A, cap, h1, h3⟩ := h
  refine ⟨A, cap, h1, fun hl => ?_⟩
  obtain ⟨b, cur, h4, h5, h6, h7⟩ := h3 hl
  exact ⟨b, h4, (Array.getElem?_eq_some_iff.1 h6).1, fun i z hz => by rw [cell_block h6]; exact h7 i z hz⟩
/-- The rows of loops so far. -/
structure LpsW (w3 wr : World) (A : Option Addr) (cap : Nat) (vs : List Value) (rows : List (List Nat)) : Prop where
  own : wr.ownsRow w3.heap.size 40 1 (.slice A vs.length cap) vs.length vs
  len : rows.length = vs.length
  at_ : ∀ (i : Nat) (v : Value) (row : List Nat), vs[i]? = some v → rows[i]? = some row → RowZ wr w3.heap.size v (natI row)
  below : Below w3.heap.size w3 wr
section
variable {w3 wr : World} {A : Option Addr} {cap : Nat} {vs : List Value} {rows : List (List Nat)}
theorem LpsW.start (w3 : World) : LpsW w3 w3 none 0 [] [] := ⟨World.ownsRow_nil _ _ _ _, rfl, fun i v row h => by simp at h, Below.refl _ _⟩
theorem LpsW.keeps {w' : World} (h : LpsW w3 wr A cap vs rows) (hb : Below wr.heap.size wr w') : LpsW w3 w' A cap vs rows :=
  ⟨own_below h.own hb, h.len, fun i v row h1 h2 => (h.at_ i v row h1 h2).below hb, h.below.trans (hb.mono h.below.size)⟩
theorem LpsW.push (h : LpsW w3 wr A cap vs rows) {v : Value} {row : List Nat} (hv : RowZ wr w3.heap.size v (natI row)) {w1 : World} {A' : Option Addr} {cap' : Nat}
    (hg : (wr.alloc (.cells #[v] 40)).grownBy w1 (Value.slice A vs.length cap).ownBlock)
    (ho : w1.ownsRow w3.heap.size 40 1 (.slice A' (vs.length + 1) cap') (vs.length + 1) (vs ++ [v])) :
    LpsW w3 w1 A' cap' (vs ++ [v]) (rows ++ [row]) := by
  have hrow : ∀ k, (Value.slice A vs.length cap).ownBlock = some k → w3.heap.size ≤ k := fun k hk => (World.ownsRow.lt h.own k hk).1
  have hlen : (vs ++ [v]).length = vs.length + 1 := by simp
  have hk : ∀ (u : Value) (r : List Nat), RowZ wr w3.heap.size u (natI r) → RowZ w1 w3.heap.size u (natI r) := fun u r hu => by
    obtain ⟨A0, cap0, h1, h3⟩ := hu
    refine ⟨A0, cap0, h1, fun hl => ?_⟩
    obtain ⟨b, cur, h4, h5, h6, h7⟩ := h3 hl
    refine ⟨b, cur, h4, h5, ?_, h7⟩
    have hlt : b < wr.heap.size := (Array.getElem?_eq_some_iff.1 h6).1
    rw [hg.block b (by simp; omega) (fun e => ?_), Below.heap_alloc _ _ _ hlt]
    · exact h6
    · rcases h.own.2 with ⟨h8, -⟩ | ⟨g, cap9, cur9, hv9, hg9, hh9, -⟩
      · rw [h8] at e; simp [Value.ownBlock] at e
      · rw [hv9] at e
        simp [Value.ownBlock] at e
        subst e
        rw [h6] at hh9
        simp at hh9
  refine ⟨by rw [hlen]; exact ho, by simp [h.len], fun i u r h1 h2 => ?_, (h.below.alloc h.below.size _).grown hg (by simp; have := h.below.size; omega) (fun k hk => hrow k hk)⟩
  by_cases hi : i < vs.length
  · rw [List.getElem?_append_left hi] at h1
    rw [List.getElem?_append_left (by rw [h.len]; exact hi)] at h2
    exact hk u r (h.at_ i u r h1 h2)
  · have hi2 : i = vs.length := by have := (List.getElem?_eq_some_iff.1 h1).1; simp at this; omega
    subst hi2
    rw [List.getElem?_append_right (Nat.le_refl _)] at h1
    rw [List.getElem?_append_right (by rw [h.len]; exact Nat.le_refl _), h.len] at h2
    simp at h1 h2
    subst h1 h2
    exact hk _ _ hv
end
def LoopsRet (F : Fnc) (B : Nat) (e : Ending) (w' : World) : Prop := ∃ (w3 : World) (A : Option Addr) (cap : Nat) (vs : List Value) (rows : List (List Nat)), e = .returned (.tuple #[.slice A vs.length cap, .int .i64 0]) ∧ B ≤ w3.heap.size ∧ LpsW w3 w' A cap vs rows ∧ vs.length ≤ 80 ∧ ∀ row ∈ rows, LoopQ F row
set_option maxRecDepth 100000 in
set_option maxHeartbeats 8000000 in
theorem loops_any (p : List Fnc) (A : Option Addr) (cap k : Nat) (F : Fnc) (w : World) (ht : Tab w) (hp : ProgAt w (.slice A p.length cap) p) (hk : checkP p = 0) (hf : p[k]? = some F) :
    Calls Tryd.prog 42 #[.agg #[.slice A p.length cap], .int .i64 (k : Int)] w fun e w' => LoopsRet F w.heap.size e w' ∧ Below w.heap.size w w' := by
  have hR := right_of hk
  have hFm := List.mem_of_getElem? hf
  have HBK := Lib.hid (fun (W : World) (h1 : Tab W) (h2 : ProgAt W (.slice A p.length cap) p) => blocks_any p A cap k F W h1 h2 hk hf)
  have HAV := Lib.hid (fun (W : World) (h1 : Tab W) (h2 : ProgAt W (.slice A p.length cap) p) => above_any p A cap k F W h1 h2 hk hf)
  have HT := Lib.hid ht
  have HP := Lib.hid hp
  have HR := Lib.hid hR
  have HFM := Lib.hid hFm
  obtain ⟨H, hH⟩ : ∃ H, (hdL F).length = H := ⟨_, rfl⟩
  have HH := Lib.hid hH
  have hHM : H ≤ 40 := by have h0 := (hR.ok.fn F hFm).c2; have h1 := hdTo_len F F.code.length; have h2 : hdTo F F.code.length = hdL F := rfl; rw [h2, hH] at h1; omega
  obtain ⟨N, hN⟩ : ∃ N, p.length = N := ⟨_, rfl⟩
  rw [hN] at HBK HAV HP ⊢
  obtain ⟨i0, hi, hz0, hz1, hz2⟩ := info_parts infoSli
  have hmf : ∀ (fn : Fn) (first cap : Array Value) (w : World), (Instr.makeFunc fn first cap).run Tryd.prog w = .ok (.func fn first cap) w := fun _ _ _ _ => rfl
  clear hR hFm hk hf ht hp hN hH
  go_enter Tryd.func42, Tryd.ntmps42
  go_wp2_with (first | (go_at_call 39; go_must (refine (HBK.out _ (HT.out.alloc _) (HP.out.keeps ((Below.refl _ _).alloc (Nat.le_refl _) _))).mono ?_; rintro e w1 ⟨⟨gb, Bb, bs, rfl, hgb, hBB, hOB⟩, hb⟩; rw [HH.out]; have HB1 := Lib.hid (((Below.refl w.heap.size w).alloc (Nat.le_refl _) (.cells #[.slice A N cap] 25)).trans (hb.mono (by simp))); have HX1 := Lib.hid ((hb.block w.heap.size (by simp)).trans (heap_alloc_new w _)); have q1 := cell_block HX1.out; have z1 := block_lt HX1.out; have HBB := Lib.hid hBB; have HOB := Lib.hid hOB; clear hgb hBB hOB hb)) | (go_at_call 41; go_must (refine (HAV.out _ (HT.out.keeps HB1.out) (HP.out.keeps HB1.out)).mono ?_; rintro e w2 ⟨⟨ab, rfl, hab, hIL⟩, hb⟩; rw [HH.out]; have HB2 := Lib.hid (HB1.out.trans (hb.mono HB1.out.size)); have HIL := Lib.hid hIL; have HB12 := Lib.hid hb; clear hab hIL hb q1 z1)))
  obtain ⟨w3, hw3⟩ : ∃ W, w2.alloc (.cells #[.slice (some ⟨ab, 0, none⟩) H H] 40) = W := ⟨_, rfl⟩
  have HX3 := Lib.hid (show w3.heap[w2.heap.size]? = some (.cells #[.slice (some ⟨ab, 0, none⟩) H H] 40 (0, 0)) from by rw [← hw3]; exact heap_alloc_new w2 _)
  have hb23 : Below w2.heap.size w2 w3 := by rw [← hw3]; exact (Below.refl _ _).alloc (Nat.le_refl _) _
  have HB23 := Lib.hid hb23
  have HB3 := Lib.hid (HB2.out.trans (hb23.mono HB2.out.size))
  have HB13 := Lib.hid (HB12.out.trans (hb23.mono HB12.out.size))
  have HBB3 := Lib.hid (HBB.out.keeps HB13.out)
  have HIL3 := Lib.hid (HIL.out.keeps hb23)
  have HGB := Lib.hid (block_lt HBB3.out.blk)
  have HW0 := Lib.hid (LpsW.start w3)
  rw [hw3]
  clear hw3 hb23
  go_loopw [11, 34] (fun vo vi wr => ∃ (i : Nat) (A1 : Option Addr) (cap1 : Nat) (vs : List Value) (rows : List (List Nat)), i ≤ H ∧ vi = .int .i64 (i : Int) ∧ vo = .slice A1 vs.length cap1 ∧ LpsW w3 wr A1 cap1 vs rows ∧ vs.length ≤ 2 * i ∧ ∀ row ∈ rows, LoopQ F row) (fun _ vi _ => H - (intOf vi).toNat)
  case atStart => exact ⟨0, none, 0, [], [], by omega, rfl, rfl, HW0.out, by simp, fun row h => by simp at h⟩
  case round =>
    obtain ⟨i, A1, cap1, vs, rows, hih, rfl, rfl, hW, hvl, hQ⟩ := hrel
    clear HW0
    obtain ⟨wo, hwo⟩ : ∃ wo : World, wo = wr := ⟨_, rfl⟩
    subst hwo
    have HW := Lib.hid hW
    have HQ := Lib.hid hQ
    by_cases hiH : i = H
    · obtain rfl : H = i := hiH.symm
      clear hW hQ
      go_wp2_with fail
      go_ret2
      exact ⟨⟨w3, A1, cap1, vs, rows, rfl, HB3.out.size, HW.out, by omega, HQ.out⟩, HB3.out.trans (HW.out.below.mono HB3.out.size)⟩
    · have hi1 : (i : Int) < H := by omega
      have hi2 : (0 : Int) ≤ i := by omega
      have hiN : i < H := by omega
      obtain ⟨r, hr⟩ : ∃ r, bs[i]? = some r := ⟨_, List.getElem?_eq_getElem (by rw [HOB.out.len, HH.out]; exact hiN)⟩
      have hbr := HBB3.out.keeps hW.below
      have ha := hdA_mem (F := F) (q := i) (by rw [HH.out]; exact hiN)
      have hnl := (HOB.out.at_ i r hr).2.2.1
      obtain ⟨An, pn, hvn, hRn⟩ := rowI_own (HBB3.out.rows.own i r false hr)
      have hln : (r.lst false).length = (nxI F (hdA F i)).length := by show r.nl.length = _; rw [hnl, natI_length]
      rw [hln] at hvn
      have HRN := Lib.hid (show RowI w3 An (natI (nxI F (hdA F i))) by rw [← hnl]; exact hRn)
      have c0 : wo.cell? ⟨gb, i * 4, none⟩ = some (.int .i64 r.fr) := hbr.cell hr (j := 0) (by omega)
      have c1 : wo.cell? ⟨gb, i * 4 + 1, none⟩ = some (.int .i64 r.to) := hbr.cell hr (j := 1) (by omega)
      have c2 : wo.cell? ⟨gb, i * 4 + 2, none⟩ = some (.slice An (nxI F (hdA F i)).length pn) := (hbr.cell hr (j := 2) (by omega)).trans (show some (r.val false) = _ by rw [hvn])
      have c3 : wo.cell? ⟨gb, i * 4 + 3, none⟩ = some r.pv := hbr.cell hr (j := 3) (by omega)
      have zgb : gb < wo.heap.size := Nat.lt_of_lt_of_le HGB.out hW.below.size
      have hlen2 : (nxI F (hdA F i)).length ≤ 2 := nxI_len _ _
      have HEG := Lib.hid (fun (h : Nat) (hh : h ∈ nxI F (hdA F i)) => (show Edg F i h ∧ h < H from ⟨⟨by rw [HH.out]; exact hiN, hh⟩, by have := nxI_lt HR.out HFM.out ha.1 hh; rw [HH.out] at this; exact this⟩))
      obtain ⟨NL, hNL⟩ : ∃ l, nxI F (hdA F i) = l := ⟨_, rfl⟩
      rw [hNL] at HRN c2 hlen2 HEG
      obtain ⟨ln, hlne⟩ : ∃ n, NL.length = n := ⟨_, rfl⟩
      have HLN := Lib.hid hlne
      rw [hlne] at c2 hlen2
      obtain ⟨rf, hrf⟩ : ∃ z, r.fr = z := ⟨_, rfl⟩
      obtain ⟨rt, hrt⟩ : ∃ z, r.to = z := ⟨_, rfl⟩
      obtain ⟨Ap, pp, hvp, -⟩ := rowI_own (HBB3.out.rows.own i r true hr)
      obtain ⟨lp, hrp⟩ : ∃ z, (r.lst true).length = z := ⟨_, rfl⟩
      rw [hrp] at hvp
      have hrv : r.pv = .slice Ap lp pp := hvp
      rw [hrf] at c0
      rw [hrt] at c1
      rw [hrv] at c3
      have hbox := (Below.refl wo.heap.size wo).alloc (Nat.le_refl _) (.cells #[.int .i64 rf, .int .i64 rt, .slice An ln pn, .slice Ap lp pp] 68)
      have HWB := Lib.hid (hW.keeps hbox)
      have hnw := heap_alloc_new wo (.cells #[.int .i64 rf, .int .i64 rt, .slice An ln pn, .slice Ap lp pp] 68)
      obtain ⟨wb, hwb⟩ : ∃ W, wo.alloc (.cells #[.int .i64 rf, .int .i64 rt, .slice An ln pn, .slice Ap lp pp] 68) = W := ⟨_, rfl⟩
      rw [hwb] at HWB hnw
      have qn := cell_block hnw
      have zn := block_lt hnw
      clear hr hbr ha hnl hvn hRn hln hNL hlne hrf hrt hrp hvp hrv hbox hnw hW hQ hiH
      go_wp2_with fail
      clear c0 c1 c2 c3 zgb qn zn hwb
      go_loopw [11, 42] (fun vo vt wr => ∃ (t : Nat) (A4 : Option Addr) (cap4 : Nat) (vs4 : List Value) (rows4 : List (List Nat)), t ≤ ln ∧ vt = .int .i64 (t : Int) ∧ vo = .slice A4 vs4.length cap4 ∧ LpsW w3 wr A4 cap4 vs4 rows4 ∧ vs4.length ≤ 2 * i + t ∧ ∀ row ∈ rows4, LoopQ F row) (fun _ vt _ => ln - (intOf vt).toNat)
      case atStart => exact ⟨0, A1, cap1, vs, rows, by omega, rfl, rfl, HWB.out, by omega, HQ.out⟩
      case round =>
        obtain ⟨t, A4, cap4, vs4, rows4, htl, rfl, rfl, hW4, hvl4, hQ4⟩ := hrel
        have HW4 := Lib.hid hW4
        have HQ4 := Lib.hid hQ4
        by_cases htn : t = ln
        · obtain rfl : ln = t := htn.symm
          clear hW4 hQ4
          go_wp2_with fail
          go_roundw
          case rel => exact ⟨i + 1, A4, cap4, vs4, rows4, by omega, by go_num, rfl, HW4.out, by omega, HQ4.out⟩
          case measure => simp [intOf]; omega
        · have t1 : (t : Int) < ln := by omega
          have t2 : (0 : Int) ≤ t := by omega
          obtain ⟨h, hh⟩ : ∃ h, NL[t]? = some h := ⟨_, List.getElem?_eq_getElem (by rw [HLN.out]; omega)⟩
          obtain ⟨gv, hgv, hgl, hcc⟩ := HRN.out (by rw [natI_length, HLN.out]; omega)
          have y0 : wr.cell? ⟨gv, t, none⟩ = some (.int .i64 (h : Int)) := (hW4.below.cell (p := ⟨gv, _, none⟩) hgl).trans (hcc t (h : Int) (by unfold natI; rw [List.getElem?_map, hh]; rfl))
          have zgv : gv < wr.heap.size := Nat.lt_of_lt_of_le hgl hW4.below.size
          obtain ⟨hE, hhl⟩ := HEG.out h (List.mem_of_getElem? hh)
          have hxr : wr.heap[w2.heap.size]? = _ := (hW4.below.block _ (block_lt HX3.out)).trans HX3.out
          have hirr := HIL3.out.keeps hW4.below
          have hbbr := HBB3.out.keeps hW4.below
          classical
          obtain ⟨b, hb⟩ : ∃ b : Bool, b = true ↔ ¬ Av (Edg F) h i := ⟨decide (¬ Av (Edg F) h i), by simp⟩
          have HSN := Lib.hid (stands_any p F w2.heap.size ab h i b wr HR.out HFM.out (by rw [HH.out]; exact (cell_block hxr 0).trans rfl) (block_lt hxr) hirr (by rw [HH.out]; exact hhl) (by rw [HH.out]; exact hiN) hb)
          subst hgv
          cases b with
          | false =>
            clear hW4 hQ4 hcc hxr hirr hbbr hb hE hh hgl htn
            go_wp2_with (first | (go_at_call 72; go_must (refine HSN.out.mono ?_; rintro e w' ⟨rfl, rfl⟩)))
            go_roundw
            case rel => exact ⟨t + 1, A4, cap4, vs4, rows4, by omega, by go_num, rfl, HW4.out, by omega, HQ4.out⟩
            case measure => simp [intOf]; omega
          | true =>
            have hd := hb.1 rfl
            have HLO := Lib.hid (loop_any p F gb Bb bs h i wr HR.out HFM.out hbbr HOB.out (by rw [HH.out]; exact hhl) (by rw [HH.out]; exact hiN) hd)
            rw [HH.out] at HLO
            have HLQ := Lib.hid (fun (row : List Nat) (hr : LoopR F h i row) => (show LoopQ F row from ⟨h, i, by rw [HH.out]; exact hhl, hE, hd, hr⟩))
            obtain ⟨T, hT⟩ : ∃ T, vs4.length = T := ⟨_, rfl⟩
            have hTB : T ≤ 5000 := by omega
            have HTT := Lib.hid hT
            rw [hT]
            clear hW4 hQ4 hcc hxr hirr hbbr hb hE hh hgl htn hd hT
            go_wp2_with (first | (go_at_call 72; go_must (refine HSN.out.mono ?_; rintro e w' ⟨rfl, rfl⟩)) | (go_at_call 73; go_must (refine HLO.out.mono ?_; rintro e w7 ⟨⟨v7, row7, rfl, ho7, hr7⟩, hb7⟩; obtain ⟨A7, cap7, hv7, -⟩ := own_slice ho7; obtain ⟨n7, hn7⟩ : ∃ n, (natI row7).length = n := ⟨_, rfl⟩; rw [hn7] at hv7; subst hv7; have HW7 := Lib.hid (HW4.out.keeps hb7); have HQ7 := Lib.hid (HLQ.out row7 hr7); have HN7 := Lib.hid ((rowz_own ho7).base HW4.out.below.size); clear ho7 hr7 hb7 hn7)) | (at_builtin; go_must (refine wpList_append_own _ rfl _ _ 72 rfl w3.heap.size 40 i0 _ 1 24 Tryd.underlying72 hi hz0 hz1 hz2 rfl (by decide) (.slice A4 T cap4) T vs4 rfl (by rw [← HTT.out]; exact own_below HW7.out.own ((Below.refl _ _).alloc (Nat.le_refl _) _)) ⟨w7.heap.size, 0, none⟩ 1 1 [.slice A7 n7 cap7] rfl rfl (World.news_of_block (cs := #[.slice A7 n7 cap7]) (t := 40) (fr := (0, 0)) (by simpa using heap_alloc_new w7 (.cells #[.slice A7 n7 cap7] 40))) (by simp [Value.oneCell']) (by unfold maxLen; omega) (by omega) (by have := HW7.out.below.size; simp; omega) ?_); intro v9 w9 hown9 hg9 _; obtain ⟨A9, cap9, hv9, -⟩ := own_slice hown9; rw [hv9] at hown9; rw [hv9]; have HS9 := Lib.hid (HW7.out.push HN7.out (by rw [HTT.out]; exact hg9) (by rw [HTT.out]; exact hown9)); clear hown9 hg9))
            go_roundw
            case rel => exact ⟨t + 1, A9, cap9, vs4 ++ [.slice A7 n7 cap7], rows4 ++ [row7], by omega, by go_num, by rw [List.length_append, HTT.out]; rfl, HS9.out, by rw [List.length_append]; simp; omega, fun row hr => by
              rcases List.mem_append.1 hr with h1 | h1
              · exact HQ4.out row h1
              · rw [List.mem_singleton.1 h1]; exact HQ7.out⟩
            case measure => simp [intOf]; omega
end Go.Proofs.YtefbdecejoeamaaDoor
