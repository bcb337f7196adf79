/-
  The contract of flow.Above: for each block the one next above it.
-/
import Derived.Test.YtefbdecejoeamaaDoorAvP
import Derived.Test.YtefbdecejoeamaaDoorBk
import Derived.Test.YtefbdecejoeamaaDoorMkI
namespace Tier
open Go Go.RowKit Go.Proofs.YtefbdecejoeamaaDoor
open Classical in
noncomputable def idomN (F : Fnc) (i : Nat) : Nat := if h : ∃ a, a < (hdL F).length ∧ Idom (Edg F) a i then Classical.choose h else 0
noncomputable def abvI (F : Fnc) (i : Nat) : Int := if i = 0 then -1 else (idomN F i : Int)
noncomputable def abvL (F : Fnc) : List Int := (List.range (hdL F).length).map (abvI F)
theorem abvL_length (F : Fnc) : (abvL F).length = (hdL F).length := by simp [abvL]
theorem abvL_get {F : Fnc} {i : Nat} (h : i < (hdL F).length) : (abvL F)[i]? = some (abvI F i) := by unfold abvL; rw [List.getElem?_map, List.getElem?_range h]; rfl
theorem idomN_spec {p : List Fnc} {F : Fnc} (hp : Right p) (hF : F ∈ p) {i : Nat} (hi : i < (hdL F).length) (h0 : i ≠ 0) : idomN F i < (hdL F).length ∧ Idom (Edg F) (idomN F i) i := by
  have h := idom_ex (edg_dom hp hF) hi h0
  unfold idomN
  rw [dif_pos h]
  exact Classical.choose_spec h
/-- What flow.nearest wants of the masks. -/
theorem near_of {p : List Fnc} {F : Fnc} {E : List Nat} (hp : Right p) (hF : F ∈ p) (h : AOk (Edg F) (hdL F).length E) {i : Nat} (hi : i < (hdL F).length) (h0 : i ≠ 0) {ab : Nat} (hab : E.getD i 0 - (E.getD i 0 &&& 2 ^ i) = ab) :
    (ab.testBit (idomN F i) = true ∧ E.getD (idomN F i) 0 = ab) ∧ ∀ m, m < idomN F i → ¬ (ab.testBit m = true ∧ E.getD m 0 = ab) := by
  obtain ⟨h1, h2⟩ := idomN_spec hp hF hi h0
  have hd := edg_dom hp hF
  refine ⟨by rw [← hab]; exact (h.near hd hi h1 h0).2 h2, fun m hm hh => ?_⟩
  rw [← hab] at hh
  have h3 := (h.near hd hi (by omega) h0).1 hh
  have := idom_unique (hd.come m (by omega)) h3 h2
  omega
theorem rep_of {l : List Nat} {n v : Nat} (hl : l.length = n) (h : ∀ i, i < n → l[i]? = some v) : l = List.replicate n v := by
  apply List.ext_getElem?
  intro i
  by_cases hi : i < n
  · rw [h i hi, List.getElem?_replicate, if_pos hi]
  · rw [List.getElem?_eq_none (by omega), List.getElem?_eq_none (by simp; omega)]
theorem ext_of {α : Type} {l m : List α} {n : Nat} (hl : l.length = n) (hm : m.length = n) (h : ∀ i, i < n → l[i]? = m[i]?) : l = m := by
  apply List.ext_getElem?
  intro i
  by_cases hi : i < n
  · exact h i hi
  · rw [List.getElem?_eq_none (by omega), List.getElem?_eq_none (by omega)]
theorem or_u64 (a b : Nat) (ha : a < 18446744073709551616) (hb : b < 18446744073709551616) : bits .or .u64 (a : Int) (b : Int) = ((a ||| b : Nat) : Int) := bits_or_u64_nat a b ha hb
theorem prevN_len (F : Fnc) {k : Nat} (h : k ≠ 0) : (prevN F k).length ≤ 3 + 2 * (hdL F).length := by
  have h1 := prevTo_len F (hdL F).length 0 k
  rw [prevTo_zero] at h1
  have h2 : (prevF F k).length = (prevN F k).length := by rw [prevF_pos h, natI_length]
  rw [← h2]; exact h1
end Tier
namespace Go.Proofs.YtefbdecejoeamaaDoor
open Go.RowKit Tier
theorem infoU64 : (Tryd.prog.info? 124).map (fun i => (i.zero, i.size, i.bytes)) = some (some (.int .u64 0), 1, 8) := by kernel_rfl
theorem make_u64N (N : Nat) (hN : N ≤ 40) (w : World) : (Instr.makeSlice 123 (.int .i64 (N : Int)) (.int .i64 (N : Int))).run Tryd.prog w = .ok (.slice (some ⟨w.heap.size, 0, none⟩) N N) (w.alloc (.cells (madeCells #[.int .u64 0] N) 124)) := by
  have := run_make_row' (P := Tryd.prog) 123 124 (.int .u64 0) 8 Tryd.underlying123 infoU64 rfl .i64 .i64 N (by omega) (by omega) w
  exact this
theorem made_u64 (w : World) (n : Nat) : U64B (w.alloc (.cells (madeCells #[.int .u64 0] n) 124)) w.heap.size (List.replicate n 0) := by
  unfold U64B
  rw [heap_alloc_new]
  congr 2
  apply Array.ext_getElem?
  intro i
  simp only [madeCells, List.map_replicate]
  by_cases h : i < n
  · simp [h, Nat.mod_one]
  · simp [h]
/-- The masks in memory. -/
structure AW (w1 wr : World) (E : List Nat) : Prop where
  u : U64B wr w1.heap.size E
  below : Below w1.heap.size w1 wr
theorem AW.set {w1 wr : World} {E : List Nat} (h : AW w1 wr E) (i x : Nat) : AW w1 (wr.setCell ⟨w1.heap.size, i, none⟩ (.int .u64 (x : Int))) (E.set i x) :=
  ⟨h.u.set i x, h.below.setCell (Nat.le_refl _) _⟩
theorem ab_row {w : World} {g B : Nat} {bs : List BR} (h : BlkB w g B bs) {q : Nat} {r : BR} (hq : bs[q]? = some r) (c : Bool) : ∃ A cap, r.val c = .slice A (r.lst c).length cap ∧ RowI w A (r.lst c) := rowI_own (h.rows.own q r c hq)
def AboveRet (F : Fnc) (B : Nat) (e : Ending) (w' : World) : Prop := ∃ b, e = .returned (.tuple #[.slice (some ⟨b, 0, none⟩) (hdL F).length (hdL F).length, .int .i64 0]) ∧ B ≤ b ∧ IntsB w' b (abvL F)
set_option maxRecDepth 100000 in
set_option maxHeartbeats 8000000 in
theorem above_any (p : List Fnc) (A : Option Addr) (cap k : Nat) (F : Fnc) (w : World) (ht : Tab w) (hp : ProgAt w (.slice A p.length cap) p) (hk : checkP p = 0) (hf : p[k]? = some F) :
    Calls Tryd.prog 41 #[.agg #[.slice A p.length cap], .int .i64 (k : Int)] w fun e w' => AboveRet F w.heap.size e w' ∧ Below w.heap.size w w' := by
  have hR := right_of hk
  have hFm := List.mem_of_getElem? hf
  have hD := edg_dom hR hFm
  have HBK := Lib.hid (fun (W : World) (h1 : Tab W) (h2 : ProgAt W (.slice A p.length cap) p) => blocks_any p A cap k F W h1 h2 hk hf)
  have HT := Lib.hid ht
  have HP := Lib.hid hp
  have HR := Lib.hid hR
  have HFM := Lib.hid hFm
  have HD := Lib.hid hD
  obtain ⟨H, hH⟩ : ∃ H, (hdL F).length = H := ⟨_, rfl⟩
  have HH := Lib.hid hH
  have hHM : H ≤ 40 := by have h0 := (hR.ok.fn F hFm).c2; have h1 := hdTo_len F F.code.length; have h2 : hdTo F F.code.length = hdL F := rfl; rw [h2, hH] at h1; omega
  have hH1 : 0 < H := by have := (List.getElem?_eq_some_iff.1 (zero_head hR hFm)).1; omega
  have hmk := make_u64N H hHM
  have hmi := make_intsN H hHM
  have HST := Lib.hid (AInv.start (P := prevN F) hD (by rw [hH]; exact hH1))
  rw [hH] at HST
  have hpw := pow_small hHM
  have hps := Nat.two_pow_pos H
  have sh := shl_u64 H hHM
  obtain ⟨Q, hQ⟩ : ∃ Q, 2 ^ H = Q := ⟨_, rfl⟩
  have HQ := Lib.hid hQ
  rw [hQ] at hpw hps sh HST
  obtain ⟨Z, hZ⟩ : ∃ Z, Q = Z + 1 := ⟨Q - 1, by omega⟩
  have HZ := Lib.hid hZ
  have hH64 : (H : Int) < 64 := by omega
  have hH65 : H < 64 := by omega
  obtain ⟨N, hN⟩ : ∃ N, p.length = N := ⟨_, rfl⟩
  rw [hN] at HBK HP ⊢
  subst hZ
  have ssub : (((Z + 1 : Nat) : Int)) - 1 = (Z : Int) := by omega
  rw [Nat.add_sub_cancel] at HST
  clear hR hFm hD hk hf ht hp hN hH hQ hps
  go_enter Tryd.func41, Tryd.ntmps41
  go_wp2_with (first | (go_at_call 39; go_must (refine (HBK.out _ (HT.out.alloc _) (HP.out.keeps ((Below.refl _ _).alloc (Nat.le_refl _) _))).mono ?_; rintro e w1 ⟨⟨gb, Bb, bs, rfl, hgb, hBB, hOB⟩, hb⟩; rw [HH.out]; have HB1 := Lib.hid (((Below.refl w.heap.size w).alloc (Nat.le_refl _) (.cells #[.slice A N cap] 25)).trans (hb.mono (by simp))); have HBB := Lib.hid hBB; have HOB := Lib.hid hOB; clear hgb hBB hOB hb)))
  have HW0 := Lib.hid (show AW w1 _ (List.replicate H 0) from ⟨made_u64 w1 H, (Below.refl _ _).alloc (Nat.le_refl _) _⟩)
  have HGB := Lib.hid (block_lt HBB.out.blk)
  clear hmk
  go_loopw [31] (fun v wr => ∃ (j : Nat) (E : List Nat), j ≤ H ∧ v = .int .i64 (j : Int) ∧ E.length = H ∧ (∀ i, i < j → E[i]? = some Z) ∧ AW w1 wr E) (fun v _ => H - (intOf v).toNat)
  case atStart => exact ⟨0, _, by omega, rfl, by simp, fun i hi => by omega, HW0.out⟩
  case round =>
    obtain ⟨j, E, hj, rfl, hEl, hEg, hW⟩ := hrel
    clear HW0
    by_cases hjH : j = H
    · obtain rfl : H = j := hjH.symm
      have HWF := Lib.hid (show AW w1 wr (List.replicate H Z) by rw [← rep_of hEl hEg]; exact hW)
      clear hEl hEg hW
      have zu := HWF.out.u.lt
      have fu := HWF.out.u.frozen 0
      have cu := HWF.out.u.cell (i := 0) (x := Z) (by rw [List.getElem?_replicate, if_pos hH1])
      have H0 : (0 : Int) < H := by omega
      go_wp2_with fail
      clear zu fu cu H0
      have HW1 := Lib.hid (show AW w1 _ ((List.replicate H Z).set 0 1) from HWF.out.set 0 1)
      clear HWF
      go_loopg [10] (2 * ((List.replicate H Z).set 0 1).sum + 1) (fun q v wr => ∃ (E : List Nat) (ch : Bool), AInv (Edg F) (prevN F) H E ∧ (ch = false → AFix (prevN F) H E) ∧ q = 2 * E.sum + (if ch = true then 1 else 0) ∧ v = .bool ch ∧ AW w1 wr E)
      case atStart => exact ⟨_, true, HST.out, fun h => by simp at h, rfl, rfl, HW1.out⟩
      case round =>
        obtain ⟨E, ch, hI, hF, rfl, rfl, hW⟩ := hrel
        clear HW1 HST
        have HI := Lib.hid hI
        have HW := Lib.hid hW
        have HFX := Lib.hid hF
        cases ch with
        | false =>
          have HOK := Lib.hid (show AOk (Edg F) H E from hI.ok (P := prevN F) (fun i q hi => prevN_mem) (hF rfl) (by have := HD.out; rw [HH.out] at this; exact this))
          clear hI hF hW HFX
          obtain ⟨w5, hw5⟩ : ∃ w5 : World, w5 = wr := ⟨_, rfl⟩
          subst hw5
          have ha := made_ints w5 H
          have zi := ha.lt
          have fi := ha.frozen 0
          have ci := ha.cell (i := 0) (x := 0) (by rw [List.getElem?_replicate, if_pos hH1])
          have H0 : (0 : Int) < H := by omega
          go_wp2_with fail
          have e0 := ha.set 0 (-1)
          rw [World.setCell_alloc_at _ _ _ _ _ rfl] at e0
          have HL0 := Lib.hid e0
          have HB5 := Lib.hid ((Below.refl w5.heap.size w5).alloc (Nat.le_refl _) (.cells ((madeCells #[.int .i64 0] H).setIfInBounds 0 (.int .i64 (-1))) 3))
          clear ha zi fi ci H0 e0
          go_loopw [16] (fun v wr => ∃ (j : Nat) (L : List Int), j + 1 ≤ H ∧ v = .int .i64 ((j : Int) + 1) ∧ L.length = H ∧ (∀ i, i < j + 1 → L[i]? = (abvL F)[i]?) ∧ IntsB wr w5.heap.size L ∧ Below w5.heap.size w5 wr) (fun v _ => H + 1 - (intOf v).toNat)
          case atStart => exact ⟨0, _, by omega, rfl, by simp, fun i hi => by
            obtain rfl : i = 0 := by omega
            rw [abvL_get (by rw [HH.out]; omega), List.getElem?_set_self (by simp; omega)]; rfl, HL0.out, HB5.out⟩
          case round =>
            obtain ⟨j, L, hj, rfl, hLl, hLg, hIL, hbr⟩ := hrel
            clear HL0 HB5
            by_cases hjH : j + 1 = H
            · have t1 : decide ((j : Int) + 1 < H) = false := by rw [decide_eq_false_iff_not]; omega
              have t2 : decide (j + 1 < H) = false := by rw [decide_eq_false_iff_not]; omega
              have HLE := Lib.hid (show IntsB wr w5.heap.size (abvL F) by rw [← ext_of hLl (by rw [abvL_length, HH.out]) (fun i hi => hLg i (by omega))]; exact hIL)
              have HBR := Lib.hid hbr
              clear hLl hLg hIL hbr
              go_wp2_with fail
              go_ret2
              exact ⟨⟨w5.heap.size, by rw [HH.out]; rfl, by have h1 := HW.out.below.size; have h2 := HB1.out.size; omega, HLE.out⟩, HB1.out.trans ((HW.out.below.trans (HBR.out.mono HW.out.below.size)).mono HB1.out.size)⟩
            · have j1 : (j : Int) + 1 < H := by omega
              have j2 : (0 : Int) ≤ (j : Int) + 1 := by omega
              have hU := HW.out.u.keeps hbr
              obtain ⟨hk1, hk2⟩ := near_of HR.out HFM.out (by rw [HH.out]; exact HOK.out) (i := j + 1) (by rw [HH.out]; omega) (by omega) rfl
              have hkl := (idomN_spec HR.out HFM.out (i := j + 1) (by rw [HH.out]; omega) (by omega)).1
              rw [HH.out] at hkl
              have HNE := Lib.hid (nearest_any E w1.heap.size H (j + 1) _ (idomN F (j + 1)) wr hU HOK.out.len (by omega) hHM HOK.out.lt rfl hkl hk1 hk2)
              have hcs : ((j + 1 : Nat) : Int) = (j : Int) + 1 := by omega
              rw [hcs] at HNE
              obtain ⟨y, hy⟩ : ∃ y, L[j + 1]? = some y := ⟨_, List.getElem?_eq_getElem (by omega)⟩
              have HZI := Lib.hid hIL.lt
              have HFI := Lib.hid (hIL.frozen (j + 1))
              have HCI := Lib.hid (hIL.cell hy)
              have HSE := Lib.hid (hIL.set (j + 1) (idomN F (j + 1)))
              have HBR := Lib.hid hbr
              have HLL := Lib.hid hLl
              have HLG := Lib.hid hLg
              clear hU hk1 hk2 hkl hcs hIL hbr hLl hLg hy hjH
              go_wp2_with (go_at_call 71; go_must (refine HNE.out.mono ?_; rintro e w' ⟨rfl, q, rfl⟩; have zi := HZI.out; have fi := HFI.out; have ci := HCI.out))
              go_roundw
              case rel => exact ⟨j + 1, _, by omega, by go_num, by simp [HLL.out], fun i hi => by
                by_cases e : i = j + 1
                · subst e
                  rw [List.getElem?_set_self (by rw [HLL.out]; omega), abvL_get (by rw [HH.out]; omega)]
                  unfold abvI; rw [if_neg (by omega)]
                · rw [List.getElem?_set_ne (by omega)]; exact HLG.out i (by omega), HSE.out, below_drewN (HBR.out.setCell (Nat.le_refl _) _) _⟩
              case measure => simp [intOf]; omega
        | true =>
          clear hI hF hW HFX
          go_wp2_with fail
          go_loopw [10, 11] (fun vc vi wr => ∃ (kk : Nat) (E' : List Nat) (ch : Bool), kk + 1 ≤ H ∧ vi = .int .i64 ((kk : Int) + 1) ∧ vc = .bool ch ∧ AInv (Edg F) (prevN F) H E' ∧ (ch = true → E'.sum < E.sum) ∧ (ch = false → E' = E ∧ ∀ i, i < kk + 1 → i ≠ 0 → E.getD i 0 = stepV E H i (prevN F i)) ∧ AW w1 wr E') (fun _ vi _ => H + 1 - (intOf vi).toNat)
          case atStart => exact ⟨0, E, false, by omega, rfl, rfl, HI.out, fun h => by simp at h, fun _ => ⟨rfl, fun i h1 h2 => by omega⟩, HW.out⟩
          case round =>
            obtain ⟨kk, E', ch, hkk, rfl, rfl, hI', hmu, hfx, hW'⟩ := hrel
            have HI' := Lib.hid hI'
            have HMU := Lib.hid hmu
            have HFX := Lib.hid hfx
            have HW' := Lib.hid hW'
            clear hI' hmu hfx
            by_cases hkH : kk + 1 = H
            · have t1 : decide ((kk : Int) + 1 < H) = false := by rw [decide_eq_false_iff_not]; omega
              have t2 : decide (kk + 1 < H) = false := by rw [decide_eq_false_iff_not]; omega
              clear hW'
              cases ch with
              | false =>
                have HFX2 := Lib.hid (HFX.out rfl)
                clear HFX HMU
                go_wp2_with fail
                go_roundg (2 * E'.sum)
                case rel => exact ⟨E', false, HI'.out, fun _ => by obtain ⟨h1, h2⟩ := HFX2.out; rw [h1]; exact fun i h3 h4 => h2 i (by omega) h4, rfl, rfl, HW'.out⟩
                case measure => have h := HFX2.out.1; rw [h]; simp
              | true =>
                have HMU2 := Lib.hid (HMU.out rfl)
                clear HFX HMU
                go_wp2_with fail
                go_roundg (2 * E'.sum + 1)
                case rel => exact ⟨E', true, HI'.out, fun h => by simp at h, rfl, rfl, HW'.out⟩
                case measure => have h := HMU2.out; simp; omega
            · have k1 : (kk : Int) + 1 < H := by omega
              have k2 : (0 : Int) ≤ (kk : Int) + 1 := by omega
              obtain ⟨i, hie⟩ : ∃ i, i = kk + 1 := ⟨_, rfl⟩
              have hic : (kk : Int) + 1 = (i : Int) := by omega
              rw [hic] at k1 k2
              rw [hic]
              have hi0 : i ≠ 0 := by omega
              have hi1 : i < H := by omega
              have i64 : i < 64 := by omega
              have i65 : (i : Int) < 64 := by omega
              have HIE := Lib.hid hie
              have HIC := Lib.hid hic
              clear hie hic
              obtain ⟨r, hr⟩ : ∃ r, bs[i]? = some r := ⟨_, List.getElem?_eq_getElem (by rw [HOB.out.len, HH.out]; exact hi1)⟩
              obtain ⟨Ap, pp, hvp, hRp⟩ := ab_row HBB.out hr true
              have hpl := (HOB.out.at_ i r hr).2.2.2
              rw [prevF_pos hi0] at hpl
              have hlp : (r.lst true).length = (prevN F i).length := by show r.pl.length = _; rw [hpl, natI_length]
              rw [hlp] at hvp
              have HRP := Lib.hid (show RowI w1 Ap (natI (prevN F i)) by rw [← hpl]; exact hRp)
              have hplen := prevN_len F hi0
              rw [HH.out] at hplen
              have zgb : gb < wr.heap.size := Nat.lt_of_lt_of_le HGB.out hW'.below.size
              have cp : wr.cell? ⟨gb, i * 4 + 3, none⟩ = some (.slice Ap (prevN F i).length pp) := (hW'.below.cell (p := ⟨gb, _, none⟩) HGB.out).trans ((HBB.out.cell hr (j := 3) (by omega)).trans (show some (r.val true) = _ by rw [hvp]))
              obtain ⟨PL, hPL⟩ : ∃ l, prevN F i = l := ⟨_, rfl⟩
              have HPL := Lib.hid hPL
              rw [hPL] at HRP hplen cp
              obtain ⟨lp, hlpe⟩ : ∃ n, PL.length = n := ⟨_, rfl⟩
              have HLP := Lib.hid hlpe
              rw [hlpe] at cp hplen
              clear hr hvp hRp hpl hlp hPL hlpe hkH hW'
              go_wp2_with fail
              clear cp zgb
              go_loop [12, 61] (fun vx vt => ∃ t : Nat, t ≤ lp ∧ vt = .int .i64 (t : Int) ∧ vx = .int .u64 ((andL E' H (PL.take t) : Nat) : Int)) (fun _ vt => lp - (intOf vt).toNat)
              case atStart => exact ⟨0, by omega, rfl, by have h := HQ.out; simp [andL, h]⟩
              case round =>
                obtain ⟨t, htt, rfl, rfl⟩ := hrel
                have hal := andL_lt E' H (PL.take t)
                rw [HQ.out] at hal
                by_cases htl : t = lp
                · obtain rfl : lp = t := htl.symm
                  have htk : PL.take lp = PL := List.take_of_length_le (by rw [HLP.out]; exact Nat.le_refl _)
                  rw [htk] at hal ⊢
                  clear htk
                  have hSV := stepV_lt (E := E') (l := PL) hi1
                  rw [HQ.out] at hSV
                  have HSV := Lib.hid (show stepV E' H i PL = andL E' H PL ||| 2 ^ i from rfl)
                  have shi := shl_u64 i (by omega)
                  have hpi := pow_small (i := i) (by omega)
                  have hor := or_u64 (andL E' H PL) (2 ^ i) (by omega) (by omega)
                  rw [← HSV.out] at hor
                  have HSTP := Lib.hid (HI'.out.step (i := i) (by have := HD.out; rw [HH.out] at this; exact this) (fun i q hi => prevN_mem) hi1 hi0)
                  rw [HPL.out] at HSTP
                  obtain ⟨v, hv⟩ : ∃ v, stepV E' H i PL = v := ⟨_, rfl⟩
                  have HV := Lib.hid hv
                  rw [hv] at hSV hor HSTP
                  obtain ⟨P2, hP2⟩ : ∃ v, 2 ^ i = v := ⟨_, rfl⟩
                  rw [hP2] at shi hor
                  obtain ⟨al, hale⟩ : ∃ v, andL E' H PL = v := ⟨_, rfl⟩
                  rw [hale] at hor
                  rw [hale]
                  have cu := HW'.out.u.cell (i := i) (x := E'.getD i 0) (by rw [List.getD_eq_getElem?_getD, List.getElem?_eq_getElem (by rw [HI'.out.len]; exact hi1)]; rfl)
                  have zu := HW'.out.u.lt
                  have fu := HW'.out.u.frozen i
                  have hcs : (i : Int) + 1 = ((kk + 1 : Nat) : Int) + 1 := by have := HIE.out; omega
                  have HCS := Lib.hid hcs
                  clear hcs hal hv hP2 hale hpi hSV HSV
                  by_cases hvq : v = E'.getD i 0
                  · have HVQ := Lib.hid hvq
                    rw [← hvq] at cu
                    have hne : ((v : Int) != (v : Int)) = false := by simp
                    clear hvq
                    go_wp2_with fail
                    go_roundw
                    case rel => exact ⟨kk + 1, E', ch, by have := HIE.out; omega, by rw [← HCS.out], rfl, HI'.out, HMU.out, fun h => ⟨(HFX.out h).1, fun m h1 h2 => by
                      by_cases h4 : m = i
                      · subst h4
                        have h5 := (HFX.out h).1
                        rw [← h5, HPL.out, HV.out]; exact HVQ.out.symm
                      · exact (HFX.out h).2 m (by have := HIE.out; omega) h2⟩, HW'.out⟩
                    case measure => simp [intOf]; omega
                  · have HVQ := Lib.hid hvq
                    obtain ⟨oj, hoj⟩ : ∃ a, E'.getD i 0 = a := ⟨_, rfl⟩
                    rw [hoj] at hvq cu
                    have hne : ((v : Int) != (oj : Int)) = true := bne_iff_ne.2 (by omega)
                    have HSET := Lib.hid (HW'.out.set i v)
                    clear hvq hoj
                    go_wp2_with fail
                    go_roundw
                    case rel => exact ⟨kk + 1, E'.set i v, true, by have := HIE.out; omega, by rw [← HCS.out], rfl, HSTP.out.1, fun _ => by
                      have h1 := HSTP.out.2 HVQ.out
                      cases ch with
                      | true => have h2 := HMU.out rfl; omega
                      | false => have h2 := (HFX.out rfl).1; rw [← h2]; exact h1, fun h => by simp at h, HSET.out⟩
                    case measure => simp [intOf]; omega
                · have t1 : (t : Int) < lp := by omega
                  have t2 : (0 : Int) ≤ t := by omega
                  obtain ⟨n, hn⟩ : ∃ n, PL[t]? = some n := ⟨_, List.getElem?_eq_getElem (by rw [HLP.out]; omega)⟩
                  have hnE : Edg F n i := prevN_mem.1 (by rw [HPL.out]; exact List.mem_of_getElem? hn)
                  have hnl : n < H := by have := hnE.1; rw [HH.out] at this; exact this
                  obtain ⟨gv, hgv, hgl, hcc⟩ := HRP.out (by rw [natI_length, HLP.out]; omega)
                  have y0 : wr.cell? ⟨gv, t, none⟩ = some (.int .i64 (n : Int)) := (HW'.out.below.cell (p := ⟨gv, _, none⟩) hgl).trans (hcc t (n : Int) (by unfold natI; rw [List.getElem?_map, hn]; rfl))
                  have zgv : gv < wr.heap.size := Nat.lt_of_lt_of_le hgl HW'.out.below.size
                  have cu := HW'.out.u.cell (i := n) (x := E'.getD n 0) (by rw [List.getD_eq_getElem?_getD, List.getElem?_eq_getElem (by rw [HI'.out.len]; exact hnl)]; rfl)
                  have zu := HW'.out.u.lt
                  have hlE : E'.getD n 0 < Z + 1 := by
                    rw [← HQ.out]
                    have hg : E'[n]? = some (E'.getD n 0) := by rw [List.getD_eq_getElem?_getD, List.getElem?_eq_getElem (by rw [HI'.out.len]; exact hnl)]; rfl
                    exact HI'.out.lt _ (List.mem_of_getElem? hg)
                  have hand := bits_and_u64_nat (andL E' H (PL.take t)) (E'.getD n 0) (by omega) (by omega)
                  rw [← andL_succ E' PL H t n hn] at hand
                  obtain ⟨u1, hu1⟩ : ∃ u, andL E' H (PL.take t) = u := ⟨_, rfl⟩
                  obtain ⟨u2, hu2⟩ : ∃ u, E'.getD n 0 = u := ⟨_, rfl⟩
                  obtain ⟨u3, hu3⟩ : ∃ u, andL E' H (PL.take (t + 1)) = u := ⟨_, rfl⟩
                  have HU3 := Lib.hid hu3
                  rw [hu1, hu2, hu3] at hand
                  rw [hu2] at cu
                  rw [hu1]
                  have m1 : (n : Int) < H := by omega
                  have m2 : (0 : Int) ≤ n := by omega
                  subst hgv
                  clear hcc hn hnE hnl hgl hlE hu1 hu2 hu3 hal htl
                  go_wp2_with fail
                  go_round
                  case rel => exact ⟨t + 1, by omega, by go_num, by rw [HU3.out]⟩
                  case measure => simp [intOf]; omega
    · have j1 : (j : Int) < H := by omega
      have j2 : (0 : Int) ≤ j := by omega
      obtain ⟨y, hy⟩ : ∃ y, E[j]? = some y := ⟨_, List.getElem?_eq_getElem (by omega)⟩
      have cu := hW.u.cell hy
      have zu := hW.u.lt
      have fu := hW.u.frozen j
      have HS := Lib.hid (hW.set j Z)
      have HEL := Lib.hid hEl
      have HEG := Lib.hid hEg
      clear hEl hEg hW hy hjH
      go_wp2_with fail
      go_roundw
      case rel => exact ⟨j + 1, _, by omega, by go_num, by simp [HEL.out], fun i hi => by
        by_cases e : i = j
        · rw [e, List.getElem?_set_self (by rw [HEL.out]; omega)]
        · rw [List.getElem?_set_ne (by omega)]; exact HEG.out i (by omega), HS.out⟩
      case measure => simp [intOf]; omega
end Go.Proofs.YtefbdecejoeamaaDoor
