/-
  The contract of function with all registers set first.
-/
import Derived.Test.YtfdppmjoinodgaaDoorFnS
namespace Go.Proofs.YtfdppmjoinodgaaDoor
open Go.RowKit Tier
theorem preIns_length (p r : Int) : (preIns p r).length = (r - p).toNat := by simp [preIns]
theorem preIns_get (p r : Int) (k : Nat) (h : k < (r - p).toNat) : (preIns p r)[k]? = some ⟨1, p + k, 0, 0, p + k⟩ := by
  simp [preIns, h]
set_option maxRecDepth 100000 in
set_option maxHeartbeats 8000000 in
theorem fn_true (bp br : Int) (RA : Option Addr) (raws : List Ins) (rcap : Nat) (funcs : Int) (w : World) (h1 : In bp) (h2 : In br) (hf1 : 1 ≤ funcs) (hf2 : funcs ≤ 4) (hrn : (raws.length : Int) ≤ 9223372036854775807) (hraw : RawAt w RA raws) :
    Calls Tryd.prog 26 #[.agg #[.int .i64 bp, .int .i64 br, .slice RA raws.length rcap], .int .i64 funcs, .bool true] w fun e w' =>
      (∃ A cap, e = .returned (.agg #[.int .i64 (mkFn bp br raws funcs true).params, .int .i64 (mkFn bp br raws funcs true).regs, .slice A (mkFn bp br raws funcs true).code.length cap]) ∧
        w'.ownsRow (w.heap.size + 3) 54 5 (.slice A (mkFn bp br raws funcs true).code.length cap) (mkFn bp br raws funcs true).code.length (codeCells (mkFn bp br raws funcs true).code)) ∧ Below w.heap.size w w' := by
  have p0 := picked_in bp 3 (by omega)
  have p1 := picked_in br 11 (by omega)
  obtain ⟨i0, hi, hz0, hz1, hz2⟩ := info_parts infoIns
  obtain ⟨pp, hpp⟩ : ∃ k, pickedI bp 3 = k := ⟨_, rfl⟩
  obtain ⟨qq, hqq⟩ : ∃ k, pickedI br 11 = k := ⟨_, rfl⟩
  rw [hpp] at p0
  rw [hqq] at p1
  obtain ⟨mx, m1, m2, m3, m4⟩ : ∃ mx : Int, (if pp < 1 then 1 else pp) = mx ∧ (if 1 < pp then pp else 1) = mx ∧ 1 ≤ mx ∧ mx ≤ 2 := ⟨_, rfl, by split <;> split <;> omega, by split <;> omega, by split <;> omega⟩
  obtain ⟨np, hnp⟩ : ∃ np : Nat, (mx + qq - pp).toNat = np := ⟨_, rfl⟩
  have np1 : pp + np ≤ mx + qq := by have : pp ≤ mx := (by rw [← m1]; split <;> omega); omega
  have np2 : mx + qq ≤ pp + np := by omega
  have np3 : np ≤ 12 := by omega
  have HNP := Lib.hid hnp
  clear hnp
  have HK := Lib.hid (show mkFn bp br raws funcs true = ⟨pp, mx + qq, preIns pp (mx + qq) ++ (raws.take 22).map (fun x => rawIns x (mx + qq) (np + (min raws.length 22 : Nat) + 2) funcs) ++ [⟨1, 0, 0, 0, 7⟩, ⟨19, 0, 0, 0, 0⟩]⟩ by
    unfold mkFn; rw [hpp, hqq]; simp only [m1, if_true, preIns_length, HNP.out])
  generalize hRN : raws.length = rn at *
  have HRN := Lib.hid hRN
  clear hRN
  obtain ⟨nn, n1, n2, n3, n4, n5⟩ : ∃ nn : Nat, (if (rn : Int) < 22 then (rn : Int) else 22) = nn ∧ (if (22 : Int) < rn then (22 : Int) else rn) = nn ∧ nn ≤ rn ∧ nn ≤ 22 ∧ nn = min rn 22 := ⟨min rn 22, by split <;> omega, by split <;> omega, by omega, by omega, rfl⟩
  have HNN := Lib.hid n5
  have HRAW := Lib.hid hraw
  have HI := Lib.hid (show i0 = i0 from rfl)
  clear n5 hraw HI
  go_enter Tryd.func26, Tryd.ntmps26
  go_wp2_with (go_at_call 13; refine (picked_any _ _ _ (by assumption) (by omega) (by omega)).mono ?_; rintro e w' ⟨rfl, rfl⟩)
  go_region_held3 (fun w' => w'.cell? ⟨w.heap.size, 1, none⟩ = some (.int .i64 br) ∧ w'.cell? ⟨w.heap.size + 1 + 1, 0, none⟩ = some (.int .i64 pp)) (simp [go_sem]) (first | (go_at_call 13; refine (picked_any _ _ _ (by assumption) (by omega) (by omega)).mono ?_; rintro e w' ⟨rfl, rfl⟩))
  all_goals (
    rename_i hHeld
    clear hHeld
    have hFS : FS w (((w.alloc (.cells #[.int .i64 bp, .int .i64 br, .slice RA rn rcap] 87)).alloc (.cells #[.int .i64 0, .int .i64 0, .slice none 0 0] 57)).alloc (.cells #[.int .i64 pp, .int .i64 (mx + qq), .slice none 0 0] 57)).drew bp br (.slice RA rn rcap) pp (mx + qq) none 0 0 [] :=
      FS.start w bp br (.slice RA rn rcap) pp (mx + qq)
    have HS0 := Lib.hid hFS
    clear hFS
    go_wp2_with fail
    rw [show IntKind.i64.wrap (mx + qq) = mx + qq from IntWalk.i64_in _ (by omega)]
    go_loopw [9] (fun v wr => ∃ (k A cap : _) (l : List Ins), k ≤ np ∧ v = .int .i64 (pp + (k : Nat)) ∧ l = (preIns pp (mx + qq)).take k ∧ FS w wr bp br (.slice RA rn rcap) pp (mx + qq) A cap k l) (fun v _ => (pp + np - intOf v).toNat)
    case atStart => exact ⟨0, none, 0, [], by omega, congrArg (Value.int .i64) (by omega), rfl, HS0.out⟩
    case round =>
      obtain ⟨k, A, cap, l, hin, rfl, hl, hFS⟩ := hrel
      have HL := Lib.hid hl
      clear hl
      have HS := Lib.hid hFS
      have q2 := cell_block hFS.blk2
      have f2 := frozen_block hFS.blk2
      have z2 := hFS.size
      clear hFS
      by_cases hkN : k = np
      · have hkN1 := hkN.symm
        subst hkN1
        have HPL := Lib.hid (show l = preIns pp (mx + qq) from HL.out.trans (List.take_of_length_le (by rw [preIns_length, HNP.out]; exact Nat.le_refl _)))
        have q0 := cell_block HS.out.blk0
        have z0 : w.heap.size < wr.heap.size := by omega
        have z1 : w.heap.size + 1 < wr.heap.size := by omega
        go_wp2_with fail
        go_loopw [11] (fun v wr => ∃ (i A cap : _) (l : List Ins), i ≤ nn ∧ v = .int .i64 (i : Nat) ∧ l = preIns pp (mx + qq) ++ (raws.take i).map (fun x => rawIns x (mx + qq) (np + nn + 2) funcs) ∧ FS w wr bp br (.slice RA rn rcap) pp (mx + qq) A cap (np + i) l) (fun v _ => nn - (intOf v).toNat)
        case atStart => exact ⟨0, A, cap, l, by omega, rfl, by rw [HPL.out]; simp, HS.out⟩
        case round =>
          obtain ⟨i, A, cap, l, hin, rfl, hl, hFS⟩ := hrel
          have HL := Lib.hid hl
          clear hl
          have hlb : i ≤ 22 := by omega
          have HS := Lib.hid hFS
          have q0 := cell_block hFS.blk0
          have q2 := cell_block hFS.blk2
          have f2 := frozen_block hFS.blk2
          have z2 := hFS.size
          have z0 : w.heap.size < wr.heap.size := by omega
          have z1 : w.heap.size + 1 < wr.heap.size := by omega
          clear hFS
          by_cases hiN : i = nn
          · subst hiN
            go_wp2_with (first | (have tok := HS1; at_builtin; go_must (refine wpList_append_own _ rfl _ _ 55 rfl (w.heap.size + 3) 54 i0 _ 5 40 Tryd.underlying55 hi hz0 hz1 hz2 rfl (by decide) (.slice A1 (np + i + 1) cap1) (np + i + 1) (codeCells (l ++ [⟨1, 0, 0, 0, 7⟩])) rfl (own_below HS1.out.own ((Below.refl _ _).alloc (Nat.le_refl _) _)) ⟨w1.heap.size, 0, none⟩ 1 1 [.int .i64 19, .int .i64 0, .int .i64 0, .int .i64 0, .int .i64 0] rfl rfl (World.news_of_block (cs := #[.int .i64 19, .int .i64 0, .int .i64 0, .int .i64 0, .int .i64 0]) (t := 54) (fr := (0, 0)) (alloc_set _ _ _ _)) (by simp [Value.oneCell']) (by unfold maxLen; omega) (by omega) (by simp; omega) ?_); intro v2 w2 hown2 hg2 _; obtain ⟨A2, cap2, hv2, -⟩ := own_slice hown2; rw [hv2] at hown2; rw [hv2]; have mid2 := HS1.out.mid _ hg2; have HS2 := Lib.hid (HS1.out.app ⟨19, 0, 0, 0, 0⟩ hg2 hown2); have u4 := cell_block (mid2.2.2.trans HS1.out.blk2); have g4 := frozen_block (mid2.2.2.trans HS1.out.blk2); have u5 := cell_block (mid2.2.1.trans HS1.out.blk1); have g5 := frozen_block (mid2.2.1.trans HS1.out.blk1); clear hown2 hg2 mid2 tok) | (at_builtin; go_must (refine wpList_append_own _ rfl _ _ 55 rfl (w.heap.size + 3) 54 i0 _ 5 40 Tryd.underlying55 hi hz0 hz1 hz2 rfl (by decide) (.slice A (np + i) cap) (np + i) (codeCells l) rfl (own_below HS.out.own ((Below.refl _ _).alloc (Nat.le_refl _) _)) ⟨wr.heap.size, 0, none⟩ 1 1 [.int .i64 1, .int .i64 0, .int .i64 0, .int .i64 0, .int .i64 7] rfl rfl (World.news_of_block (cs := #[.int .i64 1, .int .i64 0, .int .i64 0, .int .i64 0, .int .i64 7]) (t := 54) (fr := (0, 0)) (heap_alloc_new _ _)) (by simp [Value.oneCell']) (by unfold maxLen; omega) (by omega) (by simp; omega) ?_); intro v1 w1 hown1 hg1 _; obtain ⟨A1, cap1, hv1, -⟩ := own_slice hown1; rw [hv1] at hown1; rw [hv1]; have mid := HS.out.mid _ hg1; have HS1 := Lib.hid (HS.out.app ⟨1, 0, 0, 0, 7⟩ hg1 hown1); have u2 := cell_block (mid.2.2.trans HS.out.blk2); have g2 := frozen_block (mid.2.2.trans HS.out.blk2); have y2 : w.heap.size + 1 + 1 < w1.heap.size := (by have := HS1.out.size; simpa [World.setCell] using this); clear mid hown1 hg1))
            have hfin : mkFn bp br raws funcs true = ⟨pp, mx + qq, l ++ [⟨1, 0, 0, 0, 7⟩] ++ [⟨19, 0, 0, 0, 0⟩]⟩ := by
              have e1 : raws.take 22 = raws.take i := by
                have h1 := HRN.out
                have h2 := HNN.out
                by_cases h3 : 22 ≤ rn
                · congr 1; omega
                · rw [List.take_of_length_le (by omega), List.take_of_length_le (by omega)]
              rw [HK.out, HL.out, e1, ← HNN.out]; simp only [List.append_assoc]; rfl
            have hlen := HS2.out.len
            have hb := HS2.out.below
            refine bodyPost_ret (v := .agg #[.int .i64 pp, .int .i64 (mx + qq), .slice A2 (np + i + 1 + 1) cap2]) (by simp [results, Tryd.results26, go_sem, u5]) rfl ⟨⟨A2, cap2, ?_, ?_⟩, ?_⟩
            · rw [hfin]; dsimp only; rw [hlen]
            · rw [hfin]; dsimp only; rw [hlen]
              exact ownsRow_setCell_below (ownsRow_setCell_below (ownsRow_setCell_below HS2.out.own (by simp) _) (by simp) _) (by simp) _
            · repeat (first | exact hb | exact Below.refl _ _ | apply Below.drew | apply below_drewN | refine Below.alloc ?_ (by first | omega | (simp; done) | (simp; omega)) _ | refine Below.setCell ?_ (by first | omega | (simp; done) | (simp; omega)) _)
          · have hiN' : (i : Int) < nn := by omega
            obtain ⟨x, hx⟩ : ∃ x, raws[i]? = some x := ⟨raws[i]'(by have := HRN.out; omega), List.getElem?_eq_getElem _⟩
            obtain ⟨rb, ro, hRA, hrb, hcell⟩ := HRAW.out (by have := HRN.out; omega)
            obtain ⟨hxI, d0, d1, d2, d3, d4⟩ := hcell i x hx
            have HXI := Lib.hid hxI
            have HX := Lib.hid hx
            have HRA := Lib.hid hRA
            rw [← HS.out.below.cell (p := ⟨rb, _, none⟩) hrb] at d0 d1 d2 d3 d4
            have hrbw : rb < wr.heap.size := Nat.lt_of_lt_of_le hrb HS.out.below.size
            clear hcell hxI hx hiN
            have hi0 : (0 : Int) ≤ (i : Int) := by omega
            have hi1 : (i : Int) < (rn : Int) := by omega
            have hi2 : i < rn := by omega
            subst hRA
            obtain ⟨ox, dx, ax, bx, mxx⟩ := x
            dsimp only at d0 d1 d2 d3 d4
            have e2 : wr.cell? ⟨w.heap.size, 2, none⟩ = some (.slice (some ⟨rb, ro, none⟩) rn rcap) := by rw [q0]; rfl
            have e3 : wr.cell? ⟨w.heap.size + 1 + 1, 1, none⟩ = some (.int .i64 (mx + qq)) := by rw [q2]; rfl
            have ne0 := World.new_ne wr _ e2
            have ne1 := World.new_ne wr _ d0
            have ne2 := World.new_ne wr _ d1
            have ne3 := World.new_ne wr _ d2
            have ne4 := World.new_ne wr _ d3
            have ne5 := World.new_ne wr _ d4
            have ne6 := World.new_ne wr _ e3
            go_wp2_with fail
            go_region_held3 (fun w' => w'.cell? ⟨w.heap.size, 2, none⟩ = some (.slice (some ⟨rb, ro, none⟩) rn rcap) ∧ w'.cell? ⟨rb, ro + i * 5, none⟩ = some (.int .i64 ox) ∧ w'.cell? ⟨rb, ro + i * 5 + 1, none⟩ = some (.int .i64 dx) ∧ w'.cell? ⟨rb, ro + i * 5 + 2, none⟩ = some (.int .i64 ax) ∧ w'.cell? ⟨rb, ro + i * 5 + 3, none⟩ = some (.int .i64 bx) ∧ w'.cell? ⟨rb, ro + i * 5 + 4, none⟩ = some (.int .i64 mxx) ∧ w'.cell? ⟨w.heap.size + 1 + 1, 1, none⟩ = some (.int .i64 (mx + qq)))
              (first | go_keep | (simp [*, World.cell?_alloc_some, World.cell?_setCell_far]; done))
              (first | (go_at_call 50; go_must (refine (raw_any ⟨ox, dx, ax, bx, mxx⟩ (mx + qq) ((np : Int) + nn + 2) funcs _ HXI.out (by omega) (by omega) (by omega) (by omega) (by omega) (by omega)).mono ?_; rintro e wx ⟨⟨y, hy, rfl⟩, hbx⟩; have x0 : wx.cell? ⟨w.heap.size, 2, none⟩ = some (.slice (some ⟨rb, ro, none⟩) rn rcap) := (hbx.cell (p := ⟨w.heap.size, 2, none⟩) (by first | omega | (simp; done) | (simp; omega))).trans (by first | exact e2 | exact (World.cell?_alloc_lt wr _ _ (by first | omega | (simp; done) | (simp; omega))).trans e2); have x1 : wx.cell? ⟨rb, ro + i * 5, none⟩ = some (.int .i64 ox) := (hbx.cell (p := ⟨rb, ro + i * 5, none⟩) (by first | omega | (simp; done) | (simp; omega))).trans (by first | exact d0 | exact (World.cell?_alloc_lt wr _ _ (by first | omega | (simp; done) | (simp; omega))).trans d0); have x2 : wx.cell? ⟨rb, ro + i * 5 + 1, none⟩ = some (.int .i64 dx) := (hbx.cell (p := ⟨rb, ro + i * 5 + 1, none⟩) (by first | omega | (simp; done) | (simp; omega))).trans (by first | exact d1 | exact (World.cell?_alloc_lt wr _ _ (by first | omega | (simp; done) | (simp; omega))).trans d1); have x3 : wx.cell? ⟨rb, ro + i * 5 + 2, none⟩ = some (.int .i64 ax) := (hbx.cell (p := ⟨rb, ro + i * 5 + 2, none⟩) (by first | omega | (simp; done) | (simp; omega))).trans (by first | exact d2 | exact (World.cell?_alloc_lt wr _ _ (by first | omega | (simp; done) | (simp; omega))).trans d2); have x4 : wx.cell? ⟨rb, ro + i * 5 + 3, none⟩ = some (.int .i64 bx) := (hbx.cell (p := ⟨rb, ro + i * 5 + 3, none⟩) (by first | omega | (simp; done) | (simp; omega))).trans (by first | exact d3 | exact (World.cell?_alloc_lt wr _ _ (by first | omega | (simp; done) | (simp; omega))).trans d3); have x5 : wx.cell? ⟨rb, ro + i * 5 + 4, none⟩ = some (.int .i64 mxx) := (hbx.cell (p := ⟨rb, ro + i * 5 + 4, none⟩) (by first | omega | (simp; done) | (simp; omega))).trans (by first | exact d4 | exact (World.cell?_alloc_lt wr _ _ (by first | omega | (simp; done) | (simp; omega))).trans d4); have x6 : wx.cell? ⟨w.heap.size + 1 + 1, 1, none⟩ = some (.int .i64 (mx + qq)) := (hbx.cell (p := ⟨w.heap.size + 1 + 1, 1, none⟩) (by first | omega | (simp; done) | (simp; omega))).trans (by first | exact e3 | exact (World.cell?_alloc_lt wr _ _ (by first | omega | (simp; done) | (simp; omega))).trans e3); have nx0 := World.new_ne wx _ x0; have nx1 := World.new_ne wx _ x1; have nx2 := World.new_ne wx _ x2; have nx3 := World.new_ne wx _ x3; have nx4 := World.new_ne wx _ x4; have nx5 := World.new_ne wx _ x5; have nx6 := World.new_ne wx _ x6; (first | (have b6 := (hbx.block wr.heap.size (by first | omega | (simp; done) | (simp; omega))).trans (heap_alloc_new _ _); have c6 := cell_block b6; have f6 := frozen_block b6; have l6 : wr.heap.size < wx.heap.size := Nat.lt_of_lt_of_le (by simp) hbx.size; have B6 := Lib.hid b6; clear b6) | skip); have HBX := Lib.hid hbx; have HY := Lib.hid hy; clear hbx hy)))
            all_goals (first
              | (have _tok := l6
                 go_must (
                 have hb0 : Below wr.heap.size _ wx := HBX.out.mono (by simp)
                 have hBy0 := box_below hb0 wr.heap.size (Nat.le_refl _) (.int .i64 y.op) (.int .i64 y.dst) (.int .i64 y.a) (.int .i64 y.b) (.int .i64 y.imm)
                 obtain ⟨wy, hwy⟩ : ∃ wy, (((((wx.setCell ⟨wr.heap.size, 0, none⟩ (.int .i64 y.op)).setCell ⟨wr.heap.size, 1, none⟩ (.int .i64 y.dst)).setCell ⟨wr.heap.size, 2, none⟩ (.int .i64 y.a)).setCell ⟨wr.heap.size, 3, none⟩ (.int .i64 y.b)).setCell ⟨wr.heap.size, 4, none⟩ (.int .i64 y.imm)) = wy := ⟨_, rfl⟩
                 rw [hwy] at hBy0
                 rw [hwy]
                 have byy := box_set B6.out (.int .i64 y.op) (.int .i64 y.dst) (.int .i64 y.a) (.int .i64 y.b) (.int .i64 y.imm)
                 rw [hwy] at byy
                 have hBy : Below wr.heap.size wr wy := Below.trans (Below.drew (Below.alloc (Below.refl _ _) (Nat.le_refl _) _)) hBy0
                 have hyz : wr.heap.size < wy.heap.size := by rw [← hwy]; simpa [World.setCell] using l6
                 obtain ⟨bb, hbb⟩ : ∃ bb, wr.heap.size = bb := ⟨_, rfl⟩
                 rw [hbb] at byy hyz
                 rw [hbb]
                 clear c6 f6 l6 B6 hBy0 hb0))
              | (obtain ⟨wy, hwy⟩ : ∃ wy, wx.alloc (Obj.cells #[.int .i64 y.op, .int .i64 y.dst, .int .i64 y.a, .int .i64 y.b, .int .i64 y.imm] 54) = wy := ⟨_, rfl⟩
                 rw [hwy]
                 have byy := heap_alloc_new wx (Obj.cells #[.int .i64 y.op, .int .i64 y.dst, .int .i64 y.a, .int .i64 y.b, .int .i64 y.imm] 54)
                 rw [hwy] at byy
                 have hBy : Below wr.heap.size wr wy := by
                   have hb := HBX.out
                   rw [← hwy]
                   exact Below.alloc (Below.trans (Below.drew (Below.refl _ _)) hb) hb.size _
                 have hyz : wx.heap.size < wy.heap.size := by rw [← hwy]; simp
                 obtain ⟨bb, hbb⟩ : ∃ bb, wx.heap.size = bb := ⟨_, rfl⟩
                 rw [hbb] at byy hyz
                 rw [hbb]))
            all_goals (
              have HSy := Lib.hid (HS.out.keeps hBy)
              rename_i hHeld
              clear hHeld hwy hBy hbb x0 x1 x2 x3 x4 x5 x6 nx0 nx1 nx2 nx3 nx4 nx5 nx6 HBX d0 d1 d2 d3 d4 e2 e3 ne0 ne1 ne2 ne3 ne4 ne5 ne6 q0 q2 f2 z0 z1 z2 hrb hrbw
              have s1 := cell_block byy
              have q2 := cell_block HSy.out.blk2
              have f2 := frozen_block HSy.out.blk2
              have z2 := HSy.out.size
              have hIw : (i : Int) + 1 ≤ 22 := by omega
              go_wp2_with (at_builtin; go_must (refine wpList_append_own _ rfl _ _ 55 rfl (w.heap.size + 3) 54 i0 _ 5 40 Tryd.underlying55 hi hz0 hz1 hz2 rfl (by decide) (.slice A (np + i) cap) (np + i) (codeCells l) rfl (own_below HSy.out.own ((Below.refl _ _).alloc (Nat.le_refl _) _)) ⟨wy.heap.size, 0, none⟩ 1 1 [.int .i64 y.op, .int .i64 y.dst, .int .i64 y.a, .int .i64 y.b, .int .i64 y.imm] rfl rfl (World.news_of_block (cs := #[.int .i64 y.op, .int .i64 y.dst, .int .i64 y.a, .int .i64 y.b, .int .i64 y.imm]) (t := 54) (fr := (0, 0)) (heap_alloc_new _ _)) (by simp [Value.oneCell']) (by unfold maxLen; omega) (by omega) (by simp; omega) ?_); intro v1 w1 hown1 hg1 _; obtain ⟨A1, cap1, hv1, -⟩ := own_slice hown1; rw [hv1] at hown1; rw [hv1]; have mid := HSy.out.mid _ hg1; have HS1 := Lib.hid (HSy.out.app y hg1 hown1); have u2 := cell_block (mid.2.2.trans HSy.out.blk2); have g2 := frozen_block (mid.2.2.trans HSy.out.blk2); have y2 : w.heap.size + 1 + 1 < w1.heap.size := (by have := HS1.out.size; simpa [World.setCell] using this); clear mid hown1 hg1)
              go_roundw
              case rel => exact ⟨i + 1, A1, cap1, l ++ [y], by omega, by go_num, by rw [HL.out, HY.out, List.take_add_one, HX.out]; simp, HS1.out⟩
              case measure => simp [intOf]; omega)
      · have hkN' : (k : Int) < np := by omega
        have hk1 : k < np := by omega
        have HPX := Lib.hid (preIns_get pp (mx + qq) k (by rw [HNP.out]; exact hk1))
        clear hkN
        go_wp2_with (at_builtin; go_must (refine wpList_append_own _ rfl _ _ 55 rfl (w.heap.size + 3) 54 i0 _ 5 40 Tryd.underlying55 hi hz0 hz1 hz2 rfl (by decide) (.slice A k cap) k (codeCells l) rfl (own_below HS.out.own ((Below.refl _ _).alloc (Nat.le_refl _) _)) ⟨wr.heap.size, 0, none⟩ 1 1 [.int .i64 1, .int .i64 (pp + k), .int .i64 0, .int .i64 0, .int .i64 (pp + k)] rfl rfl (World.news_of_block (cs := #[.int .i64 1, .int .i64 (pp + k), .int .i64 0, .int .i64 0, .int .i64 (pp + k)]) (t := 54) (fr := (0, 0)) (heap_alloc_new _ _)) (by simp [Value.oneCell']) (by unfold maxLen; omega) (by omega) (by simp; omega) ?_); intro v1 w1 hown1 hg1 _; obtain ⟨A1, cap1, hv1, -⟩ := own_slice hown1; rw [hv1] at hown1; rw [hv1]; have mid := HS.out.mid _ hg1; have HS1 := Lib.hid (HS.out.app ⟨1, pp + k, 0, 0, pp + k⟩ hg1 hown1); have u2 := cell_block (mid.2.2.trans HS.out.blk2); have g2 := frozen_block (mid.2.2.trans HS.out.blk2); have y2 : w.heap.size + 1 + 1 < w1.heap.size := (by have := HS1.out.size; simpa [World.setCell] using this); clear mid hown1 hg1)
        go_roundw
        case rel => exact ⟨k + 1, A1, cap1, l ++ [⟨1, pp + k, 0, 0, pp + k⟩], by omega, congrArg (Value.int .i64) (by omega), by rw [HL.out, List.take_add_one, HPX.out]; rfl, HS1.out⟩
        case measure => simp [intOf]; omega)
end Go.Proofs.YtfdppmjoinodgaaDoor
