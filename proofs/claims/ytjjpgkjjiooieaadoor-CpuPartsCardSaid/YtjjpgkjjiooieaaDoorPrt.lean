/-
  The walk of CpuParts: it returns true.
-/
import Derived.Test.YtjjpgkjjiooieaaDoorHlt
import Derived.Deep.CutBlock
import Derived.Deep.DeepCutAuto
namespace Go.Proofs.YtjjpgkjjiooieaaDoor
open Go.RowKit Tier
theorem put_reg0 {c : Cpu} (h : c.regs[0]? = some 0) (r n : Int) (h0 : 0 ≤ r) : (c.put r n).regs[0]? = some 0 := by
  unfold Cpu.put
  split
  · exact h
  · rw [List.getElem?_set_ne (by omega)]; exact h
theorem doM_reg0 {c : Cpu} (h : c.regs[0]? = some 0) (op rd rs1 rs2 imm : Int) (h0 : 0 ≤ rd) : (doM c op rd rs1 rs2 imm).1.regs[0]? = some 0 := by
  unfold doM
  dsimp only
  repeat' split
  all_goals first | exact h | exact put_reg0 h _ _ h0
theorem stepM_reg0 {xs : List Rv5} (hx : ∀ x ∈ xs, x.ok) {c : Cpu} (h : c.regs[0]? = some 0) : (stepM xs c).1.regs[0]? = some 0 := by
  unfold stepM
  split
  · exact h
  · split
    · exact h
    · next x he =>
      have := (hx x (List.mem_of_getElem? he)).bd
      split
      · exact doM_reg0 h _ _ _ _ _ this.rd0
      · exact doM_reg0 h _ _ _ _ _ this.rd0
theorem regs0_same {c : Cpu} (h : c.regs[0]? = some 0) : regs0 c = c := by
  unfold regs0
  have : c.regs.set 0 0 = c.regs := by
    apply List.ext_getElem?
    intro i
    rw [List.getElem?_set]
    split
    · next e =>
      subst e
      split
      · exact h.symm
      · next hl => rw [List.getElem?_eq_none (by omega)]
    · rfl
  rw [this]
/-- Between two steps: the words, the machine that steps, the run's result. -/
structure PS (w wa wr : World) (bd bs : Nat) (d s : Cpu) : Prop where
  below : Below wa.heap.size wa wr
  blkd : wr.heap[bd]? = some (.cells d.cells.toArray 31 (0, 0))
  blks : wr.heap[bs]? = some (.cells s.cells.toArray 31 (0, 0))
  ok : s.Ok
def LoopRel (w wa : World) (xs : List Rv5) (n bd bs : Nat) (d : Cpu) (Rn : Cpu × Int × Int) (v : Value) (wr : World) : Prop :=
  ∃ (j : Nat) (s : Cpu), j ≤ n ∧ v = .int .i64 (j : Int) ∧ runM xs (n - j) j s = Rn ∧ s.regs[0]? = some 0 ∧ PS w wa wr bd bs d s
set_option maxRecDepth 100000 in
set_option maxHeartbeats 4000000 in
theorem cpuParts_walk (A B : Option Addr) (l : List Rv5) (rs : List Int) (cap capb : Nat) (most : Int) (w : World) (ht : Tab w) (hl : FiveRow w A l) (hn : (l.length : Int) ≤ 9223372036854775807) (hr : IntRow w B rs) (hnr : (rs.length : Int) ≤ 9223372036854775807) (hm : In most) :
    Calls Tryd.prog 9 #[.slice A l.length cap, .slice B rs.length capb, .int .i64 most] w fun e w' => e = .returned (.bool true) ∧ Below w.heap.size w w' := by
  obtain ⟨i0, hi, hz0, hz1, hz2⟩ := info_parts infoI
  have HT := Lib.hid ht
  have HL := Lib.hid hl
  have HR := Lib.hid hr
  have p0 := picked_in most 60 (by omega)
  have HPA := Lib.hid (fun (W : World) => picked_any most 60 W hm (by omega) (by omega))
  obtain ⟨n, hq⟩ : ∃ n : Nat, pickedI most 60 = n := ⟨(pickedI most 60).toNat, by omega⟩
  rw [hq] at p0 HPA
  clear ht hl hq hr hm
  generalize hN : l.length = N at *
  have HN := Lib.hid hN
  generalize hM : rs.length = M at *
  have HM := Lib.hid hM
  clear hN hM
  go_enter Tryd.func9, Tryd.ntmps9
  go_upto_block 0 with fail
  go_cut [7] (fun v7 wx => ∃ (k : Nat) (A1 : Option Addr) (cap1 : Nat) (xs : List Rv5), k ≤ 12 ∧ v7 = .slice A1 k cap1 ∧ WsAt w wx A1 cap1 k xs)
  case first =>
    go_wp2_with fail
    go_loopw [7, 8] (fun v3 v wr => ∃ (k : Nat) (A1 : Option Addr) (cap1 : Nat) (xs : List Rv5), k ≤ N ∧ k ≤ 12 ∧ v = .int .i64 (k : Int) ∧ v3 = .slice A1 k cap1 ∧ WsAt w wr A1 cap1 k xs) (fun _ v _ => 12 - (intOf v).toNat)
    case atStart => exact ⟨0, none, 0, [], by omega, by omega, rfl, rfl, rfl, by simp, World.ownsRow_nil _ _ _ _, Below.refl _ _⟩
    case round =>
      obtain ⟨k, A1, cap1, xs, hk, hk12, rfl, rfl, hws⟩ := hrel
      have HW := Lib.hid hws
      have hsz := hws.below.size
      clear hws
      have hk0 : (0 : Int) ≤ k := by omega
      by_cases hkN : k < N ∧ k < 12
      · have hk1 : (k : Int) < N := by omega
        have hk2 : (k : Int) < 12 := by omega
        have hk3 := hkN.1
        have hk4 := hkN.2
        obtain ⟨rb, ro, rfl, hrb, hF⟩ := HL.out (by rw [HN.out]; omega)
        obtain ⟨x, hx⟩ : ∃ x, l[k]? = some x := ⟨l[k]'(by rw [HN.out]; omega), List.getElem?_eq_getElem _⟩
        obtain ⟨⟨j0, j1, j2, j3, j4⟩, c0, c1, c2, c3, c4⟩ := hF k x hx
        rw [← HW.out.below.cell (p := ⟨rb, _, none⟩) hrb] at c0 c1 c2 c3 c4
        have hrr : rb < wr.heap.size := by omega
        have HRV := Lib.hid (fun (W : World) => rv_any x.op x.rd x.rs1 x.rs2 x.imm W j0 j1 j2 j3 j4)
        obtain ⟨op, rd, rs1, rs2, imm⟩ := x
        dsimp only at *
        clear hF hx hkN j0 j1 j2 j3 j4
        go_wp2_with (first | (go_at_call 16; go_must (refine (HRV.out _).mono ?_; rintro e wx ⟨⟨op', rd', rs1', rs2', imm', rfl, hok⟩, hb⟩; have hb' : Below wr.heap.size wr wx := (by refine Below.trans ?_ (hb.mono (by simp)); have hb := Below.refl wr.heap.size wr; repeat (first | exact hb | exact Below.refl _ _ | apply Below.drew | apply below_drewN | refine Below.alloc ?_ (by first | omega | (simp; done) | (simp; omega)) _ | refine Below.setCell ?_ (by first | omega | (simp; done) | (simp; omega)) _)); have HOK := Lib.hid hok; have HBX := Lib.hid (HW.out.below.trans (hb'.mono HW.out.below.size)); have HOX := Lib.hid (own_below HW.out.own hb'); have hsx := HBX.out.size; clear hb hb' hok)))
        refine (enc_any op' rd' rs1' rs2' imm' wx (HT.out.keeps HBX.out)).mono ?_
        rintro e wy ⟨rfl, hby⟩
        rw [HOK.out]
        have HOY := Lib.hid (own_below HOX.out hby)
        have HBY := Lib.hid (HBX.out.trans (hby.mono HBX.out.size))
        have hsy := HBY.out.size
        have HTK := Lib.hid (show encs xs ++ [.int .i64 (encI op' rd' rs1' rs2' imm')] = encs (xs ++ [⟨op', rd', rs1', rs2', imm'⟩]) by simp [encs, Rv5.enc])
        have HXK := Lib.hid (show ∀ z ∈ xs ++ [(⟨op', rd', rs1', rs2', imm'⟩ : Rv5)], z.ok from fun z hz => by
          rcases List.mem_append.1 hz with h | h
          · exact HW.out.ok z h
          · rw [List.mem_singleton.1 h]; exact HOK.out)
        generalize encI op' rd' rs1' rs2' imm' = en at *
        clear hby HRV c0 c1 c2 c3 c4 HOK
        go_wp2_with (at_builtin; go_must (refine wpList_append_own _ rfl _ _ 23 rfl w.heap.size 3 i0 _ 1 8 Tryd.underlying23 hi hz0 hz1 hz2 rfl (by decide) (.slice A1 k cap1) k (encs xs) rfl (by exact own_below HOY.out ((Below.refl _ _).alloc (Nat.le_refl _) _)) ⟨wy.heap.size, 0, none⟩ 1 1 [.int .i64 en] rfl rfl (World.news_of_block (cs := #[.int .i64 en]) (t := 3) (fr := (0, 0)) (heap_alloc_new _ _)) (by simp [Value.oneCell']) (by unfold maxLen; omega) (by omega) (by simp; omega) ?_); intro v2 w2 hown2 hg2 _; obtain ⟨A2, cap2, hv2, -⟩ := own_slice hown2; rw [hv2] at hown2; rw [hv2]; have HO2 := Lib.hid hown2; have HB2 := Lib.hid (show Below w.heap.size w w2 from ((HBY.out.alloc HBY.out.size _).grown hg2 (by simp; omega) (fun k hk => (World.ownsRow.lt HOY.out k hk).1))); clear hown2 hg2)
        go_roundw
        case rel => exact ⟨k + 1, A2, cap2, xs ++ [⟨op', rd', rs1', rs2', imm'⟩], by omega, by omega, by go_num, rfl, by simp [HW.out.len], HXK.out, by rw [← HTK.out]; exact HO2.out, HB2.out⟩
        case measure => simp [intOf]; omega
      · go_wp2_with fail
        all_goals go_meet
        all_goals exact ⟨k, A1, cap1, xs, hk12, rfl, HW.out⟩
  case rest =>
    obtain ⟨k, A1, cap1, xs, hk12, rfl, hws⟩ := hcut
    rename World => wa
    have HX := Lib.hid (show (∀ x ∈ xs, x.ok) ∧ xs.length = k from ⟨hws.ok, hws.len⟩)
    have hws' := hws.own
    rw [← hws.len] at hws'
    have HWA := Lib.hid (words_at hws')
    have HB := Lib.hid hws.below
    have hsz := hws.below.size
    have hz := zero_cpu
    have HZL := Lib.hid (cells_length zeroC_ok)
    clear hws hws' HL hn HN hi hz0 hz1 hz2
    go_upto_block 2 with fail
    go_cut [12] (fun v12 wx => ∃ c : Cpu, c.Ok ∧ c.halted = false ∧ wx.heap[wa.heap.size]? = some (.cells c.cells.toArray 31 (0, 0)) ∧ Below wa.heap.size wa wx)
    case first =>
      go_wp2_with fail
      go_loopw [12] (fun v wr => ∃ (i : Nat) (c : Cpu), i ≤ M ∧ i ≤ 32 ∧ v = .int .i64 (i : Int) ∧ c.Ok ∧ c.halted = false ∧ wr.heap[wa.heap.size]? = some (.cells c.cells.toArray 31 (0, 0)) ∧ Below wa.heap.size wa wr) (fun v _ => 32 - (intOf v).toNat)
      case atStart => exact ⟨0, zeroC, by omega, by omega, rfl, zeroC_ok, rfl, heap_alloc_new _ _, (Below.refl _ _).alloc (Nat.le_refl _) _⟩
      case round =>
        obtain ⟨i, c, hi, hi32, rfl, hok, hh, hblk, hb⟩ := hrel
        have HBK := Lib.hid hblk
        have HBB := Lib.hid hb
        have HCO := Lib.hid hok
        have HCH := Lib.hid hh
        have hszr := hb.size
        have hk0 : (0 : Int) ≤ i := by omega
        clear hblk hb hok hh
        by_cases hiM : i < M ∧ i < 32
        · have hk1 : (i : Int) < M := by omega
          have hk2 : (i : Int) < 32 := by omega
          have hk3 := hiM.1
          have hk4 := hiM.2
          obtain ⟨rb, ro, rfl, hrb, hF⟩ := HR.out (by rw [HM.out]; omega)
          obtain ⟨x, hx⟩ : ∃ x, rs[i]? = some x := ⟨rs[i]'(by rw [HM.out]; omega), List.getElem?_eq_getElem _⟩
          obtain ⟨j0, c0⟩ := hF i x hx
          rw [← HB.out.cell (p := ⟨rb, _, none⟩) hrb, ← HBB.out.cell (p := ⟨rb, _, none⟩) (show rb < wa.heap.size by omega)] at c0
          have hrr : rb < wr.heap.size := by omega
          have ci := (cell_block HBK.out i).trans ((by simp) : c.cells.toArray[i]? = c.cells[i]?) |>.trans (cells_reg HCO.out hk4)
          have fi := frozen_block HBK.out i
          have hlb := block_lt HBK.out
          clear hF hx hiM j0
          go_wp2_with fail
          go_roundw
          case rel => exact ⟨i + 1, { c with regs := c.regs.set i x }, by omega, by omega, by go_num, ⟨by simp [HCO.out.regs], HCO.out.data⟩, HCH.out, block_put HBK.out (set_reg HCO.out hk4 x), HBB.out.setCell (Nat.le_refl _) _⟩
          case measure => simp [intOf]; omega
        · go_wp2_with fail
          all_goals go_meet
          all_goals exact ⟨c, HCO.out, HCH.out, HBK.out, HBB.out⟩
    case rest =>
      obtain ⟨c, hok, hh, hblk, hb⟩ := hcut
      have HCO := Lib.hid hok
      have HBK := Lib.hid hblk
      have HBC := Lib.hid hb
      have hlc := block_lt hblk
      have hxl := HX.out.2
      have HRU := Lib.hid (crun_any c hok xs A1 cap1 n wc (HT.out.keeps (HB.out.trans (hb.mono HB.out.size))) HX.out.1 (by omega) (HWA.out.keeps hb) (by omega))
      rw [hxl] at HRU
      have HST := Lib.hid (fun (s : Cpu) (hs : s.Ok) (W : World) (h1 : Tab W) (h2 : WordsAt W A1 xs) => cstep_any s hs xs A1 cap1 W h1 HX.out.1 (by omega) h2)
      rw [hxl] at HST
      have HNH := Lib.hid (show (regs0 c).halted = false from hh)
      have HN0 := Lib.hid (show (regs0 c).regs[0]? = some 0 by unfold regs0; simp [hok.regs])
      have HNO := Lib.hid (show (regs0 c).Ok from ⟨by simp [regs0, hok.regs], hok.data⟩)
      have HE0 := Lib.hid (show c.cells.set 0 (.int .i64 0) = (regs0 c).cells from set_reg hok (r := 0) (by omega) 0)
      have HC0 := Lib.hid (cells_reg hok (i := 0) (by omega))
      clear hok hh hblk hb hxl HR hnr HM
      generalize regs0 c = s0 at *
      obtain ⟨Rn, hRn⟩ : ∃ Rn, runM xs n 0 s0 = Rn := ⟨_, rfl⟩
      have HRN := Lib.hid hRn
      rw [hRn] at HRU
      clear hRn
      obtain ⟨d, m, er⟩ := Rn
      dsimp only at HRU
      have HZE := Lib.hid (rfl : zeroC.cells = zeroC.cells)
      have hlz := cells_length zeroC_ok
      generalize hZ : zeroC.cells = Z at *
      have HZE2 := Lib.hid hZ
      clear HZE hZ
      go_wp2_with (first | (go_at_call 12; refine (HPA.out _).mono ?_; rintro e w' ⟨rfl, rfl⟩) | (refine wpList_load_mid (by rfl) 31 _ (by rfl) wa.heap.size 0 (by rfl) c.cells _ (range_block HBK.out) Tryd.underlying31 (by rfl) (info_cpu HCO.out) ?_))
      refine HRU.out.mono ?_
      rintro e w2 ⟨rfl, hdok, hb2⟩
      have HDO := Lib.hid hdok
      have HB2 := Lib.hid (HBC.out.trans (hb2.mono HBC.out.size))
      have HK2 := Lib.hid ((hb2.block _ hlc).trans HBK.out)
      have hl2 := block_lt HK2.out
      clear hb2 HRU HBK HBC hdok hlc
      have H3 := Lib.hid (fun (w3 : World) (h : (w2.alloc (.cells Z.toArray 31)).setCells w2.heap.size 0 d.cells = w3) => (⟨by rw [← h]; exact block_setCells_ne _ (block_alloc HK2.out _) (by omega) _, by rw [← h]; exact block_full (heap_alloc_new _ _) _ (by simp [HZL.out, cells_length HDO.out]), by rw [← h]; exact below_setCells HB2.out.size _ _ _ (HB2.out.alloc HB2.out.size _)⟩ : w3.heap[wa.heap.size]? = some (.cells c.cells.toArray 31 (0, 0)) ∧ w3.heap[w2.heap.size]? = some (.cells d.cells.toArray 31 (0, 0)) ∧ Below wa.heap.size wa w3))
      have HT3 := Lib.hid (there_block (t := 31) (cs := Z.toArray) (n := d.cells.length) (heap_alloc_new w2 (.cells Z.toArray 31)) (by simp [HZL.out, cells_length HDO.out]))
      go_wp2_with (first | (refine wpList_store_mid (by rfl) 31 _ _ (by rfl) w2.heap.size 0 d.cells.toArray (by rfl) (by rfl) HT3.out (by simpa using info_cpu HDO.out) (cells_one d) ?_; obtain ⟨w3, hw3⟩ : ∃ w3, (w2.alloc (.cells Z.toArray 31)).setCells w2.heap.size 0 d.cells.toArray.toList = w3 := ⟨_, rfl⟩; rw [hw3]; have HW3 := Lib.hid (H3.out w3 hw3); have hl3 := block_lt HW3.out.2.1; have HSZ3 := Lib.hid HW3.out.2.2.size; clear hw3 H3 HT3 hl2 HK2) | (refine wpList_load_mid (by rfl) 31 _ (by rfl) wa.heap.size 0 (by rfl) c.cells _ (range_block HW3.out.1) Tryd.underlying31 (by rfl) (info_cpu HCO.out) ?_) | (refine wpList_store_mid (by rfl) 31 _ _ (by rfl) w3.heap.size 0 c.cells.toArray (by rfl) (by rfl) (there_block (t := 31) (cs := Z.toArray) (heap_alloc_new _ _) (by simp [HZL.out, cells_length HCO.out])) (by simpa using info_cpu HCO.out) (cells_one c) ?_; obtain ⟨w4, hw4⟩ : ∃ w4, (w3.alloc (.cells Z.toArray 31)).setCells w3.heap.size 0 c.cells.toArray.toList = w4 := ⟨_, rfl⟩; rw [hw4]; have HW4 := Lib.hid (show w4.heap[w2.heap.size]? = some (.cells d.cells.toArray 31 (0, 0)) ∧ w4.heap[w3.heap.size]? = some (.cells c.cells.toArray 31 (0, 0)) ∧ Below wa.heap.size wa w4 from hw4 ▸ ⟨block_setCells_ne _ (block_alloc HW3.out.2.1 _) (by omega) _, block_full (heap_alloc_new _ _) _ (by simp [HZL.out, cells_length HCO.out]), below_setCells HW3.out.2.2.size _ _ _ (HW3.out.2.2.alloc HW3.out.2.2.size _)⟩); have f0 := frozen_block HW4.out.2.1 0; have c0 := (cell_block HW4.out.2.1 0).trans ((by simp) : c.cells.toArray[0]? = c.cells[0]?) |>.trans HC0.out; clear hw4 HW3) | (obtain ⟨w5, hw5⟩ : ∃ w5, w4.setCell ⟨w3.heap.size, 0, none⟩ (.int .i64 0) = w5 := ⟨_, rfl⟩; rw [hw5]; have HW5 := Lib.hid (show w5.heap[w2.heap.size]? = some (.cells d.cells.toArray 31 (0, 0)) ∧ w5.heap[w3.heap.size]? = some (.cells s0.cells.toArray 31 (0, 0)) ∧ Below wa.heap.size wa w5 from hw5 ▸ ⟨block_set_ne HW4.out.1 (by omega) _ _, block_put HW4.out.2.1 HE0.out, HW4.out.2.2.setCell HSZ3.out _⟩); clear hw5 HW4 c0 f0))
      have HZI := Lib.hid (show (Tryd.prog.info? 31).map (·.size) = some Z.length from HZE2.out ▸ info_cpu zeroC_ok)
      have HZ1 := Lib.hid (show Z.toArray.all (·.oneCell') = true from HZE2.out ▸ cells_one zeroC)
      go_loopw [18] (LoopRel w wa xs n w2.heap.size w3.heap.size d (d, m, er)) (fun v _ => n - (intOf v).toNat)
      case atStart => exact ⟨0, s0, by omega, rfl, HRN.out, HN0.out, HW5.out.2.2, HW5.out.1, HW5.out.2.1, HNO.out⟩
      case round =>
        obtain ⟨j, s, hj, rfl, hrn, h0, hS⟩ := hrel
        have HS := Lib.hid hS
        have HRJ := Lib.hid hrn
        have HS0 := Lib.hid h0
        have qh := (cell_block hS.blks 97).trans ((by simp) : s.cells.toArray[97]? = s.cells[97]?) |>.trans (cells_halted hS.ok)
        have hls := block_lt hS.blks
        have hld := block_lt hS.blkd
        clear hS hrn h0 HW5 HRN HN0 HNO HE0 HC0 HCO HB2
        cases hh : s.halted
        · rw [hh] at qh
          by_cases hjn : j = n
          · subst hjn
            have hR := HRJ.out
            rw [Nat.sub_self, runM_out hh] at hR
            simp only [Prod.mk.injEq] at hR
            obtain ⟨-, rfl, rfl⟩ := hR
            clear HST HPA
            go_wp2_with fail
            go_ret
            exact ⟨rfl, HB.out.trans (HS.out.below.mono HB.out.size)⟩
          · have hjn2 : ((j : Int) == (n : Int)) = false := by simp; omega
            have hjn3 : (j == n) = false := by simp; omega
            have hre := regs0_same HS0.out
            have HSJ := Lib.hid (HST.out s HS.out.ok wr (HT.out.keeps (HB.out.trans (HS.out.below.mono HB.out.size))) (HWA.out.keeps HS.out.below))
            by_cases hst : (stepM xs s).2 = 0
            · have hcs : cstepM xs s = ((stepM xs s).1, 0) := by unfold cstepM; rw [hre, if_neg (by simp [hh]), if_pos hst]
              have HNX := Lib.hid (show runM xs (n - (j + 1)) (j + 1) (stepM xs s).1 = (d, m, er) by
                rw [← HRJ.out, show n - j = (n - (j + 1)) + 1 by omega, runM_step hh hst])
              have HN0 := Lib.hid (stepM_reg0 HX.out.1 HS0.out)
              rw [hcs] at HSJ
              clear hcs hst hre HST HPA
              generalize (stepM xs s).1 = s1 at *
              dsimp only at HSJ
              have H19 := Lib.hid (fun (w6 : World) (hok : s1.Ok) => there_block (t := 31) (cs := Z.toArray) (n := s1.cells.length) (heap_alloc_new w6 (.cells Z.toArray 31)) (by simp [HZL.out, cells_length hok]))
              go_wp2_with (refine wpList_load_mid (by rfl) 31 _ (by rfl) w3.heap.size 0 (by rfl) s.cells _ (range_block HS.out.blks) Tryd.underlying31 (by rfl) (info_cpu HS.out.ok) ?_)
              refine HSJ.out.mono ?_
              rintro e w6 ⟨rfl, hok1, hb6⟩
              have HO1 := Lib.hid hok1
              have HB6 := Lib.hid (HS.out.below.trans (hb6.mono HS.out.below.size))
              have HK6 := Lib.hid (⟨(hb6.block _ hld).trans HS.out.blkd, (hb6.block _ hls).trans HS.out.blks⟩ : w6.heap[w2.heap.size]? = some (.cells d.cells.toArray 31 (0, 0)) ∧ w6.heap[w3.heap.size]? = some (.cells s.cells.toArray 31 (0, 0)))
              have hl6s := block_lt HK6.out.2
              have hl6d := block_lt HK6.out.1
              have HTX := Lib.hid (H19.out w6 hok1)
              have HSL := Lib.hid (cells_length HS.out.ok)
              clear hb6 hok1 HSJ H19 qh HS
              go_wp2_with (first | (refine wpList_store_mid (by rfl) 31 _ _ (by rfl) w6.heap.size 0 s1.cells.toArray (by rfl) (by rfl) HTX.out (by simpa using info_cpu HO1.out) (cells_one s1) ?_; obtain ⟨w7, hw7⟩ : ∃ w7, (w6.alloc (.cells Z.toArray 31)).setCells w6.heap.size 0 s1.cells.toArray.toList = w7 := ⟨_, rfl⟩; rw [hw7]; have HW7 := Lib.hid (show w7.heap[w2.heap.size]? = some (.cells d.cells.toArray 31 (0, 0)) ∧ w7.heap[w3.heap.size]? = some (.cells s.cells.toArray 31 (0, 0)) ∧ w7.heap[w6.heap.size]? = some (.cells s1.cells.toArray 31 (0, 0)) ∧ Below wa.heap.size wa w7 from hw7 ▸ ⟨block_setCells_ne _ (block_alloc HK6.out.1 _) (by omega) _, block_setCells_ne _ (block_alloc HK6.out.2 _) (by omega) _, block_full (heap_alloc_new _ _) _ (by simp [HZL.out, cells_length HO1.out]), below_setCells HB6.out.size _ _ _ (HB6.out.alloc HB6.out.size _)⟩); clear hw7) | (refine wpList_load_mid (by rfl) 31 _ (by rfl) w6.heap.size 0 (by rfl) s1.cells _ (range_block HW7.out.2.2.1) Tryd.underlying31 (by rfl) (info_cpu HO1.out) ?_) | (refine wpList_store_mid (by rfl) 31 _ _ (by rfl) w3.heap.size 0 s1.cells.toArray (by rfl) (by rfl) (there_block (n := s1.cells.length) HW7.out.2.1 (by simp [HSL.out, cells_length HO1.out])) (by simpa using info_cpu HO1.out) (cells_one s1) ?_; obtain ⟨w8, hw8⟩ : ∃ w8, w7.setCells w3.heap.size 0 s1.cells.toArray.toList = w8 := ⟨_, rfl⟩; rw [hw8]; have HW8 := Lib.hid (show w8.heap[w2.heap.size]? = some (.cells d.cells.toArray 31 (0, 0)) ∧ w8.heap[w3.heap.size]? = some (.cells s1.cells.toArray 31 (0, 0)) ∧ Below wa.heap.size wa w8 from hw8 ▸ ⟨block_setCells_ne _ HW7.out.1 (by omega) _, block_full HW7.out.2.1 _ (by simp [HSL.out, cells_length HO1.out]), below_setCells HSZ3.out _ _ _ HW7.out.2.2.2⟩); clear hw8))
              go_roundw
              case rel => exact ⟨j + 1, s1, by omega, by go_num, HNX.out, HN0.out, HW8.out.2.2, HW8.out.1, HW8.out.2.1, HO1.out⟩
              case measure => simp [intOf]; omega
            · have hcs : cstepM xs s = (zeroC, (stepM xs s).2) := by unfold cstepM; rw [hre, if_neg (by simp [hh]), if_neg hst]
              have hR := HRJ.out
              rw [show n - j = (n - (j + 1)) + 1 by omega, runM_err hh hst] at hR
              simp only [Prod.mk.injEq] at hR
              obtain ⟨-, rfl, rfl⟩ := hR
              have hne : ((stepM xs s).2 != 0) = true := by simpa using hst
              rw [hcs] at HSJ
              clear hcs hst hre HST HPA
              generalize (stepM xs s).2 = er at *
              dsimp only at HSJ
              rw [HZE2.out] at HSJ
              go_wp2_with (refine wpList_load_mid (by rfl) 31 _ (by rfl) w3.heap.size 0 (by rfl) s.cells _ (range_block HS.out.blks) Tryd.underlying31 (by rfl) (info_cpu HS.out.ok) ?_)
              refine HSJ.out.mono ?_
              rintro e w6 ⟨rfl, -, hb6⟩
              have HB6 := Lib.hid (HS.out.below.trans (hb6.mono HS.out.below.size))
              have HTX := Lib.hid (there_block (t := 31) (cs := Z.toArray) (n := Z.length) (heap_alloc_new w6 (.cells Z.toArray 31)) (by simp))
              clear hb6 HSJ qh HS
              go_wp2_with (refine wpList_store_mid (by rfl) 31 _ _ (by rfl) w6.heap.size 0 Z.toArray (by rfl) (by rfl) HTX.out (by simpa using HZI.out) HZ1.out ?_; obtain ⟨w7, hw7⟩ : ∃ w7, (w6.alloc (.cells Z.toArray 31)).setCells w6.heap.size 0 Z.toArray.toList = w7 := ⟨_, rfl⟩; rw [hw7]; have HW7 := Lib.hid (show Below wa.heap.size wa w7 from hw7 ▸ below_setCells HB6.out.size _ _ _ (HB6.out.alloc HB6.out.size _)); clear hw7)
              go_ret
              exact ⟨rfl, HB.out.trans (HW7.out.mono HB.out.size)⟩
        · rw [hh] at qh
          have hR := HRJ.out
          rw [runM_halted hh] at hR
          simp only [Prod.mk.injEq] at hR
          obtain ⟨rfl, rfl, rfl⟩ := hR
          have heq := eq_cpu s HS.out.ok
          clear HST HPA
          go_wp2_with (first | (refine wpList_load_midg (by rfl) 31 _ (by rfl) w3.heap.size 0 (by rfl) s.cells _ (range_block HS.out.blks) Tryd.underlying31 (by rfl) (info_cpu HS.out.ok) ?_) | (refine wpList_load_midg (by rfl) 31 _ (by rfl) w2.heap.size 0 (by rfl) s.cells _ (range_block HS.out.blkd) Tryd.underlying31 (by rfl) (info_cpu HS.out.ok) ?_))
          go_ret
          exact ⟨rfl, HB.out.trans (HS.out.below.mono HB.out.size)⟩
theorem cpuParts_walkD (A : Option Addr) (l : List Rv5) (cap : Nat) (B : Option Addr) (rs : List Int) (capb : Nat) (most : Int) (w : World) (ht : Tab w) (hl : FiveRow w A l) (hn : (l.length : Int) ≤ 9223372036854775807) (hr : IntRow w B rs) (hnr : (rs.length : Int) ≤ 9223372036854775807) (hm : In most) :
    Calls Tryd.prog 9 #[.slice A l.length cap, .slice B rs.length capb, .int .i64 most] w fun e w' => e = .returned (.bool true) ∧ Below w.heap.size w w' := cpuParts_walk A B l rs cap capb most w ht hl hn hr hnr hm
end Go.Proofs.YtjjpgkjjiooieaaDoor
