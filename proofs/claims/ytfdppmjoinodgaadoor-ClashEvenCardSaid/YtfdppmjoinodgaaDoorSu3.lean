/-
  The contract of proof.sure.
-/
import Derived.Test.YtfdppmjoinodgaaDoorSu2
import Derived.Test.YtfdppmjoinodgaaDoorAn
import Derived.Deep.OwnRows
import Derived.Maps.AppendAt
namespace Go.Proofs.YtfdppmjoinodgaaDoor
open Go.RowKit Tier
theorem infoInt : (Tryd.prog.info? 3).map (fun i => (i.zero, i.size, i.bytes)) = some (some (.int .i64 0), 1, 8) := by kernel_rfl
theorem make_ints (N : Nat) (hN : N ≤ 40) (w : World) : (Instr.makeSlice 37 (.int .i64 ((N : Int) + 1)) (.int .i64 ((N : Int) + 1))).run Tryd.prog w = .ok (.slice (some ⟨w.heap.size, 0, none⟩) (N + 1) (N + 1)) (w.alloc (.cells (madeCells #[.int .i64 0] (N + 1)) 3)) := by
  have := run_make_row' (P := Tryd.prog) 37 3 (.int .i64 0) 8 Tryd.underlying37 infoInt rfl .i64 .i64 (N + 1) (by omega) (by omega) w
  push_cast at this
  exact this
theorem made_ints (w : World) (n : Nat) : IntsB (w.alloc (.cells (madeCells #[.int .i64 0] n) 3)) w.heap.size (List.replicate n 0) := by
  unfold IntsB
  rw [heap_alloc_new]
  congr 2
  apply Array.ext_getElem?
  intro i
  simp only [madeCells, List.map_replicate]
  by_cases h : i < n
  · simp [h, Nat.mod_one]
  · simp [h]
/-- The beginning: the function's box, the places, all of them none so far. -/
structure S0 (w wr : World) (fp fr : Int) (fv : Value) (n k : Nat) : Prop where
  box : wr.heap[w.heap.size]? = some (.cells #[.int .i64 fp, .int .i64 fr, fv] 57 (0, 0))
  out : IntsB wr (w.heap.size + 1) (List.replicate k (-1) ++ List.replicate (n - k) 0)
  below : Below w.heap.size w wr
section
variable {w wr : World} {fp fr : Int} {fv : Value} {n k : Nat}
theorem S0.size (h : S0 w wr fp fr fv n k) : w.heap.size + 1 < wr.heap.size := h.out.lt
theorem S0.start (w : World) (fp fr : Int) (fv : Value) (n : Nat) : S0 w ((w.alloc (.cells #[.int .i64 fp, .int .i64 fr, fv] 57)).alloc (.cells (madeCells #[.int .i64 0] n) 3)) fp fr fv n 0 := by
  refine ⟨?_, ?_, ?_⟩
  · rw [Below.heap_alloc _ _ _ (by simp)]; exact heap_alloc_new _ _
  · have := made_ints (w.alloc (.cells #[.int .i64 fp, .int .i64 fr, fv] 57)) n
    simpa using this
  · repeat (first | exact hb | exact Below.refl _ _ | apply Below.drew | apply below_drewN | refine Below.alloc ?_ (by first | omega | (simp; done) | (simp; omega)) _ | refine Below.setCell ?_ (by first | omega | (simp; done) | (simp; omega)) _)
theorem S0.step (h : S0 w wr fp fr fv n k) (hk : k < n) : S0 w (wr.setCell ⟨w.heap.size + 1, k, none⟩ (.int .i64 (-1))) fp fr fv n (k + 1) := by
  refine ⟨(Below.heap_setCell _ _ _ _ (by simp)).trans h.box, ?_, h.below.setCell (by simp) _⟩
  have := h.out.set k (-1)
  have e : (List.replicate k (-1 : Int) ++ List.replicate (n - k) 0).set k (-1) = List.replicate (k + 1) (-1) ++ List.replicate (n - (k + 1)) 0 := by
    rw [List.set_append_right _ _ (by simp)]
    have : n - k = (n - (k + 1)) + 1 := by omega
    rw [this, List.replicate_succ]
    simp [List.replicate_succ', List.append_assoc]
  rw [← e]; exact this
end
theorem first_mask (fp : Int) (h0 : 0 ≤ fp) (h1 : fp ≤ 2) : wrap64 (wrap64 (2 ^ fp.toNat) - 1) = ((2 ^ fp.toNat - 1 : Nat) : Int) := by
  have : fp = 0 ∨ fp = 1 ∨ fp = 2 := by omega
  rcases this with rfl | rfl | rfl <;> decide +kernel
theorem SW.start {w wr : World} {fp fr : Int} {fv : Value} {n : Nat} (h : S0 w wr fp fr fv (n + 1) (n + 1)) (fc : List Ins) (hn : fc.length = n) (h0 : 0 ≤ fp) (h1 : fp ≤ 2) :
    SW w ((wr.setCell ⟨w.heap.size + 1, 0, none⟩ (.int .i64 (wrap64 (wrap64 (2 ^ fp.toNat) - 1)))).alloc (.cells #[.int .i64 0] 3)) fp fr fv (some ⟨wr.heap.size, 0, none⟩) 1 (startS ⟨fp, fr, fc⟩) := by
  have hs := h.size
  rw [first_mask fp h0 h1]
  have hb1 : Below w.heap.size w (wr.setCell ⟨w.heap.size + 1, 0, none⟩ (.int .i64 ((2 ^ fp.toNat - 1 : Nat) : Int))) := h.below.setCell (by simp) _
  have hout : IntsB wr (w.heap.size + 1) (outL (List.replicate (n + 1) none)) := by
    have := h.out
    rw [Nat.sub_self, List.replicate_zero, List.append_nil] at this
    simpa [outL, oI] using this
  refine ⟨?_, ?_, ?_, ?_⟩
  · rw [Below.heap_alloc _ _ _ (by simp; omega), Below.heap_setCell _ _ _ _ (by simp)]; exact h.box
  · have h2 := hout.set 0 ((2 ^ fp.toNat - 1 : Nat) : Int)
    have h3 := outL_set (List.replicate (n + 1) none) 0 (some (2 ^ fp.toNat - 1))
    simp only [oI] at h3
    rw [h3] at h2
    unfold IntsB at *
    rw [Below.heap_alloc _ _ _ (by simp; omega), h2, startS, hn]
  · refine ⟨by simp [natI, startS], .inr ⟨wr.heap.size, 1, #[.int .i64 0], rfl, by omega, ?_, by simp [startS], by unfold maxLen; omega, by simp, ?_⟩⟩
    · have := heap_alloc_new (wr.setCell ⟨w.heap.size + 1, 0, none⟩ (.int .i64 ((2 ^ fp.toNat - 1 : Nat) : Int))) (.cells #[.int .i64 0] 3)
      simpa using this
    · simp [startS, natI]
  · exact hb1.alloc (by simp; omega) _
set_option maxRecDepth 100000 in
set_option maxHeartbeats 8000000 in
theorem sure_any (f : Fnc) (A : Option Addr) (cap : Nat) (funcs : Int) (w : World) (hf : FnOk f funcs) (hc : CodeAt w (.slice A f.code.length cap) f.code) :
    Calls Tryd.prog 76 #[.agg #[.int .i64 f.params, .int .i64 f.regs, .slice A f.code.length cap]] w fun e w' =>
      (∃ b, e = .returned (.slice (some ⟨b, 0, none⟩) (f.code.length + 1) (f.code.length + 1)) ∧ w.heap.size ≤ b ∧ IntsB w' b (outL (sureF f))) ∧ Below w.heap.size w w' := by
  obtain ⟨A0, cap0, hA0, hA⟩ := hc.slice
  simp only [Value.slice.injEq, true_and] at hA0
  obtain ⟨g, hAg, hg, hfn⟩ := hA (by have := hf.c1; omega)
  obtain ⟨rfl, rfl⟩ := hA0
  have HF := Lib.hid hf
  have HC := Lib.hid hc
  have HFN := Lib.hid hfn
  subst hAg
  have n1 := hf.c1
  have n2 := hf.c2
  have p1 := hf.p1
  have p2 := hf.p2
  clear hA hf hfn hc
  obtain ⟨fp, fr, fc⟩ := f
  dsimp only at *
  generalize hN : fc.length = N at *
  have HN := Lib.hid hN
  clear hN
  obtain ⟨i0, hi, hz0, hz1, hz2⟩ := info_parts infoInt
  have hmk := make_ints N n2
  go_enter Tryd.func76, Tryd.ntmps76
  go_wp2_with fail
  go_loopw [18] (fun v wr => ∃ k : Nat, k ≤ N + 1 ∧ v = .int .i64 (k : Int) ∧ S0 w wr fp fr (.slice (some ⟨g, 0, none⟩) N cap) (N + 1) k) (fun v _ => N + 1 - (intOf v).toNat)
  case atStart => exact ⟨0, by omega, rfl, S0.start w fp fr _ (N + 1)⟩
  case round =>
    obtain ⟨k, hk, rfl, hS⟩ := hrel
    have HS := Lib.hid hS
    have z1 := hS.size
    have z0 : w.heap.size < wr.heap.size := by omega
    by_cases hkN : k = N + 1
    · subst hkN
      have q0 := cell_block hS.box
      have f0 := frozen_block hS.box
      have c1 : wr.cell? ⟨w.heap.size + 1, 0, none⟩ = some (.int .i64 (-1)) := hS.out.cell (by simp [List.replicate_succ])
      have f1 := hS.out.frozen 0
      have HSW := Lib.hid (SW.start hS fc HN.out p1 p2)
      clear hS hk
      go_wp2_with fail
      clear q0 f0 c1 f1 z1 z0 hmk
      have hcok := HF.out.cok
      have HCOK := Lib.hid hcok
      dsimp only at hcok
      clear hcok
      go_loopg [5] (muS (startS ⟨fp, fr, fc⟩)) (fun q v wr => ∃ (k : Nat) (A1 : Option Addr) (cap1 : Nat) (s : SS), s = iterS fc k (startS ⟨fp, fr, fc⟩) ∧ q = muS s ∧ v = .slice A1 s.todo.length cap1 ∧ SW w wr fp fr (.slice (some ⟨g, 0, none⟩) N cap) A1 cap1 s)
      case atStart => exact ⟨0, _, 1, _, rfl, rfl, rfl, HSW.out⟩
      case round =>
        obtain ⟨k, A1, cap1, s, hs, rfl, rfl, hW⟩ := hrel
        clear HSW
        have HS := Lib.hid hs
        have HW := Lib.hid hW
        have z1 := hW.size
        have z0 : w.heap.size < wr.heap.size := by omega
        by_cases he : s.todo = []
        · have hl0 : s.todo.length = 0 := by rw [he]; rfl
          have HFIN := Lib.hid (show s.out = sureF ⟨fp, fr, fc⟩ by rw [hs]; exact sureF_of HCOK.out p2 (by rw [hs] at he; exact he))
          rw [hl0]
          clear hs hW he hl0
          go_wp2_with fail
          go_ret
          refine ⟨⟨w.heap.size + 1, rfl, by omega, by rw [← HFIN.out]; exact HW.out.out⟩, HW.out.below⟩
        · obtain ⟨m, pc, hl, hm, hlast, hdrop, hmem⟩ := last_split he
          have hinv : SInv fc s := by rw [hs]; exact iterS_inv (f := ⟨fp, fr, fc⟩) HCOK.out p2 k
          have hml : m ≤ 340000 := by
            have := iterS_todo (f := ⟨fp, fr, fc⟩) HCOK.out p2 (by have := HN.out; dsimp only; omega) k
            dsimp only at this
            rw [← hs, hl] at this; omega
          obtain ⟨ga, hga, hgl, cp⟩ := hW.at hl hm
          obtain ⟨hpc, mk, hmk⟩ := hinv.todo pc hmem
          have hpcN : pc ≤ N := by rw [← HN.out]; exact hpc
          have co : wr.cell? ⟨w.heap.size + 1, pc, none⟩ = some (.int .i64 (mk : Int)) := hW.out.cell (outL_get hmk)
          have q0 := cell_block hW.box
          have HP := Lib.hid (hW.pop he)
          have hcap : m + 1 ≤ cap1 := by have := hW.room he; omega
          have hcap0 : m ≤ cap1 := by omega
          have HPL := Lib.hid (show (popS s).todo.length = m by simp [popS, hl])
          have HSTEP := Lib.hid (show stepS fc s = iterS fc (k + 1) (startS ⟨fp, fr, fc⟩) by rw [hs]; rfl)
          have HMU := Lib.hid (show muS (stepS fc s) < muS s from (stepS_inv HCOK.out hinv).2 he)
          have HINV := Lib.hid hinv
          have HMUS := Lib.hid (show muS (popS s) ≤ 340000 by
            have h1 := muS_start ⟨fp, fr, fc⟩ (by have := HN.out; dsimp only; omega) p2
            have h2 := (iterS_mu (f := ⟨fp, fr, fc⟩) HCOK.out p2 k)
            have h3 : muS (popS s) ≤ muS s := by simp only [muS, popS, List.length_dropLast]; omega
            rcases h2 with h2 | h2
            · dsimp only at h2; rw [← hs] at h2; exact absurd h2 he
            · dsimp only at h2; rw [← hs] at h2; omega)
          have HLAST := Lib.hid hlast
          have HMK := Lib.hid hmk
          rw [hl]
          clear hs hW he hm hlast hdrop hmem hinv hpc hmk
          subst hga
          by_cases hpe : pc = N
          · subst hpe
            have HST := Lib.hid (show stepS fc s = popS s by
              unfold stepS; rw [HLAST.out]; dsimp only
              rw [List.getElem?_eq_none (by rw [HN.out]; exact Nat.le_refl _)])
            go_wp2_with fail
            go_roundg (muS (popS s))
            case rel => exact ⟨k + 1, _, cap1, popS s, by rw [← HSTEP.out, HST.out], rfl, by rw [HPL.out], HP.out⟩
            case measure => rw [← HST.out]; exact HMU.out
          · have hpl : (pc : Int) < N := by omega
            obtain ⟨x, hx⟩ : ∃ x, fc[pc]? = some x := ⟨fc[pc]'(by have := HN.out; omega), List.getElem?_eq_getElem _⟩
            obtain ⟨c0, c1, c2, c3, c4⟩ := HFN.out pc x hx
            have hio := HF.out.ins x (List.mem_of_getElem? hx)
            have HX := Lib.hid hx
            have hsm := setM_lt hio HF.out.r2
            have hJ : x.op = 15 ∨ x.op = 16 → 0 ≤ x.imm := fun h => (hio.jump h).1
            have HJ := Lib.hid hJ
            have hnl := nextL_le hio (by rw [HN.out]; omega : pc < fc.length)
            have hmlt := HINV.out.mask pc mk HMK.out
            obtain ⟨b', hb'⟩ : ∃ b', mk ||| setM x = b' := ⟨_, rfl⟩
            have hblt : b' < 4096 := by rw [← hb']; exact or_lt hmlt hsm
            have HB' := Lib.hid hb'
            have HST := Lib.hid (show stepS fc s = (nextL x pc).foldl (relax b') (popS s) by
              unfold stepS; rw [HLAST.out]; dsimp only
              rw [hx]; dsimp only
              rw [← hb']
              unfold bitsAt; rw [HMK.out]; rfl)
            obtain ⟨L, hL⟩ : ∃ L, nextL x pc = L := ⟨_, rfl⟩
            have HL := Lib.hid hL
            have hsb1 : setsB x = true → mk ||| 2 ^ x.dst.toNat = b' := fun h => by rw [← hb']; unfold setM; rw [if_pos h]
            have hsb0 : setsB x = false → mk = b' := fun h => by rw [← hb']; unfold setM; rw [if_neg (by simp [h]), Nat.or_zero]
            have hd0 := hio.dst1
            have hd1 : x.dst ≤ 11 := by have := hio.dst2; have := HF.out.r2; omega
            have sdst := shl_one x.dst hd0 (by omega)
            have hgr : g < wr.heap.size := Nat.lt_of_lt_of_le hg HW.out.below.size
            rw [← HW.out.below.cell (p := ⟨g, _, none⟩) hg] at c0 c1 c2 c3 c4
            have HCR := Lib.hid (HC.out.keeps HW.out.below)
            have HNL := Lib.hid (show ∀ k ∈ L, k ≤ N by rw [← hL, ← HN.out]; exact hnl)
            have hLl : L.length ≤ 2 := by rw [← hL]; unfold nextL; split <;> (try split) <;> (try split) <;> simp
            have HNX := Lib.hid (show ∀ W : World, CodeAt W (.slice (some ⟨g, 0, none⟩) N cap) fc → Calls Tryd.prog 96 #[.agg #[.int .i64 fp, .int .i64 fr, .slice (some ⟨g, 0, none⟩) N cap], .int .i64 (pc : Nat)] W (fun e w' => (∃ v, e = .returned v ∧ OwnI w' W.heap.size v (natI L)) ∧ Below W.heap.size W w') from fun W hW => by
              have h1 := next_any ⟨fp, fr, fc⟩ (some ⟨g, 0, none⟩) cap pc x W hx (by dsimp only; rw [HN.out]; exact hW) (by dsimp only; rw [HN.out]; exact n2) hJ
              dsimp only at h1
              rw [HN.out, hL] at h1
              exact h1)
            clear hx hio hsm hb' hL hnl hpe hJ
            obtain ⟨op, dst, a, b, imm⟩ := x
            dsimp only at *
            cases hsb : setsB ⟨op, dst, a, b, imm⟩
            case' false =>
              have hsb2 := (hsb0 hsb).symm
              subst hsb2
              have sor : True := trivial
            case' true =>
              have e1 := hsb1 hsb
              have sor : bits .or .i64 (mk : Int) ((2 : Int) ^ dst.toNat) = (b' : Int) := by
                have h2 : 2 ^ dst.toNat < 4096 := pow_lt (by omega)
                have := or_nat mk (2 ^ dst.toNat) (by omega) (by omega)
                push_cast at this
                rw [this, ← e1]
            all_goals (
              have HSB := Lib.hid hsb
              clear hsb0 hsb1 hsb
              go_wp2_with (first | (go_at_call 85; go_must (refine (sets_any ⟨op, dst, a, b, imm⟩ _).mono ?_; rintro e wx ⟨he, hbx⟩; rw [HSB.out] at he; subst he; have HWx := Lib.hid (HP.out.keeps hbx); have HBX := Lib.hid hbx; have q1 := cell_block HWx.out.box; have zx0 : w.heap.size < wx.heap.size := (by have := HWx.out.size; omega); have d0 := (hbx.cell (p := ⟨g, _, none⟩) hgr).trans c0; have d1 := (hbx.cell (p := ⟨g, _, none⟩) hgr).trans c1; have d2 := (hbx.cell (p := ⟨g, _, none⟩) hgr).trans c2; have d3 := (hbx.cell (p := ⟨g, _, none⟩) hgr).trans c3; have d4 := (hbx.cell (p := ⟨g, _, none⟩) hgr).trans c4; clear hbx)) | (go_at_call 96; go_must (refine (HNX.out _ (HCR.out.keeps HBX.out)).mono ?_; rintro e wy ⟨⟨v, rfl, hov⟩, hby⟩; obtain ⟨Av, capv, gv, hv, hSX, hAv⟩ := SX.start HWx.out hby (Nat.le_refl _) hov; subst hv; have HSX := Lib.hid hSX; have HAV := Lib.hid hAv; clear hov hby hSX hAv)))
              generalize hLN : L.length = ln at *
              have HLN := Lib.hid hLN
              clear hLN q0 q1 zx0 c0 c1 c2 c3 c4 d0 d1 d2 d3 d4 cp co sor sdst
              go_loopw [5, 74] (fun v5 i wi => ∃ (j : Nat) (A4 : Option Addr) (cap4 : Nat) (s4 : SS), j ≤ ln ∧ i = .int .i64 (j : Nat) ∧ s4 = (L.take j).foldl (relax b') (popS s) ∧ v5 = .slice A4 s4.todo.length cap4 ∧ SX w wi fp fr (.slice (some ⟨g, 0, none⟩) N cap) A4 cap4 s4 gv L) (fun _ i _ => ln - (intOf i).toNat)
              case atStart => exact ⟨0, _, cap1, popS s, by omega, rfl, rfl, by rw [HPL.out], HSX.out⟩
              case round =>
                obtain ⟨j, A4, cap4, s4, hj, rfl, hs4, rfl, hSX4⟩ := hrel
                have HE4 := Lib.hid hs4
                have HS4 := Lib.hid hSX4
                have z4 := hSX4.sw.size
                clear hs4
                obtain ⟨wi, hwi⟩ : ∃ wi : World, wi = wr := ⟨_, rfl⟩
                subst hwi
                by_cases hjl : j = ln
                · subst hjl
                  have HEQ := Lib.hid (show s4 = stepS fc s by rw [HST.out, HL.out, HE4.out, List.take_of_length_le (by rw [HLN.out]; exact Nat.le_refl _)])
                  clear hSX4
                  go_wp2_with fail
                  go_roundg (muS s4)
                  case rel => exact ⟨k + 1, A4, cap4, s4, by rw [HEQ.out, HSTEP.out], rfl, rfl, HS4.out.sw⟩
                  case measure => rw [HEQ.out]; exact HMU.out
                · have hjl2 : (j : Int) < ln := by omega
                  obtain ⟨n, hn⟩ : ∃ n, L[j]? = some n := ⟨L[j]'(by rw [HLN.out]; omega), List.getElem?_eq_getElem _⟩
                  have HJN := Lib.hid hn
                  have hAv := HAV.out (by omega)
                  have hcn := hSX4.row j n hn
                  have hgv : gv < wi.heap.size := World.block_lt_of_cell? _ _ hcn
                  have hnN := HNL.out n (List.mem_of_getElem? hn)
                  obtain ⟨hi4, hm4⟩ := fold_inv hblt (L.take j) (popS_inv HINV.out) (fun k hk => by rw [HN.out]; exact HNL.out k (List.mem_of_mem_take hk))
                  rw [← HE4.out] at hi4 hm4
                  have htl : s4.todo.length ≤ 340000 := by have := HMUS.out; simp only [muS] at hm4 this; omega
                  obtain ⟨o, ho⟩ : ∃ o, s4.out[n]? = some o := ⟨s4.out[n]'(by have := hi4.len; rw [HN.out] at this; omega), List.getElem?_eq_getElem _⟩
                  have co4 := hSX4.sw.out.cell (outL_get ho)
                  have f4 := hSX4.sw.out.frozen n
                  have HFO := Lib.hid (show (L.take (j + 1)).foldl (relax b') (popS s) = relax b' s4 n by
                    rw [List.take_add_one, hn, HE4.out]; simp [List.foldl_append])
                  have HO := Lib.hid ho
                  have HMSK := Lib.hid (fun was (h : o = some was) => hi4.mask n was (by rw [ho, h]))
                  subst hAv
                  generalize hTL : s4.todo.length = tl4 at *
                  have HTL4 := Lib.hid hTL
                  have hn0 : (0 : Int) ≤ (n : Int) := by omega
                  have hn1 : (n : Int) < (N : Int) + 1 := by omega
                  clear hSX4 hi4 hm4 ho hn hTL hjl
                  cases o with
                  | none =>
                    simp only [oI] at co4
                    have HRX := Lib.hid (show relax b' s4 n = ⟨s4.out.set n (some b'), s4.todo ++ [n]⟩ by unfold relax; rw [HO.out])
                    go_wp2_with (first | (at_builtin; go_must (refine wpList_append_own_at _ rfl _ _ 37 rfl (w.heap.size + 2) 3 i0 _ 1 8 Tryd.underlying37 hi hz0 hz1 hz2 rfl (by decide) (.slice A4 tl4 cap4) tl4 ((natI s4.todo).map (Value.int .i64)) rfl (by have := HS4.out.mid n (.int .i64 (b' : Nat)) (.cells #[.int .i64 (n : Int)] 3); rw [HTL4.out] at this; exact this) ⟨wi.heap.size, 0, none⟩ 1 1 [.int .i64 (n : Int)] rfl rfl (World.news_of_block (cs := #[.int .i64 (n : Int)]) (t := 3) (fr := (0, 0)) (by simpa using heap_alloc_new (wi.setCell ⟨w.heap.size + 1, n, none⟩ (.int .i64 (b' : Nat))) (.cells #[.int .i64 (n : Int)] 3))) (by simp [Value.oneCell']) (by unfold maxLen; omega) (by omega) (by simp; omega) ?_); intro v6 w6 hown6 hg6 _ hat6; obtain ⟨A6, cap6, hv6, -⟩ := own_slice hown6; rw [hv6] at hown6 hat6; rw [hv6]; have HS6 := Lib.hid (HS4.out.push HJN.out n b' (by rw [HTL4.out]; exact hg6) (by rw [HTL4.out]; exact hown6) (by rw [HTL4.out]; exact hat6)); clear hown6 hg6 hat6))
                    go_roundw
                    case rel => exact ⟨j + 1, A6, cap6, ⟨s4.out.set n (some b'), s4.todo ++ [n]⟩, by omega, by go_num, by rw [HFO.out, HRX.out], by simp [HTL4.out], HS6.out⟩
                    case measure => simp [intOf]; omega
                  | some was =>
                    simp only [oI] at co4
                    have hw1 := HMSK.out was rfl
                    have hw0 : ¬ ((was : Int) < 0) := by omega
                    have sand := and_nat was b' (by omega) (by omega)
                    by_cases hwb : was &&& b' = was
                    · rw [hwb] at sand
                      have HRX := Lib.hid (show relax b' s4 n = s4 by unfold relax; rw [HO.out]; dsimp only; rw [if_pos hwb])
                      clear hwb
                      go_wp2_with fail
                      go_roundw
                      case rel => exact ⟨j + 1, A4, cap4, s4, by omega, by go_num, by rw [HFO.out, HRX.out], by rw [HTL4.out], HS4.out⟩
                      case measure => simp [intOf]; omega
                    · have HRX := Lib.hid (show relax b' s4 n = ⟨s4.out.set n (some (was &&& b')), s4.todo ++ [n]⟩ by unfold relax; rw [HO.out]; dsimp only; rw [if_neg hwb])
                      obtain ⟨v', hv'⟩ : ∃ v', was &&& b' = v' := ⟨_, rfl⟩
                      rw [hv'] at sand hwb HRX
                      have hne : ((v' : Int) == (was : Int)) = false := by simp; omega
                      clear hwb hv'
                      go_wp2_with (first | (at_builtin; go_must (refine wpList_append_own_at _ rfl _ _ 37 rfl (w.heap.size + 2) 3 i0 _ 1 8 Tryd.underlying37 hi hz0 hz1 hz2 rfl (by decide) (.slice A4 tl4 cap4) tl4 ((natI s4.todo).map (Value.int .i64)) rfl (by have := HS4.out.mid n (.int .i64 (v' : Nat)) (.cells #[.int .i64 (n : Int)] 3); rw [HTL4.out] at this; exact this) ⟨wi.heap.size, 0, none⟩ 1 1 [.int .i64 (n : Int)] rfl rfl (World.news_of_block (cs := #[.int .i64 (n : Int)]) (t := 3) (fr := (0, 0)) (by simpa using heap_alloc_new (wi.setCell ⟨w.heap.size + 1, n, none⟩ (.int .i64 (v' : Nat))) (.cells #[.int .i64 (n : Int)] 3))) (by simp [Value.oneCell']) (by unfold maxLen; omega) (by omega) (by simp; omega) ?_); intro v6 w6 hown6 hg6 _ hat6; obtain ⟨A6, cap6, hv6, -⟩ := own_slice hown6; rw [hv6] at hown6 hat6; rw [hv6]; have HS6 := Lib.hid (HS4.out.push HJN.out n v' (by rw [HTL4.out]; exact hg6) (by rw [HTL4.out]; exact hown6) (by rw [HTL4.out]; exact hat6)); clear hown6 hg6 hat6))
                      go_roundw
                      case rel => exact ⟨j + 1, A6, cap6, ⟨s4.out.set n (some v'), s4.todo ++ [n]⟩, by omega, by go_num, by rw [HFO.out, HRX.out], by simp [HTL4.out], HS6.out⟩
                      case measure => simp [intOf]; omega)
    · have hkN' : (k : Int) < (N : Int) + 1 := by omega
      have c1 : wr.cell? ⟨w.heap.size + 1, k, none⟩ = some (.int .i64 0) := hS.out.cell (by
        rw [List.getElem?_append_right (by simp), List.getElem?_replicate, List.length_replicate, if_pos (by omega)])
      have f1 := hS.out.frozen k
      clear hS hkN
      go_wp2_with fail
      go_roundw
      case rel => exact ⟨k + 1, by omega, by go_num, HS.out.step (by omega)⟩
      case measure => simp [intOf]; omega
end Go.Proofs.YtfdppmjoinodgaaDoor
