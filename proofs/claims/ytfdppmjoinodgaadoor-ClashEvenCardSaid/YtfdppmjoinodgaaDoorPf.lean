/-
  The contract of proof.function.
-/
import Derived.Test.YtfdppmjoinodgaaDoorSu3
import Derived.Test.YtfdppmjoinodgaaDoorShS
namespace Go.Proofs.YtfdppmjoinodgaaDoor
open Go.RowKit Tier
theorem any_at {n : Nat} {q : Nat → Bool} {k : Nat} (hk : k < n) (h : q k = true) : (List.range n).any q = true := by
  rw [List.any_eq_true]; exact ⟨k, List.mem_range.2 hk, h⟩
theorem any_none {n : Nat} {q : Nat → Bool} (h : ∀ k, k < n → q k = false) : (List.range n).any q = false := by
  rw [List.any_eq_false]; intro k hk; rw [h k (List.mem_range.1 hk)]; simp
theorem sub_le {a m : Nat} (h : a &&& m ≤ a) : ((a - (a &&& m) : Nat) : Int) = (a : Int) - ((a &&& m : Nat) : Int) := by omega
set_option maxRecDepth 100000 in
set_option maxHeartbeats 8000000 in
theorem pfn_any (p : List Fnc) (A : Option Addr) (cap : Nat) (f : Fnc) (FA : Option Addr) (fcap : Nat) (w : World) (hp : ProgAt w (.slice A p.length cap) p) (hok : ProgOk p) (hf : f ∈ p) (hc : CodeAt w (.slice FA f.code.length fcap) f.code) :
    Calls Tryd.prog 52 #[.agg #[.slice A p.length cap], .agg #[.int .i64 f.params, .int .i64 f.regs, .slice FA f.code.length fcap]] w fun e w' =>
      e = .returned (.int .i64 (fnP p f)) ∧ Below w.heap.size w w' := by
  have hfo := hok.fn f hf
  obtain ⟨A0, cap0, hA0, hA⟩ := hc.slice
  simp only [Value.slice.injEq, true_and] at hA0
  obtain ⟨g, hAg, hg, hfn⟩ := hA (by have := hfo.c1; omega)
  obtain ⟨rfl, rfl⟩ := hA0
  have HF := Lib.hid hfo
  have HC := Lib.hid hc
  have HFN := Lib.hid hfn
  have HP := Lib.hid hp
  have HOK := Lib.hid hok
  have HCOK := Lib.hid hfo.cok
  subst hAg
  have n1 := hfo.c1
  have n2 := hfo.c2
  have p2 := hfo.p2
  have HSF := Lib.hid (show (sureF f).length = f.code.length + 1 from sureF_length hfo.cok hfo.p2)
  have HMS := Lib.hid (show ∀ i m : Nat, (sureF f)[i]? = some (some m) → m < 4096 from fun i m => sureF_mask hfo.cok hfo.p2 i m)
  have HSU := Lib.hid (sure_any f (some ⟨g, 0, none⟩) fcap p.length)
  have HRD := Lib.hid (fun (W : World) (x : Ins) (hx : x ∈ f.code) (hW : ProgAt W (.slice A p.length cap) p) => preads_any p A cap x f.regs f.code.length W hW (hfo.ins x hx) hfo.r2 (fun f hf => ⟨(hok.fn f hf).p1, (hok.fn f hf).p2⟩))
  have HRL := Lib.hid (fun (x : Ins) (hx : x ∈ f.code) => reads_low (hfo.ins x hx) (parOf p x))
  clear hA hfo hfn hc hp hok
  have HFP := Lib.hid (show fnP p f = if (List.range f.code.length).any (badAt p f) = true then 6 else if endAt f = true then 7 else 0 from rfl)
  have HB0 := Lib.hid (show ∀ pc, (sureF f)[pc]? = some none → badAt p f pc = false from fun pc h => by unfold badAt; rw [h]; cases f.code[pc]? <;> rfl)
  have HB1 := Lib.hid (show ∀ pc x m, f.code[pc]? = some x → (sureF f)[pc]? = some (some m) → badAt p f pc = (readsM x (parOf p x) - (readsM x (parOf p x) &&& m) != 0) from fun pc x m h1 h2 => by unfold badAt; rw [h1, h2])
  have HEA := Lib.hid (show endAt f = (((sureF f)[f.code.length]?).getD none).isSome from rfl)
  generalize badAt p f = bad at *
  generalize endAt f = fin at *
  generalize sureF f = S at *
  generalize fnP p f = ans at *
  obtain ⟨fp, fr, fc⟩ := f
  dsimp only at *
  generalize hN : fc.length = N at *
  have HN := Lib.hid hN
  generalize p.length = pn at *
  clear hN
  go_enter Tryd.func52, Tryd.ntmps52
  go_wp2_with (go_at_call 76; go_must (refine (HSU.out _ HF.out (HC.out.keeps (((Below.refl _ _).alloc (Nat.le_refl _) (.cells #[.slice A pn cap] 25)).alloc (by simp) (.cells #[.int .i64 fp, .int .i64 fr, .slice (some ⟨g, 0, none⟩) N fcap] 57)))).mono ?_; rintro e wx ⟨⟨b, rfl, hgb, hIB⟩, hbx⟩; have HIB := Lib.hid hIB; have HBX := Lib.hid (show Below w.heap.size w wx from (((Below.refl _ _).alloc (Nat.le_refl _) _).alloc (by simp) _).trans (hbx.mono (by simp; omega))); have hq0 := (hbx.block w.heap.size (by simp; omega)).trans (show _ = some (Obj.cells #[.slice A pn cap] 25 (0, 0)) by rw [Below.heap_alloc _ _ _ (by simp)]; exact heap_alloc_new _ _); have hq1 := (hbx.block (w.heap.size + 1) (by simp)).trans (heap_alloc_new2 w _ _); have HQ0 := Lib.hid hq0; have HQ1 := Lib.hid hq1; have q1 := cell_block hq1; have zx : w.heap.size + 1 < wx.heap.size := (Array.getElem?_eq_some_iff.1 hq1).1; have hbs : b < wx.heap.size := hIB.lt; clear hbx hIB hq0 hq1))
  go_loopw [13] (fun v wr => ∃ k : Nat, k ≤ N ∧ v = .int .i64 (k : Int) ∧ (∀ j, j < k → bad j = false) ∧ Below wx.heap.size wx wr) (fun v _ => N - (intOf v).toNat)
  case atStart => exact ⟨0, by omega, rfl, by omega, Below.refl _ _⟩
  case round =>
    obtain ⟨k, hk, rfl, hj, hbr⟩ := hrel
    have HJ := Lib.hid hj
    have HBR := Lib.hid hbr
    have z0 := hbr.size
    have zb : b < wr.heap.size := Nat.lt_of_lt_of_le hbs hbr.size
    have hSk : k < S.length := by rw [HSF.out]; omega
    obtain ⟨o, ho⟩ : ∃ o, S[k]? = some o := ⟨S[k], List.getElem?_eq_getElem hSk⟩
    have co : wr.cell? ⟨b, k, none⟩ = some (.int .i64 (oI o)) := (hbr.cell (p := ⟨b, k, none⟩) hbs).trans (HIB.out.cell (outL_get ho))
    have HO := Lib.hid ho
    have qr0 := cell_block ((hbr.block _ (by omega)).trans HQ0.out)
    have qr1 := cell_block ((hbr.block _ zx).trans HQ1.out)
    have zr1 : w.heap.size + 1 < wr.heap.size := by omega
    have zr0 : w.heap.size < wr.heap.size := by omega
    clear hj hbr ho hSk
    by_cases hkN : k = N
    · subst hkN
      have HANY := Lib.hid (any_none HJ.out)
      cases o with
      | none =>
        simp only [oI] at co
        have HA := Lib.hid (show ans = 0 by
          rw [HFP.out, if_neg (by rw [HANY.out]; simp), if_neg]
          rw [HEA.out, HO.out]; simp)
        go_wp2_with fail
        go_ret
        refine ⟨ret_int HA.out.symm, ?_⟩
        have hb := HBX.out.trans (HBR.out.mono (by omega))
        repeat (first | exact hb | exact Below.refl _ _ | apply Below.drew | apply below_drewN | refine Below.alloc ?_ (by first | omega | (simp; done) | (simp; omega)) _ | refine Below.setCell ?_ (by first | omega | (simp; done) | (simp; omega)) _)
      | some m =>
        simp only [oI] at co
        have HA := Lib.hid (show ans = 7 by
          rw [HFP.out, if_neg (by rw [HANY.out]; simp), if_pos]
          rw [HEA.out, HO.out]; rfl)
        go_wp2_with fail
        go_ret
        refine ⟨ret_int HA.out.symm, ?_⟩
        have hb := HBX.out.trans (HBR.out.mono (by omega))
        repeat (first | exact hb | exact Below.refl _ _ | apply Below.drew | apply below_drewN | refine Below.alloc ?_ (by first | omega | (simp; done) | (simp; omega)) _ | refine Below.setCell ?_ (by first | omega | (simp; done) | (simp; omega)) _)
    · have hkN' : (k : Int) < N := by omega
      obtain ⟨x, hx⟩ : ∃ x, fc[k]? = some x := ⟨fc[k]'(by have := HN.out; omega), List.getElem?_eq_getElem _⟩
      have hmem := List.mem_of_getElem? hx
      obtain ⟨c0, c1, c2, c3, c4⟩ := HFN.out k x hx
      have hgr : g < wr.heap.size := Nat.lt_of_lt_of_le hg (by have := HBX.out.size; omega)
      have hbw : Below w.heap.size w wr := HBX.out.trans (HBR.out.mono (by omega))
      have HBW := Lib.hid hbw
      rw [← hbw.cell (p := ⟨g, _, none⟩) hg] at c0 c1 c2 c3 c4
      have hi0 : (0 : Int) ≤ k := by omega
      have hi1 : (k : Int) < (N : Int) + 1 := by omega
      cases o with
      | none =>
        simp only [oI] at co
        have HBK := Lib.hid (HB0.out k HO.out)
        clear hx hkN hbw hmem
        obtain ⟨op, dst, a, b', imm⟩ := x
        dsimp only at *
        go_wp2_with fail
        go_quiet (fail)
        go_wp2_with fail
        go_roundw
        case rel =>
          refine ⟨k + 1, by omega, by go_num, fun j hj => ?_, ?_⟩
          · rcases Nat.lt_succ_iff_lt_or_eq.1 hj with h | h
            · exact HJ.out j h
            · rw [h]; exact HBK.out
          · have hb := HBR.out
            repeat (first | exact hb | exact Below.refl _ _ | apply Below.drew | apply below_drewN | refine Below.alloc ?_ (by first | omega | (simp; done) | (simp; omega)) _ | refine Below.setCell ?_ (by first | omega | (simp; done) | (simp; omega)) _)
        case measure => simp [intOf]; omega
      | some m =>
        simp only [oI] at co
        have HBK := Lib.hid (HB1.out k x m hx HO.out)
        have hm := HMS.out k m HO.out
        have hr : readsM x (parOf p x) < 4096 := by
          have h1 := (HRL.out x hmem).and
          have h2 : readsM x (parOf p x) &&& low fr.toNat ≤ low fr.toNat := Nat.and_le_right
          have h3 : 2 ^ fr.toNat ≤ 2 ^ 12 := Nat.pow_le_pow_right (by omega) (by have := HF.out.r2; dsimp only at this; omega)
          rw [h1] at h2
          unfold low at h2
          simp only [Nat.reducePow] at h3
          omega
        have HRX := Lib.hid (fun W hW => HRD.out W x hmem hW)
        obtain ⟨r, hr'⟩ : ∃ r, readsM x (parOf p x) = r := ⟨_, rfl⟩
        rw [hr'] at HBK HRX hr
        have san := andNot_nat r m (by omega) (by omega)
        obtain ⟨d, hd⟩ : ∃ d, r - (r &&& m) = d := ⟨_, rfl⟩
        rw [hd] at san HBK
        clear hx hkN hbw hmem hr' hd
        obtain ⟨op, dst, a, b', imm⟩ := x
        dsimp only at *
        by_cases hd0 : d = 0
        · subst hd0
          go_wp2_with fail
          go_region_held3 (fun w' => w'.cell? ⟨b, k, none⟩ = some (.int .i64 (m : Int)) ∧ w'.cell? ⟨w.heap.size, 0, none⟩ = some (.slice A pn cap) ∧ w'.cell? ⟨wr.heap.size, 0, none⟩ = some (.int .i64 op) ∧ w'.cell? ⟨wr.heap.size, 1, none⟩ = some (.int .i64 dst) ∧ w'.cell? ⟨wr.heap.size, 2, none⟩ = some (.int .i64 a) ∧ w'.cell? ⟨wr.heap.size, 3, none⟩ = some (.int .i64 b') ∧ w'.cell? ⟨wr.heap.size, 4, none⟩ = some (.int .i64 imm)) (refine ⟨?_, ?_, ?_, ?_, ?_, ?_, ?_⟩ <;> first | assumption | exact qz _ | exact (((Below.refl wr.heap.size wr).alloc (Nat.le_refl _) _).cell (p := ⟨w.heap.size, 0, none⟩) zr0).trans (by rw [qr0]; rfl) | exact cell_block (heap_alloc_new wr _) _ | exact ((((Below.refl wr.heap.size wr).alloc (Nat.le_refl _) _).cell (p := ⟨b, k, none⟩) zb).trans co)) (first | (go_at_call 83; go_must (refine (HRX.out _ (HP.out.keeps (by have hb := HBW.out; repeat (first | exact hb | exact Below.refl _ _ | apply Below.drew | apply below_drewN | refine Below.alloc ?_ (by first | omega | (simp; done) | (simp; omega)) _ | refine Below.setCell ?_ (by first | omega | (simp; done) | (simp; omega)) _)))).mono ?_; rintro e wz ⟨rfl, hbz⟩; have hbz' : Below wr.heap.size wr wz := (by refine Below.trans ?_ (hbz.mono (by simp)); have hb := Below.refl wr.heap.size wr; repeat (first | exact hb | exact Below.refl _ _ | apply Below.drew | apply below_drewN | refine Below.alloc ?_ (by first | omega | (simp; done) | (simp; omega)) _ | refine Below.setCell ?_ (by first | omega | (simp; done) | (simp; omega)) _)); have HBZ := Lib.hid hbz'; have qz := cell_block ((hbz.block wr.heap.size (by simp)).trans (heap_alloc_new wr _)); have cz2 : wz.cell? ⟨w.heap.size, 0, none⟩ = some (.slice A pn cap) := (hbz'.cell (p := ⟨w.heap.size, 0, none⟩) zr0).trans (by rw [qr0]; rfl); have cz : wz.cell? ⟨b, k, none⟩ = some (.int .i64 (m : Int)) := (hbz'.cell (p := ⟨b, k, none⟩) zb).trans co; have zbz : b < wz.heap.size := Nat.lt_of_lt_of_le zb hbz'.size; clear hbz hbz')))
          all_goals (
            go_wp2_with fail
            go_roundw
            case rel =>
              refine ⟨k + 1, by omega, by go_num, fun j hj => ?_, HBR.out.trans (HBZ.out.mono (by omega))⟩
              rcases Nat.lt_succ_iff_lt_or_eq.1 hj with h | h
              · exact HJ.out j h
              · rw [h, HBK.out]; rfl
            case measure => simp [intOf]; omega)
        · have hdn : ((d : Int) != 0) = true := by simp; omega
          have hdp : 0 < d := by omega
          clear hd0
          go_wp2_with fail
          go_region_held3 (fun w' => w'.cell? ⟨b, k, none⟩ = some (.int .i64 (m : Int)) ∧ w'.cell? ⟨w.heap.size, 0, none⟩ = some (.slice A pn cap) ∧ w'.cell? ⟨wr.heap.size, 0, none⟩ = some (.int .i64 op) ∧ w'.cell? ⟨wr.heap.size, 1, none⟩ = some (.int .i64 dst) ∧ w'.cell? ⟨wr.heap.size, 2, none⟩ = some (.int .i64 a) ∧ w'.cell? ⟨wr.heap.size, 3, none⟩ = some (.int .i64 b') ∧ w'.cell? ⟨wr.heap.size, 4, none⟩ = some (.int .i64 imm)) (refine ⟨?_, ?_, ?_, ?_, ?_, ?_, ?_⟩ <;> first | assumption | exact qz _ | exact (((Below.refl wr.heap.size wr).alloc (Nat.le_refl _) _).cell (p := ⟨w.heap.size, 0, none⟩) zr0).trans (by rw [qr0]; rfl) | exact cell_block (heap_alloc_new wr _) _ | exact ((((Below.refl wr.heap.size wr).alloc (Nat.le_refl _) _).cell (p := ⟨b, k, none⟩) zb).trans co)) (first | (go_at_call 83; go_must (refine (HRX.out _ (HP.out.keeps (by have hb := HBW.out; repeat (first | exact hb | exact Below.refl _ _ | apply Below.drew | apply below_drewN | refine Below.alloc ?_ (by first | omega | (simp; done) | (simp; omega)) _ | refine Below.setCell ?_ (by first | omega | (simp; done) | (simp; omega)) _)))).mono ?_; rintro e wz ⟨rfl, hbz⟩; have hbz' : Below wr.heap.size wr wz := (by refine Below.trans ?_ (hbz.mono (by simp)); have hb := Below.refl wr.heap.size wr; repeat (first | exact hb | exact Below.refl _ _ | apply Below.drew | apply below_drewN | refine Below.alloc ?_ (by first | omega | (simp; done) | (simp; omega)) _ | refine Below.setCell ?_ (by first | omega | (simp; done) | (simp; omega)) _)); have HBZ := Lib.hid hbz'; have qz := cell_block ((hbz.block wr.heap.size (by simp)).trans (heap_alloc_new wr _)); have cz2 : wz.cell? ⟨w.heap.size, 0, none⟩ = some (.slice A pn cap) := (hbz'.cell (p := ⟨w.heap.size, 0, none⟩) zr0).trans (by rw [qr0]; rfl); have cz : wz.cell? ⟨b, k, none⟩ = some (.int .i64 (m : Int)) := (hbz'.cell (p := ⟨b, k, none⟩) zb).trans co; have zbz : b < wz.heap.size := Nat.lt_of_lt_of_le zb hbz'.size; clear hbz hbz')))
          all_goals (
            go_wp2_with fail
            go_ret)
          all_goals (
            refine ⟨ret_int ?_, ?_⟩
            · rw [HFP.out, if_pos (any_at (k := k) (by omega) (by rw [HBK.out]; simp; omega))]
            · exact HBW.out.trans (HBZ.out.mono (by have := HBW.out.size; omega)))
end Go.Proofs.YtfdppmjoinodgaaDoor
