/-
  Contracts of code.within, code.reg, code.instr: for every instruction; over the table 'has' as the program's start lays it.
-/
import Derived.Test.YtfdppmjoinodgaaDoorRows
import Derived.WalkKit
import Derived.Deep.Light
import Derived.Lib.Hide
import Derived.Test.YtfdppmjoinodgaaDoorPgP
import Derived.Test.YtfdppmjoinodgaaDoorPgW
namespace Go.Proofs.YtfdppmjoinodgaaDoor
open Go.RowKit Tier
theorem within_any (n lo hi : Int) (w : World) : Calls Tryd.prog 81 #[.int .i64 n, .int .i64 lo, .int .i64 hi] w fun e w' => e = .returned (.bool (wi n lo hi)) ∧ w = w' := by
  go_enter Tryd.func81, Tryd.ntmps81
  go_wp2_with fail
  all_goals go_ret
  all_goals (refine ⟨?_, rfl⟩; go_light; simp_all [wi]; try omega)
theorem reg_any (n is regs : Int) (w : World) (h0 : -4611686018427387904 ≤ regs) (h1 : regs ≤ 4611686018427387904) : Calls Tryd.prog 99 #[.int .i64 n, .int .i64 is, .int .i64 regs] w fun e w' => e = .returned (.bool (regB n is regs)) ∧ w = w' := by
  by_cases h : is = 0
  · have X := Lib.hid (show regB n is regs = (n == 0) from if_pos h)
    have h' : (is == 0) = true := by simpa using h
    clear h
    go_enter Tryd.func99, Tryd.ntmps99
    go_wp2_with (go_at_call 81; refine (within_any _ _ _ _).mono ?_; rintro e w' ⟨rfl, rfl⟩)
    go_ret
    exact ⟨by rw [X.out]; rfl, rfl⟩
  · have X := Lib.hid (show regB n is regs = wi n 0 (regs - 1) from if_neg h)
    have h' : (is == 0) = false := by simpa using h
    clear h
    go_enter Tryd.func99, Tryd.ntmps99
    go_wp2_with (go_at_call 81; refine (within_any _ _ _ _).mono ?_; rintro e w' ⟨rfl, rfl⟩)
    go_ret
    exact ⟨by rw [X.out]; rfl, rfl⟩
set_option maxRecDepth 100000 in
set_option maxHeartbeats 2000000 in
theorem ins_core (op : Nat) (dst a b imm params regs : Int) (cb : Option Addr) (n cap : Nat) (funcs h : Int) (w : World) (hz : 0 < w.heap.size) (hop : (1 : Int) ≤ op) (hop2 : (op : Int) ≤ 19)
    (hr0 : -4611686018427387904 ≤ regs) (hr1 : regs ≤ 4611686018427387904) (hf0 : 0 ≤ funcs) (hf1 : funcs ≤ 4611686018427387904) (hn : (n : Int) ≤ 4611686018427387904)
    (c0 : w.cell? ⟨0, op, none⟩ = some (.int .i64 h)) (hh : h = hasOf op) :
    Calls Tryd.prog 82 #[.agg #[.int .i64 op, .int .i64 dst, .int .i64 a, .int .i64 b, .int .i64 imm], .agg #[.int .i64 params, .int .i64 regs, .slice cb n cap], .int .i64 funcs] w
      fun e w' => e = .returned (.int .i64 (insE ⟨op, dst, a, b, imm⟩ regs n funcs)) ∧ Below w.heap.size w w' := by
  have hw : wi op 1 19 = true := by simp [wi]; omega
  have X := Lib.hid (show insE ⟨op, dst, a, b, imm⟩ regs n funcs = insH h ⟨op, dst, a, b, imm⟩ regs n funcs by unfold insE; rw [if_neg (by simp [hw]), hh]; rfl)
  clear hh
  go_enter Tryd.func82, Tryd.ntmps82
  go_wp2_with (first | (go_at_call 81; refine (within_any _ _ _ _).mono ?_; rintro e w' ⟨rfl, rfl⟩) | (go_at_call 99; refine (reg_any _ _ _ _ (by omega) (by omega)).mono ?_; rintro e w' ⟨rfl, rfl⟩))
  all_goals go_ret
  all_goals (refine ⟨ret_int ?_, ?_⟩)
  all_goals first | (rw [X.out]; unfold insH; clear X; go_light; simp_all; done) | skip
  all_goals first | ((repeat (first | exact hb | exact Below.refl _ _ | apply Below.drew | apply below_drewN | refine Below.alloc ?_ (by first | omega | (simp; done) | (simp; omega)) _ | refine Below.setCell ?_ (by first | omega | (simp; done) | (simp; omega)) _)); done) | skip
  all_goals (rw [X.out]; unfold insH; clear X; go_light; simp_all)
end Go.Proofs.YtfdppmjoinodgaaDoor
/-
  The contract of code.Check: for every program; over the table 'has' as the program's start lays it.
-/
namespace Go.Proofs.YtfdppmjoinodgaaDoor
open Go.RowKit Tier
theorem ins_any (x : Ins) (params regs : Int) (A : Option Addr) (n cap : Nat) (funcs : Int) (w : World) (ht : Tab w)
    (hr0 : -4611686018427387904 ≤ regs) (hr1 : regs ≤ 4611686018427387904) (hf0 : 0 ≤ funcs) (hf1 : funcs ≤ 4611686018427387904) (hn : (n : Int) ≤ 4611686018427387904) :
    Calls Tryd.prog 82 #[.agg #[.int .i64 x.op, .int .i64 x.dst, .int .i64 x.a, .int .i64 x.b, .int .i64 x.imm], .agg #[.int .i64 params, .int .i64 regs, .slice A n cap], .int .i64 funcs] w
      fun e w' => e = .returned (.int .i64 (insE x regs n funcs)) ∧ Below w.heap.size w w' := by
  obtain ⟨op, dst, a, b, imm⟩ := x
  dsimp only
  by_cases h : wi op 1 19 = true
  · have h1 : 1 ≤ op ∧ op ≤ 19 := by simpa [wi] using h
    obtain ⟨k, rfl⟩ := Int.eq_ofNat_of_zero_le (show 0 ≤ op by omega)
    exact ins_core k dst a b imm params regs A n cap funcs _ w ht.size h1.1 h1.2 hr0 hr1 hf0 hf1 hn (ht.has k (by omega)) rfl
  · have h' : wi op 1 19 = false := by simpa using h
    have X := Lib.hid (show insE ⟨op, dst, a, b, imm⟩ regs n funcs = 3 from if_pos h')
    clear ht h
    go_enter Tryd.func82, Tryd.ntmps82
    go_wp2_with (go_at_call 81; refine (within_any _ _ _ _).mono ?_; rintro e w' ⟨rfl, rfl⟩)
    go_ret
    refine ⟨ret_int X.out.symm, ?_⟩
    repeat (first | exact hb | exact Below.refl _ _ | apply Below.drew | apply below_drewN | refine Below.alloc ?_ (by first | omega | (simp; done) | (simp; omega)) _ | refine Below.setCell ?_ (by first | omega | (simp; done) | (simp; omega)) _)
set_option maxRecDepth 100000 in
set_option maxHeartbeats 4000000 in
theorem check_any (p : List Fnc) (v : Value) (w : World) (ht : Tab w) (hp : ProgAt w v p) (hl : (p.length : Int) ≤ 4611686018427387904) (hcl : ∀ f ∈ p, (f.code.length : Int) ≤ 4611686018427387904) :
    Calls Tryd.prog 51 #[.agg #[v]] w fun e w' => e = .returned (.int .i64 (progE p)) ∧ Below w.heap.size w w' := by
  obtain ⟨A, cap, rfl, hA⟩ := hp.slice
  have HA := Lib.hid hA
  have HT := Lib.hid ht
  have HCL := Lib.hid hcl
  clear hA ht hcl hp
  by_cases h0 : (p.length : Int) < 1
  · have X := Lib.hid (show progE p = 1 from if_pos (.inl (by omega)))
    go_enter Tryd.func51, Tryd.ntmps51
    go_wp2_with fail
    go_ret
    refine ⟨ret_int X.out.symm, ?_⟩
    repeat (first | exact hb | exact Below.refl _ _ | apply Below.drew | apply below_drewN | refine Below.alloc ?_ (by first | omega | (simp; done) | (simp; omega)) _ | refine Below.setCell ?_ (by first | omega | (simp; done) | (simp; omega)) _)
  · by_cases h1 : (4 : Int) < p.length
    · have X := Lib.hid (show progE p = 1 from if_pos (.inr (by omega)))
      go_enter Tryd.func51, Tryd.ntmps51
      go_wp2_with fail
      go_ret
      refine ⟨ret_int X.out.symm, ?_⟩
      repeat (first | exact hb | exact Below.refl _ _ | apply Below.drew | apply below_drewN | refine Below.alloc ?_ (by first | omega | (simp; done) | (simp; omega)) _ | refine Below.setCell ?_ (by first | omega | (simp; done) | (simp; omega)) _)
    · have X := Lib.hid (show progE p = firstE (p.map fun f => fnE f p.length) from if_neg (by omega))
      obtain ⟨g, rfl, hg, hfn⟩ := HA.out (by omega)
      have HF := Lib.hid hfn
      clear hfn HA hl
      generalize hN : p.length = N at *
      have HN := Lib.hid hN
      clear hN
      go_enter Tryd.func51, Tryd.ntmps51
      go_wp2_with fail
      go_loopw [21] (fun i wr => ∃ k : Nat, k ≤ N ∧ i = .int .i64 k ∧ (∀ j, j < k → (p.map fun f => fnE f N)[j]? = some 0) ∧ Below (w.heap.size + 1) (w.alloc (.cells #[.slice (some ⟨g, 0, none⟩) N cap] 25)) wr) (fun i _ => N - (intOf i).toNat)
      case atStart => exact ⟨0, by omega, rfl, by omega, Below.refl _ _⟩
      case round =>
        obtain ⟨k, hk, rfl, hj, hb⟩ := hrel
        have HJ := Lib.hid hj
        have HB := Lib.hid hb
        have hb0 : Below w.heap.size w wr := ((Below.refl _ _).alloc (Nat.le_refl _) _).trans (hb.mono (by omega))
        obtain ⟨r0, z0⟩ := aft (W := w.alloc (.cells #[.slice (some ⟨g, 0, none⟩) N cap] 25)) (by simpa using hb) (b := w.heap.size) (by simp)
        have HB0 := Lib.hid hb0
        clear hj hb hb0
        by_cases hkN : k = N
        · subst hkN
          go_wp2_with fail
          go_ret
          refine ⟨ret_int ?_, HB0.out⟩
          rw [X.out]
          exact (firstE_zero fun j hj => HJ.out j (by simpa [HN.out] using hj)).symm
        · have hkN' : (k : Int) < N := by omega
          have hgz : g < wr.heap.size := Nat.lt_of_lt_of_le hg HB0.out.size
          obtain ⟨f, hf⟩ : ∃ f, p[k]? = some f := ⟨p[k]'(by have := HN.out; omega), List.getElem?_eq_getElem _⟩
          have HFk := Lib.hid hf
          obtain ⟨u, hu, c0, c1, c2⟩ := HF.out k f hf
          rw [← HB0.out.cell (p := ⟨g, _, none⟩) hg] at c0 c1 c2
          obtain ⟨CA, ccap, rfl, hCA⟩ := hu.slice
          have HCA := Lib.hid hCA
          have hfl := HCL.out f (List.mem_of_getElem? hf)
          have HE := Lib.hid (show (p.map fun f => fnE f N)[k]? = some (fnE f N) by simp [hf])
          clear hf hCA hu hkN
          obtain ⟨fp, fr, fc⟩ := f
          dsimp only at *
          obtain ⟨lim, hlim⟩ : ∃ l, (if fr < 2 then fr else 2) = l := ⟨_, rfl⟩
          have HL := Lib.hid hlim
          by_cases q1 : wi fr 1 12 = true
          · by_cases q2 : wi fp 0 lim = true
            · by_cases q3 : (fc.length : Int) < 1
              · have Z := Lib.hid (show fnE ⟨fp, fr, fc⟩ N = 1 from fnE_size q1 (by rw [hlim]; exact q2) (.inl (show fc.length < 1 by omega)))
                have Y := Lib.hid (show progE p = 1 from X.out.trans (firstE_at HE.out (by rw [show fnE ⟨fp, fr, fc⟩ N = 1 from Z.out]; decide) HJ.out |>.trans (Z.out)))
                go_wp2_with (go_at_call 81; refine (within_any _ _ _ _).mono ?_; rintro e w' ⟨rfl, rfl⟩)
                go_ret
                refine ⟨ret_int Y.out.symm, ?_⟩
                have hb := HB0.out
                repeat (first | exact hb | exact Below.refl _ _ | apply Below.drew | apply below_drewN | refine Below.alloc ?_ (by first | omega | (simp; done) | (simp; omega)) _ | refine Below.setCell ?_ (by first | omega | (simp; done) | (simp; omega)) _)
              · by_cases q4 : (40 : Int) < fc.length
                · have Z := Lib.hid (show fnE ⟨fp, fr, fc⟩ N = 1 from fnE_size q1 (by rw [hlim]; exact q2) (.inr (show 40 < fc.length by omega)))
                  have Y := Lib.hid (show progE p = 1 from X.out.trans (firstE_at HE.out (by rw [show fnE ⟨fp, fr, fc⟩ N = 1 from Z.out]; decide) HJ.out |>.trans (Z.out)))
                  go_wp2_with (go_at_call 81; refine (within_any _ _ _ _).mono ?_; rintro e w' ⟨rfl, rfl⟩)
                  go_ret
                  refine ⟨ret_int Y.out.symm, ?_⟩
                  have hb := HB0.out
                  repeat (first | exact hb | exact Below.refl _ _ | apply Below.drew | apply below_drewN | refine Below.alloc ?_ (by first | omega | (simp; done) | (simp; omega)) _ | refine Below.setCell ?_ (by first | omega | (simp; done) | (simp; omega)) _)
                · have Z := Lib.hid (show fnE ⟨fp, fr, fc⟩ N = firstE (fc.map fun x => insE x fr fc.length N) from fnE_code q1 (by rw [hlim]; exact q2) (show ¬ fc.length < 1 by omega) (show ¬ 40 < fc.length by omega))
                  obtain ⟨gc, rfl, hgc, hins⟩ := HCA.out (by omega)
                  have HI := Lib.hid hins
                  have HFR := Lib.hid (show 1 ≤ fr ∧ fr ≤ 12 by simpa [wi] using q1)
                  clear hins HCA
                  generalize hM : fc.length = M at *
                  have HM := Lib.hid hM
                  clear hM
                  go_wp2_with (go_at_call 81; refine (within_any _ _ _ _).mono ?_; rintro e w' ⟨rfl, rfl⟩)
                  obtain ⟨wo, hwo⟩ : ∃ wo : World, wo = wr := ⟨_, rfl⟩
                  subst hwo
                  go_loopw [51] (fun i wi => ∃ m : Nat, m ≤ M ∧ i = .int .i64 m ∧ (∀ j, j < m → (fc.map fun x => insE x fr M N)[j]? = some 0) ∧ Below (wo.heap.size + 1) (wo.alloc (.cells #[.int .i64 fp, .int .i64 fr, .slice (some ⟨gc, 0, none⟩) M ccap] 57)) wi) (fun i _ => M - (intOf i).toNat)
                  case atStart => exact ⟨0, by omega, rfl, by omega, Below.refl _ _⟩
                  case round =>
                    obtain ⟨m, hm, rfl, hj2, hb2⟩ := hrel
                    have HJ2 := Lib.hid hj2
                    have hbo : Below wo.heap.size wo wr := ((Below.refl _ _).alloc (Nat.le_refl _) _).trans (hb2.mono (by omega))
                    obtain ⟨s0, y0⟩ := aft (W := wo.alloc (.cells #[.int .i64 fp, .int .i64 fr, .slice (some ⟨gc, 0, none⟩) M ccap] 57)) (by simpa using hb2) (b := wo.heap.size) (by simp)
                    obtain ⟨s1, y1⟩ := aft hbo z0
                    have HB2 := Lib.hid hbo
                    have HB2' := Lib.hid hb2
                    clear hj2 hb2 hbo
                    by_cases hmM : m = M
                    · subst hmM
                      go_wp2_with fail
                      go_roundw
                      case rel =>
                        refine ⟨k + 1, by omega, by go_num, ?_, ?_⟩
                        · intro j hj
                          by_cases hjk : j = k
                          · subst hjk
                            rw [HE.out, Z.out, firstE_zero]
                            intro j hj
                            exact HJ2.out j (by simpa [HM.out] using hj)
                          · exact HJ.out j (by omega)
                        · exact HB.out.trans (HB2.out.mono (by omega))
                      case measure => simp [intOf]; omega
                    · have hmM' : (m : Int) < M := by omega
                      obtain ⟨x, hx⟩ : ∃ x, fc[m]? = some x := ⟨fc[m]'(by have := HM.out; omega), List.getElem?_eq_getElem _⟩
                      obtain ⟨d0, d1, d2, d3, d4⟩ := HI.out m x hx
                      rw [← (bthen HB0.out HB2.out).cell (p := ⟨gc, _, none⟩) hgc] at d0 d1 d2 d3 d4
                      have hgz2 : gc < wr.heap.size := Nat.lt_of_lt_of_le hgc (bthen HB0.out HB2.out).size
                      have HE2 := Lib.hid (show (fc.map fun x => insE x fr M N)[m]? = some (insE x fr M N) by simp [hx])
                      clear hx hmM
                      go_wp2_with fail
                      refine (ins_any x fp fr _ M ccap N _ ((HT.out.keeps (bthen HB0.out HB2.out)).alloc _) (by have := HFR.out; omega) (by have := HFR.out; omega) (by omega) (by omega) (by omega)).mono ?_
                      rintro e w2 ⟨rfl, hb3⟩
                      obtain ⟨s2, y2⟩ := aft hb3 (b := w.heap.size) (by simp; omega)
                      obtain ⟨s3, y3⟩ := aft hb3 (b := wo.heap.size) (by simp; omega)
                      have HB3 := Lib.hid (show Below wr.heap.size wr w2 from ((Below.refl _ _).alloc (Nat.le_refl _) _).trans (hb3.mono (by simp)))
                      clear hb3
                      by_cases hE : insE x fr M N = 0
                      · have HZ := Lib.hid hE
                        rw [hE]
                        clear hE
                        go_wp2_with fail
                        go_roundw
                        case rel =>
                          refine ⟨m + 1, by omega, by go_num, ?_, ?_⟩
                          · intro j hj
                            by_cases hjk : j = m
                            · subst hjk
                              rw [HE2.out, HZ.out]
                            · exact HJ2.out j (by omega)
                          · exact HB2'.out.trans (HB3.out.mono (by omega))
                        case measure => simp [intOf]; omega
                      · have hE' : (insE x fr M N == 0) = false := by simpa using hE
                        have Y := Lib.hid (show progE p = insE x fr M N from X.out.trans ((firstE_at HE.out (by rw [Z.out, firstE_at HE2.out hE HJ2.out]; exact hE) HJ.out).trans (by rw [Z.out, firstE_at HE2.out hE HJ2.out])))
                        clear hE
                        go_wp2_with fail
                        go_ret
                        refine ⟨ret_int Y.out.symm, ?_⟩
                        exact bthen (bthen HB0.out HB2.out) HB3.out
            · have Z := Lib.hid (show fnE ⟨fp, fr, fc⟩ N = 2 from fnE_regs (.inr (by rw [hlim]; simpa using q2)))
              have Y := Lib.hid (show progE p = 2 from X.out.trans (firstE_at HE.out (by rw [show fnE ⟨fp, fr, fc⟩ N = 2 from Z.out]; decide) HJ.out |>.trans (Z.out)))
              go_wp2_with (go_at_call 81; refine (within_any _ _ _ _).mono ?_; rintro e w' ⟨rfl, rfl⟩)
              go_ret
              refine ⟨ret_int Y.out.symm, ?_⟩
              have hb := HB0.out
              repeat (first | exact hb | exact Below.refl _ _ | apply Below.drew | apply below_drewN | refine Below.alloc ?_ (by first | omega | (simp; done) | (simp; omega)) _ | refine Below.setCell ?_ (by first | omega | (simp; done) | (simp; omega)) _)
          · have Z := Lib.hid (show fnE ⟨fp, fr, fc⟩ N = 2 from fnE_regs (.inl (by simpa using q1)))
            have Y := Lib.hid (show progE p = 2 from X.out.trans (firstE_at HE.out (by rw [show fnE ⟨fp, fr, fc⟩ N = 2 from Z.out]; decide) HJ.out |>.trans (Z.out)))
            go_wp2_with (go_at_call 81; refine (within_any _ _ _ _).mono ?_; rintro e w' ⟨rfl, rfl⟩)
            go_ret
            refine ⟨ret_int Y.out.symm, ?_⟩
            have hb := HB0.out
            repeat (first | exact hb | exact Below.refl _ _ | apply Below.drew | apply below_drewN | refine Below.alloc ?_ (by first | omega | (simp; done) | (simp; omega)) _ | refine Below.setCell ?_ (by first | omega | (simp; done) | (simp; omega)) _)
end Go.Proofs.YtfdppmjoinodgaaDoor
