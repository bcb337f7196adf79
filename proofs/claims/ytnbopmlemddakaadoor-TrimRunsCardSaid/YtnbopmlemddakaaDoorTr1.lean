/-
  The contracts of trim.where and trim.Where.
-/
import Derived.Test.YtnbopmlemddakaaDoorTrP
import Derived.Test.YtnbopmlemddakaaDoorPs
import Derived.Test.YtnbopmlemddakaaDoorPc
import Derived.Test.YtnbopmlemddakaaDoorMkI
namespace Go.Proofs.YtnbopmlemddakaaDoor
open Go.RowKit Tier
theorem whF_take (F : Fnc) {k : Nat} (h : k < F.code.length) : outL ((whF F).take (k + 1)) = outL ((whF F).take k) ++ [if rchB F k = true then (posF F k : Int) else -1] := by
  rw [List.take_add_one, whF_get F h]
  unfold outL
  rw [List.map_append]
  congr 1
  split <;> rfl
theorem posF_le (F : Fnc) (k : Nat) : posF F k ≤ k := by unfold posF; exact Nat.le_trans List.countP_le_length (by simp)
set_option maxRecDepth 100000 in
set_option maxHeartbeats 8000000 in
theorem where_any (p : List Fnc) (A : Option Addr) (cap k : Nat) (f : Fnc) (w : World) (ht : Tab w) (hp : ProgAt w (.slice A p.length cap) p) (hE : progE p = 0) (hf : p[k]? = some f) :
    Calls Tryd.prog 40 #[.agg #[.slice A p.length cap], .int .i64 (k : Int)] w fun e w' =>
      (∃ b, e = .returned (.slice (some ⟨b, 0, none⟩) f.code.length f.code.length) ∧ w.heap.size ≤ b ∧ IntsB w' b (outL (whF f))) ∧ Below w.heap.size w w' := by
  have hok := prog_ok hE
  have hfo := hok.fn f (List.mem_of_getElem? hf)
  have n2 := hfo.c2
  have HSL := Lib.hid (sureF_length hfo.cok hfo.p2)
  have HPS := Lib.hid (fun (W : World) (h1 : Tab W) (h2 : ProgAt W (.slice A p.length cap) p) => psure_any p A cap k f W h1 h2 hE hf)
  have HT := Lib.hid ht
  have HP := Lib.hid hp
  have HWL := Lib.hid (whF_length f)
  obtain ⟨M, hM⟩ : ∃ M, f.code.length = M := ⟨_, rfl⟩
  have HM := Lib.hid hM
  rw [hM] at HPS n2 HWL HSL
  have hmk := make_intsN M n2
  have HTK := Lib.hid (fun (j : Nat) (hj : j < M) => whF_take f (k := j) (by rw [HM.out]; exact hj))
  rw [hM]
  clear hok hfo hE hf hp ht hM
  generalize p.length = N at *
  go_enter Tryd.func40, Tryd.ntmps40
  go_wp2_with (go_at_call 23; go_must (refine (HPS.out _ (HT.out.alloc _) (HP.out.keeps ((Below.refl _ _).alloc (Nat.le_refl _) _))).mono ?_; rintro e w1 ⟨⟨b, rfl, hgb, hIB⟩, hb⟩; have HB := Lib.hid (((Below.refl w.heap.size w).alloc (Nat.le_refl _) _).trans (hb.mono (by simp))); have HIB := Lib.hid hIB; have HGB := Lib.hid (show w.heap.size ≤ b from by simp at hgb; omega); clear hb hIB hgb))
  obtain ⟨w2, hw2⟩ : ∃ w2, w1.alloc (.cells (madeCells #[.int .i64 0] M) 3) = w2 := ⟨_, rfl⟩
  have HO := Lib.hid (show IntsB w2 w1.heap.size (List.replicate M 0) from hw2 ▸ made_ints w1 M)
  have HB12 := Lib.hid (show Below w1.heap.size w1 w2 from hw2 ▸ (Below.refl _ _).alloc (Nat.le_refl _) _)
  rw [hw2]
  clear hw2 hmk
  have HI2 := Lib.hid (HIB.out.keeps HB12.out)
  have hbl := HIB.out.lt
  have HBL := Lib.hid hbl
  clear hbl
  go_loopw [8, 22] (fun vn vi wr => ∃ j : Nat, j ≤ M ∧ vi = .int .i64 (j : Int) ∧ vn = .int .i64 (posF f j : Int) ∧ Below w1.heap.size w1 wr ∧ IntsB wr w1.heap.size (outL ((whF f).take j) ++ List.replicate (M - j) 0)) (fun _ vi _ => M - (intOf vi).toNat)
  case atStart => exact ⟨0, by omega, rfl, rfl, HB12.out, by simpa [outL] using HO.out⟩
  case round =>
    obtain ⟨j, hj, rfl, rfl, hbj, hIj⟩ := hrel
    have HBJ := Lib.hid hbj
    have HIJ := Lib.hid hIj
    by_cases hjM : j = M
    · subst hjM
      clear hbj hIj
      go_wp2_with fail
      go_ret
      refine ⟨⟨w1.heap.size, rfl, by have := HB.out.size; omega, ?_⟩, HB.out.trans (HBJ.out.mono HB.out.size)⟩
      have := HIJ.out
      rw [Nat.sub_self, List.replicate_zero, List.append_nil, List.take_of_length_le (by rw [HWL.out]; exact Nat.le_refl _)] at this
      exact this
    · have hj1 : (j : Int) < M := by omega
      have hj2 : (0 : Int) ≤ j := by omega
      have hz1 := hIj.lt
      have hzb : b < wr.heap.size := Nat.lt_of_lt_of_le HBL.out hbj.size
      obtain ⟨o, ho⟩ : ∃ o, (sureF f)[j]? = some o := ⟨_, List.getElem?_eq_getElem (by rw [HSL.out]; omega)⟩
      have cb := (hbj.cell (p := ⟨b, j, none⟩) HBL.out).trans (HIB.out.cell (outL_get ho))
      have ft := HTK.out j (by omega)
      have hpl := posF_le f j
      have hps := posF_succ f j
      have HSET := Lib.hid (fun x => fill_set (outL ((whF f).take j)) j M x (by rw [outL_length, List.length_take, HWL.out]; omega) (by omega))
      have hff := hIj.frozen
      have hfj := hff j
      have cj := hIj.cell (fill_at (outL ((whF f).take j)) j M (by rw [outL_length, List.length_take, HWL.out]; omega) (by omega))
      clear hff
      cases ho2 : o with
      | none =>
        have hr : rchB f j = false := by unfold rchB; rw [ho, ho2]; rfl
        rw [hr] at ft hps
        simp only [Bool.false_eq_true, if_false, Nat.add_zero] at ft hps
        rw [ho2] at cb
        have hoi : oI none = -1 := rfl
        rw [hoi] at cb
        have HFT := Lib.hid ft
        have HPS := Lib.hid hps
        have HST := Lib.hid (hIj.set j (-1))
        clear ft hps hr ho ho2 hoi hIj hbj
        go_wp2_with fail
        go_roundw
        case rel => exact ⟨j + 1, by omega, by go_num, by rw [HPS.out], HBJ.out.setCell (by simp) _, by rw [HFT.out, ← HSET.out]; exact HST.out⟩
        case measure => simp [intOf]; omega
      | some m =>
        have hr : rchB f j = true := by unfold rchB; rw [ho, ho2]; rfl
        rw [hr] at ft hps
        simp only [if_true] at ft hps
        rw [ho2] at cb
        have hoi : oI (some m) = (m : Int) := rfl
        rw [hoi] at cb
        have hm0 : (0 : Int) ≤ m := by omega
        have HFT := Lib.hid ft
        have HPS := Lib.hid hps
        have HST := Lib.hid ((hIj.set j (-1)).set j (posF f j : Int))
        clear ft hps hr ho ho2 hoi hIj hbj
        go_wp2_with fail
        go_roundw
        case rel => exact ⟨j + 1, by omega, by go_num, by rw [HPS.out]; go_num, (HBJ.out.setCell (by simp) _).setCell (by simp) _, by rw [HFT.out, ← HSET.out]; have h := HST.out; rw [List.set_set] at h; exact h⟩
        case measure => simp [intOf]; omega
end Go.Proofs.YtnbopmlemddakaaDoor
