/-
  The contract of flow.loop.
-/
import Derived.Test.YtefbdecejoeamaaDoorLoP
import Derived.Test.YtefbdecejoeamaaDoorBk
import Derived.Test.YtefbdecejoeamaaDoorHas
import Derived.Test.YtefbdecejoeamaaDoorMkI
namespace Tier
open Go Go.RowKit Go.Proofs.YtefbdecejoeamaaDoor
theorem prevL_len (F : Fnc) {k : Nat} (h : k ≠ 0) : (prevN F k).length ≤ 3 + 2 * (hdL F).length := by
  have h1 := prevTo_len F (hdL F).length 0 k
  rw [prevTo_zero] at h1
  have h2 : (prevF F k).length = (prevN F k).length := by rw [prevF_pos h, natI_length]
  rw [← h2]; exact h1
end Tier
namespace Go.Proofs.YtefbdecejoeamaaDoor
open Go.RowKit Tier
def BolB (w : World) (b : Nat) (l : List Bool) : Prop := w.heap[b]? = some (.cells (l.map Value.bool).toArray 4 (0, 0))
theorem BolB.lt {w : World} {b : Nat} {l : List Bool} (h : BolB w b l) : b < w.heap.size := (Array.getElem?_eq_some_iff.1 h).1
theorem BolB.cell {w : World} {b : Nat} {l : List Bool} (h : BolB w b l) {i : Nat} (hi : i < l.length) : w.cell? ⟨b, i, none⟩ = some (.bool (bB l i)) := by
  rw [cell_block h, List.getElem?_toArray, List.getElem?_map, List.getElem?_eq_getElem hi]
  unfold bB; rw [List.getD_eq_getElem?_getD, List.getElem?_eq_getElem hi]; rfl
theorem BolB.frozen {w : World} {b : Nat} {l : List Bool} (h : BolB w b l) (i : Nat) : w.frozen? ⟨b, i, none⟩ = false := frozen_block h i
theorem BolB.keeps {w w' : World} {b : Nat} {l : List Bool} (h : BolB w b l) (hb : Below w.heap.size w w') : BolB w' b l := (hb.block _ h.lt).trans h
theorem BolB.set {w : World} {b : Nat} {l : List Bool} (h : BolB w b l) (i : Nat) (x : Bool) : BolB (w.setCell ⟨b, i, none⟩ (.bool x)) b (l.set i x) := by
  unfold BolB at *
  simp only [World.setCell, Array.getElem?_modify, if_true, h, Option.map_some]
  simp [List.map_set]
theorem infoBol : (Tryd.prog.info? 4).map (fun i => (i.zero, i.size, i.bytes)) = some (some (.bool false), 1, 1) := by kernel_rfl
theorem make_bols (N : Nat) (hN : N ≤ 40) (w : World) : (Instr.makeSlice 89 (.int .i64 (N : Int)) (.int .i64 (N : Int))).run Tryd.prog w = .ok (.slice (some ⟨w.heap.size, 0, none⟩) N N) (w.alloc (.cells (madeCells #[.bool false] N) 4)) := by
  have := run_make_row' (P := Tryd.prog) 89 4 (.bool false) 1 Tryd.underlying89 infoBol rfl .i64 .i64 N (by omega) (by omega) w
  exact this
theorem made_bo (n : Nat) : madeCells #[Value.bool false] n = ((List.replicate n false).map Value.bool).toArray := by
  apply Array.ext_getElem?
  intro i
  simp only [madeCells, List.map_replicate]
  by_cases h : i < n
  · simp [h, Nat.mod_one]
  · simp [h]
/-- Between two steps: which are in, the list that is worked off. -/
structure LoW (w wr : World) (A : Option Addr) (cap : Nat) (ins : List Bool) (todo : List Nat) : Prop where
  ins : BolB wr w.heap.size ins
  todo : wr.ownsRow (w.heap.size + 1) 3 1 (.slice A todo.length cap) todo.length ((natI todo).map (Value.int .i64))
  below : Below w.heap.size w wr
section
variable {w wr : World} {A : Option Addr} {cap : Nat} {ins : List Bool} {todo : List Nat}
theorem LoW.start (w : World) (N head back : Nat) : LoW w ((w.alloc (.cells ((madeCells #[Value.bool false] N).setIfInBounds head (.bool true)) 4)).alloc (.cells #[.int .i64 (back : Int)] 3)) (some ⟨w.heap.size + 1, 0, none⟩) 1 ((List.replicate N false).set head true) [back] := by
  refine ⟨?_, ?_, ?_⟩
  · unfold BolB
    rw [Below.heap_alloc _ _ _ (by simp), heap_alloc_new, made_bo]
    simp [List.map_set]
    rw [← List.toArray_replicate, List.setIfInBounds_toArray]
  · refine ⟨by simp [natI], .inr ⟨w.heap.size + 1, 1, #[.int .i64 (back : Int)], rfl, by omega, ?_, by simp, by unfold maxLen; omega, by simp, by simp [natI]⟩⟩
    have := heap_alloc_new (w.alloc (.cells ((madeCells #[Value.bool false] N).setIfInBounds head (.bool true)) 4)) (.cells #[.int .i64 (back : Int)] 3)
    simpa using this
  · repeat (first | exact hb | exact Below.refl _ _ | apply Below.drew | apply below_drewN | refine Below.alloc ?_ (by first | omega | (simp; done) | (simp; omega)) _ | refine Below.setCell ?_ (by first | omega | (simp; done) | (simp; omega)) _)
theorem LoW.pop {i : Nat} (h : LoW w wr A cap ins (todo ++ [i])) : LoW w wr A cap ins todo := by
  refine ⟨h.ins, ?_, h.below⟩
  have := h.todo
  rw [show (todo ++ [i]).length = todo.length + 1 by simp] at this
  have := own_pop this
  have e : ((natI (todo ++ [i])).map (Value.int .i64)).take todo.length = (natI todo).map (Value.int .i64) := by
    have e2 : todo.length = ((natI todo).map (Value.int .i64)).length := by simp [natI]
    rw [e2]; simp [natI]
  rw [e] at this; exact this
theorem LoW.room (h : LoW w wr A cap ins todo) (hne : todo ≠ []) : todo.length ≤ cap := by
  rcases h.todo.2 with ⟨h2, -⟩ | ⟨g, cap', cur, hv, hg, hh, hn, hc, hs, ht⟩
  · simp only [Value.slice.injEq] at h2; exact absurd (List.eq_nil_of_length_eq_zero h2.2.1) hne
  · simp only [Value.slice.injEq] at hv
    obtain ⟨-, -, rfl⟩ := hv
    exact hn
theorem LoW.at {i : Nat} (h : LoW w wr A cap ins (todo ++ [i])) : ∃ ga, A = some ⟨ga, 0, none⟩ ∧ ga < wr.heap.size ∧ wr.cell? ⟨ga, todo.length, none⟩ = some (.int .i64 i) := by
  obtain ⟨A0, cap0, hA0, hA⟩ := own_slice h.todo
  simp only [Value.slice.injEq, true_and] at hA0
  obtain ⟨ga, h1, h2, h3⟩ := hA (by simp)
  refine ⟨ga, by rw [hA0.1, h1], h2, ?_⟩
  rw [h3 todo.length (by simp)]
  simp [natI]
theorem LoW.keeps {w' : World} (h : LoW w wr A cap ins todo) (hb : Below wr.heap.size wr w') : LoW w w' A cap ins todo :=
  ⟨h.ins.keeps hb, own_below h.todo hb, h.below.trans (hb.mono h.below.size)⟩
theorem LoW.visit (h : LoW w wr A cap ins todo) (i : Nat) : LoW w (wr.setCell ⟨w.heap.size, i, none⟩ (.bool true)) A cap (ins.set i true) todo :=
  ⟨h.ins.set i true, own_setCell h.todo (by simp) _, h.below.setCell (Nat.le_refl _) _⟩
theorem LoW.push (h : LoW w wr A cap ins todo) (n : Nat) {w1 : World} {A' : Option Addr} {cap' : Nat}
    (hg : (wr.alloc (.cells #[.int .i64 (n : Int)] 3)).grownBy w1 (Value.slice A todo.length cap).ownBlock)
    (ho : w1.ownsRow (w.heap.size + 1) 3 1 (.slice A' (todo.length + 1) cap') (todo.length + 1) ((natI todo).map (Value.int .i64) ++ [.int .i64 (n : Int)])) :
    LoW w w1 A' cap' ins (todo ++ [n]) := by
  have hs := h.ins.lt
  have hrow : ∀ k, (Value.slice A todo.length cap).ownBlock = some k → w.heap.size + 1 ≤ k := fun k hk => (World.ownsRow.lt h.todo k hk).1
  have hlen : (todo ++ [n]).length = todo.length + 1 := by simp
  refine ⟨?_, ?_, ?_⟩
  · unfold BolB
    rw [hg.block _ (by simp; omega) (fun e => by have := hrow _ e.symm; omega), Below.heap_alloc _ _ _ hs]
    exact h.ins
  · rw [hlen]; simpa [natI] using ho
  · exact (h.below.alloc h.below.size _).grown hg (by simp; omega) (fun k hk => by have := hrow k hk; omega)
end
theorem row_app {w wr w1 : World} {ins : List Bool} {A : Option Addr} {cap T : Nat} {xs : List Value} {o : Obj} (h : BolB wr w.heap.size ins) (hb : Below w.heap.size w wr) (ho : wr.ownsRow (w.heap.size + 1) 3 1 (.slice A T cap) T xs) (hg : (wr.alloc o).grownBy w1 (Value.slice A T cap).ownBlock) : BolB w1 w.heap.size ins ∧ Below w.heap.size w w1 := by
  have hrow : ∀ k, (Value.slice A T cap).ownBlock = some k → w.heap.size + 1 ≤ k := fun k hk => (World.ownsRow.lt ho k hk).1
  have hs := h.lt
  refine ⟨?_, (hb.alloc hb.size _).grown hg (by simp; omega) (fun k hk => by have := hrow k hk; omega)⟩
  unfold BolB
  rw [hg.block _ (by simp; omega) (fun e => by have := hrow _ e.symm; omega), Below.heap_alloc _ _ _ hs]
  exact h
set_option maxRecDepth 100000 in
set_option maxHeartbeats 8000000 in
theorem loop_any (p : List Fnc) (F : Fnc) (gb Bb : Nat) (bs : List BR) (head back : Nat) (w : World) (hp : Right p) (hF : F ∈ p) (hBB : BlkB w gb Bb bs) (hOB : BlkOk F bs) (hh : head < (hdL F).length) (hb : back < (hdL F).length) (hd : ¬ Av (Edg F) head back) :
    Calls Tryd.prog 73 #[.slice (some ⟨gb, 0, none⟩) (hdL F).length (hdL F).length, .int .i64 (head : Int), .int .i64 (back : Int)] w fun e w' =>
      (∃ v row, e = .returned v ∧ OwnI w' w.heap.size v (natI row) ∧ LoopR F head back row) ∧ Below w.heap.size w w' := by
  obtain ⟨H, hH⟩ : ∃ H, (hdL F).length = H := ⟨_, rfl⟩
  have HH := Lib.hid hH
  have hHM : H ≤ 40 := by have h0 := (hp.ok.fn F hF).c2; have h1 := hdTo_len F F.code.length; have h2 : hdTo F F.code.length = hdL F := rfl; rw [h2, hH] at h1; omega
  rw [hH] at hh hb ⊢
  have HST := Lib.hid (LI.start hH hh hb)
  have HMU := Lib.hid (mu_start' (head := head) (back := back) hHM)
  have HBB := Lib.hid hBB
  have HOB := Lib.hid hOB
  have HGB := Lib.hid (block_lt hBB.blk)
  have HDM := Lib.hid hd
  have hmk := make_bols H hHM
  obtain ⟨i0, hi, hz0, hz1, hz2⟩ := info_parts infoInt
  have hmz : (madeCells #[Value.bool false] H)[head]? = some (.bool false) := by
    rw [made_bo]; simp [hh]
  have hh1 : (head : Int) < H := by omega
  have hh2 : (0 : Int) ≤ head := by omega
  have HHD := Lib.hid hh
  clear hp hF hBB hOB hd hH hb
  go_enter Tryd.func73, Tryd.ntmps73
  go_wp2_with fail
  have HW0 := Lib.hid (LoW.start w H head back)
  clear hmk hmz
  go_loopg [8] (muQ H ((List.replicate H false).set head true) [back]) (fun q v wr => ∃ (A1 : Option Addr) (cap1 : Nat) (ins : List Bool) (todo : List Nat), LI F head back ins todo ∧ muQ H ins todo ≤ 4000 ∧ q = muQ H ins todo ∧ v = .slice A1 todo.length cap1 ∧ LoW w wr A1 cap1 ins todo)
  case atStart => exact ⟨_, 1, _, _, HST.out, HMU.out, rfl, rfl, HW0.out⟩
  case round =>
    obtain ⟨A1, cap1, ins, todo, hI, hmu, rfl, rfl, hW⟩ := hrel
    clear HW0 HST HMU
    have HW := Lib.hid hW
    have HI := Lib.hid hI
    have z1 := hW.ins.lt
    rcases List.eq_nil_or_concat todo with he | ⟨l, i, he⟩
    · subst he
      have HIL := Lib.hid (show ins.length = H by rw [hI.len, HH.out])
      rw [show ([] : List Nat).length = 0 from rfl]
      clear hI hW hmu
      go_wp2_with fail
      obtain ⟨w5, hw5⟩ : ∃ w5 : World, w5 = wr := ⟨_, rfl⟩
      subst hw5
      have HR0 := Lib.hid (show OwnI (w5.alloc (.cells #[.int .i64 (head : Int)] 3)) (w.heap.size + 1) (.slice (some ⟨w5.heap.size, 0, none⟩) 1 1) (natI [head]) from ⟨by simp [natI], .inr ⟨w5.heap.size, 1, _, rfl, by omega, heap_alloc_new _ _, by simp [natI], by unfold maxLen; omega, by simp, by simp [natI]⟩⟩)
      have HB0 := Lib.hid ((Below.refl w5.heap.size w5).alloc (Nat.le_refl _) (.cells #[.int .i64 (head : Int)] 3))
      clear z1
      go_loopw [12, 65] (fun vl vi wi => ∃ (t : Nat) (A4 : Option Addr) (cap4 : Nat), t ≤ H ∧ vi = .int .i64 (t : Int) ∧ vl = .slice A4 (head :: restL ins head t).length cap4 ∧ OwnI wi (w.heap.size + 1) (.slice A4 (head :: restL ins head t).length cap4) (natI (head :: restL ins head t)) ∧ BolB wi w.heap.size ins ∧ Below w.heap.size w wi) (fun _ vi _ => H - (intOf vi).toNat)
      case atStart => exact ⟨0, _, 1, by omega, rfl, rfl, HR0.out, HW.out.ins.keeps HB0.out, HW.out.below.trans (HB0.out.mono HW.out.below.size)⟩
      case round =>
        obtain ⟨t, A4, cap4, ht, rfl, rfl, hO, hB, hbw⟩ := hrel
        clear HR0 HB0
        have HO := Lib.hid hO
        have HB := Lib.hid hB
        have HBW := Lib.hid hbw
        by_cases htH : t = H
        · obtain rfl : H = t := htH.symm
          clear hO hB hbw
          go_wp2_with fail
          go_ret
          exact ⟨⟨_, rfl, _, own_base0 HO.out (Nat.le_succ _), HI.out.done HH.out⟩, HBW.out⟩
        · have t1 : (t : Int) < H := by omega
          have t2 : (0 : Int) ≤ t := by omega
          have ct := hB.cell (i := t) (by rw [HIL.out]; omega)
          have zt := hB.lt
          have hrl := restL_succ ins head t
          have HLEN := Lib.hid (show (restL ins head t).length ≤ t from by unfold restL; exact Nat.le_trans (List.length_filter_le _ _) (by simp))
          by_cases hin : (bB ins t && (t != head)) = true
          · rw [if_pos hin] at hrl
            rw [Bool.and_eq_true] at hin
            obtain ⟨hin1, hin2⟩ := hin
            rw [hin1] at ct
            have hne : ((t : Int) != (head : Int)) = true := bne_iff_ne.2 (fun e => absurd (show t = head by omega) (by simpa using hin2))
            obtain ⟨T, hT⟩ : ∃ T, (head :: restL ins head t).length = T := ⟨_, rfl⟩
            have hTB : T ≤ 5000 := by rw [← hT]; have := HLEN.out; simp; omega
            have HT := Lib.hid hT
            have HRL := Lib.hid (show head :: restL ins head (t + 1) = (head :: restL ins head t) ++ [t] by rw [hrl]; rfl)
            have HTD := Lib.hid (show wr.ownsRow (w.heap.size + 1) 3 1 (.slice A4 T cap4) T ((natI (head :: restL ins head t)).map (Value.int .i64)) from by have h := hO; unfold OwnI at h; rw [natI_length, hT] at h; exact h)
            rw [hT]
            clear hT hO hB hbw hin1 hin2 hrl htH
            go_wp2_with (at_builtin; go_must (refine wpList_append_own _ rfl _ _ 40 rfl (w.heap.size + 1) 3 i0 _ 1 8 Tryd.underlying40 hi hz0 hz1 hz2 rfl (by decide) (.slice A4 T cap4) T ((natI (head :: restL ins head t)).map (Value.int .i64)) rfl (own_below HTD.out ((Below.refl _ _).alloc (Nat.le_refl _) _)) ⟨wr.heap.size, 0, none⟩ 1 1 [.int .i64 (t : Int)] rfl rfl (World.news_of_block (cs := #[.int .i64 (t : Int)]) (t := 3) (fr := (0, 0)) (by simpa using heap_alloc_new wr (.cells #[.int .i64 (t : Int)] 3))) (by simp [Value.oneCell']) (by unfold maxLen; omega) (by omega) (by have := HBW.out.size; have := HB.out.lt; simp; omega) ?_); intro v9 w9 hown9 hg9 _; obtain ⟨A9, cap9, hv9, -⟩ := own_slice hown9; rw [hv9] at hown9; rw [hv9]; have HR9 := Lib.hid (row_app HB.out HBW.out HTD.out hg9); have HO9 := Lib.hid hown9; clear hown9 hg9)
            go_roundw
            case rel => exact ⟨t + 1, A9, cap9, by omega, by go_num, by rw [HRL.out, List.length_append, HT.out]; rfl, by rw [HRL.out]; unfold OwnI; rw [natI_length, List.length_append, HT.out]; have h := HO9.out; simpa [natI] using h, HR9.out.1, HR9.out.2⟩
            case measure => simp [intOf]; omega
          · rw [if_neg hin, List.append_nil] at hrl
            have HRL := Lib.hid hrl
            cases hb1 : bB ins t with
            | false =>
              rw [hb1] at ct
              clear hO hB hbw hin hb1 hrl htH
              go_wp2_with fail
              go_roundw
              case rel => exact ⟨t + 1, A4, cap4, by omega, by go_num, by rw [HRL.out], by rw [HRL.out]; exact HO.out, HB.out, HBW.out⟩
              case measure => simp [intOf]; omega
            | true =>
              rw [hb1] at ct hin
              have hth : t = head := by simpa using hin
              have hne : ((t : Int) != (head : Int)) = false := by rw [hth]; simp
              clear hO hB hbw hin hb1 hrl htH hth
              go_wp2_with fail
              go_roundw
              case rel => exact ⟨t + 1, A4, cap4, by omega, by go_num, by rw [HRL.out], by rw [HRL.out]; exact HO.out, HB.out, HBW.out⟩
              case measure => simp [intOf]; omega
    · rw [List.concat_eq_append] at he
      subst he
      have hlen : (l ++ [i]).length = l.length + 1 := by simp
      obtain ⟨m, hm⟩ : ∃ m, l.length = m := ⟨_, rfl⟩
      have HM := Lib.hid hm
      obtain ⟨ga, hga, hgl, cp⟩ := hW.at
      obtain ⟨hiH, hiR⟩ := hI.td i (by simp)
      rw [HH.out] at hiH
      rw [hm] at cp hlen
      have hcap := hW.room (by simp)
      have htl := todo_le (n := H) (ins := ins) (todo := l ++ [i])
      rw [hlen] at hcap htl ⊢
      have hml : m ≤ 4000 := by omega
      have hcap2 : m ≤ cap1 := by omega
      have HWP := Lib.hid hW.pop
      have i1 : (i : Int) < H := by omega
      have i2 : (0 : Int) ≤ i := by omega
      have ci := hW.ins.cell (i := i) (by rw [hI.len, HH.out]; exact hiH)
      have fi := hW.ins.frozen i
      have HMU := Lib.hid hmu
      subst hga
      cases hbi : bB ins i with
      | true =>
        rw [hbi] at ci
        have HBI := Lib.hid hbi
        clear hI hW hlen hm hmu htl hbi hiR hiH
        go_wp2_with fail
        rw [← HM.out]
        go_roundg (muQ H ins l)
        case rel => exact ⟨_, cap1, ins, l, HI.out.pop HBI.out, by have h1 := mu_skip (n := H) (ins := ins) (todo := l) (i := i); have h2 := HMU.out; omega, rfl, rfl, HWP.out⟩
        case measure => exact mu_skip
      | false =>
        rw [hbi] at ci
        obtain ⟨hV1, -, hne⟩ := hI.visit hbi
        have hi0 : i ≠ 0 := fun e => by
          have hdd := hiR.dom HDM.out
          rw [e] at hdd
          exact hne (by rw [e, dom_zero hdd])
        have hplen := prevL_len F hi0
        rw [HH.out] at hplen
        have HMV := Lib.hid (mu_visit (todo := l) (n := H) (by rw [hI.len, HH.out]; exact hiH) hbi hplen)
        have HV1 := Lib.hid hV1
        have HWV := Lib.hid (hW.pop.visit i)
        obtain ⟨r, hr⟩ : ∃ r, bs[i]? = some r := ⟨_, List.getElem?_eq_getElem (by rw [HOB.out.len, HH.out]; exact hiH)⟩
        obtain ⟨Ap, pp, hvp, hRp⟩ := rowI_own (HBB.out.rows.own i r true hr)
        have hpl := (HOB.out.at_ i r hr).2.2.2
        rw [prevF_pos hi0] at hpl
        have hlp : (r.lst true).length = (prevN F i).length := by show r.pl.length = _; rw [hpl, natI_length]
        rw [hlp] at hvp
        have HRP := Lib.hid (show RowI w Ap (natI (prevN F i)) by rw [← hpl]; exact hRp)
        have HCP := Lib.hid (show w.cell? ⟨gb, i * 4 + 3, none⟩ = some (.slice Ap (prevN F i).length pp) from (HBB.out.cell hr (j := 3) (by omega)).trans (show some (r.val true) = _ by rw [hvp]))
        obtain ⟨PL, hPL⟩ : ∃ l, prevN F i = l := ⟨_, rfl⟩
        rw [hPL] at HRP hplen HCP HMV HV1
        obtain ⟨lp, hlpe⟩ : ∃ n, PL.length = n := ⟨_, rfl⟩
        have HLP := Lib.hid hlpe
        rw [hlpe] at HCP hplen
        obtain ⟨wv, hwv⟩ : ∃ W, wr.setCell ⟨w.heap.size, i, none⟩ (.bool true) = W := ⟨_, rfl⟩
        rw [hwv] at HWV
        have zgb : gb < wv.heap.size := Nat.lt_of_lt_of_le HGB.out HWV.out.below.size
        have cpv := (HWV.out.below.cell (p := ⟨gb, _, none⟩) HGB.out).trans HCP.out
        clear hI hW hlen hm hmu htl hbi hiR hiH hV1 hne hr hvp hRp hpl hlp hPL hlpe
        go_wp2_with fail
        clear cpv zgb
        go_loopw [8, 50] (fun v8 vi wi => ∃ (t : Nat) (A4 : Option Addr) (cap4 : Nat), t ≤ lp ∧ vi = .int .i64 (t : Int) ∧ v8 = .slice A4 (l ++ PL.take t).length cap4 ∧ LoW w wi A4 cap4 (ins.set i true) (l ++ PL.take t)) (fun _ vi _ => lp - (intOf vi).toNat)
        case atStart => exact ⟨0, some ⟨ga, 0, none⟩, cap1, by omega, rfl, by simp [HM.out], by simpa using HWV.out⟩
        case round =>
          obtain ⟨t, A4, cap4, ht, rfl, rfl, hW4⟩ := hrel
          have HW4 := Lib.hid hW4
          by_cases htl : t = lp
          · obtain rfl : lp = t := htl.symm
            have htk : PL.take lp = PL := List.take_of_length_le (by rw [HLP.out]; exact Nat.le_refl _)
            rw [htk] at HW4
            have HTK := Lib.hid htk
            clear hW4
            go_wp2_with fail
            go_roundg (muQ H (ins.set i true) (l ++ PL))
            case rel => exact ⟨A4, cap4, ins.set i true, l ++ PL, HV1.out, by have h1 := HMV.out; have h2 := HMU.out; omega, rfl, by simp [], HW4.out⟩
            case measure => exact HMV.out
          · have t1 : (t : Int) < lp := by omega
            have t2 : (0 : Int) ≤ t := by omega
            obtain ⟨q, hq⟩ : ∃ q, PL[t]? = some q := ⟨_, List.getElem?_eq_getElem (by rw [HLP.out]; omega)⟩
            obtain ⟨gv, hgv, hgl4, hcc⟩ := HRP.out (by rw [natI_length, HLP.out]; omega)
            have y0 : wr.cell? ⟨gv, t, none⟩ = some (.int .i64 (q : Int)) := (hW4.below.cell (p := ⟨gv, _, none⟩) hgl4).trans (hcc t (q : Int) (by unfold natI; rw [List.getElem?_map, hq]; rfl))
            have zgv : gv < wr.heap.size := Nat.lt_of_lt_of_le hgl4 hW4.below.size
            have q0 : (0 : Int) ≤ q := by omega
            have hlen4 : (l ++ PL.take t).length = m + t := by rw [List.length_append, HM.out, List.length_take, HLP.out]; omega
            have hTB : m + t ≤ 5000 := by omega
            have HTD := Lib.hid (show wr.ownsRow (w.heap.size + 1) 3 1 (.slice A4 (m + t) cap4) (m + t) ((natI (l ++ PL.take t)).map (Value.int .i64)) from by have h := hW4.todo; rw [hlen4] at h; exact h)
            have HTS := Lib.hid (show l ++ PL.take (t + 1) = (l ++ PL.take t) ++ [q] by rw [List.take_add_one, hq, List.append_assoc]; rfl)
            have HL4 := Lib.hid hlen4
            obtain ⟨T, hT⟩ : ∃ T, m + t = T := ⟨_, rfl⟩
            rw [hlen4, hT]
            rw [hT] at hTB HTD HL4
            subst hgv
            clear hW4 hq hcc hgl4 hlen4 htl hT
            go_wp2_with (at_builtin; go_must (refine wpList_append_own _ rfl _ _ 40 rfl (w.heap.size + 1) 3 i0 _ 1 8 Tryd.underlying40 hi hz0 hz1 hz2 rfl (by decide) (.slice A4 T cap4) T ((natI (l ++ PL.take t)).map (Value.int .i64)) rfl (own_below HTD.out ((Below.refl _ _).alloc (Nat.le_refl _) _)) ⟨wr.heap.size, 0, none⟩ 1 1 [.int .i64 (q : Int)] rfl rfl (World.news_of_block (cs := #[.int .i64 (q : Int)]) (t := 3) (fr := (0, 0)) (by simpa using heap_alloc_new wr (.cells #[.int .i64 (q : Int)] 3))) (by simp [Value.oneCell']) (by unfold maxLen; omega) (by omega) (by have := HW4.out.below.size; simp; omega) ?_); intro v9 w9 hown9 hg9 _; obtain ⟨A9, cap9, hv9, -⟩ := own_slice hown9; rw [hv9] at hown9; rw [hv9]; have HS9 := Lib.hid (HW4.out.push q (by rw [HL4.out]; exact hg9) (by rw [HL4.out]; exact hown9)); clear hown9 hg9)
            go_roundw
            case rel => exact ⟨t + 1, A9, cap9, by omega, by go_num, by rw [HTS.out, List.length_append, HL4.out]; rfl, by rw [HTS.out]; exact HS9.out⟩
            case measure => simp [intOf]; omega
end Go.Proofs.YtefbdecejoeamaaDoor
