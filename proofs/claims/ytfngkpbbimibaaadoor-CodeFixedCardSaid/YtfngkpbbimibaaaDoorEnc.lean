/-
  The contract of code.Encode at a program in shape: its bytes.
-/
import Derived.Test.YtfngkpbbimibaaaDoorCk
import Derived.Test.YtfngkpbbimibaaaDoorOk
import Derived.Test.YtfngkpbbimibaaaDoorSh
import Derived.Deep.AppendLies
namespace Go.Proofs.YtfngkpbbimibaaaDoor
open Go.RowKit Tier
def immB (m : Int) (t : Nat) : Int := (m / 2 ^ (56 - 8 * t)) % 256
def encIns (x : Ins) : List Int := [x.op, x.dst, x.a, x.b] ++ (List.range 8).map (immB x.imm)
def encFn (f : Fnc) : List Int := [f.params, f.regs, (f.code.length : Int)] ++ f.code.flatMap encIns
def encP (p : List Fnc) : List Int := [(p.length : Int)] ++ p.flatMap encFn
def OwnB (w : World) (B : Nat) (v : Value) (l : List Int) : Prop := w.ownsRow B 5 1 v l.length (l.map (Value.int .u8))
theorem infoB : (Tryd.prog.info? 5).map (fun i => (i.zero, i.size, i.bytes)) = some (some (.int .u8 0), 1, 1) := by kernel_rfl
theorem box_apart {w : World} {B : Nat} {e : TypeId} {s : Nat} {v : Value} {n : Nat} {xs : List Value} (h : w.ownsRow B e s v n xs) {b : Nat} {c : Array Value} {t : TypeId} {fr : Nat × Nat} (hb : w.heap[b]? = some (.cells c t fr)) (hne : t ≠ e) : some b ≠ v.ownBlock := by
  rcases h.2 with ⟨rfl, -⟩ | ⟨g, cap, cur, rfl, -, hg, -⟩
  · simp [Value.ownBlock]
  · intro h
    simp [Value.ownBlock] at h
    subst h
    rw [hb] at hg
    simp at hg
    exact hne hg.2.1
/-- Behind an append of bytes: the row, what lay before, boxes of other types. -/
theorem OwnB.after {w wr w1 : World} {v v' : Value} {l news : List Int} {o : Obj} (hb : Below w.heap.size w wr) (h : OwnB wr w.heap.size v l) (hg : (wr.alloc o).grownBy w1 v.ownBlock)
    (ho : w1.ownsRow w.heap.size 5 1 v' (l.length + news.length) (l.map (Value.int .u8) ++ news.map (Value.int .u8))) :
    OwnB w1 w.heap.size v' (l ++ news) ∧ Below w.heap.size w w1 ∧ (∀ (b : Nat) (c : Array Value) (t : TypeId), t ≠ 5 → wr.heap[b]? = some (Obj.cells c t (0, 0)) → w1.heap[b]? = some (Obj.cells c t (0, 0))) ∧ wr.heap.size < w1.heap.size := by
  have hz := hg.size
  refine ⟨by unfold OwnB; rw [List.length_append, List.map_append]; exact ho, ?_, fun b c t ht hb' => ?_, by simp at hz; omega⟩
  · exact (hb.alloc hb.size _).grown hg (by simp; have := hb.size; omega) (fun k hk => (World.ownsRow.lt h k hk).1)
  · have hlt : b < wr.heap.size := (Array.getElem?_eq_some_iff.1 hb').1
    rw [hg.block b (by simp; omega) (box_apart h hb' ht), Below.heap_alloc _ _ _ hlt]
    exact hb'
theorem OwnB.keeps {w w' : World} {B : Nat} {v : Value} {l : List Int} (h : OwnB w B v l) (hb : Below w.heap.size w w') : OwnB w' B v l := own_below h hb
theorem take_flat {α : Type} (f : α → List Int) (l : List α) (k : Nat) (x : α) (h : l[k]? = some x) : (l.take (k + 1)).flatMap f = (l.take k).flatMap f ++ f x := by
  rw [List.take_add_one, h]; simp
set_option maxRecDepth 100000 in
set_option maxHeartbeats 8000000 in
theorem encode_any (p : List Fnc) (A : Option Addr) (cap : Nat) (w : World) (ht : Tab w) (hp : ProgAt w (.slice A p.length cap) p) (hok : progE p = 0) :
    Calls Tryd.prog 9 #[.agg #[.slice A p.length cap]] w fun e w' => (∃ v, e = .returned (.tuple #[v, .int .i64 0]) ∧ OwnB w' w.heap.size v (encP p)) ∧ Below w.heap.size w w' := by
  obtain ⟨i0, hi, hz0, hz1, hz2⟩ := info_parts infoB
  have HP := Lib.hid hp
  have HT := Lib.hid ht
  have HOK := Lib.hid hok
  have HPO := Lib.hid (prog_ok hok)
  have hl1 : 1 ≤ p.length := HPO.out.l1
  have hl : p.length ≤ 4 := HPO.out.l2
  have hl2 : (p.length : Int) ≤ 4 := by omega
  obtain ⟨A0, cap0, hA0, hA⟩ := hp.slice
  simp only [Value.slice.injEq, true_and] at hA0
  obtain ⟨g, hAg, hg, hfn⟩ := hA (by omega)
  obtain ⟨rfl, rfl⟩ := hA0
  have HF := Lib.hid hfn
  clear hfn ht hok hp hA
  subst hAg
  generalize hN : p.length = N at *
  have HN := Lib.hid hN
  clear hN
  go_enter Tryd.func9, Tryd.ntmps9
  go_wp2_with fail
  refine (check_any p _ _ (HT.out.alloc _) (HP.out.keeps ((Below.refl _ _).alloc (Nat.le_refl _) _)) (by rw [HN.out]; omega) (fun f hf => by have := (HPO.out.fn f hf).c2; omega)).mono ?_
  rintro e w1 ⟨rfl, hb1⟩
  rw [HOK.out]
  have hq := (hb1.block w.heap.size (by simp)).trans (heap_alloc_new w _)
  have q1 := cell_block hq
  have z1 : w.heap.size < w1.heap.size := Nat.lt_of_lt_of_le (by simp) hb1.size
  have HB1 := Lib.hid (show Below w.heap.size w w1 from ((Below.refl _ _).alloc (Nat.le_refl _) _).trans (hb1.mono (by simp)))
  clear hb1 hq
  go_wp2_with fail
  go_loopw [5, 24] (fun o i wr => ∃ (k : Nat) (l : List Int), k ≤ N ∧ i = .int .i64 k ∧ l = [(N : Int)] ++ (p.take k).flatMap encFn ∧ l.length ≤ 1 + 483 * k ∧ OwnB wr w.heap.size o l ∧ Below w.heap.size w wr) (fun _ i _ => N - (intOf i).toNat)
  case atStart => exact ⟨0, [(N : Int)], by omega, rfl, rfl, by simp, ⟨by simp, .inr ⟨w1.heap.size, 1, _, rfl, by omega, heap_alloc_new _ _, by simp, by decide, by simp, by simp⟩⟩, HB1.out.alloc HB1.out.size _⟩
  case round =>
    obtain ⟨k, l, hk, rfl, hl, hll, ho, hb⟩ := hrel
    have HL := Lib.hid hl
    have HO := Lib.hid ho
    have HB := Lib.hid hb
    clear hl ho hb q1 z1
    by_cases hkN : k = N
    · subst hkN
      go_wp2_with fail
      go_ret2
      refine ⟨⟨_, rfl, ?_⟩, HB.out⟩
      have : l = encP p := by rw [HL.out, List.take_of_length_le (by rw [HN.out]; exact Nat.le_refl _), encP, HN.out]
      rw [← this]
      exact HO.out
    · have hkN' : (k : Int) < N := by omega
      have HFO := Lib.hid (show ∃ f, p[k]? = some f from ⟨p[k]'(by have := HN.out; omega), List.getElem?_eq_getElem _⟩)
      obtain ⟨f, hf⟩ := HFO.out
      have hfo := HPO.out.fn f (List.mem_of_getElem? hf)
      obtain ⟨u, hu, c0, c1, c2⟩ := HF.out k f hf
      rw [← HB.out.cell (p := ⟨g, _, none⟩) hg] at c0 c1 c2
      obtain ⟨CA, ccap, rfl, hCA⟩ := hu.slice
      have hgz : g < wr.heap.size := Nat.lt_of_lt_of_le hg HB.out.size
      have b1 := hfo.r1
      have b2 := hfo.r2
      have b3 := hfo.p1
      have b4 := hfo.p2
      have b5 := hfo.c1
      have b6 := hfo.c2
      have b7 : (f.code.length : Int) ≤ 40 := by omega
      have HIN := Lib.hid hfo.ins
      have HFk := Lib.hid hf
      clear hfo hu hkN hf HFO
      obtain ⟨fp, fr, fc⟩ := f
      dsimp only at *
      obtain ⟨gc, rfl, hgc, hins⟩ := hCA (by omega)
      have HI := Lib.hid hins
      clear hins hCA
      generalize hM : fc.length = M at *
      have HM := Lib.hid hM
      clear hM
      have hzw := HB.out.size
      have HB2 := Lib.hid (HB.out.alloc HB.out.size (Obj.cells #[.int .i64 fp, .int .i64 fr, .slice (some ⟨gc, 0, none⟩) M ccap] 45))
      have HO2 := Lib.hid (HO.out.keeps ((Below.refl _ _).alloc (Nat.le_refl _) (Obj.cells #[.int .i64 fp, .int .i64 fr, .slice (some ⟨gc, 0, none⟩) M ccap] 45)))
      have HX2 := Lib.hid (heap_alloc_new wr (Obj.cells #[.int .i64 fp, .int .i64 fr, .slice (some ⟨gc, 0, none⟩) M ccap] 45))
      go_wp2_with (at_builtin; go_must (refine wpList_append_own _ rfl _ _ 27 rfl w.heap.size 5 i0 _ 1 1 Tryd.underlying27 hi hz0 hz1 hz2 rfl (by decide) u5 (List.length l) (List.map (Value.int .u8) l) rfl (by exact own_below HO2.out ((Below.refl _ _).alloc (Nat.le_refl _) _)) ⟨wr.heap.size + 1, 0, none⟩ 3 3 [.int .u8 (fp), .int .u8 (fr), .int .u8 ((M : Int))] rfl rfl (World.news_of_block (cs := #[.int .u8 (fp), .int .u8 (fr), .int .u8 ((M : Int))]) (t := 5) (fr := (0, 0)) (heap_alloc_new2 _ _ _)) (by simp [Value.oneCell']) (by unfold maxLen; omega) (by omega) (by simp; omega) ?_); intro v2 w2 hown2 hg2 _; have HA2 := Lib.hid (OwnB.after (news := [fp, fr, (M : Int)]) HB2.out HO2.out hg2 hown2); clear hown2 hg2; have HX3 := Lib.hid (HA2.out.2.2.1 _ _ _ (by decide) HX2.out); have d2 := cell_block HX3.out; have y2 : wr.heap.size < w2.heap.size := (Array.getElem?_eq_some_iff.1 HX3.out).1)
      clear d2 y2 c0 c1 c2
      go_loopw [5, 44] (fun o i wi => ∃ (m : Nat) (l2 : List Int), m ≤ M ∧ i = .int .i64 m ∧ l2 = l ++ [fp, fr, (M : Int)] ++ (fc.take m).flatMap encIns ∧ l2.length ≤ 1 + 483 * k + 3 + 12 * m ∧ OwnB wi w.heap.size o l2 ∧ Below w.heap.size w wi) (fun _ i _ => M - (intOf i).toNat)
      case atStart => exact ⟨0, _, by omega, rfl, by simp, by simp; omega, HA2.out.1, HA2.out.2.1⟩
      case round =>
        obtain ⟨m, l2, hm, rfl, hl2, hll2, ho, hb⟩ := hrel
        have HL2 := Lib.hid hl2
        have HO3 := Lib.hid ho
        have HB3 := Lib.hid hb
        clear hl2 ho hb
        obtain ⟨wi, hwi⟩ : ∃ wi : World, wi = wr := ⟨_, rfl⟩
        subst hwi
        by_cases hmM : m = M
        · have hmM1 := hmM.symm
          subst hmM1
          have HTT := Lib.hid (show fc.take M = fc from List.take_of_length_le (by rw [HM.out]; exact Nat.le_refl _))
          go_wp2_with fail
          go_roundw
          case rel => exact ⟨k + 1, l2, by omega, by go_num, by rw [take_flat _ _ _ _ HFk.out, HL2.out, HL.out, HTT.out]; simp [encFn, HM.out], by omega, HO3.out, HB3.out⟩
          case measure => simp [intOf]; omega
        · have hmM' : (m : Int) < M := by omega
          have HXO := Lib.hid (show ∃ x, fc[m]? = some x from ⟨fc[m]'(by have := HM.out; omega), List.getElem?_eq_getElem _⟩)
          obtain ⟨x, hx⟩ := HXO.out
          have hxo := HIN.out x (List.mem_of_getElem? hx)
          obtain ⟨e0, e1, e2, e3, e4⟩ := HI.out m x hx
          rw [← HB3.out.cell (p := ⟨gc, _, none⟩) hgc] at e0 e1 e2 e3 e4
          have hgz2 : gc < wi.heap.size := Nat.lt_of_lt_of_le hgc HB3.out.size
          have g1 := hxo.op1
          have g2 := hxo.op2
          have g3 := hxo.dst1
          have g4 := hxo.dst2
          have g5 := hxo.a1
          have g6 := hxo.a2
          have g7 := hxo.b1
          have g8 := hxo.b2
          have HXk := Lib.hid hx
          clear hxo hmM hx HXO
          obtain ⟨xo, xd, xa, xb, mx⟩ := x
          dsimp only at *
          have hzw2 := HB3.out.size
          have HB4 := Lib.hid (HB3.out.alloc HB3.out.size (Obj.cells #[.int .i64 xo, .int .i64 xd, .int .i64 xa, .int .i64 xb, .int .i64 mx] 76))
          have HO4 := Lib.hid (HO3.out.keeps ((Below.refl _ _).alloc (Nat.le_refl _) (Obj.cells #[.int .i64 xo, .int .i64 xd, .int .i64 xa, .int .i64 xb, .int .i64 mx] 76)))
          have HX4 := Lib.hid (heap_alloc_new wi (Obj.cells #[.int .i64 xo, .int .i64 xd, .int .i64 xa, .int .i64 xb, .int .i64 mx] 76))
          go_wp2_with (at_builtin; go_must (refine wpList_append_own _ rfl _ _ 27 rfl w.heap.size 5 i0 _ 1 1 Tryd.underlying27 hi hz0 hz1 hz2 rfl (by decide) u5 (List.length l2) (List.map (Value.int .u8) l2) rfl (by exact own_below HO4.out ((Below.refl _ _).alloc (Nat.le_refl _) _)) ⟨wi.heap.size + 1, 0, none⟩ 4 4 [.int .u8 (xo), .int .u8 (xd), .int .u8 (xa), .int .u8 (xb)] rfl rfl (World.news_of_block (cs := #[.int .u8 (xo), .int .u8 (xd), .int .u8 (xa), .int .u8 (xb)]) (t := 5) (fr := (0, 0)) (heap_alloc_new2 _ _ _)) (by simp [Value.oneCell']) (by unfold maxLen; omega) (by omega) (by simp; omega) ?_); intro v4 w4 hown4 hg4 _; have HA4 := Lib.hid (OwnB.after (news := [xo, xd, xa, xb]) HB4.out HO4.out hg4 hown4); clear hown4 hg4; have HX5 := Lib.hid (HA4.out.2.2.1 _ _ _ (by decide) HX4.out))
          clear e0 e1 e2 e3 e4
          go_loopw [5, 10] (fun o i wj => ∃ (t : Nat) (l3 : List Int), t ≤ 8 ∧ i = .int .i64 (56 - 8 * (t : Int)) ∧ l3 = l2 ++ [xo, xd, xa, xb] ++ (List.range t).map (immB mx) ∧ l3.length ≤ 1 + 483 * k + 3 + 12 * m + 4 + t ∧ OwnB wj w.heap.size o l3 ∧ Below w.heap.size w wj ∧ wj.heap[wi.heap.size]? = some (Obj.cells #[.int .i64 xo, .int .i64 xd, .int .i64 xa, .int .i64 xb, .int .i64 mx] 76 (0, 0))) (fun _ i _ => (intOf i + 8).toNat)
          case atStart => exact ⟨0, _, by omega, rfl, by simp, by simp; omega, HA4.out.1, HA4.out.2.1, HX5.out⟩
          case round =>
            obtain ⟨t, l3, htt, rfl, hl3, hll3, ho, hb, hx⟩ := hrel
            obtain ⟨wj, hwj⟩ : ∃ wj : World, wj = wr := ⟨_, rfl⟩
            subst hwj
            have HL3 := Lib.hid hl3
            have HO6 := Lib.hid ho
            have HB6 := Lib.hid hb
            have HX6 := Lib.hid hx
            have d6 := cell_block hx
            have y6 : wi.heap.size < wj.heap.size := (Array.getElem?_eq_some_iff.1 hx).1
            have hzw3 := hb.size
            clear hl3 ho hb hx
            have hcase : t = 8 ∨ t = 0 ∨ t = 1 ∨ t = 2 ∨ t = 3 ∨ t = 4 ∨ t = 5 ∨ t = 6 ∨ t = 7 := by omega
            rcases hcase with rfl | rfl | rfl | rfl | rfl | rfl | rfl | rfl | rfl
            · go_wp2_with fail
              go_roundw
              case rel => exact ⟨m + 1, l3, by omega, by go_num, by rw [take_flat _ _ _ _ HXk.out, HL3.out, HL2.out]; simp [encIns], by omega, HO6.out, HB6.out⟩
              case measure => simp [intOf]; omega
            · go_wp2_with (at_builtin; go_must (refine wpList_append_own _ rfl _ _ 27 rfl w.heap.size 5 i0 _ 1 1 Tryd.underlying27 hi hz0 hz1 hz2 rfl (by decide) u5 (List.length l3) (List.map (Value.int .u8) l3) rfl (by exact own_below HO6.out ((Below.refl _ _).alloc (Nat.le_refl _) _)) ⟨wj.heap.size, 0, none⟩ 1 1 [.int .u8 (mx / 72057594037927936 % 256)] rfl rfl (World.news_of_block (cs := #[.int .u8 (mx / 72057594037927936 % 256)]) (t := 5) (fr := (0, 0)) (heap_alloc_new _ _)) (by simp [Value.oneCell']) (by unfold maxLen; omega) (by omega) (by simp; omega) ?_); intro v6 w6 hown6 hg6 _; have HA6 := Lib.hid (OwnB.after (news := [mx / 72057594037927936 % 256]) HB6.out HO6.out hg6 hown6); clear hown6 hg6; have HX7 := Lib.hid (HA6.out.2.2.1 _ _ _ (by decide) HX6.out))
              go_roundw
              case rel => exact ⟨1, _, by omega, by first | rfl | (apply congrArg (Value.int .i64); omega), by rw [HL3.out]; simp [List.range_succ, immB], by simp; omega, HA6.out.1, HA6.out.2.1, HX7.out⟩
              case measure => simp [intOf]
            · go_wp2_with (at_builtin; go_must (refine wpList_append_own _ rfl _ _ 27 rfl w.heap.size 5 i0 _ 1 1 Tryd.underlying27 hi hz0 hz1 hz2 rfl (by decide) u5 (List.length l3) (List.map (Value.int .u8) l3) rfl (by exact own_below HO6.out ((Below.refl _ _).alloc (Nat.le_refl _) _)) ⟨wj.heap.size, 0, none⟩ 1 1 [.int .u8 (mx / 281474976710656 % 256)] rfl rfl (World.news_of_block (cs := #[.int .u8 (mx / 281474976710656 % 256)]) (t := 5) (fr := (0, 0)) (heap_alloc_new _ _)) (by simp [Value.oneCell']) (by unfold maxLen; omega) (by omega) (by simp; omega) ?_); intro v6 w6 hown6 hg6 _; have HA6 := Lib.hid (OwnB.after (news := [mx / 281474976710656 % 256]) HB6.out HO6.out hg6 hown6); clear hown6 hg6; have HX7 := Lib.hid (HA6.out.2.2.1 _ _ _ (by decide) HX6.out))
              go_roundw
              case rel => exact ⟨2, _, by omega, by first | rfl | (apply congrArg (Value.int .i64); omega), by rw [HL3.out]; simp [List.range_succ, immB], by simp; omega, HA6.out.1, HA6.out.2.1, HX7.out⟩
              case measure => simp [intOf]
            · go_wp2_with (at_builtin; go_must (refine wpList_append_own _ rfl _ _ 27 rfl w.heap.size 5 i0 _ 1 1 Tryd.underlying27 hi hz0 hz1 hz2 rfl (by decide) u5 (List.length l3) (List.map (Value.int .u8) l3) rfl (by exact own_below HO6.out ((Below.refl _ _).alloc (Nat.le_refl _) _)) ⟨wj.heap.size, 0, none⟩ 1 1 [.int .u8 (mx / 1099511627776 % 256)] rfl rfl (World.news_of_block (cs := #[.int .u8 (mx / 1099511627776 % 256)]) (t := 5) (fr := (0, 0)) (heap_alloc_new _ _)) (by simp [Value.oneCell']) (by unfold maxLen; omega) (by omega) (by simp; omega) ?_); intro v6 w6 hown6 hg6 _; have HA6 := Lib.hid (OwnB.after (news := [mx / 1099511627776 % 256]) HB6.out HO6.out hg6 hown6); clear hown6 hg6; have HX7 := Lib.hid (HA6.out.2.2.1 _ _ _ (by decide) HX6.out))
              go_roundw
              case rel => exact ⟨3, _, by omega, by first | rfl | (apply congrArg (Value.int .i64); omega), by rw [HL3.out]; simp [List.range_succ, immB], by simp; omega, HA6.out.1, HA6.out.2.1, HX7.out⟩
              case measure => simp [intOf]
            · go_wp2_with (at_builtin; go_must (refine wpList_append_own _ rfl _ _ 27 rfl w.heap.size 5 i0 _ 1 1 Tryd.underlying27 hi hz0 hz1 hz2 rfl (by decide) u5 (List.length l3) (List.map (Value.int .u8) l3) rfl (by exact own_below HO6.out ((Below.refl _ _).alloc (Nat.le_refl _) _)) ⟨wj.heap.size, 0, none⟩ 1 1 [.int .u8 (mx / 4294967296 % 256)] rfl rfl (World.news_of_block (cs := #[.int .u8 (mx / 4294967296 % 256)]) (t := 5) (fr := (0, 0)) (heap_alloc_new _ _)) (by simp [Value.oneCell']) (by unfold maxLen; omega) (by omega) (by simp; omega) ?_); intro v6 w6 hown6 hg6 _; have HA6 := Lib.hid (OwnB.after (news := [mx / 4294967296 % 256]) HB6.out HO6.out hg6 hown6); clear hown6 hg6; have HX7 := Lib.hid (HA6.out.2.2.1 _ _ _ (by decide) HX6.out))
              go_roundw
              case rel => exact ⟨4, _, by omega, by first | rfl | (apply congrArg (Value.int .i64); omega), by rw [HL3.out]; simp [List.range_succ, immB], by simp; omega, HA6.out.1, HA6.out.2.1, HX7.out⟩
              case measure => simp [intOf]
            · go_wp2_with (at_builtin; go_must (refine wpList_append_own _ rfl _ _ 27 rfl w.heap.size 5 i0 _ 1 1 Tryd.underlying27 hi hz0 hz1 hz2 rfl (by decide) u5 (List.length l3) (List.map (Value.int .u8) l3) rfl (by exact own_below HO6.out ((Below.refl _ _).alloc (Nat.le_refl _) _)) ⟨wj.heap.size, 0, none⟩ 1 1 [.int .u8 (mx / 16777216 % 256)] rfl rfl (World.news_of_block (cs := #[.int .u8 (mx / 16777216 % 256)]) (t := 5) (fr := (0, 0)) (heap_alloc_new _ _)) (by simp [Value.oneCell']) (by unfold maxLen; omega) (by omega) (by simp; omega) ?_); intro v6 w6 hown6 hg6 _; have HA6 := Lib.hid (OwnB.after (news := [mx / 16777216 % 256]) HB6.out HO6.out hg6 hown6); clear hown6 hg6; have HX7 := Lib.hid (HA6.out.2.2.1 _ _ _ (by decide) HX6.out))
              go_roundw
              case rel => exact ⟨5, _, by omega, by first | rfl | (apply congrArg (Value.int .i64); omega), by rw [HL3.out]; simp [List.range_succ, immB], by simp; omega, HA6.out.1, HA6.out.2.1, HX7.out⟩
              case measure => simp [intOf]
            · go_wp2_with (at_builtin; go_must (refine wpList_append_own _ rfl _ _ 27 rfl w.heap.size 5 i0 _ 1 1 Tryd.underlying27 hi hz0 hz1 hz2 rfl (by decide) u5 (List.length l3) (List.map (Value.int .u8) l3) rfl (by exact own_below HO6.out ((Below.refl _ _).alloc (Nat.le_refl _) _)) ⟨wj.heap.size, 0, none⟩ 1 1 [.int .u8 (mx / 65536 % 256)] rfl rfl (World.news_of_block (cs := #[.int .u8 (mx / 65536 % 256)]) (t := 5) (fr := (0, 0)) (heap_alloc_new _ _)) (by simp [Value.oneCell']) (by unfold maxLen; omega) (by omega) (by simp; omega) ?_); intro v6 w6 hown6 hg6 _; have HA6 := Lib.hid (OwnB.after (news := [mx / 65536 % 256]) HB6.out HO6.out hg6 hown6); clear hown6 hg6; have HX7 := Lib.hid (HA6.out.2.2.1 _ _ _ (by decide) HX6.out))
              go_roundw
              case rel => exact ⟨6, _, by omega, by first | rfl | (apply congrArg (Value.int .i64); omega), by rw [HL3.out]; simp [List.range_succ, immB], by simp; omega, HA6.out.1, HA6.out.2.1, HX7.out⟩
              case measure => simp [intOf]
            · go_wp2_with (at_builtin; go_must (refine wpList_append_own _ rfl _ _ 27 rfl w.heap.size 5 i0 _ 1 1 Tryd.underlying27 hi hz0 hz1 hz2 rfl (by decide) u5 (List.length l3) (List.map (Value.int .u8) l3) rfl (by exact own_below HO6.out ((Below.refl _ _).alloc (Nat.le_refl _) _)) ⟨wj.heap.size, 0, none⟩ 1 1 [.int .u8 (mx / 256 % 256)] rfl rfl (World.news_of_block (cs := #[.int .u8 (mx / 256 % 256)]) (t := 5) (fr := (0, 0)) (heap_alloc_new _ _)) (by simp [Value.oneCell']) (by unfold maxLen; omega) (by omega) (by simp; omega) ?_); intro v6 w6 hown6 hg6 _; have HA6 := Lib.hid (OwnB.after (news := [mx / 256 % 256]) HB6.out HO6.out hg6 hown6); clear hown6 hg6; have HX7 := Lib.hid (HA6.out.2.2.1 _ _ _ (by decide) HX6.out))
              go_roundw
              case rel => exact ⟨7, _, by omega, by first | rfl | (apply congrArg (Value.int .i64); omega), by rw [HL3.out]; simp [List.range_succ, immB], by simp; omega, HA6.out.1, HA6.out.2.1, HX7.out⟩
              case measure => simp [intOf]
            · go_wp2_with (at_builtin; go_must (refine wpList_append_own _ rfl _ _ 27 rfl w.heap.size 5 i0 _ 1 1 Tryd.underlying27 hi hz0 hz1 hz2 rfl (by decide) u5 (List.length l3) (List.map (Value.int .u8) l3) rfl (by exact own_below HO6.out ((Below.refl _ _).alloc (Nat.le_refl _) _)) ⟨wj.heap.size, 0, none⟩ 1 1 [.int .u8 (mx % 256)] rfl rfl (World.news_of_block (cs := #[.int .u8 (mx % 256)]) (t := 5) (fr := (0, 0)) (heap_alloc_new _ _)) (by simp [Value.oneCell']) (by unfold maxLen; omega) (by omega) (by simp; omega) ?_); intro v6 w6 hown6 hg6 _; have HA6 := Lib.hid (OwnB.after (news := [mx % 256]) HB6.out HO6.out hg6 hown6); clear hown6 hg6; have HX7 := Lib.hid (HA6.out.2.2.1 _ _ _ (by decide) HX6.out))
              go_roundw
              case rel => exact ⟨8, _, by omega, by first | rfl | (apply congrArg (Value.int .i64); omega), by rw [HL3.out]; simp [List.range_succ, immB], by simp; omega, HA6.out.1, HA6.out.2.1, HX7.out⟩
              case measure => simp [intOf]
end Go.Proofs.YtfngkpbbimibaaaDoor
