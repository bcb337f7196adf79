/-
  The contract of keep.words: instructions that are right, encoded.
-/
import Derived.Test.YtjjpgkjjiooieaaDoorCp3
import Derived.Maps.AppendAt
import Derived.Deep.AppendLies
namespace Go.Proofs.YtjjpgkjjiooieaaDoor
open Go.RowKit Tier
theorem infoI : (Tryd.prog.info? 3).map (fun i => (i.zero, i.size, i.bytes)) = some (some (.int .i64 0), 1, 8) := by kernel_rfl
theorem own_below {w w' : World} {base : Nat} {e : TypeId} {size : Nat} {v : Value} {n : Nat} {xs : List Value} (h : w.ownsRow base e size v n xs) (hb : Below w.heap.size w w') : w'.ownsRow base e size v n xs := by
  obtain ⟨h1, h2⟩ := h
  refine ⟨h1, ?_⟩
  rcases h2 with h2 | ⟨g, cap, cur, hv, hg, hh, r⟩
  · exact .inl h2
  · refine .inr ⟨g, cap, cur, hv, hg, ?_, r⟩
    rw [hb.block g (Array.getElem?_eq_some_iff.1 hh).1]
    exact hh
theorem own_slice {w : World} {base : Nat} {e : TypeId} {size : Nat} {v : Value} {n : Nat} {xs : List Value} (h : w.ownsRow base e size v n xs) :
    ∃ A cap, v = .slice A n cap ∧ (0 < n → ∃ g, A = some ⟨g, 0, none⟩ ∧ g < w.heap.size ∧ ∀ j, j < n * size → w.cell? ⟨g, j, none⟩ = xs[j]?) := by
  rcases h.2 with ⟨rfl, rfl⟩ | ⟨g, cap, cur, rfl, hg, hh, hn, hc, hs, ht⟩
  · exact ⟨none, 0, rfl, by omega⟩
  · exact ⟨_, cap, rfl, fun _ => ⟨g, rfl, (Array.getElem?_eq_some_iff.1 hh).1, fun j hj => World.ownsRow.cellAt h j hj⟩⟩
def encs (xs : List Rv5) : List Value := xs.map fun x => .int .i64 x.enc
theorem words_at {w : World} {B : Nat} {A : Option Addr} {cap : Nat} {xs : List Rv5} (h : w.ownsRow B 3 1 (.slice A xs.length cap) xs.length (encs xs)) : WordsAt w A xs := fun hl => by
  obtain ⟨A', cap', hv, hc⟩ := own_slice h
  simp only [Value.slice.injEq, true_and] at hv
  obtain ⟨g, h1, h2, h3⟩ := hc hl
  refine ⟨g, by rw [hv.1, h1], h2, fun i x hx => ?_⟩
  have hi : i < xs.length := (List.getElem?_eq_some_iff.1 hx).1
  rw [h3 i (by omega)]
  simp [encs, hx]
/-- Instructions lie in memory from a block's beginning on. -/
def RvsAt (w : World) (g : Nat) (xs : List Rv5) : Prop := g < w.heap.size ∧ ∀ (i : Nat) (x : Rv5), xs[i]? = some x →
  w.cell? ⟨g, i * 5, none⟩ = some (.int .i64 x.op) ∧ w.cell? ⟨g, i * 5 + 1, none⟩ = some (.int .i64 x.rd) ∧ w.cell? ⟨g, i * 5 + 2, none⟩ = some (.int .i64 x.rs1) ∧ w.cell? ⟨g, i * 5 + 3, none⟩ = some (.int .i64 x.rs2) ∧ w.cell? ⟨g, i * 5 + 4, none⟩ = some (.int .i64 x.imm)
def rvCells (x : Rv5) : List Value := [.int .i64 x.op, .int .i64 x.rd, .int .i64 x.rs1, .int .i64 x.rs2, .int .i64 x.imm]
theorem flat5 : ∀ (l : List Rv5) (i j : Nat), j < 5 → (l.flatMap rvCells)[i * 5 + j]? = (l[i]?).bind fun x => (rvCells x)[j]?
  | [], i, j, _ => by simp
  | x :: l, 0, j, hj => by
    simp only [List.flatMap_cons, Nat.zero_mul, Nat.zero_add, List.getElem?_cons_zero, Option.bind_some]
    rw [List.getElem?_append_left (by simp [rvCells]; omega)]
  | x :: l, i + 1, j, hj => by
    rw [List.flatMap_cons, List.getElem?_append_right (by simp [rvCells]; omega), show (i + 1) * 5 + j - (rvCells x).length = i * 5 + j by simp [rvCells]; omega, flat5 l i j hj]
    simp
theorem rvs_block {W : World} {g : Nat} {xs : List Rv5} {t : TypeId} {fr : Nat × Nat} (h : W.heap[g]? = some (.cells (xs.flatMap rvCells).toArray t fr)) : RvsAt W g xs := by
  refine ⟨(Array.getElem?_eq_some_iff.1 h).1, fun i x hx => ?_⟩
  have key : ∀ j, j < 5 → W.cell? ⟨g, i * 5 + j, none⟩ = (rvCells x)[j]? := fun j hj => by
    rw [cell_block h, List.getElem?_toArray, flat5 xs i j hj, hx]; rfl
  exact ⟨key 0 (by omega), key 1 (by omega), key 2 (by omega), key 3 (by omega), key 4 (by omega)⟩
set_option maxRecDepth 100000 in
set_option maxHeartbeats 4000000 in
theorem words_any (xs : List Rv5) (g cap : Nat) (w : World) (ht : Tab w) (hxs : ∀ x ∈ xs, x.ok) (hl : xs.length ≤ 100) (hr : RvsAt w g xs) :
    Calls Tryd.prog 13 #[.slice (some ⟨g, 0, none⟩) xs.length cap] w fun e w' =>
      (∃ A cap', e = .returned (.tuple #[.slice A xs.length cap', .bool true]) ∧ w'.ownsRow w.heap.size 3 1 (.slice A xs.length cap') xs.length (encs xs)) ∧ Below w.heap.size w w' := by
  obtain ⟨i0, hi, hz0, hz1, hz2⟩ := info_parts infoI
  have HT := Lib.hid ht
  have HRV := Lib.hid hr.2
  have HXS := Lib.hid hxs
  have hg := hr.1
  clear ht hxs hr
  generalize hN : xs.length = N at *
  have HN := Lib.hid hN
  clear hN
  go_enter Tryd.func13, Tryd.ntmps13
  go_wp2_with fail
  go_loopw [4, 5] (fun v4 v wr => ∃ (k : Nat) (A1 : Option Addr) (cap1 : Nat), k ≤ N ∧ v = .int .i64 (k : Int) ∧ v4 = .slice A1 k cap1 ∧ wr.ownsRow w.heap.size 3 1 (.slice A1 k cap1) k (encs (xs.take k)) ∧ Below w.heap.size w wr) (fun _ v _ => N - (intOf v).toNat)
  case atStart => exact ⟨0, none, 0, by omega, rfl, rfl, World.ownsRow_nil _ _ _ _, Below.refl _ _⟩
  case round =>
    obtain ⟨k, A1, cap1, hk, rfl, rfl, ho, hb⟩ := hrel
    have HO := Lib.hid ho
    have HB := Lib.hid hb
    have hsz := hb.size
    clear ho hb
    by_cases hkN : k = N
    · subst hkN
      go_wp2_with fail
      refine bodyPost_ret (v := .tuple #[.slice A1 k cap1, .bool true]) (by simp [results, Tryd.results13, go_sem]) rfl ⟨⟨A1, cap1, rfl, ?_⟩, HB.out⟩
      have := HO.out
      rw [List.take_of_length_le (by rw [HN.out]; exact Nat.le_refl _)] at this
      exact this
    · have hkN' : (k : Int) < N := by omega
      obtain ⟨x, hx⟩ : ∃ x, xs[k]? = some x := ⟨xs[k]'(by rw [HN.out]; omega), List.getElem?_eq_getElem _⟩
      obtain ⟨c0, c1, c2, c3, c4⟩ := HRV.out k x hx
      rw [← HB.out.cell (p := ⟨g, _, none⟩) hg] at c0 c1 c2 c3 c4
      have hgr : g < wr.heap.size := by omega
      have hk0 : (0 : Int) ≤ k := by omega
      have HEN := Lib.hid (show ∀ W, Tab W → Calls Tryd.prog 15 #[.agg #[.int .i64 x.op, .int .i64 x.rd, .int .i64 x.rs1, .int .i64 x.rs2, .int .i64 x.imm]] W (fun e w' => e = .returned (.tuple #[.int .i64 x.enc, .int .i64 0]) ∧ Below W.heap.size W w') from fun W hW => by
        have h1 := enc_any x.op x.rd x.rs1 x.rs2 x.imm W hW
        rw [HXS.out x (List.mem_of_getElem? hx)] at h1
        exact h1)
      have HTK := Lib.hid (show encs (xs.take k) ++ [.int .i64 x.enc] = encs (xs.take (k + 1)) by rw [List.take_add_one, hx]; simp [encs])
      obtain ⟨en, hen⟩ : ∃ en, x.enc = en := ⟨_, rfl⟩
      rw [hen] at HEN HTK
      obtain ⟨op, rd, rs1, rs2, imm⟩ := x
      dsimp only at *
      clear hx hen hkN
      go_wp2_with (first | (go_at_call 15; go_must (refine (HEN.out _ (HT.out.keeps (by have hb := HB.out; repeat (first | exact hb | exact Below.refl _ _ | apply Below.drew | apply below_drewN | refine Below.alloc ?_ (by first | omega | (simp; done) | (simp; omega)) _ | refine Below.setCell ?_ (by first | omega | (simp; done) | (simp; omega)) _)))).mono ?_; rintro e wx ⟨rfl, hb⟩; have hb' : Below wr.heap.size wr wx := (by refine Below.trans ?_ (hb.mono (by simp)); have hb := Below.refl wr.heap.size wr; repeat (first | exact hb | exact Below.refl _ _ | apply Below.drew | apply below_drewN | refine Below.alloc ?_ (by first | omega | (simp; done) | (simp; omega)) _ | refine Below.setCell ?_ (by first | omega | (simp; done) | (simp; omega)) _)); have HOX := Lib.hid (own_below HO.out hb'); have HBX := Lib.hid (HB.out.trans (hb'.mono HB.out.size)); have hsx := HBX.out.size; clear hb hb')) | (at_builtin; go_must (refine wpList_append_own _ rfl _ _ 23 rfl w.heap.size 3 i0 _ 1 8 Tryd.underlying23 hi hz0 hz1 hz2 rfl (by decide) (.slice A1 k cap1) k (encs (xs.take k)) rfl (by exact own_below HOX.out ((Below.refl _ _).alloc (Nat.le_refl _) _)) ⟨wx.heap.size, 0, none⟩ 1 1 [.int .i64 en] rfl rfl (World.news_of_block (cs := #[.int .i64 en]) (t := 3) (fr := (0, 0)) (heap_alloc_new _ _)) (by simp [Value.oneCell']) (by unfold maxLen; omega) (by omega) (by simp; omega) ?_); intro v2 w2 hown2 hg2 _; obtain ⟨A2, cap2, hv2, -⟩ := own_slice hown2; rw [hv2] at hown2; rw [hv2]; have HO2 := Lib.hid hown2; have HB2 := Lib.hid (show Below w.heap.size w w2 from ((HBX.out.alloc HBX.out.size _).grown hg2 (by simp; omega) (fun k hk => (World.ownsRow.lt HOX.out k hk).1))); clear hown2 hg2))
      go_roundw
      case rel => exact ⟨k + 1, A2, cap2, by omega, by go_num, rfl, by rw [← HTK.out]; exact HO2.out, HB2.out⟩
      case measure => simp [intOf]; omega
end Go.Proofs.YtjjpgkjjiooieaaDoor
