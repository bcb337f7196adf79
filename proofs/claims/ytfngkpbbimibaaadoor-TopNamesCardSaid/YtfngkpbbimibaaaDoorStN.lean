/-
  The contract of tierlinekeep.Begin: a run of an input begins.
-/
import Derived.Test.YtfngkpbbimibaaaDoorStR
import Derived.Test.YtfngkpbbimibaaaDoorRw
namespace Go.Proofs.YtfngkpbbimibaaaDoor
open Go.RowKit Tier
def inArgs (p : List Fnc) (a0 a1 : Int) : List Int := [a0, a1].take (fnOf p 0).params.toNat
/-- Where a run of an input begins. -/
def inSt (p : List Fnc) (a0 a1 : Int) (ans : List Int) (fuel : Int) : St := beginSt (inArgs p a0 a1) (ans.take 10) (pickedI fuel 300)
theorem IntsAt.take {w : World} {A : Option Addr} {l : List Int} (h : IntsAt w A l) (k : Nat) : IntsAt w A (l.take k) := fun hl => by
  have hll : 0 < l.length := by
    simp at hl; omega
  obtain ⟨b, o, h1, h2, h3⟩ := h hll
  refine ⟨b, o, h1, h2, fun i x hx => h3 i x ?_⟩
  rw [List.getElem?_take] at hx
  split at hx
  · exact hx
  · cases hx
theorem first_params {p : List Fnc} (hp : Right p) : ∃ F, p[0]? = some F ∧ fnOf p 0 = F ∧ 0 ≤ F.params ∧ F.params ≤ 2 := by
  have hl : 0 < p.length := by have := hp.ok.l1; omega
  have hf := hp.ok.fn p[0] (List.getElem_mem hl)
  exact ⟨p[0], List.getElem?_eq_getElem hl, fnOf_get (fn := 0) (List.getElem?_eq_getElem hl), hf.p1, hf.p2⟩
theorem inArgs_len {p : List Fnc} (hp : Right p) (a0 a1 : Int) : (fnOf p 0).params = (inArgs p a0 a1).length := by
  obtain ⟨F, -, h2, h3, h4⟩ := first_params hp
  unfold inArgs
  rw [h2, List.length_take]
  simp
  omega
theorem inSt_inv {p : List Fnc} (hp : Right p) (a0 a1 : Int) (ans : List Int) (fuel : Int) : StInv p (inSt p a0 a1 ans fuel) := by
  have h1 := picked_in fuel 300 (by omega)
  refine begin_inv hp _ _ _ ?_ ?_ h1.1 (by omega)
  · unfold inArgs; simp; omega
  · simp; omega
set_option maxRecDepth 100000 in
set_option maxHeartbeats 8000000 in
theorem kbegin_any {p : List Fnc} (hc : checkP p = 0) (a0 a1 fuel : Int) (ans : List Int) (YA : Option Addr) (ycap : Nat) (A : Option Addr) (cap : Nat) (w : World) (ht : Tab w) (hP : ProgAt w (.slice A p.length cap) p)
    (hy : IntsAt w YA ans) (hly : (ans.length : Int) ≤ 9223372036854775807) (hcy : ans.length ≤ ycap) (hf : In fuel) :
    Calls Tryd.prog 34 #[.agg #[.slice A p.length cap], .agg #[.int .i64 a0, .int .i64 a1, .slice YA ans.length ycap, .int .i64 fuel]] w fun e w' => (∃ C : List Value, e = .returned (.tuple #[.agg C.toArray, .bool true]) ∧ CellsSt C w' w.heap.size (inSt p a0 a1 ans fuel)) ∧ Below w.heap.size w w' := by
  have hp := right_of hc
  have l1 := hp.ok.l1
  have p0 := picked_in fuel 300 (by omega)
  have HPK := Lib.hid (fun (W : World) => picked_any fuel 300 W hf (by omega) (by omega))
  have hla := inArgs_len hp a0 a1
  have HI0 := Lib.hid (inSt_inv hp a0 a1 ans fuel)
  have HBG := Lib.hid (fun (XA : Option Addr) (W : World) (h1 : Below w.heap.size w W) (hx : IntsAt W XA (inArgs p a0 a1)) => sbegin_any hc (inArgs p a0 a1) (ans.take 10) XA 2 YA ycap (pickedI fuel 300) A cap W (ht.keeps h1) (hP.keeps h1) hx hla ((hy.keeps h1).take 10) (by simp; omega) p0.1 (by omega))
  rw [show beginSt (inArgs p a0 a1) (ans.take 10) (pickedI fuel 300) = inSt p a0 a1 ans fuel from rfl] at HBG
  obtain ⟨F, hF, hF0, hF1, hF2⟩ := first_params hp
  obtain ⟨A0, cap0, hA0, hA⟩ := hP.slice
  simp only [Value.slice.injEq, true_and] at hA0
  obtain ⟨g, hAg, hg, hfn⟩ := hA (by omega)
  obtain ⟨rfl, rfl⟩ := hA0
  obtain ⟨-, -, c0, -, -⟩ := hfn 0 F hF
  obtain ⟨m, hm⟩ : ∃ m, (inArgs p a0 a1).length = m := ⟨_, rfl⟩
  rw [hF0, hm] at hla
  rw [Nat.zero_mul, hla] at c0
  subst hAg
  have hm2 : m ≤ 2 := by omega
  have hm3 : (m : Int) ≤ 2 := by omega
  have hm0 : (0 : Int) ≤ m := by omega
  have HARG := Lib.hid (show ∀ i x, (inArgs p a0 a1)[i]? = some x → #[Value.int .i64 a0, .int .i64 a1, .slice YA ans.length ycap, .int .i64 fuel][i]? = some (Value.int .i64 x) from fun i x hx => by
    unfold inArgs at hx
    rw [List.getElem?_take] at hx
    split at hx
    · match i, hx with
      | 0, hx => simp at hx; subst hx; rfl
      | 1, hx => simp at hx; subst hx; rfl
      | i + 2, hx => simp at hx
    · cases hx)
  obtain ⟨k, hk⟩ : ∃ k, (ans.take 10).length = k := ⟨_, rfl⟩
  have hk2 := hk
  rw [List.length_take] at hk2
  obtain ⟨s0, hs0⟩ : ∃ s0, inSt p a0 a1 ans fuel = s0 := ⟨_, rfl⟩
  have HFL : Hid (s0.frames.length = 1) := Lib.hid (hs0 ▸ rfl)
  rw [hs0] at HBG HI0 ⊢
  have hn := Nat.le_refl ans.length
  rw [hm, hk] at HBG
  have HM0 := Lib.hid HI0.out.mem
  have HREG := Lib.hid (show ∀ f ∈ s0.frames, f.regs.length = 12 from fun f hf => (HI0.out.fr f hf).regs)
  have hz := zero_st
  have HT := Lib.hid ht
  have HP := Lib.hid hP
  have hN0 : 0 < p.length := by omega
  obtain ⟨q, hq⟩ : ∃ q, pickedI fuel 300 = q := ⟨_, rfl⟩
  rw [hq] at HPK HBG
  generalize inArgs p a0 a1 = args at *
  generalize hN : p.length = N at *
  generalize hnn : ans.length = n at *
  have hkm : min (n : Int) 10 = k := by omega
  have hk0 : (0 : Int) ≤ k := by omega
  have hk3 : (k : Int) ≤ ycap := by omega
  have HX0 : Hid (Sx w w.heap.size (.slice (some ⟨g, 0, none⟩) N cap) (((w.alloc (.cells #[.slice (some ⟨g, 0, none⟩) N cap] 25)).alloc (.cells #[.int .i64 a0, .int .i64 a1, .slice YA n ycap, .int .i64 fuel] 42)).alloc (.cells zeroV.toArray 49)) []) := Lib.hid ⟨((((Below.refl w.heap.size w).alloc (Nat.le_refl _) _).alloc (by simp) _).alloc (by simp; omega) _), block_alloc (block_alloc (heap_alloc_new w _) _) _, fun x hx => by simp at hx⟩
  have HI1 := Lib.hid (block_alloc (heap_alloc_new1 w (.cells #[.slice (some ⟨g, 0, none⟩) N cap] 25) (.cells #[.int .i64 a0, .int .i64 a1, .slice YA n ycap, .int .i64 fuel] 42)) (.cells zeroV.toArray 49))
  have HR1 : Hid ((((w.alloc (.cells #[.slice (some ⟨g, 0, none⟩) N cap] 25)).alloc (.cells #[.int .i64 a0, .int .i64 a1, .slice YA n ycap, .int .i64 fuel] 42)).alloc (.cells zeroV.toArray 49)).heap[w.heap.size + 2]? = some (.cells zeroV.toArray 49 (0, 0))) := Lib.hid (by have := heap_alloc_new ((w.alloc (.cells #[.slice (some ⟨g, 0, none⟩) N cap] 25)).alloc (.cells #[.int .i64 a0, .int .i64 a1, .slice YA n ycap, .int .i64 fuel] 42)) (.cells zeroV.toArray 49); simpa using this)
  have hzs : (((w.alloc (.cells #[.slice (some ⟨g, 0, none⟩) N cap] 25)).alloc (.cells #[.int .i64 a0, .int .i64 a1, .slice YA n ycap, .int .i64 fuel] 42)).alloc (.cells zeroV.toArray 49)).heap.size = w.heap.size + 3 := by simp
  have c0' : (((w.alloc (.cells #[.slice (some ⟨g, 0, none⟩) N cap] 25)).alloc (.cells #[.int .i64 a0, .int .i64 a1, .slice YA n ycap, .int .i64 fuel] 42)).alloc (.cells zeroV.toArray 49)).cell? ⟨g, 0, none⟩ = some (.int .i64 (m : Int)) := (HX0.out.below.cell (p := ⟨g, 0, none⟩) hg).trans c0
  clear ht hP hy hA hfn hF hF0 hF1 hF2 hla hs0 hf hm hk2 hn hnn hk hN hq p0 c0
  go_enter Tryd.func34, Tryd.ntmps34
  go_wp2_with fail
  obtain ⟨w0, hw0⟩ : ∃ w0, (((w.alloc (.cells #[.slice (some ⟨g, 0, none⟩) N cap] 25)).alloc (.cells #[.int .i64 a0, .int .i64 a1, .slice YA n ycap, .int .i64 fuel] 42)).alloc (.cells zeroV.toArray 49)) = w0 := ⟨_, rfl⟩
  rw [hw0] at HX0 HI1 HR1 hzs c0' ⊢
  clear hw0
  have b0 := HX0.out.pcell
  have b2 := cell_block HI1.out 2
  have b3 := cell_block HI1.out 3
  have KS := Lib.hid (fun (w' : World) (hb : Below w0.heap.size w0 w') => (⟨(hb.cell (p := ⟨w.heap.size, 0, none⟩) (by show w.heap.size < _; omega)).trans b0, (hb.cell (p := ⟨g, 0, none⟩) (by show g < _; omega)).trans c0', (hb.cell (p := ⟨w.heap.size + 1, 2, none⟩) (by show w.heap.size + 1 < _; omega)).trans b2, (hb.cell (p := ⟨w.heap.size + 1, 3, none⟩) (by show w.heap.size + 1 < _; omega)).trans b3⟩ : w'.cell? ⟨w.heap.size, 0, none⟩ = some (.slice (some ⟨g, 0, none⟩) N cap) ∧ w'.cell? ⟨g, 0, none⟩ = some (.int .i64 (m : Int)) ∧ w'.cell? ⟨w.heap.size + 1, 2, none⟩ = some (.slice YA n ycap) ∧ w'.cell? ⟨w.heap.size + 1, 3, none⟩ = some (.int .i64 fuel)))
  have HA0 := Lib.hid (fun (w' : World) (hb : Below w0.heap.size w0 w') => show IntsAt w' (some ⟨w.heap.size + 1, 0, none⟩) args from fun _ => ⟨_, 0, rfl, by have := hb.size; omega, fun i x hx => by rw [Nat.zero_add, cell_block ((hb.block _ (by omega)).trans HI1.out)]; exact HARG.out i x hx⟩)
  have HZS := Lib.hid hzs
  clear b0 b2 b3 c0' HARG hzs
  refine wp_region_held_drew (S := fun w' => w'.cell? ⟨w.heap.size, 0, none⟩ = some (.slice (some ⟨g, 0, none⟩) N cap) ∧ w'.cell? ⟨g, 0, none⟩ = some (.int .i64 (m : Int)) ∧ w'.cell? ⟨w.heap.size + 1, 2, none⟩ = some (.slice YA n ycap) ∧ w'.cell? ⟨w.heap.size + 1, 3, none⟩ = some (.int .i64 fuel)) (by kernel_rfl) (KS.out _ (Below.refl _ _).drew) (fun hHeld => ?_)
  refine wpAnyH_take (i := 0) (v := .agg #[.slice (some ⟨g, 0, none⟩) N cap]) rfl (by kernel_rfl) (by kernel_rfl) (by kernel_rfl) (fun _ _ _ h => h) (Or.inl ⟨by rfl, ?_⟩) hHeld ?_
  · intro w hSw
    obtain ⟨q0, q1, q2, q3⟩ := hSw
    simp only [List.getElem_toArray, List.getElem_cons_zero]
    go_simp
  simp only [Act.put, List.getElem_toArray, List.getElem_cons_zero, List.setIfInBounds_toArray, List.set_cons_zero, List.set_cons_succ]
  refine wpAnyH_take (i := 1) (v := .pointer (some ⟨w.heap.size + 1, 0, none⟩)) rfl (by kernel_rfl) (by kernel_rfl) (by kernel_rfl) (fun _ _ _ h => h) (Or.inl ⟨by rfl, ?_⟩) hHeld ?_
  · intro w hSw
    obtain ⟨q0, q1, q2, q3⟩ := hSw
    simp only [List.getElem_toArray, List.getElem_cons_zero, List.getElem_cons_succ]
    go_simp
  simp only [Act.put, List.getElem_toArray, List.getElem_cons_zero, List.getElem_cons_succ, List.setIfInBounds_toArray, List.set_cons_zero, List.set_cons_succ]
  refine wpAnyH_take (i := 2) (v := .pointer (some ⟨w.heap.size, 0, none⟩)) rfl (by kernel_rfl) (by kernel_rfl) (by kernel_rfl) (fun _ _ _ h => h) (Or.inl ⟨by rfl, ?_⟩) hHeld ?_
  · intro w hSw
    obtain ⟨q0, q1, q2, q3⟩ := hSw
    simp only [List.getElem_toArray, List.getElem_cons_zero, List.getElem_cons_succ]
    go_simp
  simp only [Act.put, List.getElem_toArray, List.getElem_cons_zero, List.getElem_cons_succ, List.setIfInBounds_toArray, List.set_cons_zero, List.set_cons_succ]
  refine wpAnyH_take (i := 3) (v := .slice (some ⟨g, 0, none⟩) N cap) rfl (by kernel_rfl) (by kernel_rfl) (by kernel_rfl) (fun _ _ _ h => h) (Or.inl ⟨by rfl, ?_⟩) hHeld ?_
  · intro w hSw
    obtain ⟨q0, q1, q2, q3⟩ := hSw
    simp only [List.getElem_toArray, List.getElem_cons_zero, List.getElem_cons_succ]
    go_simp
  simp only [Act.put, List.getElem_toArray, List.getElem_cons_zero, List.getElem_cons_succ, List.setIfInBounds_toArray, List.set_cons_zero, List.set_cons_succ]
  refine wpAnyH_take (i := 4) (v := .pointer (some ⟨g, 0, none⟩)) rfl (by kernel_rfl) (by kernel_rfl) (by kernel_rfl) (fun _ _ _ h => h) (Or.inl ⟨by rfl, ?_⟩) hHeld ?_
  · intro w hSw
    obtain ⟨q0, q1, q2, q3⟩ := hSw
    simp only [List.getElem_toArray, List.getElem_cons_zero, List.getElem_cons_succ]
    go_simp
  simp only [Act.put, List.getElem_toArray, List.getElem_cons_zero, List.getElem_cons_succ, List.setIfInBounds_toArray, List.set_cons_zero, List.set_cons_succ]
  refine wpAnyH_take (i := 5) (v := .pointer (some ⟨g, 0, none⟩)) rfl (by kernel_rfl) (by kernel_rfl) (by kernel_rfl) (fun _ _ _ h => h) (Or.inl ⟨by rfl, ?_⟩) hHeld ?_
  · intro w hSw
    obtain ⟨q0, q1, q2, q3⟩ := hSw
    simp only [List.getElem_toArray, List.getElem_cons_zero, List.getElem_cons_succ]
    go_simp
  simp only [Act.put, List.getElem_toArray, List.getElem_cons_zero, List.getElem_cons_succ, List.setIfInBounds_toArray, List.set_cons_zero, List.set_cons_succ]
  refine wpAnyH_take (i := 6) (v := .int .i64 (m : Int)) rfl (by kernel_rfl) (by kernel_rfl) (by kernel_rfl) (fun _ _ _ h => h) (Or.inl ⟨by rfl, ?_⟩) hHeld ?_
  · intro w hSw
    obtain ⟨q0, q1, q2, q3⟩ := hSw
    simp only [List.getElem_toArray, List.getElem_cons_zero, List.getElem_cons_succ]
    go_simp
  simp only [Act.put, List.getElem_toArray, List.getElem_cons_zero, List.getElem_cons_succ, List.setIfInBounds_toArray, List.set_cons_zero, List.set_cons_succ]
  refine wpAnyH_take (i := 7) (v := .slice (some ⟨w.heap.size + 1, 0, none⟩) m 2) rfl (by kernel_rfl) (by kernel_rfl) (by kernel_rfl) (fun _ _ _ h => h) (Or.inl ⟨by rfl, ?_⟩) hHeld ?_
  · intro w hSw
    obtain ⟨q0, q1, q2, q3⟩ := hSw
    simp only [List.getElem_toArray, List.getElem_cons_zero, List.getElem_cons_succ]
    go_simp
  simp only [Act.put, List.getElem_toArray, List.getElem_cons_zero, List.getElem_cons_succ, List.setIfInBounds_toArray, List.set_cons_zero, List.set_cons_succ]
  refine wpAnyH_take (i := 8) (v := .pointer (some ⟨w.heap.size + 1, 2, none⟩)) rfl (by kernel_rfl) (by kernel_rfl) (by kernel_rfl) (fun _ _ _ h => h) (Or.inl ⟨by rfl, ?_⟩) hHeld ?_
  · intro w hSw
    obtain ⟨q0, q1, q2, q3⟩ := hSw
    simp only [List.getElem_toArray, List.getElem_cons_zero, List.getElem_cons_succ]
    go_simp
  simp only [Act.put, List.getElem_toArray, List.getElem_cons_zero, List.getElem_cons_succ, List.setIfInBounds_toArray, List.set_cons_zero, List.set_cons_succ]
  refine wpAnyH_take (i := 9) (v := .slice YA n ycap) rfl (by kernel_rfl) (by kernel_rfl) (by kernel_rfl) (fun _ _ _ h => h) (Or.inl ⟨by rfl, ?_⟩) hHeld ?_
  · intro w hSw
    obtain ⟨q0, q1, q2, q3⟩ := hSw
    simp only [List.getElem_toArray, List.getElem_cons_zero, List.getElem_cons_succ]
    go_simp
  simp only [Act.put, List.getElem_toArray, List.getElem_cons_zero, List.getElem_cons_succ, List.setIfInBounds_toArray, List.set_cons_zero, List.set_cons_succ]
  refine wpAnyH_take (i := 10) (v := .pointer (some ⟨w.heap.size + 1, 2, none⟩)) rfl (by kernel_rfl) (by kernel_rfl) (by kernel_rfl) (fun _ _ _ h => h) (Or.inl ⟨by rfl, ?_⟩) hHeld ?_
  · intro w hSw
    obtain ⟨q0, q1, q2, q3⟩ := hSw
    simp only [List.getElem_toArray, List.getElem_cons_zero, List.getElem_cons_succ]
    go_simp
  simp only [Act.put, List.getElem_toArray, List.getElem_cons_zero, List.getElem_cons_succ, List.setIfInBounds_toArray, List.set_cons_zero, List.set_cons_succ]
  refine wpAnyH_take (i := 11) (v := .slice YA n ycap) rfl (by kernel_rfl) (by kernel_rfl) (by kernel_rfl) (fun _ _ _ h => h) (Or.inl ⟨by rfl, ?_⟩) hHeld ?_
  · intro w hSw
    obtain ⟨q0, q1, q2, q3⟩ := hSw
    simp only [List.getElem_toArray, List.getElem_cons_zero, List.getElem_cons_succ]
    go_simp
  simp only [Act.put, List.getElem_toArray, List.getElem_cons_zero, List.getElem_cons_succ, List.setIfInBounds_toArray, List.set_cons_zero, List.set_cons_succ]
  refine wpAnyH_take (i := 12) (v := .int .i64 (n : Int)) rfl (by kernel_rfl) (by kernel_rfl) (by kernel_rfl) (fun _ _ _ h => h) (Or.inl ⟨by rfl, ?_⟩) hHeld ?_
  · intro w hSw
    obtain ⟨q0, q1, q2, q3⟩ := hSw
    simp only [List.getElem_toArray, List.getElem_cons_zero, List.getElem_cons_succ]
    go_simp
  simp only [Act.put, List.getElem_toArray, List.getElem_cons_zero, List.getElem_cons_succ, List.setIfInBounds_toArray, List.set_cons_zero, List.set_cons_succ]
  refine wpAnyH_take (i := 13) (v := .int .i64 (k : Int)) rfl (by kernel_rfl) (by kernel_rfl) (by kernel_rfl) (fun _ _ _ h => h) (Or.inl ⟨by rfl, ?_⟩) hHeld ?_
  · intro w hSw
    obtain ⟨q0, q1, q2, q3⟩ := hSw
    simp only [List.getElem_toArray, List.getElem_cons_zero, List.getElem_cons_succ]
    go_simp
  simp only [Act.put, List.getElem_toArray, List.getElem_cons_zero, List.getElem_cons_succ, List.setIfInBounds_toArray, List.set_cons_zero, List.set_cons_succ]
  refine wpAnyH_take (i := 14) (v := .slice YA k ycap) rfl (by kernel_rfl) (by kernel_rfl) (by kernel_rfl) (fun _ _ _ h => h) (Or.inl ⟨by rfl, ?_⟩) hHeld ?_
  · intro w hSw
    obtain ⟨q0, q1, q2, q3⟩ := hSw
    simp only [List.getElem_toArray, List.getElem_cons_zero, List.getElem_cons_succ]
    go_simp
  simp only [Act.put, List.getElem_toArray, List.getElem_cons_zero, List.getElem_cons_succ, List.setIfInBounds_toArray, List.set_cons_zero, List.set_cons_succ]
  refine wpAnyH_take (i := 15) (v := .pointer (some ⟨w.heap.size + 1, 3, none⟩)) rfl (by kernel_rfl) (by kernel_rfl) (by kernel_rfl) (fun _ _ _ h => h) (Or.inl ⟨by rfl, ?_⟩) hHeld ?_
  · intro w hSw
    obtain ⟨q0, q1, q2, q3⟩ := hSw
    simp only [List.getElem_toArray, List.getElem_cons_zero, List.getElem_cons_succ]
    go_simp
  simp only [Act.put, List.getElem_toArray, List.getElem_cons_zero, List.getElem_cons_succ, List.setIfInBounds_toArray, List.set_cons_zero, List.set_cons_succ]
  refine wpAnyH_take (i := 16) (v := .int .i64 fuel) rfl (by kernel_rfl) (by kernel_rfl) (by kernel_rfl) (fun _ _ _ h => h) (Or.inl ⟨by rfl, ?_⟩) hHeld ?_
  · intro w hSw
    obtain ⟨q0, q1, q2, q3⟩ := hSw
    simp only [List.getElem_toArray, List.getElem_cons_zero, List.getElem_cons_succ]
    go_simp
  simp only [Act.put, List.getElem_toArray, List.getElem_cons_zero, List.getElem_cons_succ, List.setIfInBounds_toArray, List.set_cons_zero, List.set_cons_succ]
  refine wpAnyH_ready (rs := [17, 22]) (by kernel_rfl) (by simp) ?_
  refine AllReadyH.cons rfl (fun K hK => ?_) (AllReadyH.cons rfl (fun K hK => ?_) AllReadyH.nil)
  · simp only [List.getElem_toArray, List.getElem_cons_zero, List.getElem_cons_succ]
    go_simp
    refine (HPK.out _).mono ?_
    rintro e w' ⟨rfl, rfl⟩
    refine hK.out _ _ hHeld (fun hHeld => ?_)
    clear hK K
    refine wpAnyH_ready (rs := [18, 22]) (by kernel_rfl) (by simp) ?_
    refine AllReadyH.cons rfl (fun K hK => ?_) (AllReadyH.cons rfl (fun K hK => ?_) AllReadyH.nil)
    · simp only [List.getElem_toArray, List.getElem_cons_zero, List.getElem_cons_succ]
      go_simp
      refine (HBG.out _ _ (HX0.out.below.trans ((Below.refl w0.heap.size w0).drew.mono HX0.out.below.size)) (HA0.out _ (Below.refl w0.heap.size w0).drew)).mono ?_
      rintro e w1 ⟨⟨C, rfl, hC⟩, hb1⟩
      have HB1 : Hid (Below w0.heap.size w0 w1) := Lib.hid ((Below.refl w0.heap.size w0).drew.trans (hb1.mono (Below.refl w0.heap.size w0).drew.size))
      have HC := Lib.hid (hC.base (HX0.out.below.trans ((Below.refl w0.heap.size w0).drew.mono HX0.out.below.size)).size)
      have HL := Lib.hid (HC.out.len HM0.out)
      have HIF := Lib.hid (info_st HL.out)
      refine hK.out _ _ (KS.out _ HB1.out) (fun hHeld => ?_)
      clear hK K hC hb1
      refine wpAnyH_take (i := 19) (v := .tuple #[.agg C.toArray, .int .i64 0]) rfl (by kernel_rfl) (by kernel_rfl) (by kernel_rfl) (fun _ _ _ h => h) (Or.inl ⟨by rfl, ?_⟩) hHeld ?_
      · intro w hSw
        simp only [List.getElem_toArray, List.getElem_cons_zero, List.getElem_cons_succ]
        go_simp
      simp only [Act.put, List.getElem_toArray, List.getElem_cons_zero, List.getElem_cons_succ, List.setIfInBounds_toArray, List.set_cons_zero, List.set_cons_succ]
      refine wpAnyH_take (i := 20) (v := .agg C.toArray) rfl (by kernel_rfl) (by kernel_rfl) (by kernel_rfl) (fun _ _ _ h => h) (Or.inl ⟨by rfl, ?_⟩) hHeld ?_
      · intro w hSw
        simp only [List.getElem_toArray, List.getElem_cons_zero, List.getElem_cons_succ]
        go_simp
      simp only [Act.put, List.getElem_toArray, List.getElem_cons_zero, List.getElem_cons_succ, List.setIfInBounds_toArray, List.set_cons_zero, List.set_cons_succ]
      refine wpAnyH_take (i := 21) (v := .int .i64 0) rfl (by kernel_rfl) (by kernel_rfl) (by kernel_rfl) (fun _ _ _ h => h) (Or.inl ⟨by rfl, ?_⟩) hHeld ?_
      · intro w hSw
        simp only [List.getElem_toArray, List.getElem_cons_zero, List.getElem_cons_succ]
        go_simp
      simp only [Act.put, List.getElem_toArray, List.getElem_cons_zero, List.getElem_cons_succ, List.setIfInBounds_toArray, List.set_cons_zero, List.set_cons_succ]
      refine wpAnyH_ready (rs := [22]) (by kernel_rfl) (by simp) ?_
      refine AllReadyH.cons rfl (fun K hK => ?_) AllReadyH.nil
      simp only [List.getElem_toArray, List.getElem_cons_zero, List.getElem_cons_succ]
      go_simp
      refine hK.out _ _ (KS.out _ (HB1.out.alloc HB1.out.size _)) (fun hHeld => ?_)
      clear hK K
      refine wpAnyH_ready (rs := [23]) (by kernel_rfl) (by simp) ?_
      refine AllReadyH.cons rfl (fun K hK => ?_) AllReadyH.nil
      simp only [List.getElem_toArray, List.getElem_cons_zero, List.getElem_cons_succ]
      rw [if_pos (by rfl)]
      refine wp_store_mid 49 _ _ (by rfl) w1.heap.size 0 C.toArray (by rfl) (by rfl) (there_new w1 zeroV _ (by simp [HL.out, zeroV_length])) (by simpa using HIF.out) HC.out.one ?_
      obtain ⟨w3, hw3⟩ : ∃ w3, (w1.alloc (.cells zeroV.toArray 49)).setCells w1.heap.size 0 C.toArray.toList = w3 := ⟨_, rfl⟩
      rw [hw3]
      obtain ⟨b, hb⟩ : ∃ b, w1.heap.size = b := ⟨_, rfl⟩
      have HX3 : Hid (Sx w w.heap.size (.slice (some ⟨g, 0, none⟩) N cap) w3 [(b, C, s0)]) := Lib.hid (by rw [← hw3, ← hb]; exact (HX0.out.keeps HB1.out).add HC.out HM0.out)
      have HB3 : Hid (Below w0.heap.size w0 w3) := Lib.hid (by rw [← hw3]; exact below_setCells (HB1.out.size) _ _ _ (HB1.out.alloc HB1.out.size _))
      have HBN : Hid (b ≠ w.heap.size + 2) := Lib.hid (by have := HB1.out.size; have := HZS.out; omega)
      rw [hb]
      refine hK.out _ _ (KS.out _ HB3.out) (fun hHeld => ?_)
      clear hK K hb hw3
      refine wpAnyH_ready (rs := [24]) (by kernel_rfl) (by simp) ?_
      refine AllReadyH.cons rfl (fun K hK => ?_) AllReadyH.nil
      simp only [List.getElem_toArray, List.getElem_cons_zero, List.getElem_cons_succ]
      go_simp
      refine hK.out _ _ hHeld (fun hHeld => ?_)
      clear hK K hHeld
      refine wpAnyH_done (by kernel_rfl) ?_ _
      go_wp2_with fail
      obtain ⟨FA, fa, EA, ea, AA, aa, hci⟩ := (HX3.out.sts _ (.head _)).2.cin HM0.out HREG.out
      have HCI := Lib.hid hci
      have r3 := HX3.out.range (.head _)
      have r2 : w3.cell? ⟨b, 2, none⟩ = some (.slice FA 1 fa) := (HX3.out.cell (.head _) 2).trans (by rw [HCI.out.c2, HFL.out])
      have HR3 := Lib.hid ((HB3.out.block (w.heap.size + 2) (by have := HZS.out; omega)).trans HR1.out)
      clear hci
      refine wp_region_held_drew (S := fun w' => w'.rangeAt b 0 C ∧ w'.cell? ⟨b, 2, none⟩ = some (.slice FA 1 fa)) (by kernel_rfl) ⟨(World.rangeAt_drew _ _ _ _).2 r3, r2⟩ (fun hHeld => ?_)
      refine' wpAnyH_take (i := 0) rfl (by kernel_rfl) (by kernel_rfl) (by kernel_rfl) (fun _ _ _ h => h) (yieldsIf_load_mid (by rfl) 49 _ rfl b 0 rfl C _ (fun w hSw => hSw.1) Tryd.underlying49 (by rfl) HIF.out) hHeld ?_
      simp only [Act.put, List.getElem_toArray, List.getElem_cons_zero, List.setIfInBounds_toArray, List.set_cons_zero, List.set_cons_succ]
      refine wpAnyH_take (i := 1) (v := .int .i64 0) rfl (by kernel_rfl) (by kernel_rfl) (by kernel_rfl) (fun _ _ _ h => h) (Or.inl ⟨by rfl, ?_⟩) hHeld ?_
      · intro w hSw
        simp only [List.getElem_toArray, List.getElem_cons_zero, List.getElem_cons_succ]
        go_simp
      simp only [Act.put, List.getElem_toArray, List.getElem_cons_zero, List.getElem_cons_succ, List.setIfInBounds_toArray, List.set_cons_zero, List.set_cons_succ]
      refine wpAnyH_take (i := 2) (v := .bool true) rfl (by kernel_rfl) (by kernel_rfl) (by kernel_rfl) (fun _ _ _ h => h) (Or.inl ⟨by rfl, ?_⟩) hHeld ?_
      · intro w hSw
        simp only [List.getElem_toArray, List.getElem_cons_zero, List.getElem_cons_succ]
        go_simp
      simp only [Act.put, List.getElem_toArray, List.getElem_cons_zero, List.getElem_cons_succ, List.setIfInBounds_toArray, List.set_cons_zero, List.set_cons_succ]
      refine wpAnyH_take (i := 3) (v := .bool true) rfl (by kernel_rfl) (by kernel_rfl) (by kernel_rfl) (fun _ _ _ h => h) (Or.inl ⟨by rfl, ?_⟩) hHeld ?_
      · intro w hSw
        simp only [List.getElem_toArray, List.getElem_cons_zero, List.getElem_cons_succ]
        go_simp
      simp only [Act.put, List.getElem_toArray, List.getElem_cons_zero, List.getElem_cons_succ, List.setIfInBounds_toArray, List.set_cons_zero, List.set_cons_succ]
      refine wpAnyH_take (i := 4) (v := .pointer (some ⟨b, 2, none⟩)) rfl (by kernel_rfl) (by kernel_rfl) (by kernel_rfl) (fun _ _ _ h => h) (Or.inl ⟨by rfl, ?_⟩) hHeld ?_
      · intro w hSw
        simp only [List.getElem_toArray, List.getElem_cons_zero, List.getElem_cons_succ]
        go_simp
      simp only [Act.put, List.getElem_toArray, List.getElem_cons_zero, List.getElem_cons_succ, List.setIfInBounds_toArray, List.set_cons_zero, List.set_cons_succ]
      refine wpAnyH_take (i := 5) (v := .slice FA 1 fa) rfl (by kernel_rfl) (by kernel_rfl) (by kernel_rfl) (fun _ _ _ h => h) (Or.inl ⟨by rfl, ?_⟩) hHeld ?_
      · intro w hSw
        have q1 := hSw.2
        simp only [List.getElem_toArray, List.getElem_cons_zero, List.getElem_cons_succ]
        go_simp
      simp only [Act.put, List.getElem_toArray, List.getElem_cons_zero, List.getElem_cons_succ, List.setIfInBounds_toArray, List.set_cons_zero, List.set_cons_succ]
      refine wpAnyH_take (i := 6) (v := .int .i64 1) rfl (by kernel_rfl) (by kernel_rfl) (by kernel_rfl) (fun _ _ _ h => h) (Or.inl ⟨by rfl, ?_⟩) hHeld ?_
      · intro w hSw
        simp only [List.getElem_toArray, List.getElem_cons_zero, List.getElem_cons_succ]
        go_simp
      simp only [Act.put, List.getElem_toArray, List.getElem_cons_zero, List.getElem_cons_succ, List.setIfInBounds_toArray, List.set_cons_zero, List.set_cons_succ]
      refine wpAnyH_take (i := 7) (v := .bool true) rfl (by kernel_rfl) (by kernel_rfl) (by kernel_rfl) (fun _ _ _ h => h) (Or.inl ⟨by rfl, ?_⟩) hHeld ?_
      · intro w hSw
        simp only [List.getElem_toArray, List.getElem_cons_zero, List.getElem_cons_succ]
        go_simp
      simp only [Act.put, List.getElem_toArray, List.getElem_cons_zero, List.getElem_cons_succ, List.setIfInBounds_toArray, List.set_cons_zero, List.set_cons_succ]
      refine wpAnyH_take (i := 8) (v := .bool true) rfl (by kernel_rfl) (by kernel_rfl) (by kernel_rfl) (fun _ _ _ h => h) (Or.inl ⟨by rfl, ?_⟩) hHeld ?_
      · intro w hSw
        simp only [List.getElem_toArray, List.getElem_cons_zero, List.getElem_cons_succ]
        go_simp
      simp only [Act.put, List.getElem_toArray, List.getElem_cons_zero, List.getElem_cons_succ, List.setIfInBounds_toArray, List.set_cons_zero, List.set_cons_succ]
      refine wpAnyH_ready (rs := [9]) (by kernel_rfl) (by simp) ?_
      refine AllReadyH.cons rfl (fun K hK => ?_) AllReadyH.nil
      simp only [List.getElem_toArray, List.getElem_cons_zero, List.getElem_cons_succ]
      rw [if_pos (by rfl)]
      refine wp_store_mid 49 _ _ (by rfl) (w.heap.size + 2) 0 C.toArray (by rfl) (by rfl) (there_block (n := C.toArray.size) HR3.out (by simp [HL.out, zeroV_length])) (by simpa using HIF.out) HC.out.one ?_
      refine hK.out _ _ ⟨World.rangeAt_setCells_apart hHeld.1 _ _ _ (.inl HBN.out), (World.cell?_setCells_out _ _ _ _ _ (fun e _ => absurd e HBN.out)).trans hHeld.2⟩ (fun hHeld => ?_)
      clear hK K
      refine wpAnyH_ready (rs := [10]) (by kernel_rfl) (by simp) ?_
      refine AllReadyH.cons rfl (fun K hK => ?_) AllReadyH.nil
      simp only [List.getElem_toArray, List.getElem_cons_zero, List.getElem_cons_succ]
      go_simp
      refine hK.out _ _ hHeld (fun hHeld => ?_)
      clear hK K hHeld
      refine wpAnyH_done (by kernel_rfl) ?_ _
      go_wp2_with fail
      have hrd := run_loadVar_mid (P := Tryd.prog) _ _ _ 49 C _ (World.rangeAt_setCells_same w3.drew (w.heap.size + 2) 0 C (there_block (n := C.length) HR3.out (by rw [HL.out]; exact Nat.le_refl _))) Tryd.underlying49 (by rfl) HIF.out
      refine bodyPost_ret (v := .tuple #[.agg C.toArray, .bool true]) (results_cell2 Tryd.results34 _ _ _ _ _ ?_ hrd) rfl ⟨⟨C, rfl, ?_⟩, ?_⟩
      · rfl
      · obtain ⟨FS, ES, AS, h1, h2⟩ := (HX3.out.sts _ (.head _)).2
        exact ⟨FS, ES, AS, h1, strows_setCells (w := w3.drew) (by decide) (by decide) _ _ (h2.below (Below.refl _ _).drew) HR3.out⟩
      · exact below_setCells (by simp) _ _ _ HX3.out.below.drew
    · simp only [List.getElem_toArray, List.getElem_cons_zero, List.getElem_cons_succ]
      go_simp
      refine hK.out _ _ (KS.out _ ((Below.refl w0.heap.size w0).drew.alloc (Below.refl w0.heap.size w0).drew.size _)) (fun hHeld => ?_)
      clear hK K
      refine wpAnyH_ready (rs := [18]) (by kernel_rfl) (by simp) ?_
      refine AllReadyH.cons rfl (fun K hK => ?_) AllReadyH.nil
      simp only [List.getElem_toArray, List.getElem_cons_zero, List.getElem_cons_succ]
      go_simp
      refine (HBG.out _ _ (HX0.out.below.trans (((Below.refl w0.heap.size w0).drew.alloc (Nat.le_refl _) (.cells zeroV.toArray 49)).mono HX0.out.below.size)) (HA0.out _ ((Below.refl w0.heap.size w0).drew.alloc (Nat.le_refl _) (.cells zeroV.toArray 49)))).mono ?_
      rintro e w1 ⟨⟨C, rfl, hC⟩, hb1⟩
      have HB1 : Hid (Below w0.heap.size w0 w1) := Lib.hid (((Below.refl w0.heap.size w0).drew.alloc (Nat.le_refl _) (.cells zeroV.toArray 49)).trans (hb1.mono ((Below.refl w0.heap.size w0).drew.alloc (Nat.le_refl _) (.cells zeroV.toArray 49)).size))
      have HC := Lib.hid (hC.base (HX0.out.below.trans (((Below.refl w0.heap.size w0).drew.alloc (Nat.le_refl _) (.cells zeroV.toArray 49)).mono HX0.out.below.size)).size)
      have HL := Lib.hid (HC.out.len HM0.out)
      have HIF := Lib.hid (info_st HL.out)
      have HZB := Lib.hid ((hb1.block w0.heap.size (by simp)).trans (heap_alloc_new w0.drew (.cells zeroV.toArray 49)))
      refine hK.out _ _ (KS.out _ HB1.out) (fun hHeld => ?_)
      clear hK K hC hb1
      refine wpAnyH_take (i := 19) (v := .tuple #[.agg C.toArray, .int .i64 0]) rfl (by kernel_rfl) (by kernel_rfl) (by kernel_rfl) (fun _ _ _ h => h) (Or.inl ⟨by rfl, ?_⟩) hHeld ?_
      · intro w hSw
        simp only [List.getElem_toArray, List.getElem_cons_zero, List.getElem_cons_succ]
        go_simp
      simp only [Act.put, List.getElem_toArray, List.getElem_cons_zero, List.getElem_cons_succ, List.setIfInBounds_toArray, List.set_cons_zero, List.set_cons_succ]
      refine wpAnyH_take (i := 20) (v := .agg C.toArray) rfl (by kernel_rfl) (by kernel_rfl) (by kernel_rfl) (fun _ _ _ h => h) (Or.inl ⟨by rfl, ?_⟩) hHeld ?_
      · intro w hSw
        simp only [List.getElem_toArray, List.getElem_cons_zero, List.getElem_cons_succ]
        go_simp
      simp only [Act.put, List.getElem_toArray, List.getElem_cons_zero, List.getElem_cons_succ, List.setIfInBounds_toArray, List.set_cons_zero, List.set_cons_succ]
      refine wpAnyH_take (i := 21) (v := .int .i64 0) rfl (by kernel_rfl) (by kernel_rfl) (by kernel_rfl) (fun _ _ _ h => h) (Or.inl ⟨by rfl, ?_⟩) hHeld ?_
      · intro w hSw
        simp only [List.getElem_toArray, List.getElem_cons_zero, List.getElem_cons_succ]
        go_simp
      simp only [Act.put, List.getElem_toArray, List.getElem_cons_zero, List.getElem_cons_succ, List.setIfInBounds_toArray, List.set_cons_zero, List.set_cons_succ]
      refine wpAnyH_ready (rs := [23]) (by kernel_rfl) (by simp) ?_
      refine AllReadyH.cons rfl (fun K hK => ?_) AllReadyH.nil
      simp only [List.getElem_toArray, List.getElem_cons_zero, List.getElem_cons_succ]
      rw [if_pos (by rfl)]
      refine wp_store_mid 49 _ _ (by rfl) w0.heap.size 0 C.toArray (by rfl) (by rfl) (there_block HZB.out (by simp [HL.out, zeroV_length])) (by simpa using HIF.out) HC.out.one ?_
      obtain ⟨w3, hw3⟩ : ∃ w3, w1.setCells w0.heap.size 0 C.toArray.toList = w3 := ⟨_, rfl⟩
      rw [hw3]
      obtain ⟨b, hb⟩ : ∃ b, w0.heap.size = b := ⟨_, rfl⟩
      have HX3 : Hid (Sx w w.heap.size (.slice (some ⟨g, 0, none⟩) N cap) w3 [(b, C, s0)]) := Lib.hid (by rw [← hw3, ← hb]; exact (HX0.out.keeps HB1.out).put HZB.out zeroV_length HX0.out.below.size HC.out HL.out (fun x hx => by simp at hx))
      have HB3 : Hid (Below w0.heap.size w0 w3) := Lib.hid (by rw [← hw3]; exact below_setCells (Nat.le_refl _) _ _ _ (HB1.out))
      have HBN : Hid (b ≠ w.heap.size + 2) := Lib.hid (by have := HB1.out.size; have := HZS.out; omega)
      rw [hb]
      refine hK.out _ _ (KS.out _ HB3.out) (fun hHeld => ?_)
      clear hK K hb hw3
      refine wpAnyH_ready (rs := [24]) (by kernel_rfl) (by simp) ?_
      refine AllReadyH.cons rfl (fun K hK => ?_) AllReadyH.nil
      simp only [List.getElem_toArray, List.getElem_cons_zero, List.getElem_cons_succ]
      go_simp
      refine hK.out _ _ hHeld (fun hHeld => ?_)
      clear hK K hHeld
      refine wpAnyH_done (by kernel_rfl) ?_ _
      go_wp2_with fail
      obtain ⟨FA, fa, EA, ea, AA, aa, hci⟩ := (HX3.out.sts _ (.head _)).2.cin HM0.out HREG.out
      have HCI := Lib.hid hci
      have r3 := HX3.out.range (.head _)
      have r2 : w3.cell? ⟨b, 2, none⟩ = some (.slice FA 1 fa) := (HX3.out.cell (.head _) 2).trans (by rw [HCI.out.c2, HFL.out])
      have HR3 := Lib.hid ((HB3.out.block (w.heap.size + 2) (by have := HZS.out; omega)).trans HR1.out)
      clear hci
      refine wp_region_held_drew (S := fun w' => w'.rangeAt b 0 C ∧ w'.cell? ⟨b, 2, none⟩ = some (.slice FA 1 fa)) (by kernel_rfl) ⟨(World.rangeAt_drew _ _ _ _).2 r3, r2⟩ (fun hHeld => ?_)
      refine' wpAnyH_take (i := 0) rfl (by kernel_rfl) (by kernel_rfl) (by kernel_rfl) (fun _ _ _ h => h) (yieldsIf_load_mid (by rfl) 49 _ rfl b 0 rfl C _ (fun w hSw => hSw.1) Tryd.underlying49 (by rfl) HIF.out) hHeld ?_
      simp only [Act.put, List.getElem_toArray, List.getElem_cons_zero, List.setIfInBounds_toArray, List.set_cons_zero, List.set_cons_succ]
      refine wpAnyH_take (i := 1) (v := .int .i64 0) rfl (by kernel_rfl) (by kernel_rfl) (by kernel_rfl) (fun _ _ _ h => h) (Or.inl ⟨by rfl, ?_⟩) hHeld ?_
      · intro w hSw
        simp only [List.getElem_toArray, List.getElem_cons_zero, List.getElem_cons_succ]
        go_simp
      simp only [Act.put, List.getElem_toArray, List.getElem_cons_zero, List.getElem_cons_succ, List.setIfInBounds_toArray, List.set_cons_zero, List.set_cons_succ]
      refine wpAnyH_take (i := 2) (v := .bool true) rfl (by kernel_rfl) (by kernel_rfl) (by kernel_rfl) (fun _ _ _ h => h) (Or.inl ⟨by rfl, ?_⟩) hHeld ?_
      · intro w hSw
        simp only [List.getElem_toArray, List.getElem_cons_zero, List.getElem_cons_succ]
        go_simp
      simp only [Act.put, List.getElem_toArray, List.getElem_cons_zero, List.getElem_cons_succ, List.setIfInBounds_toArray, List.set_cons_zero, List.set_cons_succ]
      refine wpAnyH_take (i := 3) (v := .bool true) rfl (by kernel_rfl) (by kernel_rfl) (by kernel_rfl) (fun _ _ _ h => h) (Or.inl ⟨by rfl, ?_⟩) hHeld ?_
      · intro w hSw
        simp only [List.getElem_toArray, List.getElem_cons_zero, List.getElem_cons_succ]
        go_simp
      simp only [Act.put, List.getElem_toArray, List.getElem_cons_zero, List.getElem_cons_succ, List.setIfInBounds_toArray, List.set_cons_zero, List.set_cons_succ]
      refine wpAnyH_take (i := 4) (v := .pointer (some ⟨b, 2, none⟩)) rfl (by kernel_rfl) (by kernel_rfl) (by kernel_rfl) (fun _ _ _ h => h) (Or.inl ⟨by rfl, ?_⟩) hHeld ?_
      · intro w hSw
        simp only [List.getElem_toArray, List.getElem_cons_zero, List.getElem_cons_succ]
        go_simp
      simp only [Act.put, List.getElem_toArray, List.getElem_cons_zero, List.getElem_cons_succ, List.setIfInBounds_toArray, List.set_cons_zero, List.set_cons_succ]
      refine wpAnyH_take (i := 5) (v := .slice FA 1 fa) rfl (by kernel_rfl) (by kernel_rfl) (by kernel_rfl) (fun _ _ _ h => h) (Or.inl ⟨by rfl, ?_⟩) hHeld ?_
      · intro w hSw
        have q1 := hSw.2
        simp only [List.getElem_toArray, List.getElem_cons_zero, List.getElem_cons_succ]
        go_simp
      simp only [Act.put, List.getElem_toArray, List.getElem_cons_zero, List.getElem_cons_succ, List.setIfInBounds_toArray, List.set_cons_zero, List.set_cons_succ]
      refine wpAnyH_take (i := 6) (v := .int .i64 1) rfl (by kernel_rfl) (by kernel_rfl) (by kernel_rfl) (fun _ _ _ h => h) (Or.inl ⟨by rfl, ?_⟩) hHeld ?_
      · intro w hSw
        simp only [List.getElem_toArray, List.getElem_cons_zero, List.getElem_cons_succ]
        go_simp
      simp only [Act.put, List.getElem_toArray, List.getElem_cons_zero, List.getElem_cons_succ, List.setIfInBounds_toArray, List.set_cons_zero, List.set_cons_succ]
      refine wpAnyH_take (i := 7) (v := .bool true) rfl (by kernel_rfl) (by kernel_rfl) (by kernel_rfl) (fun _ _ _ h => h) (Or.inl ⟨by rfl, ?_⟩) hHeld ?_
      · intro w hSw
        simp only [List.getElem_toArray, List.getElem_cons_zero, List.getElem_cons_succ]
        go_simp
      simp only [Act.put, List.getElem_toArray, List.getElem_cons_zero, List.getElem_cons_succ, List.setIfInBounds_toArray, List.set_cons_zero, List.set_cons_succ]
      refine wpAnyH_take (i := 8) (v := .bool true) rfl (by kernel_rfl) (by kernel_rfl) (by kernel_rfl) (fun _ _ _ h => h) (Or.inl ⟨by rfl, ?_⟩) hHeld ?_
      · intro w hSw
        simp only [List.getElem_toArray, List.getElem_cons_zero, List.getElem_cons_succ]
        go_simp
      simp only [Act.put, List.getElem_toArray, List.getElem_cons_zero, List.getElem_cons_succ, List.setIfInBounds_toArray, List.set_cons_zero, List.set_cons_succ]
      refine wpAnyH_ready (rs := [9]) (by kernel_rfl) (by simp) ?_
      refine AllReadyH.cons rfl (fun K hK => ?_) AllReadyH.nil
      simp only [List.getElem_toArray, List.getElem_cons_zero, List.getElem_cons_succ]
      rw [if_pos (by rfl)]
      refine wp_store_mid 49 _ _ (by rfl) (w.heap.size + 2) 0 C.toArray (by rfl) (by rfl) (there_block (n := C.toArray.size) HR3.out (by simp [HL.out, zeroV_length])) (by simpa using HIF.out) HC.out.one ?_
      refine hK.out _ _ ⟨World.rangeAt_setCells_apart hHeld.1 _ _ _ (.inl HBN.out), (World.cell?_setCells_out _ _ _ _ _ (fun e _ => absurd e HBN.out)).trans hHeld.2⟩ (fun hHeld => ?_)
      clear hK K
      refine wpAnyH_ready (rs := [10]) (by kernel_rfl) (by simp) ?_
      refine AllReadyH.cons rfl (fun K hK => ?_) AllReadyH.nil
      simp only [List.getElem_toArray, List.getElem_cons_zero, List.getElem_cons_succ]
      go_simp
      refine hK.out _ _ hHeld (fun hHeld => ?_)
      clear hK K hHeld
      refine wpAnyH_done (by kernel_rfl) ?_ _
      go_wp2_with fail
      have hrd := run_loadVar_mid (P := Tryd.prog) _ _ _ 49 C _ (World.rangeAt_setCells_same w3.drew (w.heap.size + 2) 0 C (there_block (n := C.length) HR3.out (by rw [HL.out]; exact Nat.le_refl _))) Tryd.underlying49 (by rfl) HIF.out
      refine bodyPost_ret (v := .tuple #[.agg C.toArray, .bool true]) (results_cell2 Tryd.results34 _ _ _ _ _ ?_ hrd) rfl ⟨⟨C, rfl, ?_⟩, ?_⟩
      · rfl
      · obtain ⟨FS, ES, AS, h1, h2⟩ := (HX3.out.sts _ (.head _)).2
        exact ⟨FS, ES, AS, h1, strows_setCells (w := w3.drew) (by decide) (by decide) _ _ (h2.below (Below.refl _ _).drew) HR3.out⟩
      · exact below_setCells (by simp) _ _ _ HX3.out.below.drew
  · simp only [List.getElem_toArray, List.getElem_cons_zero, List.getElem_cons_succ]
    go_simp
    refine hK.out _ _ (KS.out _ ((Below.refl w0.heap.size w0).drew.alloc (Below.refl w0.heap.size w0).drew.size _)) (fun hHeld => ?_)
    clear hK K
    refine wpAnyH_ready (rs := [17]) (by kernel_rfl) (by simp) ?_
    refine AllReadyH.cons rfl (fun K hK => ?_) AllReadyH.nil
    simp only [List.getElem_toArray, List.getElem_cons_zero, List.getElem_cons_succ]
    go_simp
    refine (HPK.out _).mono ?_
    rintro e w' ⟨rfl, rfl⟩
    refine hK.out _ _ hHeld (fun hHeld => ?_)
    clear hK K
    refine wpAnyH_ready (rs := [18]) (by kernel_rfl) (by simp) ?_
    refine AllReadyH.cons rfl (fun K hK => ?_) AllReadyH.nil
    simp only [List.getElem_toArray, List.getElem_cons_zero, List.getElem_cons_succ]
    go_simp
    refine (HBG.out _ _ (HX0.out.below.trans (((Below.refl w0.heap.size w0).drew.alloc (Nat.le_refl _) (.cells zeroV.toArray 49)).mono HX0.out.below.size)) (HA0.out _ ((Below.refl w0.heap.size w0).drew.alloc (Nat.le_refl _) (.cells zeroV.toArray 49)))).mono ?_
    rintro e w1 ⟨⟨C, rfl, hC⟩, hb1⟩
    have HB1 : Hid (Below w0.heap.size w0 w1) := Lib.hid (((Below.refl w0.heap.size w0).drew.alloc (Nat.le_refl _) (.cells zeroV.toArray 49)).trans (hb1.mono ((Below.refl w0.heap.size w0).drew.alloc (Nat.le_refl _) (.cells zeroV.toArray 49)).size))
    have HC := Lib.hid (hC.base (HX0.out.below.trans (((Below.refl w0.heap.size w0).drew.alloc (Nat.le_refl _) (.cells zeroV.toArray 49)).mono HX0.out.below.size)).size)
    have HL := Lib.hid (HC.out.len HM0.out)
    have HIF := Lib.hid (info_st HL.out)
    have HZB := Lib.hid ((hb1.block w0.heap.size (by simp)).trans (heap_alloc_new w0.drew (.cells zeroV.toArray 49)))
    refine hK.out _ _ (KS.out _ HB1.out) (fun hHeld => ?_)
    clear hK K hC hb1
    refine wpAnyH_take (i := 19) (v := .tuple #[.agg C.toArray, .int .i64 0]) rfl (by kernel_rfl) (by kernel_rfl) (by kernel_rfl) (fun _ _ _ h => h) (Or.inl ⟨by rfl, ?_⟩) hHeld ?_
    · intro w hSw
      simp only [List.getElem_toArray, List.getElem_cons_zero, List.getElem_cons_succ]
      go_simp
    simp only [Act.put, List.getElem_toArray, List.getElem_cons_zero, List.getElem_cons_succ, List.setIfInBounds_toArray, List.set_cons_zero, List.set_cons_succ]
    refine wpAnyH_take (i := 20) (v := .agg C.toArray) rfl (by kernel_rfl) (by kernel_rfl) (by kernel_rfl) (fun _ _ _ h => h) (Or.inl ⟨by rfl, ?_⟩) hHeld ?_
    · intro w hSw
      simp only [List.getElem_toArray, List.getElem_cons_zero, List.getElem_cons_succ]
      go_simp
    simp only [Act.put, List.getElem_toArray, List.getElem_cons_zero, List.getElem_cons_succ, List.setIfInBounds_toArray, List.set_cons_zero, List.set_cons_succ]
    refine wpAnyH_take (i := 21) (v := .int .i64 0) rfl (by kernel_rfl) (by kernel_rfl) (by kernel_rfl) (fun _ _ _ h => h) (Or.inl ⟨by rfl, ?_⟩) hHeld ?_
    · intro w hSw
      simp only [List.getElem_toArray, List.getElem_cons_zero, List.getElem_cons_succ]
      go_simp
    simp only [Act.put, List.getElem_toArray, List.getElem_cons_zero, List.getElem_cons_succ, List.setIfInBounds_toArray, List.set_cons_zero, List.set_cons_succ]
    refine wpAnyH_ready (rs := [23]) (by kernel_rfl) (by simp) ?_
    refine AllReadyH.cons rfl (fun K hK => ?_) AllReadyH.nil
    simp only [List.getElem_toArray, List.getElem_cons_zero, List.getElem_cons_succ]
    rw [if_pos (by rfl)]
    refine wp_store_mid 49 _ _ (by rfl) w0.heap.size 0 C.toArray (by rfl) (by rfl) (there_block HZB.out (by simp [HL.out, zeroV_length])) (by simpa using HIF.out) HC.out.one ?_
    obtain ⟨w3, hw3⟩ : ∃ w3, w1.setCells w0.heap.size 0 C.toArray.toList = w3 := ⟨_, rfl⟩
    rw [hw3]
    obtain ⟨b, hb⟩ : ∃ b, w0.heap.size = b := ⟨_, rfl⟩
    have HX3 : Hid (Sx w w.heap.size (.slice (some ⟨g, 0, none⟩) N cap) w3 [(b, C, s0)]) := Lib.hid (by rw [← hw3, ← hb]; exact (HX0.out.keeps HB1.out).put HZB.out zeroV_length HX0.out.below.size HC.out HL.out (fun x hx => by simp at hx))
    have HB3 : Hid (Below w0.heap.size w0 w3) := Lib.hid (by rw [← hw3]; exact below_setCells (Nat.le_refl _) _ _ _ (HB1.out))
    have HBN : Hid (b ≠ w.heap.size + 2) := Lib.hid (by have := HB1.out.size; have := HZS.out; omega)
    rw [hb]
    refine hK.out _ _ (KS.out _ HB3.out) (fun hHeld => ?_)
    clear hK K hb hw3
    refine wpAnyH_ready (rs := [24]) (by kernel_rfl) (by simp) ?_
    refine AllReadyH.cons rfl (fun K hK => ?_) AllReadyH.nil
    simp only [List.getElem_toArray, List.getElem_cons_zero, List.getElem_cons_succ]
    go_simp
    refine hK.out _ _ hHeld (fun hHeld => ?_)
    clear hK K hHeld
    refine wpAnyH_done (by kernel_rfl) ?_ _
    go_wp2_with fail
    obtain ⟨FA, fa, EA, ea, AA, aa, hci⟩ := (HX3.out.sts _ (.head _)).2.cin HM0.out HREG.out
    have HCI := Lib.hid hci
    have r3 := HX3.out.range (.head _)
    have r2 : w3.cell? ⟨b, 2, none⟩ = some (.slice FA 1 fa) := (HX3.out.cell (.head _) 2).trans (by rw [HCI.out.c2, HFL.out])
    have HR3 := Lib.hid ((HB3.out.block (w.heap.size + 2) (by have := HZS.out; omega)).trans HR1.out)
    clear hci
    refine wp_region_held_drew (S := fun w' => w'.rangeAt b 0 C ∧ w'.cell? ⟨b, 2, none⟩ = some (.slice FA 1 fa)) (by kernel_rfl) ⟨(World.rangeAt_drew _ _ _ _).2 r3, r2⟩ (fun hHeld => ?_)
    refine' wpAnyH_take (i := 0) rfl (by kernel_rfl) (by kernel_rfl) (by kernel_rfl) (fun _ _ _ h => h) (yieldsIf_load_mid (by rfl) 49 _ rfl b 0 rfl C _ (fun w hSw => hSw.1) Tryd.underlying49 (by rfl) HIF.out) hHeld ?_
    simp only [Act.put, List.getElem_toArray, List.getElem_cons_zero, List.setIfInBounds_toArray, List.set_cons_zero, List.set_cons_succ]
    refine wpAnyH_take (i := 1) (v := .int .i64 0) rfl (by kernel_rfl) (by kernel_rfl) (by kernel_rfl) (fun _ _ _ h => h) (Or.inl ⟨by rfl, ?_⟩) hHeld ?_
    · intro w hSw
      simp only [List.getElem_toArray, List.getElem_cons_zero, List.getElem_cons_succ]
      go_simp
    simp only [Act.put, List.getElem_toArray, List.getElem_cons_zero, List.getElem_cons_succ, List.setIfInBounds_toArray, List.set_cons_zero, List.set_cons_succ]
    refine wpAnyH_take (i := 2) (v := .bool true) rfl (by kernel_rfl) (by kernel_rfl) (by kernel_rfl) (fun _ _ _ h => h) (Or.inl ⟨by rfl, ?_⟩) hHeld ?_
    · intro w hSw
      simp only [List.getElem_toArray, List.getElem_cons_zero, List.getElem_cons_succ]
      go_simp
    simp only [Act.put, List.getElem_toArray, List.getElem_cons_zero, List.getElem_cons_succ, List.setIfInBounds_toArray, List.set_cons_zero, List.set_cons_succ]
    refine wpAnyH_take (i := 3) (v := .bool true) rfl (by kernel_rfl) (by kernel_rfl) (by kernel_rfl) (fun _ _ _ h => h) (Or.inl ⟨by rfl, ?_⟩) hHeld ?_
    · intro w hSw
      simp only [List.getElem_toArray, List.getElem_cons_zero, List.getElem_cons_succ]
      go_simp
    simp only [Act.put, List.getElem_toArray, List.getElem_cons_zero, List.getElem_cons_succ, List.setIfInBounds_toArray, List.set_cons_zero, List.set_cons_succ]
    refine wpAnyH_take (i := 4) (v := .pointer (some ⟨b, 2, none⟩)) rfl (by kernel_rfl) (by kernel_rfl) (by kernel_rfl) (fun _ _ _ h => h) (Or.inl ⟨by rfl, ?_⟩) hHeld ?_
    · intro w hSw
      simp only [List.getElem_toArray, List.getElem_cons_zero, List.getElem_cons_succ]
      go_simp
    simp only [Act.put, List.getElem_toArray, List.getElem_cons_zero, List.getElem_cons_succ, List.setIfInBounds_toArray, List.set_cons_zero, List.set_cons_succ]
    refine wpAnyH_take (i := 5) (v := .slice FA 1 fa) rfl (by kernel_rfl) (by kernel_rfl) (by kernel_rfl) (fun _ _ _ h => h) (Or.inl ⟨by rfl, ?_⟩) hHeld ?_
    · intro w hSw
      have q1 := hSw.2
      simp only [List.getElem_toArray, List.getElem_cons_zero, List.getElem_cons_succ]
      go_simp
    simp only [Act.put, List.getElem_toArray, List.getElem_cons_zero, List.getElem_cons_succ, List.setIfInBounds_toArray, List.set_cons_zero, List.set_cons_succ]
    refine wpAnyH_take (i := 6) (v := .int .i64 1) rfl (by kernel_rfl) (by kernel_rfl) (by kernel_rfl) (fun _ _ _ h => h) (Or.inl ⟨by rfl, ?_⟩) hHeld ?_
    · intro w hSw
      simp only [List.getElem_toArray, List.getElem_cons_zero, List.getElem_cons_succ]
      go_simp
    simp only [Act.put, List.getElem_toArray, List.getElem_cons_zero, List.getElem_cons_succ, List.setIfInBounds_toArray, List.set_cons_zero, List.set_cons_succ]
    refine wpAnyH_take (i := 7) (v := .bool true) rfl (by kernel_rfl) (by kernel_rfl) (by kernel_rfl) (fun _ _ _ h => h) (Or.inl ⟨by rfl, ?_⟩) hHeld ?_
    · intro w hSw
      simp only [List.getElem_toArray, List.getElem_cons_zero, List.getElem_cons_succ]
      go_simp
    simp only [Act.put, List.getElem_toArray, List.getElem_cons_zero, List.getElem_cons_succ, List.setIfInBounds_toArray, List.set_cons_zero, List.set_cons_succ]
    refine wpAnyH_take (i := 8) (v := .bool true) rfl (by kernel_rfl) (by kernel_rfl) (by kernel_rfl) (fun _ _ _ h => h) (Or.inl ⟨by rfl, ?_⟩) hHeld ?_
    · intro w hSw
      simp only [List.getElem_toArray, List.getElem_cons_zero, List.getElem_cons_succ]
      go_simp
    simp only [Act.put, List.getElem_toArray, List.getElem_cons_zero, List.getElem_cons_succ, List.setIfInBounds_toArray, List.set_cons_zero, List.set_cons_succ]
    refine wpAnyH_ready (rs := [9]) (by kernel_rfl) (by simp) ?_
    refine AllReadyH.cons rfl (fun K hK => ?_) AllReadyH.nil
    simp only [List.getElem_toArray, List.getElem_cons_zero, List.getElem_cons_succ]
    rw [if_pos (by rfl)]
    refine wp_store_mid 49 _ _ (by rfl) (w.heap.size + 2) 0 C.toArray (by rfl) (by rfl) (there_block (n := C.toArray.size) HR3.out (by simp [HL.out, zeroV_length])) (by simpa using HIF.out) HC.out.one ?_
    refine hK.out _ _ ⟨World.rangeAt_setCells_apart hHeld.1 _ _ _ (.inl HBN.out), (World.cell?_setCells_out _ _ _ _ _ (fun e _ => absurd e HBN.out)).trans hHeld.2⟩ (fun hHeld => ?_)
    clear hK K
    refine wpAnyH_ready (rs := [10]) (by kernel_rfl) (by simp) ?_
    refine AllReadyH.cons rfl (fun K hK => ?_) AllReadyH.nil
    simp only [List.getElem_toArray, List.getElem_cons_zero, List.getElem_cons_succ]
    go_simp
    refine hK.out _ _ hHeld (fun hHeld => ?_)
    clear hK K hHeld
    refine wpAnyH_done (by kernel_rfl) ?_ _
    go_wp2_with fail
    have hrd := run_loadVar_mid (P := Tryd.prog) _ _ _ 49 C _ (World.rangeAt_setCells_same w3.drew (w.heap.size + 2) 0 C (there_block (n := C.length) HR3.out (by rw [HL.out]; exact Nat.le_refl _))) Tryd.underlying49 (by rfl) HIF.out
    refine bodyPost_ret (v := .tuple #[.agg C.toArray, .bool true]) (results_cell2 Tryd.results34 _ _ _ _ _ ?_ hrd) rfl ⟨⟨C, rfl, ?_⟩, ?_⟩
    · rfl
    · obtain ⟨FS, ES, AS, h1, h2⟩ := (HX3.out.sts _ (.head _)).2
      exact ⟨FS, ES, AS, h1, strows_setCells (w := w3.drew) (by decide) (by decide) _ _ (h2.below (Below.refl _ _).drew) HR3.out⟩
    · exact below_setCells (by simp) _ _ _ HX3.out.below.drew
end Go.Proofs.YtfngkpbbimibaaaDoor
