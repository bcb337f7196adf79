/-
  The contracts of trim.Where and trim.Called.
-/
import Derived.Test.YtnbopmlemddakaaDoorTr3
namespace Go.Proofs.YtnbopmlemddakaaDoor
open Go.RowKit Tier
theorem progE_of_check {p : List Fnc} (hk : checkP p = 0) : progE p = 0 := by
  unfold checkP at hk
  by_cases hE : progE p = 0
  · exact hE
  · rw [if_pos hE] at hk; exact absurd hk hE
set_option maxRecDepth 100000 in
set_option maxHeartbeats 8000000 in
theorem tWhere_any (p : List Fnc) (A : Option Addr) (cap k : Nat) (f : Fnc) (w : World) (ht : Tab w) (hp : ProgAt w (.slice A p.length cap) p) (hk : checkP p = 0) (hf : p[k]? = some f) :
    Calls Tryd.prog 22 #[.agg #[.slice A p.length cap], .int .i64 (k : Int)] w fun e w' =>
      (∃ b, e = .returned (.tuple #[.slice (some ⟨b, 0, none⟩) f.code.length f.code.length, .int .i64 0]) ∧ w.heap.size ≤ b ∧ IntsB w' b (outL (whF f))) ∧ Below w.heap.size w w' := by
  have hR := right_of hk
  have hE := progE_of_check hk
  have l2 := hR.ok.l2
  have hkl := (List.getElem?_eq_some_iff.1 hf).1
  have HPC := Lib.hid (fun (W : World) (h1 : Tab W) (h2 : ProgAt W (.slice A p.length cap) p) => pcheck_any p A cap W h1 h2 (by omega) (fun f hf => by have := (hR.ok.fn f hf).c2; omega))
  rw [hk] at HPC
  have HWH := Lib.hid (fun (W : World) (h1 : Tab W) (h2 : ProgAt W (.slice A p.length cap) p) => where_any p A cap k f W h1 h2 hE hf)
  have HT := Lib.hid ht
  have HP := Lib.hid hp
  have hk1 : (k : Int) < p.length := by omega
  have hk0 : ¬ (k : Int) < 0 := by omega
  have hk2 : ¬ (p.length : Int) ≤ k := by omega
  clear ht hp hk hE hR hf hkl
  generalize p.length = N at *
  generalize f.code.length = M at *
  go_enter Tryd.func22, Tryd.ntmps22
  go_wp2_with (first | (go_at_call 27; go_must (refine (HPC.out _ (HT.out.alloc _) (HP.out.keeps ((Below.refl _ _).alloc (Nat.le_refl _) _))).mono ?_; rintro e w1 ⟨rfl, hb⟩; have HB1 := Lib.hid (((Below.refl w.heap.size w).alloc (Nat.le_refl _) (.cells #[.slice A N cap] 25)).trans (hb.mono (by simp))); have HBX := Lib.hid ((hb.block w.heap.size (by simp)).trans (heap_alloc_new w _)); have q0 := cell_block HBX.out; have z0 := block_lt HBX.out; clear hb)) | (go_at_call 40; go_must (refine (HWH.out _ (HT.out.keeps HB1.out) (HP.out.keeps HB1.out)).mono ?_; rintro e w2 ⟨⟨b, rfl, hgb, hIB⟩, hb⟩; have HIB := Lib.hid hIB; have HGB := Lib.hid (show w.heap.size ≤ b by have := HB1.out.size; omega); have HB2 := Lib.hid (HB1.out.trans (hb.mono HB1.out.size)); clear hb hgb hIB)))
  go_ret2
  exact ⟨⟨b, rfl, HGB.out, HIB.out⟩, HB2.out⟩
/-- What comes back: which functions are called. -/
def Told (p : List Fnc) (B : Nat) (e : Ending) (w' : World) : Prop := ∃ b c, e = .returned (.tuple #[.slice (some ⟨b, 0, none⟩) p.length p.length, .int .i64 0]) ∧ B ≤ b ∧ BoolsB w' b c ∧ Cld p c
set_option maxRecDepth 100000 in
set_option maxHeartbeats 8000000 in
theorem tCalled_any (p : List Fnc) (A : Option Addr) (cap : Nat) (w : World) (ht : Tab w) (hp : ProgAt w (.slice A p.length cap) p) (hk : checkP p = 0) :
    Calls Tryd.prog 25 #[.agg #[.slice A p.length cap]] w fun e w' => Told p w.heap.size e w' ∧ Below w.heap.size w w' := by
  have hR := right_of hk
  have l2 := hR.ok.l2
  have HPC := Lib.hid (fun (W : World) (h1 : Tab W) (h2 : ProgAt W (.slice A p.length cap) p) => pcheck_any p A cap W h1 h2 (by omega) (fun f hf => by have := (hR.ok.fn f hf).c2; omega))
  rw [hk] at HPC
  have HCA := Lib.hid (fun (W : World) (h1 : Tab W) (h2 : ProgAt W (.slice A p.length cap) p) => calls_any p A cap W h1 h2 hk)
  have HT := Lib.hid ht
  have HP := Lib.hid hp
  clear ht hp hk hR
  obtain ⟨N, hN⟩ : ∃ N, p.length = N := ⟨_, rfl⟩
  have HN := Lib.hid hN
  rw [hN] at HPC HCA HP l2 ⊢
  clear hN
  go_enter Tryd.func25, Tryd.ntmps25
  go_wp2_with (first | (go_at_call 27; go_must (refine (HPC.out _ (HT.out.alloc _) (HP.out.keeps ((Below.refl _ _).alloc (Nat.le_refl _) _))).mono ?_; rintro e w1 ⟨rfl, hb⟩; have HB1 := Lib.hid (((Below.refl w.heap.size w).alloc (Nat.le_refl _) (.cells #[.slice A N cap] 25)).trans (hb.mono (by simp))); have HBX := Lib.hid ((hb.block w.heap.size (by simp)).trans (heap_alloc_new w _)); have q0 := cell_block HBX.out; have z0 := block_lt HBX.out; clear hb)) | (go_at_call 43; go_must (refine (HCA.out _ (HT.out.keeps HB1.out) (HP.out.keeps HB1.out)).mono ?_; rintro e w2 ⟨⟨b, c, rfl, hgb, hBB, hC⟩, hb⟩; have HBB := Lib.hid hBB; have HC := Lib.hid hC; have HGB := Lib.hid (show w.heap.size ≤ b by have := HB1.out.size; omega); have HB2 := Lib.hid (HB1.out.trans (hb.mono HB1.out.size)); clear hb hgb hBB hC)))
  go_ret2
  exact ⟨⟨b, c, by rw [HN.out]; rfl, HGB.out, HBB.out, HC.out⟩, HB2.out⟩
/-- A trimmed program's first function. -/
theorem trim_first {p : List Fnc} {c : List Bool} (h : Cld p c) (h1 : 1 ≤ p.length) {F : Fnc} (hF : p[0]? = some F) : (trimP p c)[0]? = some (trimF F c) := by
  have := trim_fn (c := c) ((h.cB (by omega)).2 .zero) hF
  have e : numC c 0 = 0 := rfl
  rw [e] at this; exact this
theorem trimP_length {p : List Fnc} {c : List Bool} : (trimP p c).length ≤ p.length := by
  have h1 := trimPTo_length p c p.length
  have h2 := numC_le c p.length
  unfold trimP; omega
end Go.Proofs.YtnbopmlemddakaaDoor
