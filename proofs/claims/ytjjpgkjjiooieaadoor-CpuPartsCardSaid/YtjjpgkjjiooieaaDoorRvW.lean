/-
  The contract of Rv (an instruction out of raw numbers): one that may be; and of picked.
-/
import Derived.Test.YtjjpgkjjiooieaaDoorRvK
namespace Tier
open Go Go.RowKit
def pickedI (n many : Int) : Int := (if n < 0 then -(n + 1) else n) % many
theorem picked_in (n many : Int) (h : 1 ≤ many) : 0 ≤ pickedI n many ∧ pickedI n many < many := by
  unfold pickedI; exact ⟨Int.emod_nonneg _ (by omega), Int.emod_lt_of_pos _ (by omega)⟩
theorem shapes : ∀ k : Fin 30, 1 ≤ k.val → (k.val ≤ 11 → shapeOf k = 0) ∧ ((k.val = 18 ∨ k.val = 19) → shapeOf k = 2) ∧ (12 ≤ k.val → k.val ≤ 20 → k.val ≠ 18 → k.val ≠ 19 → shapeOf k = 1) ∧ (k.val = 27 → shapeOf k = 1) ∧
    (k.val = 21 → shapeOf k = 3) ∧ (22 ≤ k.val → k.val ≤ 25 → shapeOf k = 4) ∧ (k.val = 26 → shapeOf k = 5) ∧ (k.val = 28 → shapeOf k = 6) ∧ (k.val = 29 → shapeOf k = 7) := by decide +kernel
theorem valid0 {op : Int} (h1 : 1 ≤ op) (h2 : op ≤ 29) (hs : shapeOf op.toNat = 0) {rd : Int} (hrd : 0 ≤ rd ∧ rd < 32) {rs1 : Int} (hrs1 : 0 ≤ rs1 ∧ rs1 < 32) {rs2 : Int} (hrs2 : 0 ≤ rs2 ∧ rs2 < 32) : chkI op rd rs1 rs2 0 = 0 := by
  unfold chkI
  rw [if_neg (by omega), if_neg (by omega), hs]
  refine chk_ok ?_ ?_ ?_ ?_ ?_ ?_
  · exact bad_no (by omega) (by omega) (.inl (by decide))
  · exact bad_no (by omega) (by omega) (.inl (by decide))
  · exact bad_no (by omega) (by omega) (.inl (by decide))
  · show ¬ 0 < 0; omega
  · show ¬ 0 < 0; omega
  · show Int.tmod 0 1 = 0; exact Int.tmod_one _
theorem valid1 {op : Int} (h1 : 1 ≤ op) (h2 : op ≤ 29) (hs : shapeOf op.toNat = 1) {rd : Int} (hrd : 0 ≤ rd ∧ rd < 32) {rs1 : Int} (hrs1 : 0 ≤ rs1 ∧ rs1 < 32) {imm : Int} (hi0 : -2048 ≤ imm) (hi1 : imm ≤ 2047) : chkI op rd rs1 0 imm = 0 := by
  unfold chkI
  rw [if_neg (by omega), if_neg (by omega), hs]
  refine chk_ok ?_ ?_ ?_ ?_ ?_ ?_
  · exact bad_no (by omega) (by omega) (.inl (by decide))
  · exact bad_no (by omega) (by omega) (.inl (by decide))
  · exact bad_no (by omega) (by omega) (.inr (by decide))
  · show ¬ imm < -2048; omega
  · show ¬ 2047 < imm; omega
  · show Int.tmod imm 1 = 0; exact Int.tmod_one _
theorem valid2 {op : Int} (h1 : 1 ≤ op) (h2 : op ≤ 29) (hs : shapeOf op.toNat = 2) {rd : Int} (hrd : 0 ≤ rd ∧ rd < 32) {rs1 : Int} (hrs1 : 0 ≤ rs1 ∧ rs1 < 32) {imm : Int} (hi0 : 0 ≤ imm) (hi1 : imm ≤ 63) : chkI op rd rs1 0 imm = 0 := by
  unfold chkI
  rw [if_neg (by omega), if_neg (by omega), hs]
  refine chk_ok ?_ ?_ ?_ ?_ ?_ ?_
  · exact bad_no (by omega) (by omega) (.inl (by decide))
  · exact bad_no (by omega) (by omega) (.inl (by decide))
  · exact bad_no (by omega) (by omega) (.inr (by decide))
  · show ¬ imm < 0; omega
  · show ¬ 63 < imm; omega
  · show Int.tmod imm 1 = 0; exact Int.tmod_one _
theorem valid3 {op : Int} (h1 : 1 ≤ op) (h2 : op ≤ 29) (hs : shapeOf op.toNat = 3) {rs1 : Int} (hrs1 : 0 ≤ rs1 ∧ rs1 < 32) {rs2 : Int} (hrs2 : 0 ≤ rs2 ∧ rs2 < 32) {imm : Int} (hi0 : -2048 ≤ imm) (hi1 : imm ≤ 2047) : chkI op 0 rs1 rs2 imm = 0 := by
  unfold chkI
  rw [if_neg (by omega), if_neg (by omega), hs]
  refine chk_ok ?_ ?_ ?_ ?_ ?_ ?_
  · exact bad_no (by omega) (by omega) (.inr (by decide))
  · exact bad_no (by omega) (by omega) (.inl (by decide))
  · exact bad_no (by omega) (by omega) (.inl (by decide))
  · show ¬ imm < -2048; omega
  · show ¬ 2047 < imm; omega
  · show Int.tmod imm 1 = 0; exact Int.tmod_one _
theorem valid4 {op : Int} (h1 : 1 ≤ op) (h2 : op ≤ 29) (hs : shapeOf op.toNat = 4) {rs1 : Int} (hrs1 : 0 ≤ rs1 ∧ rs1 < 32) {rs2 : Int} (hrs2 : 0 ≤ rs2 ∧ rs2 < 32) {imm : Int} (hi0 : -4096 ≤ imm) (hi1 : imm ≤ 4092) (hi2 : imm % 4 = 0) : chkI op 0 rs1 rs2 imm = 0 := by
  unfold chkI
  rw [if_neg (by omega), if_neg (by omega), hs]
  refine chk_ok ?_ ?_ ?_ ?_ ?_ ?_
  · exact bad_no (by omega) (by omega) (.inr (by decide))
  · exact bad_no (by omega) (by omega) (.inl (by decide))
  · exact bad_no (by omega) (by omega) (.inl (by decide))
  · show ¬ imm < -4096; omega
  · show ¬ 4092 < imm; omega
  · show Int.tmod imm 4 = 0; rw [Int.tmod_eq_emod]; split <;> omega
theorem valid5 {op : Int} (h1 : 1 ≤ op) (h2 : op ≤ 29) (hs : shapeOf op.toNat = 5) {rd : Int} (hrd : 0 ≤ rd ∧ rd < 32) {imm : Int} (hi0 : -1048576 ≤ imm) (hi1 : imm ≤ 1048572) (hi2 : imm % 4 = 0) : chkI op rd 0 0 imm = 0 := by
  unfold chkI
  rw [if_neg (by omega), if_neg (by omega), hs]
  refine chk_ok ?_ ?_ ?_ ?_ ?_ ?_
  · exact bad_no (by omega) (by omega) (.inl (by decide))
  · exact bad_no (by omega) (by omega) (.inr (by decide))
  · exact bad_no (by omega) (by omega) (.inr (by decide))
  · show ¬ imm < -1048576; omega
  · show ¬ 1048572 < imm; omega
  · show Int.tmod imm 4 = 0; rw [Int.tmod_eq_emod]; split <;> omega
theorem valid6 {op : Int} (h1 : 1 ≤ op) (h2 : op ≤ 29) (hs : shapeOf op.toNat = 6) {rd : Int} (hrd : 0 ≤ rd ∧ rd < 32) {imm : Int} (hi0 : -524288 ≤ imm) (hi1 : imm ≤ 524287) : chkI op rd 0 0 imm = 0 := by
  unfold chkI
  rw [if_neg (by omega), if_neg (by omega), hs]
  refine chk_ok ?_ ?_ ?_ ?_ ?_ ?_
  · exact bad_no (by omega) (by omega) (.inl (by decide))
  · exact bad_no (by omega) (by omega) (.inr (by decide))
  · exact bad_no (by omega) (by omega) (.inr (by decide))
  · show ¬ imm < -524288; omega
  · show ¬ 524287 < imm; omega
  · show Int.tmod imm 1 = 0; exact Int.tmod_one _
theorem valid7 {op : Int} (h1 : 1 ≤ op) (h2 : op ≤ 29) (hs : shapeOf op.toNat = 7) : chkI op 0 0 0 0 = 0 := by
  unfold chkI
  rw [if_neg (by omega), if_neg (by omega), hs]
  refine chk_ok ?_ ?_ ?_ ?_ ?_ ?_
  · exact bad_no (by omega) (by omega) (.inr (by decide))
  · exact bad_no (by omega) (by omega) (.inr (by decide))
  · exact bad_no (by omega) (by omega) (.inr (by decide))
  · show ¬ 0 < 0; omega
  · show ¬ 0 < 0; omega
  · show Int.tmod 0 1 = 0; exact Int.tmod_one _
theorem shape_is (op : Int) (h1 : 1 ≤ op) (h2 : op ≤ 29) : (op ≤ 11 → shapeOf op.toNat = 0) ∧ ((op = 18 ∨ op = 19) → shapeOf op.toNat = 2) ∧ (12 ≤ op → op ≤ 20 → op ≠ 18 → op ≠ 19 → shapeOf op.toNat = 1) ∧ (op = 27 → shapeOf op.toNat = 1) ∧
    (op = 21 → shapeOf op.toNat = 3) ∧ (22 ≤ op → op ≤ 25 → shapeOf op.toNat = 4) ∧ (op = 26 → shapeOf op.toNat = 5) ∧ (op = 28 → shapeOf op.toNat = 6) ∧ (op = 29 → shapeOf op.toNat = 7) := by
  obtain ⟨a, b, c, d, e, f, g, h, i⟩ := shapes ⟨op.toNat, by omega⟩ (show 1 ≤ op.toNat by omega)
  dsimp only at a b c d e f g h i
  exact ⟨fun _ => a (by omega), fun _ => b (by omega), fun _ _ _ _ => c (by omega) (by omega) (by omega) (by omega), fun _ => d (by omega), fun _ => e (by omega), fun _ _ => f (by omega) (by omega), fun _ => g (by omega), fun _ => h (by omega), fun _ => i (by omega)⟩
end Tier
namespace Go.Proofs.YtjjpgkjjiooieaaDoor
open Go.RowKit Tier
theorem picked_any (n many : Int) (w : World) (hn : In n) (hm : 1 ≤ many) (hm2 : many ≤ 9223372036854775807) :
    Calls Tryd.prog 12 #[.int .i64 n, .int .i64 many] w fun e w' => e = .returned (.int .i64 (pickedI n many)) ∧ w = w' := by
  unfold In at hn
  by_cases h : n < 0
  · go_enter Tryd.func12, Tryd.ntmps12
    go_wp2_with fail
    go_ret
    refine ⟨ret_int ?_, rfl⟩
    unfold pickedI
    rw [if_pos h, ← Int.tmod_eq_emod_of_nonneg (by omega), Int.neg_tmod]
  · go_enter Tryd.func12, Tryd.ntmps12
    go_wp2_with fail
    go_ret
    refine ⟨ret_int ?_, rfl⟩
    unfold pickedI
    rw [if_neg (by omega)]
set_option maxRecDepth 100000 in
set_option maxHeartbeats 2000000 in
theorem rv_any (a b c d i : Int) (w : World) (ha : In a) (hb : In b) (hc : In c) (hd : In d) (hi : In i) :
    Calls Tryd.prog 16 #[.agg #[.int .i64 a, .int .i64 b, .int .i64 c, .int .i64 d, .int .i64 i]] w fun e w' => (∃ op rd rs1 rs2 imm : Int, e = .returned (.agg #[.int .i64 op, .int .i64 rd, .int .i64 rs1, .int .i64 rs2, .int .i64 imm]) ∧ chkI op rd rs1 rs2 imm = 0) ∧ Below w.heap.size w w' := by
  have p0 := picked_in a 29 (by omega)
  have p1 := picked_in b 32 (by omega)
  have p2 := picked_in c 32 (by omega)
  have p3 := picked_in d 32 (by omega)
  have q1 := picked_in i 64 (by omega)
  have q2 := picked_in i 4096 (by omega)
  have q3 := picked_in i 2048 (by omega)
  have q4 := picked_in i 524288 (by omega)
  have q5 := picked_in i 1048576 (by omega)
  have S := shape_is (1 + pickedI a 29) (by omega) (by omega)
  have HS := Lib.hid S
  clear S
  go_enter Tryd.func16, Tryd.ntmps16
  go_wp2_with (go_at_call 12; refine (picked_any _ _ _ (by assumption) (by omega) (by omega)).mono ?_; rintro e w' ⟨rfl, rfl⟩)
  · have hb := Below.refl w.heap.size w
    refine bodyPost_ret (v := .agg #[.int .i64 (1 + pickedI a 29), .int .i64 (pickedI b 32), .int .i64 (pickedI c 32), .int .i64 (pickedI d 32), .int .i64 0]) (by simp [results, Tryd.results16, go_sem]) rfl ⟨⟨_, _, _, _, _, rfl, ?_⟩, ?_⟩
    · simp only [ne_eq] at *
      exact valid0 (by omega) (by omega) (HS.out.1 (by omega)) p1 p2 p3
    · repeat (first | exact hb | exact Below.refl _ _ | apply Below.drew | apply below_drewN | refine Below.alloc ?_ (by first | omega | (simp; done) | (simp; omega)) _ | refine Below.setCell ?_ (by first | omega | (simp; done) | (simp; omega)) _)
  · have hb := Below.refl w.heap.size w
    refine bodyPost_ret (v := .agg #[.int .i64 (1 + pickedI a 29), .int .i64 (pickedI b 32), .int .i64 (pickedI c 32), .int .i64 0, .int .i64 (pickedI i 64)]) (by simp [results, Tryd.results16, go_sem]; omega) rfl ⟨⟨_, _, _, _, _, rfl, ?_⟩, ?_⟩
    · simp only [ne_eq] at *
      exact valid2 (by omega) (by omega) (HS.out.2.1 (by omega)) p1 p2 (by omega) (by omega)
    · repeat (first | exact hb | exact Below.refl _ _ | apply Below.drew | apply below_drewN | refine Below.alloc ?_ (by first | omega | (simp; done) | (simp; omega)) _ | refine Below.setCell ?_ (by first | omega | (simp; done) | (simp; omega)) _)
  · have hb := Below.refl w.heap.size w
    refine bodyPost_ret (v := .agg #[.int .i64 (1 + pickedI a 29), .int .i64 (pickedI b 32), .int .i64 (pickedI c 32), .int .i64 0, .int .i64 (pickedI i 64)]) (by simp [results, Tryd.results16, go_sem]) rfl ⟨⟨_, _, _, _, _, rfl, ?_⟩, ?_⟩
    · simp only [beq_iff_eq, ne_eq] at *
      exact valid2 (by omega) (by omega) (HS.out.2.1 (by omega)) p1 p2 (by omega) (by omega)
    · repeat (first | exact hb | exact Below.refl _ _ | apply Below.drew | apply below_drewN | refine Below.alloc ?_ (by first | omega | (simp; done) | (simp; omega)) _ | refine Below.setCell ?_ (by first | omega | (simp; done) | (simp; omega)) _)
  · have hb := Below.refl w.heap.size w
    refine bodyPost_ret (v := .agg #[.int .i64 (1 + pickedI a 29), .int .i64 (pickedI b 32), .int .i64 (pickedI c 32), .int .i64 0, .int .i64 (pickedI i 4096 - 2048)]) (by simp [results, Tryd.results16, go_sem]) rfl ⟨⟨_, _, _, _, _, rfl, ?_⟩, ?_⟩
    · simp only [beq_iff_eq, beq_eq_false_iff_ne, ne_eq] at *
      exact valid1 (by omega) (by omega) (HS.out.2.2.2.1 (by omega)) p1 p2 (by omega) (by omega)
    · repeat (first | exact hb | exact Below.refl _ _ | apply Below.drew | apply below_drewN | refine Below.alloc ?_ (by first | omega | (simp; done) | (simp; omega)) _ | refine Below.setCell ?_ (by first | omega | (simp; done) | (simp; omega)) _)
  · have hb := Below.refl w.heap.size w
    refine bodyPost_ret (v := .agg #[.int .i64 (1 + pickedI a 29), .int .i64 0, .int .i64 (pickedI c 32), .int .i64 (pickedI d 32), .int .i64 (pickedI i 4096 - 2048)]) (by simp [results, Tryd.results16, go_sem]) rfl ⟨⟨_, _, _, _, _, rfl, ?_⟩, ?_⟩
    · simp only [beq_iff_eq, beq_eq_false_iff_ne, ne_eq] at *
      exact valid3 (by omega) (by omega) (HS.out.2.2.2.2.1 (by omega)) p2 p3 (by omega) (by omega)
    · repeat (first | exact hb | exact Below.refl _ _ | apply Below.drew | apply below_drewN | refine Below.alloc ?_ (by first | omega | (simp; done) | (simp; omega)) _ | refine Below.setCell ?_ (by first | omega | (simp; done) | (simp; omega)) _)
  · have hb := Below.refl w.heap.size w
    refine bodyPost_ret (v := .agg #[.int .i64 (1 + pickedI a 29), .int .i64 0, .int .i64 (pickedI c 32), .int .i64 (pickedI d 32), .int .i64 (4 * pickedI i 2048 - 4096)]) (by simp [results, Tryd.results16, go_sem]) rfl ⟨⟨_, _, _, _, _, rfl, ?_⟩, ?_⟩
    · simp only [beq_eq_false_iff_ne, ne_eq] at *
      exact valid4 (by omega) (by omega) (HS.out.2.2.2.2.2.1 (by omega) (by omega)) p2 p3 (by omega) (by omega) (by omega)
    · repeat (first | exact hb | exact Below.refl _ _ | apply Below.drew | apply below_drewN | refine Below.alloc ?_ (by first | omega | (simp; done) | (simp; omega)) _ | refine Below.setCell ?_ (by first | omega | (simp; done) | (simp; omega)) _)
  · have hb := Below.refl w.heap.size w
    refine bodyPost_ret (v := .agg #[.int .i64 (1 + pickedI a 29), .int .i64 (pickedI b 32), .int .i64 0, .int .i64 0, .int .i64 (4 * pickedI i 524288 - 1048576)]) (by simp [results, Tryd.results16, go_sem]) rfl ⟨⟨_, _, _, _, _, rfl, ?_⟩, ?_⟩
    · simp only [beq_iff_eq, beq_eq_false_iff_ne, ne_eq] at *
      exact valid5 (by omega) (by omega) (HS.out.2.2.2.2.2.2.1 (by omega)) p1 (by omega) (by omega) (by omega)
    · repeat (first | exact hb | exact Below.refl _ _ | apply Below.drew | apply below_drewN | refine Below.alloc ?_ (by first | omega | (simp; done) | (simp; omega)) _ | refine Below.setCell ?_ (by first | omega | (simp; done) | (simp; omega)) _)
  · have hb := Below.refl w.heap.size w
    refine bodyPost_ret (v := .agg #[.int .i64 (1 + pickedI a 29), .int .i64 (pickedI b 32), .int .i64 0, .int .i64 0, .int .i64 (pickedI i 1048576 - 524288)]) (by simp [results, Tryd.results16, go_sem]) rfl ⟨⟨_, _, _, _, _, rfl, ?_⟩, ?_⟩
    · simp only [beq_iff_eq, beq_eq_false_iff_ne, ne_eq] at *
      exact valid6 (by omega) (by omega) (HS.out.2.2.2.2.2.2.2.1 (by omega)) p1 (by omega) (by omega)
    · repeat (first | exact hb | exact Below.refl _ _ | apply Below.drew | apply below_drewN | refine Below.alloc ?_ (by first | omega | (simp; done) | (simp; omega)) _ | refine Below.setCell ?_ (by first | omega | (simp; done) | (simp; omega)) _)
  · have hb := Below.refl w.heap.size w
    refine bodyPost_ret (v := .agg #[.int .i64 (1 + pickedI a 29), .int .i64 0, .int .i64 0, .int .i64 0, .int .i64 0]) (by simp [results, Tryd.results16, go_sem]) rfl ⟨⟨_, _, _, _, _, rfl, ?_⟩, ?_⟩
    · simp only [beq_eq_false_iff_ne, ne_eq] at *
      exact valid7 (by omega) (by omega) (HS.out.2.2.2.2.2.2.2.2 (by omega))
    · repeat (first | exact hb | exact Below.refl _ _ | apply Below.drew | apply below_drewN | refine Below.alloc ?_ (by first | omega | (simp; done) | (simp; omega)) _ | refine Below.setCell ?_ (by first | omega | (simp; done) | (simp; omega)) _)
  · have hb := Below.refl w.heap.size w
    refine bodyPost_ret (v := .agg #[.int .i64 (1 + pickedI a 29), .int .i64 (pickedI b 32), .int .i64 (pickedI c 32), .int .i64 0, .int .i64 (pickedI i 4096 - 2048)]) (by simp [results, Tryd.results16, go_sem]) rfl ⟨⟨_, _, _, _, _, rfl, ?_⟩, ?_⟩
    · simp only [beq_eq_false_iff_ne, ne_eq] at *
      exact valid1 (by omega) (by omega) (HS.out.2.2.1 (by omega) (by omega) (by omega) (by omega)) p1 p2 (by omega) (by omega)
    · repeat (first | exact hb | exact Below.refl _ _ | apply Below.drew | apply below_drewN | refine Below.alloc ?_ (by first | omega | (simp; done) | (simp; omega)) _ | refine Below.setCell ?_ (by first | omega | (simp; done) | (simp; omega)) _)
end Go.Proofs.YtjjpgkjjiooieaaDoor
