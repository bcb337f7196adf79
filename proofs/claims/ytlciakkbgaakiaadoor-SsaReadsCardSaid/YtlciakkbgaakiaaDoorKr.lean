/-
  The contract of keep.reads: what an instruction reads, as registers, and what it sets.
-/
import Derived.Test.YtlciakkbgaakiaaDoorSu1
import Derived.Test.YtlciakkbgaakiaaDoorSu2
import Derived.Test.YtlciakkbgaakiaaDoorShS
import Derived.Deep.RegionHeld3
import Derived.Deep.RegionWith
namespace Tier
open Go Go.RowKit
def rdL (x : Ins) (n : Int) : List Int :=
  if x.op = 1 ∨ x.op = 15 then [] else if x.op = 13 ∨ x.op = 16 ∨ x.op = 18 ∨ x.op = 19 then [x.a]
  else if x.op = 17 then [x.a, x.b].take n.toNat else [x.a, x.b]
def setR (x : Ins) : Int := if setsB x = true then x.dst else -1
end Tier
namespace Go.Proofs.YtlciakkbgaakiaaDoor
open Go.RowKit Tier
theorem OwnI.lies {W : World} {B k n : Nat} {l : List Int} (hb : W.heap[k]? = some (.cells (l.map (Value.int .i64)).toArray 3 (0, 0))) (hk : B ≤ k) (hn : n ≤ l.length) (hl : l.length ≤ 100000000) : OwnI W B (.slice (some ⟨k, 0, none⟩) n l.length) (l.take n) := by
  have e : (l.take n).length = n := by simp; omega
  unfold OwnI
  rw [e]
  exact ⟨by simp; omega, .inr ⟨k, l.length, _, rfl, hk, hb, hn, by unfold maxLen; omega, by simp, by simp [List.map_take]⟩⟩
theorem heap_alloc_new3 (w : World) (o1 o2 o3 : Obj) : (((w.alloc o1).alloc o2).alloc o3).heap[w.heap.size + 1 + 1]? = some o3 := by
  have := heap_alloc_new ((w.alloc o1).alloc o2) o3
  simpa using this
set_option maxRecDepth 100000 in
set_option maxHeartbeats 4000000 in
theorem kreads_any (p : List Fnc) (A : Option Addr) (cap : Nat) (x : Ins) (regs n : Int) (w : World) (hp : ProgAt w (.slice A p.length cap) p) (hx : InsOk x regs n p.length) (hpar : ∀ f ∈ p, 0 ≤ f.params ∧ f.params ≤ 2) :
    Calls Tryd.prog 22 #[.agg #[.slice A p.length cap], .agg #[.int .i64 x.op, .int .i64 x.dst, .int .i64 x.a, .int .i64 x.b, .int .i64 x.imm]] w fun e w' =>
      (∃ v, e = .returned (.tuple #[v, .int .i64 (setR x)]) ∧ OwnI w' w.heap.size v (rdL x (parOf p x))) ∧ Below w.heap.size w w' := by
  have HX := Lib.hid hx
  have q1 := hx.op1
  have q2 := hx.op2
  obtain ⟨op, dst, a, b, imm⟩ := x
  dsimp only at *
  have hcase : op = 1 ∨ op = 15 ∨ op = 13 ∨ op = 16 ∨ op = 18 ∨ op = 19 ∨ op = 17 ∨ op = 14 ∨ (2 ≤ op ∧ op ≤ 12) := by omega
  have HP := Lib.hid hp
  have HPAR := Lib.hid hpar
  clear hx hp hpar
  rcases hcase with rfl | rfl | rfl | rfl | rfl | rfl | rfl | rfl | ⟨n1, n2⟩
  · go_enter Tryd.func22, Tryd.ntmps22
    go_wp2_with fail
    go_quiet (fail)
    go_wp2_with fail
    refine bodyPost_ret (v := .tuple #[.slice none 0 0, .int .i64 dst]) (by simp [results, Tryd.results22, go_sem]) rfl ⟨⟨.slice none 0 0, by simp [setR, setsB], ?_⟩, ?_⟩
    · simpa [rdL] using OwnI.nil _ _
    · repeat (first | exact hb | exact Below.refl _ _ | apply Below.drew | apply below_drewN | refine Below.alloc ?_ (by first | omega | (simp; done) | (simp; omega)) _ | refine Below.setCell ?_ (by first | omega | (simp; done) | (simp; omega)) _)
  · go_enter Tryd.func22, Tryd.ntmps22
    go_wp2_with fail
    refine bodyPost_ret (v := .tuple #[.slice none 0 0, .int .i64 (-1)]) (by simp [results, Tryd.results22, go_sem]) rfl ⟨⟨.slice none 0 0, by simp [setR, setsB], ?_⟩, ?_⟩
    · simpa [rdL] using OwnI.nil _ _
    · repeat (first | exact hb | exact Below.refl _ _ | apply Below.drew | apply below_drewN | refine Below.alloc ?_ (by first | omega | (simp; done) | (simp; omega)) _ | refine Below.setCell ?_ (by first | omega | (simp; done) | (simp; omega)) _)
  · go_enter Tryd.func22, Tryd.ntmps22
    go_wp2_with fail
    go_region_held3 (fun w' => w'.cell? ⟨w.heap.size + 1, 1, none⟩ = some (.int .i64 dst) ∧ w'.cell? ⟨w.heap.size + 1, 2, none⟩ = some (.int .i64 a) ∧ w'.cell? ⟨w.heap.size + 1, 3, none⟩ = some (.int .i64 b)) (first | (refine ⟨?_, ?_, ?_⟩ <;> exact cell_block (heap_alloc_new2 w _ _) _) | (simp_all [go_sem]; done)) (first | fail)
    all_goals go_wp2_with fail
    all_goals (
      refine bodyPost_ret (v := .tuple #[.slice (some ⟨w.heap.size + 1 + 1, 0, none⟩) 1 1, .int .i64 dst]) (by simp [results, Tryd.results22, go_sem]) rfl ⟨⟨.slice (some ⟨w.heap.size + 1 + 1, 0, none⟩) 1 1, by simp [setR, setsB], ?_⟩, ?_⟩
      · exact OwnI.lies (n := 1) (l := [a]) (heap_alloc_new3 w _ _ _) (by omega) (by simp) (by simp)
      · repeat (first | exact hb | exact Below.refl _ _ | apply Below.drew | apply below_drewN | refine Below.alloc ?_ (by first | omega | (simp; done) | (simp; omega)) _ | refine Below.setCell ?_ (by first | omega | (simp; done) | (simp; omega)) _))
  · go_enter Tryd.func22, Tryd.ntmps22
    go_wp2_with fail
    refine bodyPost_ret (v := .tuple #[.slice (some ⟨w.heap.size + 1 + 1, 0, none⟩) 1 1, .int .i64 (-1)]) (by simp [results, Tryd.results22, go_sem]) rfl ⟨⟨.slice (some ⟨w.heap.size + 1 + 1, 0, none⟩) 1 1, by simp [setR, setsB], ?_⟩, ?_⟩
    · exact OwnI.lies (n := 1) (l := [a]) (heap_alloc_new3 w _ _ _) (by omega) (by simp) (by simp)
    · repeat (first | exact hb | exact Below.refl _ _ | apply Below.drew | apply below_drewN | refine Below.alloc ?_ (by first | omega | (simp; done) | (simp; omega)) _ | refine Below.setCell ?_ (by first | omega | (simp; done) | (simp; omega)) _)
  · go_enter Tryd.func22, Tryd.ntmps22
    go_wp2_with fail
    go_region_held3 (fun w' => w'.cell? ⟨w.heap.size + 1, 1, none⟩ = some (.int .i64 dst) ∧ w'.cell? ⟨w.heap.size + 1, 2, none⟩ = some (.int .i64 a) ∧ w'.cell? ⟨w.heap.size + 1, 3, none⟩ = some (.int .i64 b)) (first | (refine ⟨?_, ?_, ?_⟩ <;> exact cell_block (heap_alloc_new2 w _ _) _) | (simp_all [go_sem]; done)) (first | fail)
    all_goals go_wp2_with fail
    all_goals (
      refine bodyPost_ret (v := .tuple #[.slice (some ⟨w.heap.size + 1 + 1, 0, none⟩) 1 1, .int .i64 dst]) (by simp [results, Tryd.results22, go_sem]) rfl ⟨⟨.slice (some ⟨w.heap.size + 1 + 1, 0, none⟩) 1 1, by simp [setR, setsB], ?_⟩, ?_⟩
      · exact OwnI.lies (n := 1) (l := [a]) (heap_alloc_new3 w _ _ _) (by omega) (by simp) (by simp)
      · repeat (first | exact hb | exact Below.refl _ _ | apply Below.drew | apply below_drewN | refine Below.alloc ?_ (by first | omega | (simp; done) | (simp; omega)) _ | refine Below.setCell ?_ (by first | omega | (simp; done) | (simp; omega)) _))
  · go_enter Tryd.func22, Tryd.ntmps22
    go_wp2_with fail
    refine bodyPost_ret (v := .tuple #[.slice (some ⟨w.heap.size + 1 + 1, 0, none⟩) 1 1, .int .i64 (-1)]) (by simp [results, Tryd.results22, go_sem]) rfl ⟨⟨.slice (some ⟨w.heap.size + 1 + 1, 0, none⟩) 1 1, by simp [setR, setsB], ?_⟩, ?_⟩
    · exact OwnI.lies (n := 1) (l := [a]) (heap_alloc_new3 w _ _ _) (by omega) (by simp) (by simp)
    · repeat (first | exact hb | exact Below.refl _ _ | apply Below.drew | apply below_drewN | refine Below.alloc ?_ (by first | omega | (simp; done) | (simp; omega)) _ | refine Below.setCell ?_ (by first | omega | (simp; done) | (simp; omega)) _)
  · have hi := HX.out.call rfl
    dsimp only at hi
    obtain ⟨m, rfl⟩ := Int.eq_ofNat_of_zero_le hi.1
    have hm : m < p.length := by omega
    obtain ⟨f, hf⟩ : ∃ f, p[m]? = some f := ⟨p[m], List.getElem?_eq_getElem hm⟩
    obtain ⟨A0, cap0, hA0, hA⟩ := HP.out.slice
    simp only [Value.slice.injEq, true_and] at hA0
    obtain ⟨g, hAg, hg, hfn⟩ := hA (by omega)
    obtain ⟨rfl, rfl⟩ := hA0
    obtain ⟨u, -, c0, -, -⟩ := hfn m f hf
    have hpp := HPAR.out f (List.mem_of_getElem? hf)
    have HPO := Lib.hid (show parOf p ⟨17, dst, a, b, (m : Int)⟩ = f.params by simp [parOf, hf])
    subst hAg
    have hm0 : (0 : Int) ≤ m := by omega
    have hm1 : (m : Int) < p.length := by omega
    clear hfn hA hf hm hi
    obtain ⟨fp, fr, fc⟩ := f
    dsimp only at *
    have hfp : fp = 0 ∨ fp = 1 ∨ fp = 2 := by omega
    generalize p.length = N at *
    have j0 : ∀ (x0 x1 x2 : Value) (w : World), (Instr.index 162 (.agg #[x0, x1, x2]) (.int .i64 0)).run Tryd.prog w = .ok x0 w := fun _ _ _ _ => by kernel_rfl
    have j1 : ∀ (x0 x1 x2 : Value) (w : World), (Instr.index 162 (.agg #[x0, x1, x2]) (.int .i64 1)).run Tryd.prog w = .ok x1 w := fun _ _ _ _ => by kernel_rfl
    have j2 : ∀ (x0 x1 x2 : Value) (w : World), (Instr.index 162 (.agg #[x0, x1, x2]) (.int .i64 2)).run Tryd.prog w = .ok x2 w := fun _ _ _ _ => by kernel_rfl
    have pq : ∀ i, ((w.alloc (.cells #[.slice (some ⟨g, 0, none⟩) N cap] 25)).alloc (.cells #[.int .i64 17, .int .i64 dst, .int .i64 a, .int .i64 b, .int .i64 (m : Int)] 31)).cell? ⟨w.heap.size, i, none⟩ = #[Value.slice (some ⟨g, 0, none⟩) N cap][i]? := cell_block (t := 25) (f := (0, 0)) (by rw [Below.heap_alloc _ _ _ (by simp)]; exact heap_alloc_new _ _)
    have gq := (((Below.refl w.heap.size w).alloc (Nat.le_refl _) (.cells #[.slice (some ⟨g, 0, none⟩) N cap] 25)).alloc (by simp) (.cells #[.int .i64 17, .int .i64 dst, .int .i64 a, .int .i64 b, .int .i64 (m : Int)] 31)).cell (p := ⟨g, m * 3, none⟩) hg |>.trans c0
    rcases hfp with rfl | rfl | rfl
    · go_enter Tryd.func22, Tryd.ntmps22
      go_wp2_with fail
      skip
      go_region_held3 (fun w' => w'.cell? ⟨w.heap.size + 1, 1, none⟩ = some (.int .i64 dst) ∧ w'.cell? ⟨w.heap.size + 1, 2, none⟩ = some (.int .i64 a) ∧ w'.cell? ⟨w.heap.size + 1, 3, none⟩ = some (.int .i64 b) ∧ w'.cell? ⟨w.heap.size + 1, 4, none⟩ = some (.int .i64 (m : Int)) ∧ w'.cell? ⟨w.heap.size, 0, none⟩ = some (.slice (some ⟨g, 0, none⟩) N cap) ∧ w'.cell? ⟨g, m * 3, none⟩ = some (.int .i64 0)) (first | (refine ⟨?_, ?_, ?_, ?_, ?_, ?_⟩ <;> first | exact cell_block (heap_alloc_new2 w _ _) _ | exact pq _ | exact gq | exact (((Below.refl _ _).alloc (Nat.le_refl _) _).cell (p := ⟨w.heap.size + 1, _, none⟩) (by simp)).trans (cell_block (heap_alloc_new2 w _ _) _) | exact (((Below.refl _ _).alloc (Nat.le_refl _) _).cell (p := ⟨w.heap.size, _, none⟩) (by simp; omega)).trans (pq _) | exact (((Below.refl _ _).alloc (Nat.le_refl _) _).cell (p := ⟨g, _, none⟩) (by simp; omega)).trans gq) | (simp_all [go_sem]; done)) (first | fail)
      all_goals go_wp2_with fail
      all_goals (
        refine bodyPost_ret (v := .tuple #[.slice (some ⟨w.heap.size + 1 + 1, 0, none⟩) 0 2, .int .i64 dst]) (by simp [results, Tryd.results22, go_sem]) rfl ⟨⟨.slice (some ⟨w.heap.size + 1 + 1, 0, none⟩) 0 2, by simp [setR, setsB], ?_⟩, ?_⟩
        · rw [HPO.out]; exact OwnI.lies (n := 0) (l := [a, b]) (heap_alloc_new3 w _ _ _) (by omega) (by simp) (by simp)
        · repeat (first | exact hb | exact Below.refl _ _ | apply Below.drew | apply below_drewN | refine Below.alloc ?_ (by first | omega | (simp; done) | (simp; omega)) _ | refine Below.setCell ?_ (by first | omega | (simp; done) | (simp; omega)) _))
    · go_enter Tryd.func22, Tryd.ntmps22
      go_wp2_with fail
      skip
      go_region_held3 (fun w' => w'.cell? ⟨w.heap.size + 1, 1, none⟩ = some (.int .i64 dst) ∧ w'.cell? ⟨w.heap.size + 1, 2, none⟩ = some (.int .i64 a) ∧ w'.cell? ⟨w.heap.size + 1, 3, none⟩ = some (.int .i64 b) ∧ w'.cell? ⟨w.heap.size + 1, 4, none⟩ = some (.int .i64 (m : Int)) ∧ w'.cell? ⟨w.heap.size, 0, none⟩ = some (.slice (some ⟨g, 0, none⟩) N cap) ∧ w'.cell? ⟨g, m * 3, none⟩ = some (.int .i64 1)) (first | (refine ⟨?_, ?_, ?_, ?_, ?_, ?_⟩ <;> first | exact cell_block (heap_alloc_new2 w _ _) _ | exact pq _ | exact gq | exact (((Below.refl _ _).alloc (Nat.le_refl _) _).cell (p := ⟨w.heap.size + 1, _, none⟩) (by simp)).trans (cell_block (heap_alloc_new2 w _ _) _) | exact (((Below.refl _ _).alloc (Nat.le_refl _) _).cell (p := ⟨w.heap.size, _, none⟩) (by simp; omega)).trans (pq _) | exact (((Below.refl _ _).alloc (Nat.le_refl _) _).cell (p := ⟨g, _, none⟩) (by simp; omega)).trans gq) | (simp_all [go_sem]; done)) (first | fail)
      all_goals go_wp2_with fail
      all_goals (
        refine bodyPost_ret (v := .tuple #[.slice (some ⟨w.heap.size + 1 + 1, 0, none⟩) 1 2, .int .i64 dst]) (by simp [results, Tryd.results22, go_sem]) rfl ⟨⟨.slice (some ⟨w.heap.size + 1 + 1, 0, none⟩) 1 2, by simp [setR, setsB], ?_⟩, ?_⟩
        · rw [HPO.out]; exact OwnI.lies (n := 1) (l := [a, b]) (heap_alloc_new3 w _ _ _) (by omega) (by simp) (by simp)
        · repeat (first | exact hb | exact Below.refl _ _ | apply Below.drew | apply below_drewN | refine Below.alloc ?_ (by first | omega | (simp; done) | (simp; omega)) _ | refine Below.setCell ?_ (by first | omega | (simp; done) | (simp; omega)) _))
    · go_enter Tryd.func22, Tryd.ntmps22
      go_wp2_with fail
      skip
      go_region_held3 (fun w' => w'.cell? ⟨w.heap.size + 1, 1, none⟩ = some (.int .i64 dst) ∧ w'.cell? ⟨w.heap.size + 1, 2, none⟩ = some (.int .i64 a) ∧ w'.cell? ⟨w.heap.size + 1, 3, none⟩ = some (.int .i64 b) ∧ w'.cell? ⟨w.heap.size + 1, 4, none⟩ = some (.int .i64 (m : Int)) ∧ w'.cell? ⟨w.heap.size, 0, none⟩ = some (.slice (some ⟨g, 0, none⟩) N cap) ∧ w'.cell? ⟨g, m * 3, none⟩ = some (.int .i64 2)) (first | (refine ⟨?_, ?_, ?_, ?_, ?_, ?_⟩ <;> first | exact cell_block (heap_alloc_new2 w _ _) _ | exact pq _ | exact gq | exact (((Below.refl _ _).alloc (Nat.le_refl _) _).cell (p := ⟨w.heap.size + 1, _, none⟩) (by simp)).trans (cell_block (heap_alloc_new2 w _ _) _) | exact (((Below.refl _ _).alloc (Nat.le_refl _) _).cell (p := ⟨w.heap.size, _, none⟩) (by simp; omega)).trans (pq _) | exact (((Below.refl _ _).alloc (Nat.le_refl _) _).cell (p := ⟨g, _, none⟩) (by simp; omega)).trans gq) | (simp_all [go_sem]; done)) (first | fail)
      all_goals go_wp2_with fail
      all_goals (
        refine bodyPost_ret (v := .tuple #[.slice (some ⟨w.heap.size + 1 + 1, 0, none⟩) 2 2, .int .i64 dst]) (by simp [results, Tryd.results22, go_sem]) rfl ⟨⟨.slice (some ⟨w.heap.size + 1 + 1, 0, none⟩) 2 2, by simp [setR, setsB], ?_⟩, ?_⟩
        · rw [HPO.out]; exact OwnI.lies (n := 2) (l := [a, b]) (heap_alloc_new3 w _ _ _) (by omega) (by simp) (by simp)
        · repeat (first | exact hb | exact Below.refl _ _ | apply Below.drew | apply below_drewN | refine Below.alloc ?_ (by first | omega | (simp; done) | (simp; omega)) _ | refine Below.setCell ?_ (by first | omega | (simp; done) | (simp; omega)) _))
  · go_enter Tryd.func22, Tryd.ntmps22
    go_wp2_with fail
    refine bodyPost_ret (v := .tuple #[.slice (some ⟨w.heap.size + 1 + 1, 0, none⟩) 2 2, .int .i64 (-1)]) (by simp [results, Tryd.results22, go_sem]) rfl ⟨⟨.slice (some ⟨w.heap.size + 1 + 1, 0, none⟩) 2 2, by simp [setR, setsB], ?_⟩, ?_⟩
    · exact OwnI.lies (n := 2) (l := [a, b]) (heap_alloc_new3 w _ _ _) (by omega) (by simp) (by simp)
    · repeat (first | exact hb | exact Below.refl _ _ | apply Below.drew | apply below_drewN | refine Below.alloc ?_ (by first | omega | (simp; done) | (simp; omega)) _ | refine Below.setCell ?_ (by first | omega | (simp; done) | (simp; omega)) _)
  · have m1 : (op == 1) = false := by simp; omega
    go_enter Tryd.func22, Tryd.ntmps22
    go_wp2_with fail
    go_region_held3 (fun w' => w'.cell? ⟨w.heap.size + 1, 1, none⟩ = some (.int .i64 dst) ∧ w'.cell? ⟨w.heap.size + 1, 2, none⟩ = some (.int .i64 a) ∧ w'.cell? ⟨w.heap.size + 1, 3, none⟩ = some (.int .i64 b)) (first | (refine ⟨?_, ?_, ?_⟩ <;> exact cell_block (heap_alloc_new2 w _ _) _) | (simp_all [go_sem]; done)) (first | fail)
    all_goals go_wp2_with fail
    all_goals (
      refine bodyPost_ret (v := .tuple #[.slice (some ⟨w.heap.size + 1 + 1, 0, none⟩) 2 2, .int .i64 dst]) (by simp [results, Tryd.results22, go_sem]) rfl ⟨⟨.slice (some ⟨w.heap.size + 1 + 1, 0, none⟩) 2 2, by simp [setR, setsB]; omega, ?_⟩, ?_⟩
      · rw [show rdL ⟨op, dst, a, b, imm⟩ (parOf p ⟨op, dst, a, b, imm⟩) = [a, b] from by unfold rdL; dsimp only; rw [if_neg (by omega), if_neg (by omega), if_neg (by omega)]]; exact OwnI.lies (n := 2) (l := [a, b]) (heap_alloc_new3 w _ _ _) (by omega) (by simp) (by simp)
      · repeat (first | exact hb | exact Below.refl _ _ | apply Below.drew | apply below_drewN | refine Below.alloc ?_ (by first | omega | (simp; done) | (simp; omega)) _ | refine Below.setCell ?_ (by first | omega | (simp; done) | (simp; omega)) _))
end Go.Proofs.YtlciakkbgaakiaaDoor
