/-
  The contract of the machine's do: one instruction.
-/
import Derived.Test.YtjjpgkjjiooieaaDoorCp1
import Derived.Deep.RegionHeld3
import Derived.Deep.RegionWith
namespace Go.Proofs.YtjjpgkjjiooieaaDoor
open Go.RowKit Tier
theorem zz_lt {w wz : World} {x0 x1 x2 x3 x4 : Value} (h : ∀ i, wz.cell? ⟨w.heap.size, i, none⟩ = #[x0, x1, x2, x3, x4][i]?) : w.heap.size < wz.heap.size := World.block_lt_of_cell? wz ⟨w.heap.size, 0, none⟩ (h 0)
/-- What an instruction does: the machine behind it, where it goes on, the error. -/
def doM (c : Cpu) (op rd rs1 rs2 imm : Int) : Cpu × Int × Int :=
  let a := c.reg rs1
  let b := c.reg rs2
  if op ≤ 11 then (c.put rd (arM op a b), c.pc + 1, 0)
  else if op ≤ 19 then (c.put rd (arM op a imm), c.pc + 1, 0)
  else if op = 20 then (if wordOk (wrap64 (a + imm)) = true then (c.put rd (c.data.getD (wrap64 (a + imm) / 8).toNat 0), c.pc + 1, 0) else (c, 0, 2))
  else if op = 21 then (if wordOk (wrap64 (a + imm)) = true then ({ c with data := c.data.set (wrap64 (a + imm) / 8).toNat b }, c.pc + 1, 0) else (c, 0, 2))
  else if op ≤ 25 then (c, (if brM op a b = true then c.pc + imm.tdiv 4 else c.pc + 1), 0)
  else if op = 26 then (c.put rd (4 * (c.pc + 1)), c.pc + imm.tdiv 4, 0)
  else if op = 27 then (if (bits .andNot .i64 (wrap64 (a + imm)) 1).tmod 4 = 0 then (c.put rd (4 * (c.pc + 1)), wrap64 ((bits .andNot .i64 (wrap64 (a + imm)) 1).tdiv 4), 0) else (c, 0, 5))
  else if op = 28 then (c.put rd (imm * 4096), c.pc + 1, 0)
  else ({ c with halted := true }, c.pc, 0)
set_option maxRecDepth 100000 in
set_option maxHeartbeats 4000000 in
theorem do_1 (b : Nat) (t : TypeId) (c : Cpu) (op rd rs1 rs2 imm : Int) (w : World) (hm : MachAt w b t c) (_o1 : 1 ≤ op) (o2 : op ≤ 11) (r0 : 0 ≤ rd) (r1 : rd < 32) (s0 : 0 ≤ rs1) (s1 : rs1 < 32) (t0 : 0 ≤ rs2) (t1 : rs2 < 32) (p0 : 0 ≤ c.pc) (p1 : c.pc ≤ 40000) (_m0 : -2000000 ≤ imm) (_m1 : imm ≤ 2000000) :
    Calls Tryd.prog 25 #[.pointer (some ⟨b, 0, none⟩), .agg #[.int .i64 op, .int .i64 rd, .int .i64 rs1, .int .i64 rs2, .int .i64 imm]] w fun e w' =>
      e = .returned (.tuple #[.int .i64 (doM c op rd rs1 rs2 imm).2.1, .int .i64 (doM c op rd rs1 rs2 imm).2.2]) ∧ MachAt w' b t (doM c op rd rs1 rs2 imm).1 ∧ Below b w w' := by
  have HM := Lib.hid hm
  have hl := hm.lt
  have qa := hm.reg s0 s1
  have qb := hm.reg t0 t1
  have qp := hm.pc
  have HD := Lib.hid (show doM c op rd rs1 rs2 imm = (c.put rd (arM op (c.reg rs1) (c.reg rs2)), c.pc + 1, 0) by unfold doM; dsimp only; rw [if_pos o2])
  clear hm
  go_enter Tryd.func25, Tryd.ntmps25
  go_wp2_with fail
  go_quiet (fail)
  go_wp2_with fail
  go_region_held3 (fun w' => w'.cell? ⟨w.heap.size, 0, none⟩ = some (.int .i64 op) ∧ w'.cell? ⟨w.heap.size, 1, none⟩ = some (.int .i64 rd)) (refine ⟨?_, ?_⟩ <;> first | exact qz _ | exact cell_block (heap_alloc_new w _) _) (first | (go_at_call 30; go_must (refine (arith_any _ _ _ _).mono ?_; rintro e w' ⟨rfl, rfl⟩)) | (go_at_call 29; go_must (refine (put_any b t c rd _ _ (HM.out.keeps (B := w.heap.size) (by have hb := Below.refl w.heap.size w; repeat (first | exact hb | exact Below.refl _ _ | apply Below.drew | apply below_drewN | refine Below.alloc ?_ (by first | omega | (simp; done) | (simp; omega)) _ | refine Below.setCell ?_ (by first | omega | (simp; done) | (simp; omega)) _)) hl) r0 r1).mono ?_; rintro e wz ⟨rfl, hwz⟩; have qz : ∀ i, wz.cell? ⟨w.heap.size, i, none⟩ = #[Value.int .i64 op, .int .i64 rd, .int .i64 rs1, .int .i64 rs2, .int .i64 imm][i]? := cell_block (t := 27) (f := (0, 0)) (by rw [hwz]; exact (putW_block _ _ (by omega)).trans (heap_alloc_new w _)); have HZ := Lib.hid (show MachAt wz b t (c.put rd (arM op (c.reg rs1) (c.reg rs2))) by rw [hwz]; exact putW_mach (HM.out.keeps (B := w.heap.size) (by have hb := Below.refl w.heap.size w; repeat (first | exact hb | exact Below.refl _ _ | apply Below.drew | apply below_drewN | refine Below.alloc ?_ (by first | omega | (simp; done) | (simp; omega)) _ | refine Below.setCell ?_ (by first | omega | (simp; done) | (simp; omega)) _)) hl) _ r0 r1); have qpz : wz.cell? ⟨b, 32, none⟩ = some (.int .i64 c.pc) := (by have h := HZ.out.pc; rw [Cpu.put_pc] at h; exact h); have zwz : w.heap.size < wz.heap.size := zz_lt qz; have zbz : b < wz.heap.size := (by omega); have HB := Lib.hid (show Below b w wz by rw [hwz]; refine Below.trans ?_ (putW_below _ _); have hb := Below.refl b w; repeat (first | exact hb | exact Below.refl _ _ | apply Below.drew | apply below_drewN | refine Below.alloc ?_ (by first | omega | (simp; done) | (simp; omega)) _ | refine Below.setCell ?_ (by first | omega | (simp; done) | (simp; omega)) _)); clear hwz)))
  all_goals go_wp2_with fail
  all_goals refine bodyPost_ret (v := .tuple #[.int .i64 (c.pc + 1), .int .i64 0]) (by simp [results, Tryd.results25, go_sem]) rfl ⟨by rw [HD.out], by rw [HD.out]; exact HZ.out, HB.out⟩
set_option maxRecDepth 100000 in
set_option maxHeartbeats 4000000 in
theorem do_2 (b : Nat) (t : TypeId) (c : Cpu) (op rd rs1 rs2 imm : Int) (w : World) (hm : MachAt w b t c) (o1 : 12 ≤ op) (o2 : op ≤ 19) (r0 : 0 ≤ rd) (r1 : rd < 32) (s0 : 0 ≤ rs1) (s1 : rs1 < 32) (t0 : 0 ≤ rs2) (t1 : rs2 < 32) (p0 : 0 ≤ c.pc) (p1 : c.pc ≤ 40000) (_m0 : -2000000 ≤ imm) (_m1 : imm ≤ 2000000) :
    Calls Tryd.prog 25 #[.pointer (some ⟨b, 0, none⟩), .agg #[.int .i64 op, .int .i64 rd, .int .i64 rs1, .int .i64 rs2, .int .i64 imm]] w fun e w' =>
      e = .returned (.tuple #[.int .i64 (doM c op rd rs1 rs2 imm).2.1, .int .i64 (doM c op rd rs1 rs2 imm).2.2]) ∧ MachAt w' b t (doM c op rd rs1 rs2 imm).1 ∧ Below b w w' := by
  have HM := Lib.hid hm
  have hl := hm.lt
  have qa := hm.reg s0 s1
  have qb := hm.reg t0 t1
  have qp := hm.pc
  have HD := Lib.hid (show doM c op rd rs1 rs2 imm = (c.put rd (arM op (c.reg rs1) imm), c.pc + 1, 0) by unfold doM; dsimp only; rw [if_neg (by omega), if_pos o2])
  have o3 : ¬ op ≤ 11 := by omega
  clear hm
  go_enter Tryd.func25, Tryd.ntmps25
  go_wp2_with fail
  go_quiet (fail)
  go_wp2_with fail
  go_region_held3 (fun w' => w'.cell? ⟨w.heap.size, 0, none⟩ = some (.int .i64 op) ∧ w'.cell? ⟨w.heap.size, 1, none⟩ = some (.int .i64 rd) ∧ w'.cell? ⟨w.heap.size, 4, none⟩ = some (.int .i64 imm)) (refine ⟨?_, ?_, ?_⟩ <;> first | exact qz _ | exact cell_block (heap_alloc_new w _) _) (first | (go_at_call 30; go_must (refine (arith_any _ _ _ _).mono ?_; rintro e w' ⟨rfl, rfl⟩)) | (go_at_call 29; go_must (refine (put_any b t c rd _ _ (HM.out.keeps (B := w.heap.size) (by have hb := Below.refl w.heap.size w; repeat (first | exact hb | exact Below.refl _ _ | apply Below.drew | apply below_drewN | refine Below.alloc ?_ (by first | omega | (simp; done) | (simp; omega)) _ | refine Below.setCell ?_ (by first | omega | (simp; done) | (simp; omega)) _)) hl) r0 r1).mono ?_; rintro e wz ⟨rfl, hwz⟩; have qz : ∀ i, wz.cell? ⟨w.heap.size, i, none⟩ = #[Value.int .i64 op, .int .i64 rd, .int .i64 rs1, .int .i64 rs2, .int .i64 imm][i]? := cell_block (t := 27) (f := (0, 0)) (by rw [hwz]; exact (putW_block _ _ (by omega)).trans (heap_alloc_new w _)); have HZ := Lib.hid (show MachAt wz b t (c.put rd (arM op (c.reg rs1) imm)) by rw [hwz]; exact putW_mach (HM.out.keeps (B := w.heap.size) (by have hb := Below.refl w.heap.size w; repeat (first | exact hb | exact Below.refl _ _ | apply Below.drew | apply below_drewN | refine Below.alloc ?_ (by first | omega | (simp; done) | (simp; omega)) _ | refine Below.setCell ?_ (by first | omega | (simp; done) | (simp; omega)) _)) hl) _ r0 r1); have qpz : wz.cell? ⟨b, 32, none⟩ = some (.int .i64 c.pc) := (by have h := HZ.out.pc; rw [Cpu.put_pc] at h; exact h); have zwz : w.heap.size < wz.heap.size := zz_lt qz; have zbz : b < wz.heap.size := (by omega); have HB := Lib.hid (show Below b w wz by rw [hwz]; refine Below.trans ?_ (putW_below _ _); have hb := Below.refl b w; repeat (first | exact hb | exact Below.refl _ _ | apply Below.drew | apply below_drewN | refine Below.alloc ?_ (by first | omega | (simp; done) | (simp; omega)) _ | refine Below.setCell ?_ (by first | omega | (simp; done) | (simp; omega)) _)); clear hwz)))
  all_goals go_wp2_with fail
  all_goals refine bodyPost_ret (v := .tuple #[.int .i64 (c.pc + 1), .int .i64 0]) (by simp [results, Tryd.results25, go_sem]) rfl ⟨by rw [HD.out], by rw [HD.out]; exact HZ.out, HB.out⟩
set_option maxRecDepth 100000 in
set_option maxHeartbeats 4000000 in
theorem do_3 (b : Nat) (t : TypeId) (c : Cpu) (op rd rs1 rs2 imm : Int) (w : World) (hm : MachAt w b t c) (ho : op = 20) (hw : wordOk (wrap64 (c.reg rs1 + imm)) = true) (r0 : 0 ≤ rd) (r1 : rd < 32) (s0 : 0 ≤ rs1) (s1 : rs1 < 32) (t0 : 0 ≤ rs2) (t1 : rs2 < 32) (p0 : 0 ≤ c.pc) (p1 : c.pc ≤ 40000) (_m0 : -2000000 ≤ imm) (_m1 : imm ≤ 2000000) :
    Calls Tryd.prog 25 #[.pointer (some ⟨b, 0, none⟩), .agg #[.int .i64 op, .int .i64 rd, .int .i64 rs1, .int .i64 rs2, .int .i64 imm]] w fun e w' =>
      e = .returned (.tuple #[.int .i64 (doM c op rd rs1 rs2 imm).2.1, .int .i64 (doM c op rd rs1 rs2 imm).2.2]) ∧ MachAt w' b t (doM c op rd rs1 rs2 imm).1 ∧ Below b w w' := by
  have HM := Lib.hid hm
  have hl := hm.lt
  have qa := hm.reg s0 s1
  have qb := hm.reg t0 t1
  have qp := hm.pc
  have HD := Lib.hid (show doM c op rd rs1 rs2 imm = (c.put rd (c.data.getD (wrap64 (c.reg rs1 + imm) / 8).toNat 0), c.pc + 1, 0) by unfold doM; dsimp only; rw [if_neg (by omega), if_neg (by omega), if_pos ho, if_pos hw])
  obtain ⟨e1, e2, e3⟩ := wordAt_ok hw
  have qd := hm.data e2 e3
  have fd := hm.frozen (33 + (wrap64 (c.reg rs1 + imm) / 8).toNat)
  obtain ⟨k, hk⟩ : ∃ k, wrap64 (c.reg rs1 + imm) / 8 = k := ⟨_, rfl⟩
  rw [hk] at e1 e2 e3 qd fd
  rw [hk] at HD
  clear hk
  subst ho
  clear hm
  go_enter Tryd.func25, Tryd.ntmps25
  go_wp2_with fail
  go_quiet (fail)
  go_wp2_with (first | (go_at_call 31; go_must (refine (word_any _ _).mono ?_; rintro e w' ⟨rfl, rfl⟩)))
  have qd1 := (((Below.refl w.heap.size w).alloc (Nat.le_refl _) (.cells #[.int .i64 20, .int .i64 rd, .int .i64 rs1, .int .i64 rs2, .int .i64 imm] 27)).cell (p := ⟨b, _, none⟩) hl).trans qd
  go_region_held3 (fun w' => w'.cell? ⟨w.heap.size, 1, none⟩ = some (.int .i64 rd) ∧ w'.cell? ⟨b, 33 + k.toNat, none⟩ = some (.int .i64 (c.data.getD k.toNat 0))) (refine ⟨?_, ?_⟩ <;> first | exact qz _ | exact cell_block (heap_alloc_new w _) _ | exact qd2 | exact qd1) (first | (go_at_call 29; go_must (refine (put_any b t c rd _ _ (HM.out.keeps (B := w.heap.size) (by have hb := Below.refl w.heap.size w; repeat (first | exact hb | exact Below.refl _ _ | apply Below.drew | apply below_drewN | refine Below.alloc ?_ (by first | omega | (simp; done) | (simp; omega)) _ | refine Below.setCell ?_ (by first | omega | (simp; done) | (simp; omega)) _)) hl) r0 r1).mono ?_; rintro e wz ⟨rfl, hwz⟩; have qz : ∀ i, wz.cell? ⟨w.heap.size, i, none⟩ = #[Value.int .i64 20, .int .i64 rd, .int .i64 rs1, .int .i64 rs2, .int .i64 imm][i]? := cell_block (t := 27) (f := (0, 0)) (by rw [hwz]; exact (putW_block _ _ (by omega)).trans (heap_alloc_new w _)); have HZ := Lib.hid (show MachAt wz b t (c.put rd (c.data.getD k.toNat 0)) by rw [hwz]; exact putW_mach (HM.out.keeps (B := w.heap.size) (by have hb := Below.refl w.heap.size w; repeat (first | exact hb | exact Below.refl _ _ | apply Below.drew | apply below_drewN | refine Below.alloc ?_ (by first | omega | (simp; done) | (simp; omega)) _ | refine Below.setCell ?_ (by first | omega | (simp; done) | (simp; omega)) _)) hl) _ r0 r1); have qpz : wz.cell? ⟨b, 32, none⟩ = some (.int .i64 c.pc) := (by have h := HZ.out.pc; rw [Cpu.put_pc] at h; exact h); have zwz : w.heap.size < wz.heap.size := zz_lt qz; have zbz : b < wz.heap.size := (by omega); have qd2 : wz.cell? ⟨b, 33 + k.toNat, none⟩ = some (.int .i64 (c.data.getD k.toNat 0)) := (by have h := HZ.out.data e2 e3; rw [Cpu.put_data] at h; exact h); have HB := Lib.hid (show Below b w wz by rw [hwz]; refine Below.trans ?_ (putW_below _ _); have hb := Below.refl b w; repeat (first | exact hb | exact Below.refl _ _ | apply Below.drew | apply below_drewN | refine Below.alloc ?_ (by first | omega | (simp; done) | (simp; omega)) _ | refine Below.setCell ?_ (by first | omega | (simp; done) | (simp; omega)) _)); clear hwz)))
  all_goals go_wp2_with fail
  all_goals refine bodyPost_ret (v := .tuple #[.int .i64 (c.pc + 1), .int .i64 0]) (by simp [results, Tryd.results25, go_sem]) rfl ⟨by rw [HD.out], by rw [HD.out]; exact HZ.out, HB.out⟩
set_option maxRecDepth 100000 in
set_option maxHeartbeats 4000000 in
theorem do_3b (b : Nat) (t : TypeId) (c : Cpu) (op rd rs1 rs2 imm : Int) (w : World) (hm : MachAt w b t c) (ho : op = 20) (hw : wordOk (wrap64 (c.reg rs1 + imm)) = false) (_r0 : 0 ≤ rd) (_r1 : rd < 32) (s0 : 0 ≤ rs1) (s1 : rs1 < 32) (t0 : 0 ≤ rs2) (t1 : rs2 < 32) (p0 : 0 ≤ c.pc) (p1 : c.pc ≤ 40000) (_m0 : -2000000 ≤ imm) (_m1 : imm ≤ 2000000) :
    Calls Tryd.prog 25 #[.pointer (some ⟨b, 0, none⟩), .agg #[.int .i64 op, .int .i64 rd, .int .i64 rs1, .int .i64 rs2, .int .i64 imm]] w fun e w' =>
      e = .returned (.tuple #[.int .i64 (doM c op rd rs1 rs2 imm).2.1, .int .i64 (doM c op rd rs1 rs2 imm).2.2]) ∧ MachAt w' b t (doM c op rd rs1 rs2 imm).1 ∧ Below b w w' := by
  have HM := Lib.hid hm
  have hl := hm.lt
  have qa := hm.reg s0 s1
  have qb := hm.reg t0 t1
  have qp := hm.pc
  have HD := Lib.hid (show doM c op rd rs1 rs2 imm = (c, 0, 2) by unfold doM; dsimp only; rw [if_neg (by omega), if_neg (by omega), if_pos ho, if_neg (by simp [hw])])
  subst ho
  clear hm
  go_enter Tryd.func25, Tryd.ntmps25
  go_wp2_with fail
  go_quiet (fail)
  go_wp2_with (first | (go_at_call 31; go_must (refine (word_any _ _).mono ?_; rintro e w' ⟨rfl, rfl⟩)))
  all_goals refine bodyPost_ret (v := .tuple #[.int .i64 (0), .int .i64 2]) (by simp [results, Tryd.results25, go_sem]) rfl ⟨by rw [HD.out], by rw [HD.out]; exact (HM.out.keeps (B := w.heap.size) (by have hb := Below.refl w.heap.size w; repeat (first | exact hb | exact Below.refl _ _ | apply Below.drew | apply below_drewN | refine Below.alloc ?_ (by first | omega | (simp; done) | (simp; omega)) _ | refine Below.setCell ?_ (by first | omega | (simp; done) | (simp; omega)) _)) hl), (by have hb := Below.refl b w; repeat (first | exact hb | exact Below.refl _ _ | apply Below.drew | apply below_drewN | refine Below.alloc ?_ (by first | omega | (simp; done) | (simp; omega)) _ | refine Below.setCell ?_ (by first | omega | (simp; done) | (simp; omega)) _))⟩
set_option maxRecDepth 100000 in
set_option maxHeartbeats 4000000 in
theorem do_4b (b : Nat) (t : TypeId) (c : Cpu) (op rd rs1 rs2 imm : Int) (w : World) (hm : MachAt w b t c) (ho : op = 21) (hw : wordOk (wrap64 (c.reg rs1 + imm)) = false) (_r0 : 0 ≤ rd) (_r1 : rd < 32) (s0 : 0 ≤ rs1) (s1 : rs1 < 32) (t0 : 0 ≤ rs2) (t1 : rs2 < 32) (p0 : 0 ≤ c.pc) (p1 : c.pc ≤ 40000) (_m0 : -2000000 ≤ imm) (_m1 : imm ≤ 2000000) :
    Calls Tryd.prog 25 #[.pointer (some ⟨b, 0, none⟩), .agg #[.int .i64 op, .int .i64 rd, .int .i64 rs1, .int .i64 rs2, .int .i64 imm]] w fun e w' =>
      e = .returned (.tuple #[.int .i64 (doM c op rd rs1 rs2 imm).2.1, .int .i64 (doM c op rd rs1 rs2 imm).2.2]) ∧ MachAt w' b t (doM c op rd rs1 rs2 imm).1 ∧ Below b w w' := by
  have HM := Lib.hid hm
  have hl := hm.lt
  have qa := hm.reg s0 s1
  have qb := hm.reg t0 t1
  have qp := hm.pc
  have HD := Lib.hid (show doM c op rd rs1 rs2 imm = (c, 0, 2) by unfold doM; dsimp only; rw [if_neg (by omega), if_neg (by omega), if_neg (by omega), if_pos ho, if_neg (by simp [hw])])
  subst ho
  clear hm
  go_enter Tryd.func25, Tryd.ntmps25
  go_wp2_with fail
  go_quiet (fail)
  go_wp2_with (first | (go_at_call 31; go_must (refine (word_any _ _).mono ?_; rintro e w' ⟨rfl, rfl⟩)))
  all_goals refine bodyPost_ret (v := .tuple #[.int .i64 (0), .int .i64 2]) (by simp [results, Tryd.results25, go_sem]) rfl ⟨by rw [HD.out], by rw [HD.out]; exact (HM.out.keeps (B := w.heap.size) (by have hb := Below.refl w.heap.size w; repeat (first | exact hb | exact Below.refl _ _ | apply Below.drew | apply below_drewN | refine Below.alloc ?_ (by first | omega | (simp; done) | (simp; omega)) _ | refine Below.setCell ?_ (by first | omega | (simp; done) | (simp; omega)) _)) hl), (by have hb := Below.refl b w; repeat (first | exact hb | exact Below.refl _ _ | apply Below.drew | apply below_drewN | refine Below.alloc ?_ (by first | omega | (simp; done) | (simp; omega)) _ | refine Below.setCell ?_ (by first | omega | (simp; done) | (simp; omega)) _))⟩
set_option maxRecDepth 100000 in
set_option maxHeartbeats 4000000 in
theorem do_4 (b : Nat) (t : TypeId) (c : Cpu) (op rd rs1 rs2 imm : Int) (w : World) (hm : MachAt w b t c) (ho : op = 21) (hw : wordOk (wrap64 (c.reg rs1 + imm)) = true) (_r0 : 0 ≤ rd) (_r1 : rd < 32) (s0 : 0 ≤ rs1) (s1 : rs1 < 32) (t0 : 0 ≤ rs2) (t1 : rs2 < 32) (p0 : 0 ≤ c.pc) (p1 : c.pc ≤ 40000) (_m0 : -2000000 ≤ imm) (_m1 : imm ≤ 2000000) :
    Calls Tryd.prog 25 #[.pointer (some ⟨b, 0, none⟩), .agg #[.int .i64 op, .int .i64 rd, .int .i64 rs1, .int .i64 rs2, .int .i64 imm]] w fun e w' =>
      e = .returned (.tuple #[.int .i64 (doM c op rd rs1 rs2 imm).2.1, .int .i64 (doM c op rd rs1 rs2 imm).2.2]) ∧ MachAt w' b t (doM c op rd rs1 rs2 imm).1 ∧ Below b w w' := by
  have HM := Lib.hid hm
  have hl := hm.lt
  have qa := hm.reg s0 s1
  have qb := hm.reg t0 t1
  have qp := hm.pc
  have HD := Lib.hid (show doM c op rd rs1 rs2 imm = ({ c with data := c.data.set (wrap64 (c.reg rs1 + imm) / 8).toNat (c.reg rs2) }, c.pc + 1, 0) by unfold doM; dsimp only; rw [if_neg (by omega), if_neg (by omega), if_neg (by omega), if_pos ho, if_pos hw])
  obtain ⟨e1, e2, e3⟩ := wordAt_ok hw
  have qd := hm.data e2 e3
  have fd := hm.frozen (33 + (wrap64 (c.reg rs1 + imm) / 8).toNat)
  obtain ⟨k, hk⟩ : ∃ k, wrap64 (c.reg rs1 + imm) / 8 = k := ⟨_, rfl⟩
  rw [hk] at e1 e2 e3 qd fd
  rw [hk] at HD
  clear hk
  subst ho
  clear hm
  go_enter Tryd.func25, Tryd.ntmps25
  go_wp2_with fail
  go_quiet (fail)
  go_wp2_with (first | (go_at_call 31; go_must (refine (word_any _ _).mono ?_; rintro e w' ⟨rfl, rfl⟩)))
  all_goals refine bodyPost_ret (v := .tuple #[.int .i64 (c.pc + 1), .int .i64 0]) (by simp [results, Tryd.results25, go_sem]) rfl ⟨by rw [HD.out], by rw [HD.out]; exact (MachAt.store (HM.out.keeps (B := w.heap.size) (by have hb := Below.refl w.heap.size w; repeat (first | exact hb | exact Below.refl _ _ | apply Below.drew | apply below_drewN | refine Below.alloc ?_ (by first | omega | (simp; done) | (simp; omega)) _ | refine Below.setCell ?_ (by first | omega | (simp; done) | (simp; omega)) _)) hl) _ _ ⟨HM.out.ok.regs, by simp [HM.out.ok.data]⟩ (set_data HM.out.ok (by omega) (c.reg rs2))), (by have hb := Below.refl b w; repeat (first | exact hb | exact Below.refl _ _ | apply Below.drew | apply below_drewN | refine Below.alloc ?_ (by first | omega | (simp; done) | (simp; omega)) _ | refine Below.setCell ?_ (by first | omega | (simp; done) | (simp; omega)) _))⟩
set_option maxRecDepth 100000 in
set_option maxHeartbeats 4000000 in
theorem do_5t (b : Nat) (t : TypeId) (c : Cpu) (op rd rs1 rs2 imm : Int) (w : World) (hm : MachAt w b t c) (o1 : 22 ≤ op) (o2 : op ≤ 25) (hbr : brM op (c.reg rs1) (c.reg rs2) = true) (_r0 : 0 ≤ rd) (_r1 : rd < 32) (s0 : 0 ≤ rs1) (s1 : rs1 < 32) (t0 : 0 ≤ rs2) (t1 : rs2 < 32) (p0 : 0 ≤ c.pc) (p1 : c.pc ≤ 40000) (m0 : -2000000 ≤ imm) (m1 : imm ≤ 2000000) :
    Calls Tryd.prog 25 #[.pointer (some ⟨b, 0, none⟩), .agg #[.int .i64 op, .int .i64 rd, .int .i64 rs1, .int .i64 rs2, .int .i64 imm]] w fun e w' =>
      e = .returned (.tuple #[.int .i64 (doM c op rd rs1 rs2 imm).2.1, .int .i64 (doM c op rd rs1 rs2 imm).2.2]) ∧ MachAt w' b t (doM c op rd rs1 rs2 imm).1 ∧ Below b w w' := by
  have HM := Lib.hid hm
  have hl := hm.lt
  have qa := hm.reg s0 s1
  have qb := hm.reg t0 t1
  have qp := hm.pc
  have HD := Lib.hid (show doM c op rd rs1 rs2 imm = (c, c.pc + imm.tdiv 4, 0) by unfold doM; dsimp only; rw [if_neg (by omega), if_neg (by omega), if_neg (by omega), if_neg (by omega), if_pos o2, if_pos (by simp [hbr])])
  have o3 : ¬ op ≤ 11 := by omega
  have o4 : ¬ op ≤ 19 := by omega
  have o5 : (op == 20) = false := by simp; omega
  have o6 : (op == 21) = false := by simp; omega
  have ht4 := tdiv4 m0 m1
  have hq : wrap64 (imm.tdiv 4) = imm.tdiv 4 := by unfold wrap64; omega
  have hq2 : wrap64 (c.pc + imm.tdiv 4) = c.pc + imm.tdiv 4 := by unfold wrap64; omega
  clear hm
  go_enter Tryd.func25, Tryd.ntmps25
  go_wp2_with fail
  go_quiet (fail)
  go_wp2_with (first | (go_at_call 32; go_must (refine (branches_any _ _ _ _).mono ?_; rintro e w' ⟨rfl, rfl⟩)))
  go_quiet (fail)
  go_wp2_with fail
  all_goals refine bodyPost_ret (v := .tuple #[.int .i64 (c.pc + imm.tdiv 4), .int .i64 0]) (by simp [results, Tryd.results25, go_sem]) rfl ⟨by rw [HD.out], by rw [HD.out]; exact (HM.out.keeps (B := w.heap.size) (by have hb := Below.refl w.heap.size w; repeat (first | exact hb | exact Below.refl _ _ | apply Below.drew | apply below_drewN | refine Below.alloc ?_ (by first | omega | (simp; done) | (simp; omega)) _ | refine Below.setCell ?_ (by first | omega | (simp; done) | (simp; omega)) _)) hl), (by have hb := Below.refl b w; repeat (first | exact hb | exact Below.refl _ _ | apply Below.drew | apply below_drewN | refine Below.alloc ?_ (by first | omega | (simp; done) | (simp; omega)) _ | refine Below.setCell ?_ (by first | omega | (simp; done) | (simp; omega)) _))⟩
set_option maxRecDepth 100000 in
set_option maxHeartbeats 4000000 in
theorem do_5f (b : Nat) (t : TypeId) (c : Cpu) (op rd rs1 rs2 imm : Int) (w : World) (hm : MachAt w b t c) (o1 : 22 ≤ op) (o2 : op ≤ 25) (hbr : brM op (c.reg rs1) (c.reg rs2) = false) (_r0 : 0 ≤ rd) (_r1 : rd < 32) (s0 : 0 ≤ rs1) (s1 : rs1 < 32) (t0 : 0 ≤ rs2) (t1 : rs2 < 32) (p0 : 0 ≤ c.pc) (p1 : c.pc ≤ 40000) (_m0 : -2000000 ≤ imm) (_m1 : imm ≤ 2000000) :
    Calls Tryd.prog 25 #[.pointer (some ⟨b, 0, none⟩), .agg #[.int .i64 op, .int .i64 rd, .int .i64 rs1, .int .i64 rs2, .int .i64 imm]] w fun e w' =>
      e = .returned (.tuple #[.int .i64 (doM c op rd rs1 rs2 imm).2.1, .int .i64 (doM c op rd rs1 rs2 imm).2.2]) ∧ MachAt w' b t (doM c op rd rs1 rs2 imm).1 ∧ Below b w w' := by
  have HM := Lib.hid hm
  have hl := hm.lt
  have qa := hm.reg s0 s1
  have qb := hm.reg t0 t1
  have qp := hm.pc
  have HD := Lib.hid (show doM c op rd rs1 rs2 imm = (c, c.pc + 1, 0) by unfold doM; dsimp only; rw [if_neg (by omega), if_neg (by omega), if_neg (by omega), if_neg (by omega), if_pos o2, if_neg (by simp [hbr])])
  have o3 : ¬ op ≤ 11 := by omega
  have o4 : ¬ op ≤ 19 := by omega
  have o5 : (op == 20) = false := by simp; omega
  have o6 : (op == 21) = false := by simp; omega
  clear hm
  go_enter Tryd.func25, Tryd.ntmps25
  go_wp2_with fail
  go_quiet (fail)
  go_wp2_with (first | (go_at_call 32; go_must (refine (branches_any _ _ _ _).mono ?_; rintro e w' ⟨rfl, rfl⟩)))
  all_goals refine bodyPost_ret (v := .tuple #[.int .i64 (c.pc + 1), .int .i64 0]) (by simp [results, Tryd.results25, go_sem]) rfl ⟨by rw [HD.out], by rw [HD.out]; exact (HM.out.keeps (B := w.heap.size) (by have hb := Below.refl w.heap.size w; repeat (first | exact hb | exact Below.refl _ _ | apply Below.drew | apply below_drewN | refine Below.alloc ?_ (by first | omega | (simp; done) | (simp; omega)) _ | refine Below.setCell ?_ (by first | omega | (simp; done) | (simp; omega)) _)) hl), (by have hb := Below.refl b w; repeat (first | exact hb | exact Below.refl _ _ | apply Below.drew | apply below_drewN | refine Below.alloc ?_ (by first | omega | (simp; done) | (simp; omega)) _ | refine Below.setCell ?_ (by first | omega | (simp; done) | (simp; omega)) _))⟩
set_option maxRecDepth 100000 in
set_option maxHeartbeats 4000000 in
theorem do_8 (b : Nat) (t : TypeId) (c : Cpu) (op rd rs1 rs2 imm : Int) (w : World) (hm : MachAt w b t c) (ho : op = 28) (r0 : 0 ≤ rd) (r1 : rd < 32) (s0 : 0 ≤ rs1) (s1 : rs1 < 32) (t0 : 0 ≤ rs2) (t1 : rs2 < 32) (p0 : 0 ≤ c.pc) (p1 : c.pc ≤ 40000) (m0 : -2000000 ≤ imm) (m1 : imm ≤ 2000000) :
    Calls Tryd.prog 25 #[.pointer (some ⟨b, 0, none⟩), .agg #[.int .i64 op, .int .i64 rd, .int .i64 rs1, .int .i64 rs2, .int .i64 imm]] w fun e w' =>
      e = .returned (.tuple #[.int .i64 (doM c op rd rs1 rs2 imm).2.1, .int .i64 (doM c op rd rs1 rs2 imm).2.2]) ∧ MachAt w' b t (doM c op rd rs1 rs2 imm).1 ∧ Below b w w' := by
  have HM := Lib.hid hm
  have hl := hm.lt
  have qa := hm.reg s0 s1
  have qb := hm.reg t0 t1
  have qp := hm.pc
  have HD := Lib.hid (show doM c op rd rs1 rs2 imm = (c.put rd (imm * 4096), c.pc + 1, 0) by unfold doM; dsimp only; rw [if_neg (by omega), if_neg (by omega), if_neg (by omega), if_neg (by omega), if_neg (by omega), if_neg (by omega), if_neg (by omega), if_pos ho])
  subst ho
  clear hm
  go_enter Tryd.func25, Tryd.ntmps25
  go_wp2_with fail
  go_quiet (fail)
  go_wp2_with (first | (go_at_call 29; go_must (refine (put_any b t c rd _ _ (HM.out.keeps (B := w.heap.size) (by have hb := Below.refl w.heap.size w; repeat (first | exact hb | exact Below.refl _ _ | apply Below.drew | apply below_drewN | refine Below.alloc ?_ (by first | omega | (simp; done) | (simp; omega)) _ | refine Below.setCell ?_ (by first | omega | (simp; done) | (simp; omega)) _)) hl) r0 r1).mono ?_; rintro e wz ⟨rfl, hwz⟩; have qz : ∀ i, wz.cell? ⟨w.heap.size, i, none⟩ = #[Value.int .i64 28, .int .i64 rd, .int .i64 rs1, .int .i64 rs2, .int .i64 imm][i]? := cell_block (t := 27) (f := (0, 0)) (by rw [hwz]; exact (putW_block _ _ (by omega)).trans (heap_alloc_new w _)); have HZ := Lib.hid (show MachAt wz b t (c.put rd (imm * 4096)) by rw [hwz]; exact putW_mach (HM.out.keeps (B := w.heap.size) (by have hb := Below.refl w.heap.size w; repeat (first | exact hb | exact Below.refl _ _ | apply Below.drew | apply below_drewN | refine Below.alloc ?_ (by first | omega | (simp; done) | (simp; omega)) _ | refine Below.setCell ?_ (by first | omega | (simp; done) | (simp; omega)) _)) hl) _ r0 r1); have qpz : wz.cell? ⟨b, 32, none⟩ = some (.int .i64 c.pc) := (by have h := HZ.out.pc; rw [Cpu.put_pc] at h; exact h); have zwz : w.heap.size < wz.heap.size := zz_lt qz; have zbz : b < wz.heap.size := (by omega); have HB := Lib.hid (show Below b w wz by rw [hwz]; refine Below.trans ?_ (putW_below _ _); have hb := Below.refl b w; repeat (first | exact hb | exact Below.refl _ _ | apply Below.drew | apply below_drewN | refine Below.alloc ?_ (by first | omega | (simp; done) | (simp; omega)) _ | refine Below.setCell ?_ (by first | omega | (simp; done) | (simp; omega)) _)); clear hwz)))
  all_goals refine bodyPost_ret (v := .tuple #[.int .i64 (c.pc + 1), .int .i64 0]) (by simp [results, Tryd.results25, go_sem]) rfl ⟨by rw [HD.out], by rw [HD.out]; exact HZ.out, HB.out⟩
set_option maxRecDepth 100000 in
set_option maxHeartbeats 4000000 in
theorem do_7 (b : Nat) (t : TypeId) (c : Cpu) (op rd rs1 rs2 imm : Int) (w : World) (hm : MachAt w b t c) (ho : op = 27) (ht : (bits .andNot .i64 (wrap64 (c.reg rs1 + imm)) 1).tmod 4 = 0) (r0 : 0 ≤ rd) (r1 : rd < 32) (s0 : 0 ≤ rs1) (s1 : rs1 < 32) (t0 : 0 ≤ rs2) (t1 : rs2 < 32) (p0 : 0 ≤ c.pc) (p1 : c.pc ≤ 40000) (_m0 : -2000000 ≤ imm) (_m1 : imm ≤ 2000000) :
    Calls Tryd.prog 25 #[.pointer (some ⟨b, 0, none⟩), .agg #[.int .i64 op, .int .i64 rd, .int .i64 rs1, .int .i64 rs2, .int .i64 imm]] w fun e w' =>
      e = .returned (.tuple #[.int .i64 (doM c op rd rs1 rs2 imm).2.1, .int .i64 (doM c op rd rs1 rs2 imm).2.2]) ∧ MachAt w' b t (doM c op rd rs1 rs2 imm).1 ∧ Below b w w' := by
  have HM := Lib.hid hm
  have hl := hm.lt
  have qa := hm.reg s0 s1
  have qb := hm.reg t0 t1
  have qp := hm.pc
  have HD := Lib.hid (show doM c op rd rs1 rs2 imm = (c.put rd (4 * (c.pc + 1)), wrap64 ((bits .andNot .i64 (wrap64 (c.reg rs1 + imm)) 1).tdiv 4), 0) by unfold doM; dsimp only; rw [if_neg (by omega), if_neg (by omega), if_neg (by omega), if_neg (by omega), if_neg (by omega), if_neg (by omega), if_pos ho, if_pos ht])
  have h4 : wrap64 (4 * (c.pc + 1)) = 4 * (c.pc + 1) := by unfold wrap64; omega
  obtain ⟨to, hto⟩ : ∃ to, bits .andNot .i64 (wrap64 (c.reg rs1 + imm)) 1 = to := ⟨_, rfl⟩
  rw [hto] at ht HD
  subst ho
  clear hm
  go_enter Tryd.func25, Tryd.ntmps25
  go_wp2_with fail
  go_quiet (fail)
  go_wp2_with (first | (go_at_call 29; go_must (refine (put_any b t c rd _ _ (HM.out.keeps (B := w.heap.size) (by have hb := Below.refl w.heap.size w; repeat (first | exact hb | exact Below.refl _ _ | apply Below.drew | apply below_drewN | refine Below.alloc ?_ (by first | omega | (simp; done) | (simp; omega)) _ | refine Below.setCell ?_ (by first | omega | (simp; done) | (simp; omega)) _)) hl) r0 r1).mono ?_; rintro e wz ⟨rfl, hwz⟩; have qz : ∀ i, wz.cell? ⟨w.heap.size, i, none⟩ = #[Value.int .i64 27, .int .i64 rd, .int .i64 rs1, .int .i64 rs2, .int .i64 imm][i]? := cell_block (t := 27) (f := (0, 0)) (by rw [hwz]; exact (putW_block _ _ (by omega)).trans (heap_alloc_new w _)); have HZ := Lib.hid (show MachAt wz b t (c.put rd (4 * (c.pc + 1))) by rw [hwz]; exact putW_mach (HM.out.keeps (B := w.heap.size) (by have hb := Below.refl w.heap.size w; repeat (first | exact hb | exact Below.refl _ _ | apply Below.drew | apply below_drewN | refine Below.alloc ?_ (by first | omega | (simp; done) | (simp; omega)) _ | refine Below.setCell ?_ (by first | omega | (simp; done) | (simp; omega)) _)) hl) _ r0 r1); have qpz : wz.cell? ⟨b, 32, none⟩ = some (.int .i64 c.pc) := (by have h := HZ.out.pc; rw [Cpu.put_pc] at h; exact h); have zwz : w.heap.size < wz.heap.size := zz_lt qz; have zbz : b < wz.heap.size := (by omega); have HB := Lib.hid (show Below b w wz by rw [hwz]; refine Below.trans ?_ (putW_below _ _); have hb := Below.refl b w; repeat (first | exact hb | exact Below.refl _ _ | apply Below.drew | apply below_drewN | refine Below.alloc ?_ (by first | omega | (simp; done) | (simp; omega)) _ | refine Below.setCell ?_ (by first | omega | (simp; done) | (simp; omega)) _)); clear hwz)))
  all_goals refine bodyPost_ret (v := .tuple #[.int .i64 (wrap64 (to.tdiv 4)), .int .i64 0]) (by simp [results, Tryd.results25, go_sem]) rfl ⟨by rw [HD.out], by rw [HD.out]; exact HZ.out, HB.out⟩
set_option maxRecDepth 100000 in
set_option maxHeartbeats 4000000 in
theorem do_7b (b : Nat) (t : TypeId) (c : Cpu) (op rd rs1 rs2 imm : Int) (w : World) (hm : MachAt w b t c) (ho : op = 27) (ht : ¬ (bits .andNot .i64 (wrap64 (c.reg rs1 + imm)) 1).tmod 4 = 0) (_r0 : 0 ≤ rd) (_r1 : rd < 32) (s0 : 0 ≤ rs1) (s1 : rs1 < 32) (t0 : 0 ≤ rs2) (t1 : rs2 < 32) (p0 : 0 ≤ c.pc) (p1 : c.pc ≤ 40000) (_m0 : -2000000 ≤ imm) (_m1 : imm ≤ 2000000) :
    Calls Tryd.prog 25 #[.pointer (some ⟨b, 0, none⟩), .agg #[.int .i64 op, .int .i64 rd, .int .i64 rs1, .int .i64 rs2, .int .i64 imm]] w fun e w' =>
      e = .returned (.tuple #[.int .i64 (doM c op rd rs1 rs2 imm).2.1, .int .i64 (doM c op rd rs1 rs2 imm).2.2]) ∧ MachAt w' b t (doM c op rd rs1 rs2 imm).1 ∧ Below b w w' := by
  have HM := Lib.hid hm
  have hl := hm.lt
  have qa := hm.reg s0 s1
  have qb := hm.reg t0 t1
  have qp := hm.pc
  have HD := Lib.hid (show doM c op rd rs1 rs2 imm = (c, 0, 5) by unfold doM; dsimp only; rw [if_neg (by omega), if_neg (by omega), if_neg (by omega), if_neg (by omega), if_neg (by omega), if_neg (by omega), if_pos ho, if_neg ht])
  obtain ⟨to, hto⟩ : ∃ to, bits .andNot .i64 (wrap64 (c.reg rs1 + imm)) 1 = to := ⟨_, rfl⟩
  rw [hto] at ht
  subst ho
  clear hm
  go_enter Tryd.func25, Tryd.ntmps25
  go_wp2_with fail
  go_quiet (fail)
  go_wp2_with fail
  all_goals refine bodyPost_ret (v := .tuple #[.int .i64 (0), .int .i64 5]) (by simp [results, Tryd.results25, go_sem]) rfl ⟨by rw [HD.out], by rw [HD.out]; exact (HM.out.keeps (B := w.heap.size) (by have hb := Below.refl w.heap.size w; repeat (first | exact hb | exact Below.refl _ _ | apply Below.drew | apply below_drewN | refine Below.alloc ?_ (by first | omega | (simp; done) | (simp; omega)) _ | refine Below.setCell ?_ (by first | omega | (simp; done) | (simp; omega)) _)) hl), (by have hb := Below.refl b w; repeat (first | exact hb | exact Below.refl _ _ | apply Below.drew | apply below_drewN | refine Below.alloc ?_ (by first | omega | (simp; done) | (simp; omega)) _ | refine Below.setCell ?_ (by first | omega | (simp; done) | (simp; omega)) _))⟩
set_option maxRecDepth 100000 in
set_option maxHeartbeats 4000000 in
theorem do_6 (b : Nat) (t : TypeId) (c : Cpu) (op rd rs1 rs2 imm : Int) (w : World) (hm : MachAt w b t c) (ho : op = 26) (r0 : 0 ≤ rd) (r1 : rd < 32) (s0 : 0 ≤ rs1) (s1 : rs1 < 32) (t0 : 0 ≤ rs2) (t1 : rs2 < 32) (p0 : 0 ≤ c.pc) (p1 : c.pc ≤ 40000) (m0 : -2000000 ≤ imm) (m1 : imm ≤ 2000000) :
    Calls Tryd.prog 25 #[.pointer (some ⟨b, 0, none⟩), .agg #[.int .i64 op, .int .i64 rd, .int .i64 rs1, .int .i64 rs2, .int .i64 imm]] w fun e w' =>
      e = .returned (.tuple #[.int .i64 (doM c op rd rs1 rs2 imm).2.1, .int .i64 (doM c op rd rs1 rs2 imm).2.2]) ∧ MachAt w' b t (doM c op rd rs1 rs2 imm).1 ∧ Below b w w' := by
  have HM := Lib.hid hm
  have hl := hm.lt
  have qa := hm.reg s0 s1
  have qb := hm.reg t0 t1
  have qp := hm.pc
  have HD := Lib.hid (show doM c op rd rs1 rs2 imm = (c.put rd (4 * (c.pc + 1)), c.pc + imm.tdiv 4, 0) by unfold doM; dsimp only; rw [if_neg (by omega), if_neg (by omega), if_neg (by omega), if_neg (by omega), if_neg (by omega), if_pos ho])
  have ht4 := tdiv4 m0 m1
  have hq : wrap64 (imm.tdiv 4) = imm.tdiv 4 := by unfold wrap64; omega
  have hq2 : wrap64 (c.pc + imm.tdiv 4) = c.pc + imm.tdiv 4 := by unfold wrap64; omega
  have h4 : wrap64 (4 * (c.pc + 1)) = 4 * (c.pc + 1) := by unfold wrap64; omega
  subst ho
  clear hm
  go_enter Tryd.func25, Tryd.ntmps25
  go_wp2_with fail
  go_quiet (fail)
  go_wp2_with (first | (go_at_call 29; go_must (refine (put_any b t c rd _ _ (HM.out.keeps (B := w.heap.size) (by have hb := Below.refl w.heap.size w; repeat (first | exact hb | exact Below.refl _ _ | apply Below.drew | apply below_drewN | refine Below.alloc ?_ (by first | omega | (simp; done) | (simp; omega)) _ | refine Below.setCell ?_ (by first | omega | (simp; done) | (simp; omega)) _)) hl) r0 r1).mono ?_; rintro e wz ⟨rfl, hwz⟩; have qz : ∀ i, wz.cell? ⟨w.heap.size, i, none⟩ = #[Value.int .i64 26, .int .i64 rd, .int .i64 rs1, .int .i64 rs2, .int .i64 imm][i]? := cell_block (t := 27) (f := (0, 0)) (by rw [hwz]; exact (putW_block _ _ (by omega)).trans (heap_alloc_new w _)); have HZ := Lib.hid (show MachAt wz b t (c.put rd (4 * (c.pc + 1))) by rw [hwz]; exact putW_mach (HM.out.keeps (B := w.heap.size) (by have hb := Below.refl w.heap.size w; repeat (first | exact hb | exact Below.refl _ _ | apply Below.drew | apply below_drewN | refine Below.alloc ?_ (by first | omega | (simp; done) | (simp; omega)) _ | refine Below.setCell ?_ (by first | omega | (simp; done) | (simp; omega)) _)) hl) _ r0 r1); have qpz : wz.cell? ⟨b, 32, none⟩ = some (.int .i64 c.pc) := (by have h := HZ.out.pc; rw [Cpu.put_pc] at h; exact h); have zwz : w.heap.size < wz.heap.size := zz_lt qz; have zbz : b < wz.heap.size := (by omega); have HB := Lib.hid (show Below b w wz by rw [hwz]; refine Below.trans ?_ (putW_below _ _); have hb := Below.refl b w; repeat (first | exact hb | exact Below.refl _ _ | apply Below.drew | apply below_drewN | refine Below.alloc ?_ (by first | omega | (simp; done) | (simp; omega)) _ | refine Below.setCell ?_ (by first | omega | (simp; done) | (simp; omega)) _)); clear hwz)))
  go_quiet (fail)
  go_wp2_with fail
  all_goals refine bodyPost_ret (v := .tuple #[.int .i64 (c.pc + imm.tdiv 4), .int .i64 0]) (by simp [results, Tryd.results25, go_sem]) rfl ⟨by rw [HD.out], by rw [HD.out]; exact ⟨HZ.out.ok, HZ.out.blk⟩, below_drewN HB.out _⟩
set_option maxRecDepth 100000 in
set_option maxHeartbeats 4000000 in
theorem do_9 (b : Nat) (t : TypeId) (c : Cpu) (op rd rs1 rs2 imm : Int) (w : World) (hm : MachAt w b t c) (ho : op = 29) (_r0 : 0 ≤ rd) (_r1 : rd < 32) (s0 : 0 ≤ rs1) (s1 : rs1 < 32) (t0 : 0 ≤ rs2) (t1 : rs2 < 32) (p0 : 0 ≤ c.pc) (p1 : c.pc ≤ 40000) (_m0 : -2000000 ≤ imm) (_m1 : imm ≤ 2000000) :
    Calls Tryd.prog 25 #[.pointer (some ⟨b, 0, none⟩), .agg #[.int .i64 op, .int .i64 rd, .int .i64 rs1, .int .i64 rs2, .int .i64 imm]] w fun e w' =>
      e = .returned (.tuple #[.int .i64 (doM c op rd rs1 rs2 imm).2.1, .int .i64 (doM c op rd rs1 rs2 imm).2.2]) ∧ MachAt w' b t (doM c op rd rs1 rs2 imm).1 ∧ Below b w w' := by
  have HM := Lib.hid hm
  have hl := hm.lt
  have qa := hm.reg s0 s1
  have qb := hm.reg t0 t1
  have qp := hm.pc
  have HD := Lib.hid (show doM c op rd rs1 rs2 imm = ({ c with halted := true }, c.pc, 0) by unfold doM; dsimp only; rw [if_neg (by omega), if_neg (by omega), if_neg (by omega), if_neg (by omega), if_neg (by omega), if_neg (by omega), if_neg (by omega), if_neg (by omega)])
  have qh := hm.halted
  have fh := hm.frozen 97
  subst ho
  clear hm
  go_enter Tryd.func25, Tryd.ntmps25
  go_wp2_with fail
  go_quiet (fail)
  go_wp2_with fail
  all_goals refine bodyPost_ret (v := .tuple #[.int .i64 (c.pc), .int .i64 0]) (by simp [results, Tryd.results25, go_sem]) rfl ⟨by rw [HD.out], by rw [HD.out]; exact (MachAt.store (HM.out.keeps (B := w.heap.size) (by have hb := Below.refl w.heap.size w; repeat (first | exact hb | exact Below.refl _ _ | apply Below.drew | apply below_drewN | refine Below.alloc ?_ (by first | omega | (simp; done) | (simp; omega)) _ | refine Below.setCell ?_ (by first | omega | (simp; done) | (simp; omega)) _)) hl) 97 (.bool true) ⟨HM.out.ok.regs, HM.out.ok.data⟩ (set_halted HM.out.ok true)), (by have hb := Below.refl b w; repeat (first | exact hb | exact Below.refl _ _ | apply Below.drew | apply below_drewN | refine Below.alloc ?_ (by first | omega | (simp; done) | (simp; omega)) _ | refine Below.setCell ?_ (by first | omega | (simp; done) | (simp; omega)) _))⟩
end Go.Proofs.YtjjpgkjjiooieaaDoor
