/-
  The contract of the machine's step.
-/
import Derived.Test.YtjjpgkjjiooieaaDoorCp2
import Derived.Test.YtjjpgkjjiooieaaDoorRvW
namespace Tier
open Go Go.RowKit
structure Rv5 where
  op : Int
  rd : Int
  rs1 : Int
  rs2 : Int
  imm : Int
def Rv5.ok (x : Rv5) : Prop := chkI x.op x.rd x.rs1 x.rs2 x.imm = 0
def Rv5.enc (x : Rv5) : Int := encI x.op x.rd x.rs1 x.rs2 x.imm
theorem imm_lo (s : Int) : -2000000 ≤ immLo s := by unfold immLo; repeat' split <;> try omega
theorem imm_hi (s : Int) : immHi s ≤ 2000000 := by unfold immHi; repeat' split <;> try omega
structure Rv5.Bd (x : Rv5) : Prop where
  o1 : 1 ≤ x.op
  o2 : x.op ≤ 29
  rd0 : 0 ≤ x.rd
  rd1 : x.rd < 32
  a0 : 0 ≤ x.rs1
  a1 : x.rs1 < 32
  b0 : 0 ≤ x.rs2
  b1 : x.rs2 < 32
  m0 : -2000000 ≤ x.imm
  m1 : x.imm ≤ 2000000
theorem Rv5.ok.bd {x : Rv5} (h : x.ok) : x.Bd := by
  obtain ⟨h1, h2, hk⟩ := chkI_inv h
  obtain ⟨i0, i1, i2, i3, i4, i5⟩ := chk_inv hk
  obtain ⟨a0, a1, -⟩ := bad_inv i0
  obtain ⟨b0, b1, -⟩ := bad_inv i1
  obtain ⟨d0, d1, -⟩ := bad_inv i2
  have := imm_lo (shapeOf x.op.toNat)
  have := imm_hi (shapeOf x.op.toNat)
  exact ⟨h1, h2, a0, by omega, b0, by omega, d0, by omega, by omega, by omega⟩
end Tier
namespace Go.Proofs.YtjjpgkjjiooieaaDoor
open Go.RowKit Tier
theorem do_any (b : Nat) (t : TypeId) (c : Cpu) (x : Rv5) (w : World) (hm : MachAt w b t c) (hx : x.Bd) (p0 : 0 ≤ c.pc) (p1 : c.pc ≤ 40000) :
    Calls Tryd.prog 25 #[.pointer (some ⟨b, 0, none⟩), .agg #[.int .i64 x.op, .int .i64 x.rd, .int .i64 x.rs1, .int .i64 x.rs2, .int .i64 x.imm]] w fun e w' =>
      e = .returned (.tuple #[.int .i64 (doM c x.op x.rd x.rs1 x.rs2 x.imm).2.1, .int .i64 (doM c x.op x.rd x.rs1 x.rs2 x.imm).2.2]) ∧ MachAt w' b t (doM c x.op x.rd x.rs1 x.rs2 x.imm).1 ∧ Below b w w' := by
  obtain ⟨op, rd, rs1, rs2, imm⟩ := x
  obtain ⟨o1, o2, r0, r1, a0, a1, b0, b1, m0, m1⟩ := hx
  dsimp only at *
  have hc : op ≤ 11 ∨ (12 ≤ op ∧ op ≤ 19) ∨ op = 20 ∨ op = 21 ∨ (22 ≤ op ∧ op ≤ 25) ∨ op = 26 ∨ op = 27 ∨ op = 28 ∨ op = 29 := by omega
  rcases hc with h | ⟨h, h'⟩ | h | h | ⟨h, h'⟩ | h | h | h | h
  · exact do_1 b t c op rd rs1 rs2 imm w hm o1 h r0 r1 a0 a1 b0 b1 p0 p1 m0 m1
  · exact do_2 b t c op rd rs1 rs2 imm w hm h h' r0 r1 a0 a1 b0 b1 p0 p1 m0 m1
  · cases hw : wordOk (wrap64 (c.reg rs1 + imm))
    · exact do_3b b t c op rd rs1 rs2 imm w hm h hw r0 r1 a0 a1 b0 b1 p0 p1 m0 m1
    · exact do_3 b t c op rd rs1 rs2 imm w hm h hw r0 r1 a0 a1 b0 b1 p0 p1 m0 m1
  · cases hw : wordOk (wrap64 (c.reg rs1 + imm))
    · exact do_4b b t c op rd rs1 rs2 imm w hm h hw r0 r1 a0 a1 b0 b1 p0 p1 m0 m1
    · exact do_4 b t c op rd rs1 rs2 imm w hm h hw r0 r1 a0 a1 b0 b1 p0 p1 m0 m1
  · cases hw : brM op (c.reg rs1) (c.reg rs2)
    · exact do_5f b t c op rd rs1 rs2 imm w hm h h' hw r0 r1 a0 a1 b0 b1 p0 p1 m0 m1
    · exact do_5t b t c op rd rs1 rs2 imm w hm h h' hw r0 r1 a0 a1 b0 b1 p0 p1 m0 m1
  · exact do_6 b t c op rd rs1 rs2 imm w hm h r0 r1 a0 a1 b0 b1 p0 p1 m0 m1
  · by_cases ht : (bits .andNot .i64 (wrap64 (c.reg rs1 + imm)) 1).tmod 4 = 0
    · exact do_7 b t c op rd rs1 rs2 imm w hm h ht r0 r1 a0 a1 b0 b1 p0 p1 m0 m1
    · exact do_7b b t c op rd rs1 rs2 imm w hm h ht r0 r1 a0 a1 b0 b1 p0 p1 m0 m1
  · exact do_8 b t c op rd rs1 rs2 imm w hm h r0 r1 a0 a1 b0 b1 p0 p1 m0 m1
  · exact do_9 b t c op rd rs1 rs2 imm w hm h r0 r1 a0 a1 b0 b1 p0 p1 m0 m1
/-- Encoded instructions lie in memory. -/
def WordsAt (w : World) (A : Option Addr) (xs : List Rv5) : Prop := 0 < xs.length → ∃ g, A = some ⟨g, 0, none⟩ ∧ g < w.heap.size ∧ ∀ (i : Nat) (x : Rv5), xs[i]? = some x → w.cell? ⟨g, i, none⟩ = some (.int .i64 x.enc)
theorem WordsAt.keeps {w w' : World} {A : Option Addr} {xs : List Rv5} (h : WordsAt w A xs) (hb : Below w.heap.size w w') : WordsAt w' A xs := fun hl => by
  obtain ⟨g, h1, h2, h3⟩ := h hl
  exact ⟨g, h1, Nat.lt_of_lt_of_le h2 hb.size, fun i x hx => (hb.cell (p := ⟨g, i, none⟩) h2).trans (h3 i x hx)⟩
/-- One step: the machine behind it, the error. -/
def stepM (xs : List Rv5) (c : Cpu) : Cpu × Int :=
  if c.pc < 0 then (c, 8) else match xs[c.pc.toNat]? with
    | none => (c, 8)
    | some x => if (doM c x.op x.rd x.rs1 x.rs2 x.imm).2.2 = 0 then ({ (doM c x.op x.rd x.rs1 x.rs2 x.imm).1 with pc := (doM c x.op x.rd x.rs1 x.rs2 x.imm).2.1 }, 0) else ((doM c x.op x.rd x.rs1 x.rs2 x.imm).1, (doM c x.op x.rd x.rs1 x.rs2 x.imm).2.2)
set_option maxRecDepth 100000 in
set_option maxHeartbeats 4000000 in
theorem step_any (b : Nat) (t : TypeId) (c : Cpu) (xs : List Rv5) (A : Option Addr) (cap : Nat) (w : World) (ht : Tab w) (hm : MachAt w b t c) (hxs : ∀ x ∈ xs, x.ok) (hl : xs.length ≤ 32768)
    (hw : 0 < xs.length → ∃ g, A = some ⟨g, 0, none⟩ ∧ g < w.heap.size ∧ ∀ (i : Nat) (x : Rv5), xs[i]? = some x → w.cell? ⟨g, i, none⟩ = some (.int .i64 x.enc)) (_htb : 1 < b) :
    Calls Tryd.prog 20 #[.pointer (some ⟨b, 0, none⟩), .slice A xs.length cap] w fun e w' =>
      e = .returned (.int .i64 (stepM xs c).2) ∧ MachAt w' b t (stepM xs c).1 ∧ Below b w w' := by
  have HM := Lib.hid hm
  have HT := Lib.hid ht
  have hbl := hm.lt
  have qp := hm.pc
  have fp := hm.frozen 32
  by_cases h0 : c.pc < 0
  · have HX := Lib.hid (show stepM xs c = (c, 8) from if_pos h0)
    have h0' : (c.pc < 0) = True := by simp [h0]
    clear hm ht hw
    go_enter Tryd.func20, Tryd.ntmps20
    go_wp2_with fail
    go_ret
    refine ⟨by rw [HX.out]; rfl, by rw [HX.out]; exact ⟨HM.out.ok, HM.out.blk⟩, ?_⟩
    have hb := Below.refl b w
    repeat (first | exact hb | exact Below.refl _ _ | apply Below.drew | apply below_drewN | refine Below.alloc ?_ (by first | omega | (simp; done) | (simp; omega)) _ | refine Below.setCell ?_ (by first | omega | (simp; done) | (simp; omega)) _)
  · have h0' : (c.pc < 0) = False := by simp; omega
    obtain ⟨k, hk⟩ : ∃ k : Nat, c.pc = k := ⟨c.pc.toNat, by omega⟩
    by_cases h1 : k < xs.length
    · obtain ⟨x, hx⟩ : ∃ x, xs[k]? = some x := ⟨xs[k], List.getElem?_eq_getElem h1⟩
      have hxo := hxs x (List.mem_of_getElem? hx)
      have HBD := Lib.hid hxo.bd
      obtain ⟨g, hA, hg, hcell⟩ := hw (by omega)
      have cx := hcell k x hx
      subst hA
      have HX := Lib.hid (show stepM xs c = if (doM c x.op x.rd x.rs1 x.rs2 x.imm).2.2 = 0 then ({ (doM c x.op x.rd x.rs1 x.rs2 x.imm).1 with pc := (doM c x.op x.rd x.rs1 x.rs2 x.imm).2.1 }, 0) else ((doM c x.op x.rd x.rs1 x.rs2 x.imm).1, (doM c x.op x.rd x.rs1 x.rs2 x.imm).2.2) by
        unfold stepM
        rw [if_neg h0, hk, Int.toNat_natCast, hx])
      have HDO := Lib.hid (fun (W : World) (hW : MachAt W b t c) => do_any b t c x W hW HBD.out (by omega) (by omega))
      have HDE := Lib.hid (fun (W : World) (hW : Tab W) => dec_any x.enc W hW)
      have HXO := Lib.hid hxo
      obtain ⟨r, hr⟩ : ∃ r, doM c x.op x.rd x.rs1 x.rs2 x.imm = r := ⟨_, rfl⟩
      rw [hr] at HX HDO
      have hk1 : (k : Int) < xs.length := by omega
      have hk0 : (0 : Int) ≤ k := by omega
      have hn1 : ((xs.length : Int) ≤ k) = False := by simp; omega
      have hn2 : (xs.length ≤ k) = False := by simp; omega
      have hn3 : ((k : Int) < 0) = False := by simp
      rw [hk] at qp
      clear hm ht hw hxs hcell hx hxo hr h0 h0' hk h1
      obtain ⟨c', nx, er⟩ := r
      obtain ⟨op, rd, rs1, rs2, imm⟩ := x
      dsimp only at *
      generalize xs.length = n at *
      by_cases her : er = 0
      · subst her
        rw [if_pos rfl] at HX
        go_enter Tryd.func20, Tryd.ntmps20
        go_wp2_with (first | (go_at_call 24; go_must (refine (HDE.out _ (HT.out.keeps (by have hb := Below.refl w.heap.size w; repeat (first | exact hb | exact Below.refl _ _ | apply Below.drew | apply below_drewN | refine Below.alloc ?_ (by first | omega | (simp; done) | (simp; omega)) _ | refine Below.setCell ?_ (by first | omega | (simp; done) | (simp; omega)) _)))).mono ?_; rintro e w1 ⟨⟨op', rd', rs1', rs2', imm', err, rfl, hd⟩, hb1⟩; obtain ⟨rfl, rfl, rfl, rfl, rfl, rfl⟩ := dec_enc (show chkI op rd rs1 rs2 imm = 0 from HXO.out) hd; have HB1 := Lib.hid (hb1.mono (show b ≤ w.heap.size by omega)); have HM1 := Lib.hid (HM.out.keeps hb1 hbl); have qp1 := HM1.out.pc; have fp1 := HM1.out.frozen 32; have zb1 := HM1.out.lt; clear hd hb1)) | (go_at_call 25; go_must (refine (HDO.out _ (HM1.out.keeps (B := w1.heap.size) (by have hb := Below.refl w1.heap.size w1; repeat (first | exact hb | exact Below.refl _ _ | apply Below.drew | apply below_drewN | refine Below.alloc ?_ (by first | omega | (simp; done) | (simp; omega)) _ | refine Below.setCell ?_ (by first | omega | (simp; done) | (simp; omega)) _)) HM1.out.lt)).mono ?_; rintro e w2 ⟨rfl, hm2, hb2⟩; have HM2 := Lib.hid hm2; have qp2 := hm2.pc; have fp2 := hm2.frozen 32; have zb2 := hm2.lt; have HB2 := Lib.hid (show Below b w w2 by refine Below.trans ?_ hb2; have hb := HB1.out; repeat (first | exact hb | exact Below.refl _ _ | apply Below.drew | apply below_drewN | refine Below.alloc ?_ (by first | omega | (simp; done) | (simp; omega)) _ | refine Below.setCell ?_ (by first | omega | (simp; done) | (simp; omega)) _)); clear hm2 hb2)))
        go_ret
        refine ⟨by rw [HX.out]; rfl, ?_, ?_⟩
        · rw [HX.out]
          exact HM2.out.store 32 _ ⟨HM2.out.ok.regs, HM2.out.ok.data⟩ (set_pc HM2.out.ok nx)
        · have hb := HB2.out
          repeat (first | exact hb | exact Below.refl _ _ | apply Below.drew | apply below_drewN | refine Below.alloc ?_ (by first | omega | (simp; done) | (simp; omega)) _ | refine Below.setCell ?_ (by first | omega | (simp; done) | (simp; omega)) _)
      · have hne : (er != 0) = true := by simpa using her
        rw [if_neg her] at HX
        clear her
        go_enter Tryd.func20, Tryd.ntmps20
        go_wp2_with (first | (go_at_call 24; go_must (refine (HDE.out _ (HT.out.keeps (by have hb := Below.refl w.heap.size w; repeat (first | exact hb | exact Below.refl _ _ | apply Below.drew | apply below_drewN | refine Below.alloc ?_ (by first | omega | (simp; done) | (simp; omega)) _ | refine Below.setCell ?_ (by first | omega | (simp; done) | (simp; omega)) _)))).mono ?_; rintro e w1 ⟨⟨op', rd', rs1', rs2', imm', err, rfl, hd⟩, hb1⟩; obtain ⟨rfl, rfl, rfl, rfl, rfl, rfl⟩ := dec_enc (show chkI op rd rs1 rs2 imm = 0 from HXO.out) hd; have HB1 := Lib.hid (hb1.mono (show b ≤ w.heap.size by omega)); have HM1 := Lib.hid (HM.out.keeps hb1 hbl); have qp1 := HM1.out.pc; have fp1 := HM1.out.frozen 32; have zb1 := HM1.out.lt; clear hd hb1)) | (go_at_call 25; go_must (refine (HDO.out _ (HM1.out.keeps (B := w1.heap.size) (by have hb := Below.refl w1.heap.size w1; repeat (first | exact hb | exact Below.refl _ _ | apply Below.drew | apply below_drewN | refine Below.alloc ?_ (by first | omega | (simp; done) | (simp; omega)) _ | refine Below.setCell ?_ (by first | omega | (simp; done) | (simp; omega)) _)) HM1.out.lt)).mono ?_; rintro e w2 ⟨rfl, hm2, hb2⟩; have HM2 := Lib.hid hm2; have qp2 := hm2.pc; have fp2 := hm2.frozen 32; have zb2 := hm2.lt; have HB2 := Lib.hid (show Below b w w2 by refine Below.trans ?_ hb2; have hb := HB1.out; repeat (first | exact hb | exact Below.refl _ _ | apply Below.drew | apply below_drewN | refine Below.alloc ?_ (by first | omega | (simp; done) | (simp; omega)) _ | refine Below.setCell ?_ (by first | omega | (simp; done) | (simp; omega)) _)); clear hm2 hb2)))
        go_ret
        refine ⟨by rw [HX.out]; rfl, ?_, HB2.out⟩
        rw [HX.out]
        exact HM2.out
    · have HX := Lib.hid (show stepM xs c = (c, 8) by
        unfold stepM
        rw [if_neg h0, hk, Int.toNat_natCast, List.getElem?_eq_none (by omega)])
      have hn1 : ((xs.length : Int) ≤ k) = True := by simp; omega
      have hn2 : (xs.length ≤ k) = True := by simp; omega
      have hn3 : ((k : Int) < 0) = False := by simp
      rw [hk] at qp
      clear hm ht hw hxs h0 h0'
      go_enter Tryd.func20, Tryd.ntmps20
      go_wp2_with fail
      go_ret
      refine ⟨by rw [HX.out]; rfl, by rw [HX.out]; exact ⟨HM.out.ok, HM.out.blk⟩, ?_⟩
      have hb := Below.refl b w
      repeat (first | exact hb | exact Below.refl _ _ | apply Below.drew | apply below_drewN | refine Below.alloc ?_ (by first | omega | (simp; done) | (simp; omega)) _ | refine Below.setCell ?_ (by first | omega | (simp; done) | (simp; omega)) _)
end Go.Proofs.YtjjpgkjjiooieaaDoor
