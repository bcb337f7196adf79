/-
  The contract of code.Decode: a program, or the error.
-/
import Derived.Test.YtfngkpbbimibaaaDoorDcT
import Derived.Test.YtfngkpbbimibaaaDoorCk
import Derived.Test.YtfngkpbbimibaaaDoorShS
namespace Go.Proofs.YtfngkpbbimibaaaDoor
open Go.RowKit Tier
/-- What code.Decode hands back. -/
def DecRet (w : World) (l : List Int) (e : Ending) (w' : World) : Prop :=
  ∃ v, e = .returned (.tuple #[.agg #[v], .int .i64 (decE l)]) ∧ (decE l ≠ 0 → v = .slice none 0 0) ∧ (∀ y, decE l = 0 → tkP l = some y → ProgAt w' v y.1) ∧ Below w.heap.size w w'
/-- Nothing but block R has changed. -/
def KE (R : Nat) (a b : World) : Prop := b.heap.size = a.heap.size ∧ ∀ k, k ≠ R → b.heap[k]? = a.heap[k]?
/-- Below block fb nothing but block R has changed. -/
def KX (R fb : Nat) (a b : World) : Prop := a.heap.size ≤ b.heap.size ∧ ∀ k, k < fb → k ≠ R → b.heap[k]? = a.heap[k]?
theorem KX.refl (R fb : Nat) (a : World) : KX R fb a a := ⟨Nat.le_refl _, fun _ _ _ => rfl⟩
theorem KX.ke {R fb : Nat} {a b c : World} (h : KX R fb a b) (h2 : KE R b c) : KX R fb a c := ⟨by rw [h2.1]; exact h.1, fun k h3 h4 => (h2.2 k h4).trans (h.2 k h3 h4)⟩
theorem KX.below {R fb : Nat} {a b c : World} (h : KX R fb a b) (h2 : Below fb b c) : KX R fb a c := ⟨Nat.le_trans h.1 h2.size, fun k h3 h4 => (h2.block k h3).trans (h.2 k h3 h4)⟩
theorem KX.mono {R fb fb' : Nat} {a b : World} (h : KX R fb a b) (hf : fb' ≤ fb) : KX R fb' a b := ⟨h.1, fun k h3 h4 => h.2 k (by omega) h4⟩
theorem KX.trans {R fb : Nat} {a b c : World} (h : KX R fb a b) (h2 : KX R fb b c) : KX R fb a c := ⟨Nat.le_trans h.1 h2.1, fun k h3 h4 => (h2.2 k h3 h4).trans (h.2 k h3 h4)⟩
theorem KX.set {R fb : Nat} {a b : World} (h : KX R fb a b) (i : Nat) (v : Value) : KX R fb a (b.setCell ⟨fb, i, none⟩ v) := h.below ((Below.refl fb b).setCell (Nat.le_refl _) v)
theorem own_blk {w w' : World} {B : Nat} {e : TypeId} {size : Nat} {v : Value} {n : Nat} {xs : List Value} (h : w.ownsRow B e size v n xs) (hk : ∀ (k : Nat) (c : Array Value), B ≤ k → k < w.heap.size → w.heap[k]? = some (.cells c e (0, 0)) → w'.heap[k]? = w.heap[k]?) : w'.ownsRow B e size v n xs := by
  obtain ⟨h1, h2⟩ := h
  refine ⟨h1, ?_⟩
  rcases h2 with h2 | ⟨g, cap, cur, hv, hg, hh, r⟩
  · exact .inl h2
  · exact .inr ⟨g, cap, cur, hv, hg, (hk g cur hg (Array.getElem?_eq_some_iff.1 hh).1 hh).trans hh, r⟩
/-- Where decoding stands: the result, the error, the bytes that are left. -/
structure DS (w wr : World) (pv : Value) (rest : List Int) : Prop where
  rd : ∃ A cap, wr.heap[w.heap.size + 1 + 1]? = some (.cells #[.slice A rest.length cap] 79 (0, 0)) ∧ RestAt w (.slice A rest.length cap) rest
  below : Below w.heap.size w wr
  len : rest.length ≤ 4000
  byte : ∀ b ∈ rest, Byte b
  bp : wr.heap[w.heap.size]? = some (.cells #[pv] 25 (0, 0))
  be : wr.heap[w.heap.size + 1]? = some (.cells #[.int .i64 0] 28 (0, 0))
section
variable {w wr w' : World} {pv : Value} {rest r : List Int} {x : Int}
theorem DS.size (h : DS w wr pv rest) : w.heap.size + 3 ≤ wr.heap.size := by
  obtain ⟨A, cap, h1, -⟩ := h.rd
  have := block_lt h1; omega
theorem DS.keeps (h : DS w wr pv rest) (hb : Below (w.heap.size + 3) wr w') : DS w w' pv rest := by
  obtain ⟨A, cap, h1, h2⟩ := h.rd
  exact ⟨⟨A, cap, (hb.block _ (by omega)).trans h1, h2⟩, h.below.trans (hb.mono (by omega)), h.len, h.byte, (hb.block _ (by omega)).trans h.bp, (hb.block _ (by omega)).trans h.be⟩
theorem DS.dry (h : DS w wr pv []) : Calls Tryd.prog 26 #[.pointer (some ⟨w.heap.size + 1 + 1, 0, none⟩)] wr fun e w' => e = .panicked [{ v := .iface 28 (.int .i64 4), recovered := false }] ∧ wr = w' := by
  obtain ⟨A, cap, h1, -⟩ := h.rd
  exact (take_none _ A cap wr h1).mono fun e w' h => ⟨h.1, h.2.symm⟩
theorem DS.take (h : DS w wr pv (x :: r)) : Calls Tryd.prog 26 #[.pointer (some ⟨w.heap.size + 1 + 1, 0, none⟩)] wr fun e w' => e = .returned (.int .i64 x) ∧ DS w w' pv r ∧ KE (w.heap.size + 1 + 1) wr w' := by
  obtain ⟨A, cap, h1, h2⟩ := h.rd
  have hl := h.len
  simp only [List.length_cons] at hl h1 h2
  refine (take_some _ A cap x r w wr h.below (h.byte x (by simp)) (by omega) h1 h2).mono ?_
  rintro e w' ⟨rfl, A', cap', h3, rfl⟩
  have hk : KE (w.heap.size + 1 + 1) wr (wr.setCell ⟨w.heap.size + 1 + 1, 0, none⟩ (.slice A' r.length cap')) := ⟨by simp, fun k hk => Below.heap_setCell _ _ _ _ hk⟩
  refine ⟨rfl, ⟨⟨A', cap', block_put h1 rfl, h3⟩, h.below.setCell (by simp; omega) _, by omega, fun b hb => h.byte b (by simp [hb]), (hk.2 _ (by omega)).trans h.bp, (hk.2 _ (by omega)).trans h.be⟩, hk⟩
theorem DS.drew (h : DS w wr pv rest) : DS w wr.drew pv rest := ⟨h.rd, h.below.drew, h.len, h.byte, h.bp, h.be⟩
theorem DS.setp (h : DS w wr pv rest) (v : Value) : DS w (wr.setCell ⟨w.heap.size, 0, none⟩ v) v rest := by
  obtain ⟨A, cap, h1, h2⟩ := h.rd
  exact ⟨⟨A, cap, block_set_ne h1 (by omega) _ _, h2⟩, h.below.setCell (Nat.le_refl _) _, h.len, h.byte, block_put h.bp rfl, block_set_ne h.be (by omega) _ _⟩
theorem ProgV.kx {a b : World} {R fb B : Nat} {v : Value} {p : List Fnc} {vs : List Value} (h : ProgV a B v p vs) (hk : KX R fb a b) (hf : a.heap.size ≤ fb) {c : Array Value} (hR : a.heap[R]? = some (.cells c 79 (0, 0))) : ProgV b B v p vs := by
  have hne : ∀ (e : TypeId), e ≠ 79 → ∀ (k : Nat) (c : Array Value), B ≤ k → k < a.heap.size → a.heap[k]? = some (.cells c e (0, 0)) → b.heap[k]? = a.heap[k]? := fun e he k c' _ h2 h3 => hk.2 k (by omega) (fun e2 => by
    subst e2
    rw [hR] at h3
    simp only [Option.some.injEq, Obj.cells.injEq] at h3
    exact he h3.2.1.symm)
  exact ⟨h.len, own_blk h.own (hne _ (by decide)), fun i u f h1 h2 => own_blk (h.code i u f h1 h2) (hne _ (by decide))⟩
end
set_option maxRecDepth 100000 in
theorem dec_out {w w2 : World} {l : List Int} {tmps : Array Value} {n : Int} {v : Value} (h2 : tmps[2]? = some (.pointer (some ⟨w.heap.size, 0, none⟩))) (h3 : tmps[3]? = some (.pointer (some ⟨w.heap.size + 1, 0, none⟩)))
    (c0 : w2.cell? ⟨w.heap.size, 0, none⟩ = some v) (c1 : w2.cell? ⟨w.heap.size + 1, 0, none⟩ = some (.int .i64 n)) (hR : DecRet w l (.returned (.tuple #[.agg #[v], .int .i64 n])) w2) :
    Leaves Tryd.prog Tryd.f10 tmps (DecRet w l) [] .returning w2 := by
  refine ⟨_, ?_, hR⟩
  simp [results, Tryd.results10, go_sem, h2, h3, c0, c1]
set_option maxRecDepth 100000 in
theorem dec_pan {w wr : World} {l : List Int} {tmps : Array Value} {n : Int} {x y : Value} (h2 : tmps[2]? = some (.pointer (some ⟨w.heap.size, 0, none⟩))) (h3 : tmps[3]? = some (.pointer (some ⟨w.heap.size + 1, 0, none⟩)))
    (hp : wr.heap[w.heap.size]? = some (.cells #[x] 25 (0, 0))) (he : wr.heap[w.heap.size + 1]? = some (.cells #[y] 28 (0, 0))) (hb : Below w.heap.size w wr) (hn : decE l = n) (h0 : n ≠ 0) :
    Leaves Tryd.prog Tryd.f10 tmps (DecRet w l) [{ target := .fn (.func 25) #[.pointer (some ⟨w.heap.size, 0, none⟩), .pointer (some ⟨w.heap.size + 1, 0, none⟩)], args := #[] }] (.panicking [{ v := .iface 28 (.int .i64 n), recovered := false }]) wr := by
  refine leaves_cons (f := 25) (args := #[.pointer (some ⟨w.heap.size, 0, none⟩), .pointer (some ⟨w.heap.size + 1, 0, none⟩)]) (by simp) (by simp [go_sem]) ?_
  refine (catch_dec w.heap.size _ _ n wr hp he).mono ?_
  rintro e u' w2 ⟨rfl, rfl, hb2, h4, h5⟩
  refine dec_out (v := .slice none 0 0) (n := n) h2 h3 ((cell_block h4 0).trans rfl) ((cell_block h5 0).trans rfl) ⟨_, by rw [hn], fun _ => rfl, fun y h => absurd (hn.symm.trans h) h0, hb.trans hb2⟩
set_option maxRecDepth 100000 in
set_option maxHeartbeats 8000000 in
theorem decode_any (A : Option Addr) (cap : Nat) (l : List Int) (w : World) (ht : Tab w) (hr : RestAt w (.slice A l.length cap) l) (hb : ∀ b ∈ l, Byte b) (hl : (l.length : Int) ≤ 9223372036854775807) :
    Calls Tryd.prog 10 #[.slice A l.length cap] w (DecRet w l) := by
  have hmf : ∀ (fn : Fn) (first cap : Array Value) (w : World), (Instr.makeFunc fn first cap).run Tryd.prog w = .ok (.func fn first cap) w := fun _ _ _ _ => rfl
  obtain ⟨i0, hi, hz0, hz1, hz2⟩ := info_parts infoFn
  obtain ⟨j1, gj, gy0, gy1, gy2⟩ := info_parts infoIns
  have HT := Lib.hid ht
  have HR := Lib.hid hr
  have HBY := Lib.hid hb
  clear ht hr hb
  obtain ⟨N, hN⟩ : ∃ N, l.length = N := ⟨_, rfl⟩
  have HN := Lib.hid hN
  rw [hN] at hl ⊢
  clear hN
  by_cases hbig : 4000 < N
  · have hbi : (4000 : Int) < N := by omega
    go_enter_defers Tryd.func10, Tryd.ntmps10
    go_wp2_with fail
    have hE : decE l = 1 := by rw [decE, if_pos (by have := HN.out; omega)]
    exact dec_out (v := .slice none 0 0) (n := 1) rfl rfl ((cell_block (block_alloc (heap_alloc_new w _) _) 0).trans rfl) ((cell_block (heap_alloc_new1 w _ _) 0).trans rfl) ⟨_, by rw [hE], fun _ => rfl, (fun y h => by rw [hE] at h; cases h), ((Below.refl _ _).alloc (Nat.le_refl _) _).alloc (by simp) _⟩
  · have hbi : (N : Int) ≤ 4000 := by omega
    have hE := Lib.hid (show decE l = errOf (tkP l) by rw [decE, if_neg (by have := HN.out; omega)])
    have HD0 : Hid (DS w (((w.alloc (.cells #[.slice none 0 0] 25)).alloc (.cells #[.int .i64 0] 28)).alloc (.cells #[.slice A N cap] 79)) (.slice none 0 0) l) := Lib.hid ⟨⟨A, cap, by
      have := heap_alloc_new ((w.alloc (.cells #[.slice none 0 0] 25)).alloc (.cells #[.int .i64 0] 28)) (.cells #[.slice A N cap] 79)
      rw [HN.out]; simpa using this, HR.out⟩, (((Below.refl _ _).alloc (Nat.le_refl _) _).alloc (by simp) _).alloc (by simp; omega) _, by have := HN.out; omega, HBY.out, block_alloc (block_alloc (heap_alloc_new w _) _) _, block_alloc (heap_alloc_new1 w _ _) _⟩
    have hcs : l = [] ∨ ∃ n0 r0, l = n0 :: r0 := by
      cases l with
      | nil => exact .inl rfl
      | cons n0 r0 => exact .inr ⟨n0, r0, rfl⟩
    rcases hcs with hl0 | ⟨n0, r0, hl0⟩
    · have HL := Lib.hid hl0
      clear hl0
      go_enter_defers Tryd.func10, Tryd.ntmps10
      go_wp2_with fail
      have hd0 := HD0.out
      rw [HL.out] at hd0
      refine hd0.dry.mono ?_
      rintro e w1 ⟨rfl, rfl⟩
      exact dec_pan rfl rfl HD0.out.bp HD0.out.be HD0.out.below (by rw [hE.out, HL.out]; rfl) (by decide)
    · have HL := Lib.hid hl0
      clear hl0
      go_enter_defers Tryd.func10, Tryd.ntmps10
      go_wp2_with fail
      have hd0 := HD0.out
      rw [HL.out] at hd0
      refine hd0.take.mono ?_
      rintro e w1 ⟨rfl, hds, hke⟩
      have hby := hd0.byte n0 (by simp)
      obtain ⟨M, hM⟩ : ∃ M : Nat, n0 = (M : Int) := ⟨n0.toNat, by unfold Byte at hby; omega⟩
      subst hM
      have hM2 : (M : Int) < 256 := hby.2
      have HTL := Lib.hid (show tkFns M [] r0 = tkP l by rw [HL.out]; show _ = tkFns ((M : Int)).toNat [] r0; rw [Int.toNat_natCast])
      have HDS := Lib.hid hds
      clear hd0 hds hke hby HD0
      go_wp2_with fail
      go_loopw [18] (fun i wr => ∃ (k : Nat) (ps : List Fnc) (vs : List Value) (PA : Option Addr) (pcap : Nat) (rest : List Int), k ≤ M ∧ i = .int .i64 (k : Int) ∧ DS w wr (.slice PA k pcap) rest ∧ ProgV wr (w.heap.size + 3) (.slice PA k pcap) ps vs ∧ ps.length = k ∧ tkFns (M - k) ps rest = tkP l ∧ (∀ f ∈ ps, f.code.length ≤ 255)) (fun i _ => M - (intOf i).toNat)
      case atStart => exact ⟨0, [], [], none, 0, r0, by omega, rfl, HDS.out, ⟨rfl, World.ownsRow_nil _ _ _ _, fun i u f h => by simp at h⟩, rfl, HTL.out, fun f hf => by simp at hf⟩
      case round =>
        obtain ⟨k, ps, vs, PA, pcap, rest, hk, rfl, hds, hpv, hpl, htk, hcl⟩ := hrel
        have HDS1 := Lib.hid hds
        have HPV := Lib.hid hpv
        have HPL := Lib.hid hpl
        have HTK := Lib.hid htk
        have HCL := Lib.hid hcl
        clear HDS HTL hpv hpl htk hcl
        by_cases hkM : k = M
        · subst hkM
          have HEND := Lib.hid (show tkP l = some (ps, rest) by rw [← HTK.out, Nat.sub_self]; rfl)
          obtain ⟨RA, rcap, hrb, -⟩ := hds.rd
          have c0 := (cell_block hrb 0).trans rfl
          have z0 := block_lt hrb
          clear HTK hds hrb
          by_cases hrest : rest = []
          · subst hrest
            have c0' : wr.cell? ⟨w.heap.size + 1 + 1, 0, none⟩ = some (.slice RA 0 rcap) := c0
            have p0 := (cell_block HDS1.out.bp 0).trans rfl
            have z1 : w.heap.size < wr.heap.size := by omega
            have HCK := Lib.hid (check_any ps (.slice PA k pcap) wr (HT.out.keeps HDS1.out.below) HPV.out.at (by rw [HPL.out]; omega) (fun f hf => by have := HCL.out f hf; omega))
            have HPE := Lib.hid (show decE l = progE ps by rw [hE.out, HEND.out]; rfl)
            clear c0
            obtain ⟨q, hq⟩ : ∃ q, progE ps = q := ⟨_, rfl⟩
            rw [hq] at HCK HPE
            by_cases hq0 : q = 0
            · subst hq0
              have HQ := Lib.hid hq
              clear hq
              go_wp2_with fail
              refine HCK.out.mono ?_
              rintro e w2 ⟨rfl, hb2⟩
              have hd2 := HDS1.out.keeps (hb2.mono HDS1.out.size)
              have HPV2 := Lib.hid (HPV.out.keeps hb2)
              have HD2 := Lib.hid hd2
              have p2 := (cell_block hd2.bp 0).trans rfl
              have n2 := frozen_block hd2.bp 0
              have y2 := block_lt hd2.bp
              have p3 := (cell_block hd2.be 0).trans rfl
              have n3 := frozen_block hd2.be 0
              have y3 := block_lt hd2.be
              clear hd2 hb2 c0' p0 z0 z1
              go_wp2_with fail
              refine leaves_cons (f := 25) (args := #[.pointer (some ⟨w.heap.size, 0, none⟩), .pointer (some ⟨w.heap.size + 1, 0, none⟩)]) (by simp) (by simp [go_sem]) ?_
              refine (catch_idle _ _ _).mono ?_
              rintro e u' w3 ⟨rfl, rfl, rfl⟩
              refine dec_out (v := .slice PA k pcap) (n := 0) rfl rfl ((cell_block (block_set_ne (block_put HD2.out.bp rfl) (by omega) _ _) 0).trans rfl) ((cell_block (block_put (block_set_ne HD2.out.be (by omega) _ _) rfl) 0).trans rfl) ⟨_, by rw [HPE.out], fun h => absurd HPE.out h, fun y _ hy => ?_, (HD2.out.below.setCell (Nat.le_refl _) _).setCell (by simp) _⟩
              rw [HEND.out] at hy
              obtain rfl := Option.some.inj hy
              exact ((HPV2.out.setCell (by simp) _).setCell (by simp) _).at
            · have hq1 : (q == 0) = false := by simpa using hq0
              have hq2 : (q != 0) = true := by simpa using hq0
              go_wp2_with fail
              refine HCK.out.mono ?_
              rintro e w2 ⟨rfl, hb2⟩
              have hd2 := HDS1.out.keeps (hb2.mono HDS1.out.size)
              go_wp2_with fail
              exact dec_pan rfl rfl hd2.bp hd2.be hd2.below HPE.out hq0
          · have hrl : 0 < rest.length := List.length_pos_iff.2 hrest
            have hrl2 : (0 : Int) < rest.length := by omega
            go_wp2_with fail
            exact dec_pan rfl rfl HDS1.out.bp HDS1.out.be HDS1.out.below (by rw [hE.out, HEND.out]; show (if rest ≠ [] then (5 : Int) else _) = 5; rw [if_pos hrest]) (by decide)
        · have hkM' : (k : Int) < M := by omega
          have hk0 : (0 : Int) ≤ k := by omega
          have HTK1 := Lib.hid (show tkP l = (match tkFn rest with | none => none | some y => tkFns (M - (k + 1)) (ps ++ [y.1]) y.2) by
            rw [← HTK.out, show M - k = (M - (k + 1)) + 1 by omega]; rfl)
          have HBAD := Lib.hid (fun (h : tkFn rest = none) => show decE l = 4 by rw [hE.out, HTK1.out, h]; rfl)
          clear HTK hkM
          rcases rest with _ | ⟨x0, rest⟩
          · go_wp2_with fail
            refine hds.dry.mono ?_
            rintro e w1 ⟨rfl, rfl⟩
            exact dec_pan rfl rfl HDS1.out.bp HDS1.out.be HDS1.out.below (HBAD.out rfl) (by decide)
          go_wp2_with fail
          refine hds.take.mono ?_
          rintro e w2 ⟨rfl, hds2, hke2⟩
          rcases rest with _ | ⟨x1, rest⟩
          · go_wp2_with fail
            refine hds2.dry.mono ?_
            rintro e w1 ⟨rfl, rfl⟩
            exact dec_pan rfl rfl hds2.bp hds2.be hds2.below (HBAD.out rfl) (by decide)
          go_wp2_with fail
          refine hds2.take.mono ?_
          rintro e w3 ⟨rfl, hds3, hke3⟩
          have HK3 := Lib.hid (((KX.refl (w.heap.size + 1 + 1) wr.heap.size wr).ke hke2).ke hke3)
          have HDS3 := Lib.hid hds3
          clear hds hds2 hds3 hke2 hke3
          go_wp2_with fail
          have hdsf := HDS3.out.keeps ((Below.refl (w.heap.size + 3) w3).alloc HDS3.out.size (.cells #[.int .i64 x0, .int .i64 x1, .slice none 0 0] 45))
          have hfb := heap_alloc_new w3 (.cells #[.int .i64 x0, .int .i64 x1, .slice none 0 0] 45)
          rcases rest with _ | ⟨x2, rest⟩
          · refine hdsf.dry.mono ?_
            rintro e w1 ⟨rfl, rfl⟩
            exact dec_pan rfl rfl hdsf.bp hdsf.be hdsf.below (HBAD.out rfl) (by decide)
          refine hdsf.take.mono ?_
          rintro e w4 ⟨rfl, hds4, hke4⟩
          have hby := hdsf.byte x2 (by simp)
          obtain ⟨m, hm⟩ : ∃ m : Nat, x2 = (m : Int) := ⟨x2.toNat, by unfold Byte at hby; omega⟩
          subst hm
          have hm2 : (m : Int) < 256 := hby.2
          have hz3 := HDS3.out.size
          have HFB4 : Hid (w4.heap[w3.heap.size]? = some (.cells #[.int .i64 x0, .int .i64 x1, .slice none 0 0] 45 (0, 0))) := Lib.hid ((hke4.2 _ (by omega)).trans hfb)
          have HK4 : Hid (KX (w.heap.size + 1 + 1) w3.heap.size w3 w4) := Lib.hid (((KX.refl _ _ w3).below ((Below.refl _ _).alloc (Nat.le_refl _) _)).ke hke4)
          have HDS4 := Lib.hid hds4
          have HZ3 := Lib.hid hz3
          have HTF := Lib.hid (fun (y : List Ins × List Int) (h : tkCode m [] rest = some y) => show tkP l = tkFns (M - (k + 1)) (ps ++ [⟨x0, x1, y.1⟩]) y.2 by
            rw [HTK1.out, show tkFn (x0 :: x1 :: (m : Int) :: rest) = some (⟨x0, x1, y.1⟩, y.2) by show (tkCode ((m : Int)).toNat [] rest).map (fun y => ((⟨x0, x1, y.1⟩ : Fnc), y.2)) = _; rw [Int.toNat_natCast, h]; rfl])
          have HBAD3 := Lib.hid (fun (h : tkCode m [] rest = none) => HBAD.out (by show (tkCode ((m : Int)).toNat [] rest).map _ = none; rw [Int.toNat_natCast, h]; rfl))
          clear hdsf hfb hds4 hke4 hby hz3 HBAD HTK1
          obtain ⟨wo, hwo⟩ : ∃ wo : World, wo = wr := ⟨_, rfl⟩
          subst hwo
          go_wp2_with fail
          go_loopw [27] (fun i wq => ∃ (j : Nat) (cs : List Ins) (CA : Option Addr) (ccap : Nat) (rs : List Int), j ≤ m ∧ i = .int .i64 (j : Int) ∧ DS w wq (.slice PA k pcap) rs ∧ KX (w.heap.size + 1 + 1) w3.heap.size w3 wq ∧ wq.heap[w3.heap.size]? = some (.cells #[.int .i64 x0, .int .i64 x1, .slice CA j ccap] 45 (0, 0)) ∧ wq.ownsRow (w3.heap.size + 1) 76 5 (.slice CA j ccap) j (codeCells cs) ∧ cs.length = j ∧ tkCode (m - j) cs rs = tkCode m [] rest) (fun i _ => m - (intOf i).toNat)
          case atStart => exact ⟨0, [], none, 0, rest, by omega, rfl, HDS4.out, HK4.out, HFB4.out, World.ownsRow_nil _ _ _ _, rfl, by rw [Nat.sub_zero]⟩
          case round =>
            obtain ⟨j, cs, CA, ccap, rs, hj, rfl, hds, hkx, hfb, hown, hcl, htk⟩ := hrel
            have HDSJ := Lib.hid hds
            have HKJ := Lib.hid hkx
            have HFBJ := Lib.hid hfb
            have HOWN := Lib.hid hown
            have HCLJ := Lib.hid hcl
            have HTKJ := Lib.hid htk
            clear HDS4 HK4 HFB4 hkx hown hcl htk
            by_cases hjm : j = m
            · subst hjm
              have HF := Lib.hid (HTF.out (cs, rs) (by rw [← HTKJ.out, Nat.sub_self]; rfl))
              have p0 := (cell_block hds.bp 0).trans rfl
              have n0 := frozen_block hds.bp 0
              have z0 := block_lt hds.bp
              have c0 := (cell_block hfb 0).trans rfl
              have c1 := (cell_block hfb 1).trans rfl
              have c2 := (cell_block hfb 2).trans rfl
              have z1 := block_lt hfb
              obtain ⟨RA, rcap, hrb, -⟩ := HDS1.out.rd
              have HPVR := Lib.hid (HPV.out.kx (HK3.out.trans (HKJ.out.mono HK3.out.1)) (Nat.le_refl _) hrb)
              have ho := HPVR.out.own
              rw [HPL.out] at ho
              have HO := Lib.hid ho
              have HSZ := Lib.hid (show w.heap.size + 3 ≤ wr.heap.size ∧ w.heap.size + 3 ≤ w3.heap.size from ⟨HDSJ.out.size, HZ3.out⟩)
              clear hds hfb HTF HBAD3 hrb ho
              go_wp2_with (at_builtin; go_must (refine wpList_append_own _ rfl _ _ 23 rfl (w.heap.size + 3) 45 i0 _ 3 40 Tryd.underlying23 hi hz0 hz1 hz2 rfl (by decide) (.slice PA k pcap) k (fnCells ps vs) rfl (own_below HO.out ((Below.refl _ _).alloc (Nat.le_refl _) _)) ⟨wr.heap.size, 0, none⟩ 1 1 [.int .i64 x0, .int .i64 x1, .slice CA j ccap] rfl rfl (World.news_of_block (cs := #[.int .i64 x0, .int .i64 x1, .slice CA j ccap]) (t := 45) (fr := (0, 0)) (heap_alloc_new _ _)) (by simp [Value.oneCell']) (by unfold maxLen; omega) (by omega) (by have := HSZ.out.1; simp; omega) ?_); intro v5 w5 hown5 hg5 _; obtain ⟨A5, cap5, hv5, -⟩ := own_slice hown5; rw [hv5] at hown5; rw [hv5]; have HB5 : Hid (Below (w.heap.size + 3) wr w5) := Lib.hid (((Below.refl (w.heap.size + 3) wr).alloc HSZ.out.1 _).grown hg5 (by have := HSZ.out.1; simp; omega) (fun k hk => (World.ownsRow.lt HO.out k hk).1)); have HDS5 := Lib.hid (HDSJ.out.keeps HB5.out); have HPV5 := Lib.hid (HPVR.out.app ⟨x0, x1, cs⟩ (.slice CA j ccap) _ (by have := HCLJ.out; show wr.ownsRow _ _ 5 _ cs.length _; rw [this]; exact own_base HOWN.out (by have := HSZ.out.2; omega)) hg5 (by rw [HPL.out]; exact hown5)); have p5 := (cell_block HDS5.out.bp 0).trans rfl; have n5 := frozen_block HDS5.out.bp 0; have z5 := block_lt HDS5.out.bp; clear hown5 hg5 p0 n0 z0 c0 c1 c2 z1)
              go_roundw
              case rel => exact ⟨k + 1, ps ++ [⟨x0, x1, cs⟩], vs ++ [.slice CA j ccap], A5, cap5, rs, by omega, by go_num, HDS5.out.setp _, HPV5.out.setCell (by simp) _, by rw [List.length_append, HPL.out]; rfl, HF.out.symm, fun f hf => by
                rcases List.mem_append.1 hf with h | h
                · exact HCL.out f h
                · rw [List.mem_singleton.1 h]; have := HCLJ.out; show cs.length ≤ 255; omega⟩
              case measure => simp [intOf]; omega
            · have hjm' : (j : Int) < m := by omega
              have hj0 : (0 : Int) ≤ j := by omega
              have HTC := Lib.hid (show tkCode m [] rest = (match tkIns rs with | none => none | some y => tkCode (m - (j + 1)) (cs ++ [y.1]) y.2) by
                rw [← HTKJ.out, show m - j = (m - (j + 1)) + 1 by omega]; rfl)
              have HBAD4 := Lib.hid (fun (h : tkIns rs = none) => HBAD3.out (by rw [HTC.out, h]))
              clear HTKJ hjm hfb HTF
              rcases rs with _ | ⟨y0, rs⟩
              · go_wp2_with fail
                refine hds.dry.mono ?_
                rintro e w1 ⟨rfl, rfl⟩
                exact dec_pan rfl rfl hds.bp hds.be hds.below (HBAD4.out rfl) (by decide)
              go_wp2_with fail
              refine hds.take.mono ?_
              rintro e v1 ⟨rfl, hq1, hk1⟩
              rcases rs with _ | ⟨y1, rs⟩
              · go_wp2_with fail
                refine hq1.dry.mono ?_
                rintro e w1 ⟨rfl, rfl⟩
                exact dec_pan rfl rfl hq1.bp hq1.be hq1.below (HBAD4.out rfl) (by decide)
              go_wp2_with fail
              refine hq1.take.mono ?_
              rintro e v2 ⟨rfl, hq2, hk2⟩
              rcases rs with _ | ⟨y2, rs⟩
              · go_wp2_with fail
                refine hq2.dry.mono ?_
                rintro e w1 ⟨rfl, rfl⟩
                exact dec_pan rfl rfl hq2.bp hq2.be hq2.below (HBAD4.out rfl) (by decide)
              go_wp2_with fail
              refine hq2.take.mono ?_
              rintro e v3 ⟨rfl, hq3, hk3⟩
              rcases rs with _ | ⟨y3, rs⟩
              · go_wp2_with fail
                refine hq3.dry.mono ?_
                rintro e w1 ⟨rfl, rfl⟩
                exact dec_pan rfl rfl hq3.bp hq3.be hq3.below (HBAD4.out rfl) (by decide)
              go_wp2_with fail
              refine hq3.take.mono ?_
              rintro e v4 ⟨rfl, hq4, hk4⟩
              have HQ4 := Lib.hid hq4
              have HV4 := Lib.hid ((((KX.refl (w.heap.size + 1 + 1) wr.heap.size wr).ke hk1).ke hk2).ke hk3 |>.ke hk4)
              have HVZ : Hid (v4.heap.size = wr.heap.size) := Lib.hid (by rw [hk4.1, hk3.1, hk2.1, hk1.1])
              have hv4 := HQ4.out.keeps ((Below.refl (w.heap.size + 3) v4).alloc HQ4.out.size (.cells #[.int .i64 y0, .int .i64 y1, .int .i64 y2, .int .i64 y3, .int .i64 0] 76))
              have HX0 : Hid ((v4.alloc (.cells #[.int .i64 y0, .int .i64 y1, .int .i64 y2, .int .i64 y3, .int .i64 0] 76)).heap[v4.heap.size]? = some (.cells #[.int .i64 y0, .int .i64 y1, .int .i64 y2, .int .i64 y3, .int .i64 0] 76 (0, 0))) := Lib.hid (heap_alloc_new v4 _)
              have HKX0 : Hid (KX (w.heap.size + 1 + 1) v4.heap.size v4 (v4.alloc (.cells #[.int .i64 y0, .int .i64 y1, .int .i64 y2, .int .i64 y3, .int .i64 0] 76))) := Lib.hid ((KX.refl _ _ v4).below ((Below.refl _ _).alloc (Nat.le_refl _) _))
              have HD4 := Lib.hid hv4
              have HTI := Lib.hid (fun (y : Int × List Int) (h : tk8 8 0 rs = some y) => show tkCode m [] rest = tkCode (m - (j + 1)) (cs ++ [⟨y0, y1, y2, y3, y.1⟩]) y.2 by
                rw [HTC.out, show tkIns (y0 :: y1 :: y2 :: y3 :: rs) = some (⟨y0, y1, y2, y3, y.1⟩, y.2) by show (tk8 8 0 rs).map (fun y => ((⟨y0, y1, y2, y3, y.1⟩ : Ins), y.2)) = _; rw [h]; rfl])
              have HBAD5 := Lib.hid (fun (h : tk8 8 0 rs = none) => HBAD4.out (by show (tk8 8 0 rs).map _ = none; rw [h]; rfl))
              clear hds hq1 hq2 hq3 hq4 hk1 hk2 hk3 hk4 hv4 HBAD4 HTC
              obtain ⟨wm, hwm⟩ : ∃ wm : World, wm = wr := ⟨_, rfl⟩
              subst hwm
              go_wp2_with fail
              go_loopw [38] (fun i wz => ∃ (t : Nat) (imm : Int) (rt : List Int), t ≤ 8 ∧ i = .int .i64 (t : Int) ∧ DS w wz (.slice PA k pcap) rt ∧ KX (w.heap.size + 1 + 1) v4.heap.size v4 wz ∧ wz.heap[v4.heap.size]? = some (.cells #[.int .i64 y0, .int .i64 y1, .int .i64 y2, .int .i64 y3, .int .i64 imm] 76 (0, 0)) ∧ tk8 (8 - t) imm rt = tk8 8 0 rs) (fun i _ => 8 - (intOf i).toNat)
              case atStart => exact ⟨0, 0, rs, by omega, rfl, HD4.out, HKX0.out, HX0.out, rfl⟩
              case round =>
                obtain ⟨t, imm, rt, ht, rfl, hds, hkx, hxb, htk⟩ := hrel
                have HDT := Lib.hid hds
                have HKT := Lib.hid hkx
                have HXT := Lib.hid hxb
                have HTT := Lib.hid htk
                clear HD4 HKX0 HX0 hkx htk
                by_cases ht8 : t = 8
                · subst ht8
                  have HC := Lib.hid (HTI.out (imm, rt) (by rw [← HTT.out]; rfl))
                  have hlt := block_lt HFBJ.out
                  have HSZ := Lib.hid (show w.heap.size + 3 ≤ wr.heap.size ∧ w.heap.size + 3 ≤ w3.heap.size ∧ w3.heap.size + 1 ≤ wr.heap.size ∧ w3.heap.size < v4.heap.size from ⟨HDT.out.size, HZ3.out, by have := HKT.out.1; have := HVZ.out; omega, by have := HVZ.out; omega⟩)
                  have HKM : Hid (KX (w.heap.size + 1 + 1) wm.heap.size wm wr) := Lib.hid (HV4.out.trans (HKT.out.mono (by rw [HVZ.out]; exact Nat.le_refl _)))
                  have hfbr := (HKM.out.2 w3.heap.size hlt (by have := HZ3.out; omega)).trans HFBJ.out
                  have HFBR := Lib.hid hfbr
                  have HOWR := Lib.hid (own_blk HOWN.out (fun k c h1 h2 _ => HKM.out.2 k h2 (by have := HZ3.out; omega)))
                  have HKR : Hid (KX (w.heap.size + 1 + 1) w3.heap.size w3 wr) := Lib.hid (HKJ.out.trans (HKM.out.mono (by omega)))
                  have f2 := (cell_block hfbr 2).trans rfl
                  have g2 := frozen_block hfbr 2
                  have zf := block_lt hfbr
                  have c0 := (cell_block hxb 0).trans rfl
                  have c1 := (cell_block hxb 1).trans rfl
                  have c2 := (cell_block hxb 2).trans rfl
                  have c3 := (cell_block hxb 3).trans rfl
                  have c4 := (cell_block hxb 4).trans rfl
                  have zx := block_lt hxb
                  clear hds hxb hlt hfbr HTT HTI HBAD5
                  go_wp2_with (at_builtin; go_must (refine wpList_append_own _ rfl _ _ 43 rfl (w3.heap.size + 1) 76 j1 _ 5 40 Tryd.underlying43 gj gy0 gy1 gy2 rfl (by decide) (.slice CA j ccap) j (codeCells cs) rfl (own_below HOWR.out ((Below.refl _ _).alloc (Nat.le_refl _) _)) ⟨wr.heap.size, 0, none⟩ 1 1 [.int .i64 y0, .int .i64 y1, .int .i64 y2, .int .i64 y3, .int .i64 imm] rfl rfl (World.news_of_block (cs := #[.int .i64 y0, .int .i64 y1, .int .i64 y2, .int .i64 y3, .int .i64 imm]) (t := 76) (fr := (0, 0)) (heap_alloc_new _ _)) (by simp [Value.oneCell']) (by unfold maxLen; omega) (by omega) (by have := HSZ.out.2.2.1; simp; omega) ?_); intro v7 w7 hown7 hg7 _; obtain ⟨A7, cap7, hv7, -⟩ := own_slice hown7; rw [hv7] at hown7; rw [hv7]; have HB7 : Hid (Below (w3.heap.size + 1) wr w7) := Lib.hid (((Below.refl (w3.heap.size + 1) wr).alloc HSZ.out.2.2.1 _).grown hg7 (by have := HSZ.out.2.2.1; simp; omega) (fun k hk => (World.ownsRow.lt HOWR.out k hk).1)); have HDS7 := Lib.hid (HDT.out.keeps (HB7.out.mono (by have := HSZ.out.2.1; omega))); have HOW7 := Lib.hid hown7; have hf7 := (HB7.out.block w3.heap.size (by omega)).trans HFBR.out; have HF7 := Lib.hid hf7; have u7 := (cell_block hf7 2).trans rfl; have n7 := frozen_block hf7 2; have z7 := block_lt hf7; clear hown7 hg7 hf7 f2 g2 zf c0 c1 c2 c3 c4 zx)
                  go_roundw
                  case rel => exact ⟨j + 1, cs ++ [⟨y0, y1, y2, y3, imm⟩], A7, cap7, rt, by omega, by go_num, HDS7.out.keeps ((Below.refl _ _).setCell (by have := HSZ.out.2.1; omega) _), (HKR.out.below (HB7.out.mono (by omega))).set _ _, block_put HF7.out rfl, by rw [codeCells_snoc]; exact ownsRow_setCell_below HOW7.out (by simp) _, by rw [List.length_append, HCLJ.out]; rfl, HC.out.symm⟩
                  case measure => simp [intOf]; omega
                · skip
--RND
                  have ht8' : (t : Int) < 8 := by omega
                  have ht0 : (0 : Int) ≤ t := by omega
                  have c4 := (cell_block hxb 4).trans rfl
                  have z4 := block_lt hxb
                  have hsh : wrap64 (imm * 2 ^ 8) = wrap64 (imm * 256) := rfl
                  clear hxb
                  rcases rt with _ | ⟨z0, rt⟩
                  · have HTN := Lib.hid (show tk8 8 0 rs = none by rw [← HTT.out, show 8 - t = (8 - (t + 1)) + 1 by omega]; rfl)
                    clear hds HTT
                    go_wp2_with fail
                    refine wp_region_held_drew (S := fun _ => True) (by kernel_rfl) trivial (fun hHeld => ?_)
                    refine wpAnyH_ready (rs := [0, 3]) (by kernel_rfl) (by simp) ?_
                    refine AllReadyH.cons rfl (fun K hK => ?_) (AllReadyH.cons rfl (fun K hK => ?_) (AllReadyH.nil))
                    · simp only [List.getElem_toArray, List.getElem_cons_zero]
                      go_simp
                      refine hK.out _ _ trivial (fun hHeld => ?_)
                      clear hK K
                      refine wpAnyH_ready (rs := [1, 3]) (by kernel_rfl) (by simp) ?_
                      refine AllReadyH.cons rfl (fun K hK => ?_) (AllReadyH.cons rfl (fun K hK => ?_) (AllReadyH.nil))
                      · simp only [List.getElem_toArray, List.getElem_cons_zero, List.getElem_cons_succ]
                        go_simp
                        refine hK.out _ _ trivial (fun hHeld => ?_)
                        clear hK K
                        refine wpAnyH_ready (rs := [2, 3]) (by kernel_rfl) (by simp) ?_
                        refine AllReadyH.cons rfl (fun K hK => ?_) (AllReadyH.cons rfl (fun K hK => ?_) (AllReadyH.nil))
                        · simp only [List.getElem_toArray, List.getElem_cons_zero, List.getElem_cons_succ]
                          go_simp
                          refine hK.out _ _ trivial (fun hHeld => ?_)
                          clear hK K
                          refine wpAnyH_ready (rs := [3]) (by kernel_rfl) (by simp) ?_
                          refine AllReadyH.cons rfl (fun K hK => ?_) (AllReadyH.nil)
                          simp only [List.getElem_toArray, List.getElem_cons_zero, List.getElem_cons_succ]
                          go_simp
                          refine hK.out _ _ trivial (fun hHeld => ?_)
                          clear hK K
                          refine wpAnyH_ready (rs := [4]) (by kernel_rfl) (by simp) ?_
                          refine AllReadyH.cons rfl (fun K hK => ?_) (AllReadyH.nil)
                          simp only [List.getElem_toArray, List.getElem_cons_zero, List.getElem_cons_succ]
                          go_simp
                          refine HDT.out.drew.dry.mono ?_
                          rintro e w1 ⟨rfl, rfl⟩
                          exact dec_pan rfl rfl HDT.out.bp HDT.out.be HDT.out.below.drew (HBAD5.out HTN.out) (by decide)
                        · simp only [List.getElem_toArray, List.getElem_cons_zero, List.getElem_cons_succ]
                          go_simp
                          refine hK.out _ _ trivial (fun hHeld => ?_)
                          clear hK K
                          refine wpAnyH_ready (rs := [2, 4]) (by kernel_rfl) (by simp) ?_
                          refine AllReadyH.cons rfl (fun K hK => ?_) (AllReadyH.cons rfl (fun K hK => ?_) (AllReadyH.nil))
                          · simp only [List.getElem_toArray, List.getElem_cons_zero, List.getElem_cons_succ]
                            go_simp
                            refine hK.out _ _ trivial (fun hHeld => ?_)
                            clear hK K
                            refine wpAnyH_ready (rs := [4]) (by kernel_rfl) (by simp) ?_
                            refine AllReadyH.cons rfl (fun K hK => ?_) (AllReadyH.nil)
                            simp only [List.getElem_toArray, List.getElem_cons_zero, List.getElem_cons_succ]
                            go_simp
                            refine HDT.out.drew.dry.mono ?_
                            rintro e w1 ⟨rfl, rfl⟩
                            exact dec_pan rfl rfl HDT.out.bp HDT.out.be HDT.out.below.drew (HBAD5.out HTN.out) (by decide)
                          · simp only [List.getElem_toArray, List.getElem_cons_zero, List.getElem_cons_succ]
                            go_simp
                            refine HDT.out.drew.dry.mono ?_
                            rintro e w1 ⟨rfl, rfl⟩
                            exact dec_pan rfl rfl HDT.out.bp HDT.out.be HDT.out.below.drew (HBAD5.out HTN.out) (by decide)
                      · simp only [List.getElem_toArray, List.getElem_cons_zero, List.getElem_cons_succ]
                        go_simp
                        refine hK.out _ _ trivial (fun hHeld => ?_)
                        clear hK K
                        refine wpAnyH_ready (rs := [1, 4]) (by kernel_rfl) (by simp) ?_
                        refine AllReadyH.cons rfl (fun K hK => ?_) (AllReadyH.cons rfl (fun K hK => ?_) (AllReadyH.nil))
                        · simp only [List.getElem_toArray, List.getElem_cons_zero, List.getElem_cons_succ]
                          go_simp
                          refine hK.out _ _ trivial (fun hHeld => ?_)
                          clear hK K
                          refine wpAnyH_ready (rs := [2, 4]) (by kernel_rfl) (by simp) ?_
                          refine AllReadyH.cons rfl (fun K hK => ?_) (AllReadyH.cons rfl (fun K hK => ?_) (AllReadyH.nil))
                          · simp only [List.getElem_toArray, List.getElem_cons_zero, List.getElem_cons_succ]
                            go_simp
                            refine hK.out _ _ trivial (fun hHeld => ?_)
                            clear hK K
                            refine wpAnyH_ready (rs := [4]) (by kernel_rfl) (by simp) ?_
                            refine AllReadyH.cons rfl (fun K hK => ?_) (AllReadyH.nil)
                            simp only [List.getElem_toArray, List.getElem_cons_zero, List.getElem_cons_succ]
                            go_simp
                            refine HDT.out.drew.dry.mono ?_
                            rintro e w1 ⟨rfl, rfl⟩
                            exact dec_pan rfl rfl HDT.out.bp HDT.out.be HDT.out.below.drew (HBAD5.out HTN.out) (by decide)
                          · simp only [List.getElem_toArray, List.getElem_cons_zero, List.getElem_cons_succ]
                            go_simp
                            refine HDT.out.drew.dry.mono ?_
                            rintro e w1 ⟨rfl, rfl⟩
                            exact dec_pan rfl rfl HDT.out.bp HDT.out.be HDT.out.below.drew (HBAD5.out HTN.out) (by decide)
                        · simp only [List.getElem_toArray, List.getElem_cons_zero, List.getElem_cons_succ]
                          go_simp
                          refine HDT.out.drew.dry.mono ?_
                          rintro e w1 ⟨rfl, rfl⟩
                          exact dec_pan rfl rfl HDT.out.bp HDT.out.be HDT.out.below.drew (HBAD5.out HTN.out) (by decide)
                    · simp only [List.getElem_toArray, List.getElem_cons_zero, List.getElem_cons_succ]
                      go_simp
                      refine hK.out _ _ trivial (fun hHeld => ?_)
                      clear hK K
                      refine wpAnyH_ready (rs := [0, 4]) (by kernel_rfl) (by simp) ?_
                      refine AllReadyH.cons rfl (fun K hK => ?_) (AllReadyH.cons rfl (fun K hK => ?_) (AllReadyH.nil))
                      · simp only [List.getElem_toArray, List.getElem_cons_zero]
                        go_simp
                        refine hK.out _ _ trivial (fun hHeld => ?_)
                        clear hK K
                        refine wpAnyH_ready (rs := [1, 4]) (by kernel_rfl) (by simp) ?_
                        refine AllReadyH.cons rfl (fun K hK => ?_) (AllReadyH.cons rfl (fun K hK => ?_) (AllReadyH.nil))
                        · simp only [List.getElem_toArray, List.getElem_cons_zero, List.getElem_cons_succ]
                          go_simp
                          refine hK.out _ _ trivial (fun hHeld => ?_)
                          clear hK K
                          refine wpAnyH_ready (rs := [2, 4]) (by kernel_rfl) (by simp) ?_
                          refine AllReadyH.cons rfl (fun K hK => ?_) (AllReadyH.cons rfl (fun K hK => ?_) (AllReadyH.nil))
                          · simp only [List.getElem_toArray, List.getElem_cons_zero, List.getElem_cons_succ]
                            go_simp
                            refine hK.out _ _ trivial (fun hHeld => ?_)
                            clear hK K
                            refine wpAnyH_ready (rs := [4]) (by kernel_rfl) (by simp) ?_
                            refine AllReadyH.cons rfl (fun K hK => ?_) (AllReadyH.nil)
                            simp only [List.getElem_toArray, List.getElem_cons_zero, List.getElem_cons_succ]
                            go_simp
                            refine HDT.out.drew.dry.mono ?_
                            rintro e w1 ⟨rfl, rfl⟩
                            exact dec_pan rfl rfl HDT.out.bp HDT.out.be HDT.out.below.drew (HBAD5.out HTN.out) (by decide)
                          · simp only [List.getElem_toArray, List.getElem_cons_zero, List.getElem_cons_succ]
                            go_simp
                            refine HDT.out.drew.dry.mono ?_
                            rintro e w1 ⟨rfl, rfl⟩
                            exact dec_pan rfl rfl HDT.out.bp HDT.out.be HDT.out.below.drew (HBAD5.out HTN.out) (by decide)
                        · simp only [List.getElem_toArray, List.getElem_cons_zero, List.getElem_cons_succ]
                          go_simp
                          refine HDT.out.drew.dry.mono ?_
                          rintro e w1 ⟨rfl, rfl⟩
                          exact dec_pan rfl rfl HDT.out.bp HDT.out.be HDT.out.below.drew (HBAD5.out HTN.out) (by decide)
                      · simp only [List.getElem_toArray, List.getElem_cons_zero, List.getElem_cons_succ]
                        go_simp
                        refine HDT.out.drew.dry.mono ?_
                        rintro e w1 ⟨rfl, rfl⟩
                        exact dec_pan rfl rfl HDT.out.bp HDT.out.be HDT.out.below.drew (HBAD5.out HTN.out) (by decide)
                  · have HTN := Lib.hid (show tk8 (8 - (t + 1)) (byteIn imm z0) rt = tk8 8 0 rs by rw [← HTT.out, show 8 - t = (8 - (t + 1)) + 1 by omega]; rfl)
                    have hbz := hds.byte z0 (by simp)
                    have HOR := Lib.hid (byteIn_or imm z0 hbz.1 hbz.2)
                    clear hds HTT hbz
                    go_wp2_with fail
                    refine wp_region_held_drew (S := fun _ => True) (by kernel_rfl) trivial (fun hHeld => ?_)
                    refine wpAnyH_ready (rs := [0, 3]) (by kernel_rfl) (by simp) ?_
                    refine AllReadyH.cons rfl (fun K hK => ?_) (AllReadyH.cons rfl (fun K hK => ?_) (AllReadyH.nil))
                    · simp only [List.getElem_toArray, List.getElem_cons_zero]
                      go_simp
                      refine hK.out _ _ trivial (fun hHeld => ?_)
                      clear hK K
                      refine wpAnyH_ready (rs := [1, 3]) (by kernel_rfl) (by simp) ?_
                      refine AllReadyH.cons rfl (fun K hK => ?_) (AllReadyH.cons rfl (fun K hK => ?_) (AllReadyH.nil))
                      · simp only [List.getElem_toArray, List.getElem_cons_zero, List.getElem_cons_succ]
                        go_simp
                        refine hK.out _ _ trivial (fun hHeld => ?_)
                        clear hK K
                        refine wpAnyH_ready (rs := [2, 3]) (by kernel_rfl) (by simp) ?_
                        refine AllReadyH.cons rfl (fun K hK => ?_) (AllReadyH.cons rfl (fun K hK => ?_) (AllReadyH.nil))
                        · simp only [List.getElem_toArray, List.getElem_cons_zero, List.getElem_cons_succ]
                          go_simp
                          refine hK.out _ _ trivial (fun hHeld => ?_)
                          clear hK K
                          refine wpAnyH_ready (rs := [3]) (by kernel_rfl) (by simp) ?_
                          refine AllReadyH.cons rfl (fun K hK => ?_) (AllReadyH.nil)
                          simp only [List.getElem_toArray, List.getElem_cons_zero, List.getElem_cons_succ]
                          go_simp
                          refine hK.out _ _ trivial (fun hHeld => ?_)
                          clear hK K
                          refine wpAnyH_ready (rs := [4]) (by kernel_rfl) (by simp) ?_
                          refine AllReadyH.cons rfl (fun K hK => ?_) (AllReadyH.nil)
                          simp only [List.getElem_toArray, List.getElem_cons_zero, List.getElem_cons_succ]
                          go_simp
                          refine HDT.out.drew.take.mono ?_
                          rintro e v5 ⟨rfl, hd5, hk5⟩
                          have hx5 := (hk5.2 v4.heap.size (by have := HQ4.out.size; omega)).trans HXT.out
                          have HD5 := Lib.hid hd5
                          have HX5 := Lib.hid hx5
                          have HK5 := Lib.hid (HKT.out.below (Below.refl _ _).drew |>.ke hk5)
                          have c5 := (cell_block hx5 4).trans rfl
                          have n5 := frozen_block hx5 4
                          have z5 := block_lt hx5
                          clear hd5 hk5 hx5
                          refine hK.out _ _ trivial (fun hHeld => ?_)
                          clear hK K
                          refine wpAnyH_ready (rs := [5]) (by kernel_rfl) (by simp) ?_
                          refine AllReadyH.cons rfl (fun K hK => ?_) (AllReadyH.nil)
                          simp only [List.getElem_toArray, List.getElem_cons_zero, List.getElem_cons_succ]
                          go_simp
                          refine hK.out _ _ trivial (fun hHeld => ?_)
                          clear hK K
                          refine wpAnyH_ready (rs := [6]) (by kernel_rfl) (by simp) ?_
                          refine AllReadyH.cons rfl (fun K hK => ?_) (AllReadyH.nil)
                          simp only [List.getElem_toArray, List.getElem_cons_zero, List.getElem_cons_succ]
                          go_simp
                          refine hK.out _ _ trivial (fun hHeld => ?_)
                          clear hK K
                          refine wpAnyH_ready (rs := [7]) (by kernel_rfl) (by simp) ?_
                          refine AllReadyH.cons rfl (fun K hK => ?_) (AllReadyH.nil)
                          simp only [List.getElem_toArray, List.getElem_cons_zero, List.getElem_cons_succ]
                          go_simp
                          refine hK.out _ _ trivial (fun hHeld => ?_)
                          clear hK K
                          clear hHeld
                          refine wpAnyH_done (by kernel_rfl) ?_ _
                          go_wp2_with fail
                          go_roundw
                          case rel => exact ⟨t + 1, byteIn imm z0, rt, by omega, by go_num, HD5.out.keeps ((Below.refl _ _).setCell (by have := HQ4.out.size; omega) _), HK5.out.set _ _, block_put HX5.out (by rw [HOR.out]; rfl), HTN.out⟩
                          case measure => simp [intOf]; omega
                        · simp only [List.getElem_toArray, List.getElem_cons_zero, List.getElem_cons_succ]
                          go_simp
                          refine hK.out _ _ trivial (fun hHeld => ?_)
                          clear hK K
                          refine wpAnyH_ready (rs := [2, 4]) (by kernel_rfl) (by simp) ?_
                          refine AllReadyH.cons rfl (fun K hK => ?_) (AllReadyH.cons rfl (fun K hK => ?_) (AllReadyH.nil))
                          · simp only [List.getElem_toArray, List.getElem_cons_zero, List.getElem_cons_succ]
                            go_simp
                            refine hK.out _ _ trivial (fun hHeld => ?_)
                            clear hK K
                            refine wpAnyH_ready (rs := [4]) (by kernel_rfl) (by simp) ?_
                            refine AllReadyH.cons rfl (fun K hK => ?_) (AllReadyH.nil)
                            simp only [List.getElem_toArray, List.getElem_cons_zero, List.getElem_cons_succ]
                            go_simp
                            refine HDT.out.drew.take.mono ?_
                            rintro e v5 ⟨rfl, hd5, hk5⟩
                            have hx5 := (hk5.2 v4.heap.size (by have := HQ4.out.size; omega)).trans HXT.out
                            have HD5 := Lib.hid hd5
                            have HX5 := Lib.hid hx5
                            have HK5 := Lib.hid (HKT.out.below (Below.refl _ _).drew |>.ke hk5)
                            have c5 := (cell_block hx5 4).trans rfl
                            have n5 := frozen_block hx5 4
                            have z5 := block_lt hx5
                            clear hd5 hk5 hx5
                            refine hK.out _ _ trivial (fun hHeld => ?_)
                            clear hK K
                            refine wpAnyH_ready (rs := [5]) (by kernel_rfl) (by simp) ?_
                            refine AllReadyH.cons rfl (fun K hK => ?_) (AllReadyH.nil)
                            simp only [List.getElem_toArray, List.getElem_cons_zero, List.getElem_cons_succ]
                            go_simp
                            refine hK.out _ _ trivial (fun hHeld => ?_)
                            clear hK K
                            refine wpAnyH_ready (rs := [6]) (by kernel_rfl) (by simp) ?_
                            refine AllReadyH.cons rfl (fun K hK => ?_) (AllReadyH.nil)
                            simp only [List.getElem_toArray, List.getElem_cons_zero, List.getElem_cons_succ]
                            go_simp
                            refine hK.out _ _ trivial (fun hHeld => ?_)
                            clear hK K
                            refine wpAnyH_ready (rs := [7]) (by kernel_rfl) (by simp) ?_
                            refine AllReadyH.cons rfl (fun K hK => ?_) (AllReadyH.nil)
                            simp only [List.getElem_toArray, List.getElem_cons_zero, List.getElem_cons_succ]
                            go_simp
                            refine hK.out _ _ trivial (fun hHeld => ?_)
                            clear hK K
                            clear hHeld
                            refine wpAnyH_done (by kernel_rfl) ?_ _
                            go_wp2_with fail
                            go_roundw
                            case rel => exact ⟨t + 1, byteIn imm z0, rt, by omega, by go_num, HD5.out.keeps ((Below.refl _ _).setCell (by have := HQ4.out.size; omega) _), HK5.out.set _ _, block_put HX5.out (by rw [HOR.out]; rfl), HTN.out⟩
                            case measure => simp [intOf]; omega
                          · simp only [List.getElem_toArray, List.getElem_cons_zero, List.getElem_cons_succ]
                            go_simp
                            refine HDT.out.drew.take.mono ?_
                            rintro e v5 ⟨rfl, hd5, hk5⟩
                            have hx5 := (hk5.2 v4.heap.size (by have := HQ4.out.size; omega)).trans HXT.out
                            have HD5 := Lib.hid hd5
                            have HX5 := Lib.hid hx5
                            have HK5 := Lib.hid (HKT.out.below (Below.refl _ _).drew |>.ke hk5)
                            have c5 := (cell_block hx5 4).trans rfl
                            have n5 := frozen_block hx5 4
                            have z5 := block_lt hx5
                            clear hd5 hk5 hx5
                            refine hK.out _ _ trivial (fun hHeld => ?_)
                            clear hK K
                            refine wpAnyH_ready (rs := [2]) (by kernel_rfl) (by simp) ?_
                            refine AllReadyH.cons rfl (fun K hK => ?_) (AllReadyH.nil)
                            simp only [List.getElem_toArray, List.getElem_cons_zero, List.getElem_cons_succ]
                            go_simp
                            refine hK.out _ _ trivial (fun hHeld => ?_)
                            clear hK K
                            refine wpAnyH_ready (rs := [5]) (by kernel_rfl) (by simp) ?_
                            refine AllReadyH.cons rfl (fun K hK => ?_) (AllReadyH.nil)
                            simp only [List.getElem_toArray, List.getElem_cons_zero, List.getElem_cons_succ]
                            go_simp
                            refine hK.out _ _ trivial (fun hHeld => ?_)
                            clear hK K
                            refine wpAnyH_ready (rs := [6]) (by kernel_rfl) (by simp) ?_
                            refine AllReadyH.cons rfl (fun K hK => ?_) (AllReadyH.nil)
                            simp only [List.getElem_toArray, List.getElem_cons_zero, List.getElem_cons_succ]
                            go_simp
                            refine hK.out _ _ trivial (fun hHeld => ?_)
                            clear hK K
                            refine wpAnyH_ready (rs := [7]) (by kernel_rfl) (by simp) ?_
                            refine AllReadyH.cons rfl (fun K hK => ?_) (AllReadyH.nil)
                            simp only [List.getElem_toArray, List.getElem_cons_zero, List.getElem_cons_succ]
                            go_simp
                            refine hK.out _ _ trivial (fun hHeld => ?_)
                            clear hK K
                            clear hHeld
                            refine wpAnyH_done (by kernel_rfl) ?_ _
                            go_wp2_with fail
                            go_roundw
                            case rel => exact ⟨t + 1, byteIn imm z0, rt, by omega, by go_num, HD5.out.keeps ((Below.refl _ _).setCell (by have := HQ4.out.size; omega) _), HK5.out.set _ _, block_put HX5.out (by rw [HOR.out]; rfl), HTN.out⟩
                            case measure => simp [intOf]; omega
                      · simp only [List.getElem_toArray, List.getElem_cons_zero, List.getElem_cons_succ]
                        go_simp
                        refine hK.out _ _ trivial (fun hHeld => ?_)
                        clear hK K
                        refine wpAnyH_ready (rs := [1, 4]) (by kernel_rfl) (by simp) ?_
                        refine AllReadyH.cons rfl (fun K hK => ?_) (AllReadyH.cons rfl (fun K hK => ?_) (AllReadyH.nil))
                        · simp only [List.getElem_toArray, List.getElem_cons_zero, List.getElem_cons_succ]
                          go_simp
                          refine hK.out _ _ trivial (fun hHeld => ?_)
                          clear hK K
                          refine wpAnyH_ready (rs := [2, 4]) (by kernel_rfl) (by simp) ?_
                          refine AllReadyH.cons rfl (fun K hK => ?_) (AllReadyH.cons rfl (fun K hK => ?_) (AllReadyH.nil))
                          · simp only [List.getElem_toArray, List.getElem_cons_zero, List.getElem_cons_succ]
                            go_simp
                            refine hK.out _ _ trivial (fun hHeld => ?_)
                            clear hK K
                            refine wpAnyH_ready (rs := [4]) (by kernel_rfl) (by simp) ?_
                            refine AllReadyH.cons rfl (fun K hK => ?_) (AllReadyH.nil)
                            simp only [List.getElem_toArray, List.getElem_cons_zero, List.getElem_cons_succ]
                            go_simp
                            refine HDT.out.drew.take.mono ?_
                            rintro e v5 ⟨rfl, hd5, hk5⟩
                            have hx5 := (hk5.2 v4.heap.size (by have := HQ4.out.size; omega)).trans HXT.out
                            have HD5 := Lib.hid hd5
                            have HX5 := Lib.hid hx5
                            have HK5 := Lib.hid (HKT.out.below (Below.refl _ _).drew |>.ke hk5)
                            have c5 := (cell_block hx5 4).trans rfl
                            have n5 := frozen_block hx5 4
                            have z5 := block_lt hx5
                            clear hd5 hk5 hx5
                            refine hK.out _ _ trivial (fun hHeld => ?_)
                            clear hK K
                            refine wpAnyH_ready (rs := [5]) (by kernel_rfl) (by simp) ?_
                            refine AllReadyH.cons rfl (fun K hK => ?_) (AllReadyH.nil)
                            simp only [List.getElem_toArray, List.getElem_cons_zero, List.getElem_cons_succ]
                            go_simp
                            refine hK.out _ _ trivial (fun hHeld => ?_)
                            clear hK K
                            refine wpAnyH_ready (rs := [6]) (by kernel_rfl) (by simp) ?_
                            refine AllReadyH.cons rfl (fun K hK => ?_) (AllReadyH.nil)
                            simp only [List.getElem_toArray, List.getElem_cons_zero, List.getElem_cons_succ]
                            go_simp
                            refine hK.out _ _ trivial (fun hHeld => ?_)
                            clear hK K
                            refine wpAnyH_ready (rs := [7]) (by kernel_rfl) (by simp) ?_
                            refine AllReadyH.cons rfl (fun K hK => ?_) (AllReadyH.nil)
                            simp only [List.getElem_toArray, List.getElem_cons_zero, List.getElem_cons_succ]
                            go_simp
                            refine hK.out _ _ trivial (fun hHeld => ?_)
                            clear hK K
                            clear hHeld
                            refine wpAnyH_done (by kernel_rfl) ?_ _
                            go_wp2_with fail
                            go_roundw
                            case rel => exact ⟨t + 1, byteIn imm z0, rt, by omega, by go_num, HD5.out.keeps ((Below.refl _ _).setCell (by have := HQ4.out.size; omega) _), HK5.out.set _ _, block_put HX5.out (by rw [HOR.out]; rfl), HTN.out⟩
                            case measure => simp [intOf]; omega
                          · simp only [List.getElem_toArray, List.getElem_cons_zero, List.getElem_cons_succ]
                            go_simp
                            refine HDT.out.drew.take.mono ?_
                            rintro e v5 ⟨rfl, hd5, hk5⟩
                            have hx5 := (hk5.2 v4.heap.size (by have := HQ4.out.size; omega)).trans HXT.out
                            have HD5 := Lib.hid hd5
                            have HX5 := Lib.hid hx5
                            have HK5 := Lib.hid (HKT.out.below (Below.refl _ _).drew |>.ke hk5)
                            have c5 := (cell_block hx5 4).trans rfl
                            have n5 := frozen_block hx5 4
                            have z5 := block_lt hx5
                            clear hd5 hk5 hx5
                            refine hK.out _ _ trivial (fun hHeld => ?_)
                            clear hK K
                            refine wpAnyH_ready (rs := [2]) (by kernel_rfl) (by simp) ?_
                            refine AllReadyH.cons rfl (fun K hK => ?_) (AllReadyH.nil)
                            simp only [List.getElem_toArray, List.getElem_cons_zero, List.getElem_cons_succ]
                            go_simp
                            refine hK.out _ _ trivial (fun hHeld => ?_)
                            clear hK K
                            refine wpAnyH_ready (rs := [5]) (by kernel_rfl) (by simp) ?_
                            refine AllReadyH.cons rfl (fun K hK => ?_) (AllReadyH.nil)
                            simp only [List.getElem_toArray, List.getElem_cons_zero, List.getElem_cons_succ]
                            go_simp
                            refine hK.out _ _ trivial (fun hHeld => ?_)
                            clear hK K
                            refine wpAnyH_ready (rs := [6]) (by kernel_rfl) (by simp) ?_
                            refine AllReadyH.cons rfl (fun K hK => ?_) (AllReadyH.nil)
                            simp only [List.getElem_toArray, List.getElem_cons_zero, List.getElem_cons_succ]
                            go_simp
                            refine hK.out _ _ trivial (fun hHeld => ?_)
                            clear hK K
                            refine wpAnyH_ready (rs := [7]) (by kernel_rfl) (by simp) ?_
                            refine AllReadyH.cons rfl (fun K hK => ?_) (AllReadyH.nil)
                            simp only [List.getElem_toArray, List.getElem_cons_zero, List.getElem_cons_succ]
                            go_simp
                            refine hK.out _ _ trivial (fun hHeld => ?_)
                            clear hK K
                            clear hHeld
                            refine wpAnyH_done (by kernel_rfl) ?_ _
                            go_wp2_with fail
                            go_roundw
                            case rel => exact ⟨t + 1, byteIn imm z0, rt, by omega, by go_num, HD5.out.keeps ((Below.refl _ _).setCell (by have := HQ4.out.size; omega) _), HK5.out.set _ _, block_put HX5.out (by rw [HOR.out]; rfl), HTN.out⟩
                            case measure => simp [intOf]; omega
                        · simp only [List.getElem_toArray, List.getElem_cons_zero, List.getElem_cons_succ]
                          go_simp
                          refine HDT.out.drew.take.mono ?_
                          rintro e v5 ⟨rfl, hd5, hk5⟩
                          have hx5 := (hk5.2 v4.heap.size (by have := HQ4.out.size; omega)).trans HXT.out
                          have HD5 := Lib.hid hd5
                          have HX5 := Lib.hid hx5
                          have HK5 := Lib.hid (HKT.out.below (Below.refl _ _).drew |>.ke hk5)
                          have c5 := (cell_block hx5 4).trans rfl
                          have n5 := frozen_block hx5 4
                          have z5 := block_lt hx5
                          clear hd5 hk5 hx5
                          refine hK.out _ _ trivial (fun hHeld => ?_)
                          clear hK K
                          refine wpAnyH_ready (rs := [1]) (by kernel_rfl) (by simp) ?_
                          refine AllReadyH.cons rfl (fun K hK => ?_) (AllReadyH.nil)
                          simp only [List.getElem_toArray, List.getElem_cons_zero, List.getElem_cons_succ]
                          go_simp
                          refine hK.out _ _ trivial (fun hHeld => ?_)
                          clear hK K
                          refine wpAnyH_ready (rs := [2]) (by kernel_rfl) (by simp) ?_
                          refine AllReadyH.cons rfl (fun K hK => ?_) (AllReadyH.nil)
                          simp only [List.getElem_toArray, List.getElem_cons_zero, List.getElem_cons_succ]
                          go_simp
                          refine hK.out _ _ trivial (fun hHeld => ?_)
                          clear hK K
                          refine wpAnyH_ready (rs := [5]) (by kernel_rfl) (by simp) ?_
                          refine AllReadyH.cons rfl (fun K hK => ?_) (AllReadyH.nil)
                          simp only [List.getElem_toArray, List.getElem_cons_zero, List.getElem_cons_succ]
                          go_simp
                          refine hK.out _ _ trivial (fun hHeld => ?_)
                          clear hK K
                          refine wpAnyH_ready (rs := [6]) (by kernel_rfl) (by simp) ?_
                          refine AllReadyH.cons rfl (fun K hK => ?_) (AllReadyH.nil)
                          simp only [List.getElem_toArray, List.getElem_cons_zero, List.getElem_cons_succ]
                          go_simp
                          refine hK.out _ _ trivial (fun hHeld => ?_)
                          clear hK K
                          refine wpAnyH_ready (rs := [7]) (by kernel_rfl) (by simp) ?_
                          refine AllReadyH.cons rfl (fun K hK => ?_) (AllReadyH.nil)
                          simp only [List.getElem_toArray, List.getElem_cons_zero, List.getElem_cons_succ]
                          go_simp
                          refine hK.out _ _ trivial (fun hHeld => ?_)
                          clear hK K
                          clear hHeld
                          refine wpAnyH_done (by kernel_rfl) ?_ _
                          go_wp2_with fail
                          go_roundw
                          case rel => exact ⟨t + 1, byteIn imm z0, rt, by omega, by go_num, HD5.out.keeps ((Below.refl _ _).setCell (by have := HQ4.out.size; omega) _), HK5.out.set _ _, block_put HX5.out (by rw [HOR.out]; rfl), HTN.out⟩
                          case measure => simp [intOf]; omega
                    · simp only [List.getElem_toArray, List.getElem_cons_zero, List.getElem_cons_succ]
                      go_simp
                      refine hK.out _ _ trivial (fun hHeld => ?_)
                      clear hK K
                      refine wpAnyH_ready (rs := [0, 4]) (by kernel_rfl) (by simp) ?_
                      refine AllReadyH.cons rfl (fun K hK => ?_) (AllReadyH.cons rfl (fun K hK => ?_) (AllReadyH.nil))
                      · simp only [List.getElem_toArray, List.getElem_cons_zero]
                        go_simp
                        refine hK.out _ _ trivial (fun hHeld => ?_)
                        clear hK K
                        refine wpAnyH_ready (rs := [1, 4]) (by kernel_rfl) (by simp) ?_
                        refine AllReadyH.cons rfl (fun K hK => ?_) (AllReadyH.cons rfl (fun K hK => ?_) (AllReadyH.nil))
                        · simp only [List.getElem_toArray, List.getElem_cons_zero, List.getElem_cons_succ]
                          go_simp
                          refine hK.out _ _ trivial (fun hHeld => ?_)
                          clear hK K
                          refine wpAnyH_ready (rs := [2, 4]) (by kernel_rfl) (by simp) ?_
                          refine AllReadyH.cons rfl (fun K hK => ?_) (AllReadyH.cons rfl (fun K hK => ?_) (AllReadyH.nil))
                          · simp only [List.getElem_toArray, List.getElem_cons_zero, List.getElem_cons_succ]
                            go_simp
                            refine hK.out _ _ trivial (fun hHeld => ?_)
                            clear hK K
                            refine wpAnyH_ready (rs := [4]) (by kernel_rfl) (by simp) ?_
                            refine AllReadyH.cons rfl (fun K hK => ?_) (AllReadyH.nil)
                            simp only [List.getElem_toArray, List.getElem_cons_zero, List.getElem_cons_succ]
                            go_simp
                            refine HDT.out.drew.take.mono ?_
                            rintro e v5 ⟨rfl, hd5, hk5⟩
                            have hx5 := (hk5.2 v4.heap.size (by have := HQ4.out.size; omega)).trans HXT.out
                            have HD5 := Lib.hid hd5
                            have HX5 := Lib.hid hx5
                            have HK5 := Lib.hid (HKT.out.below (Below.refl _ _).drew |>.ke hk5)
                            have c5 := (cell_block hx5 4).trans rfl
                            have n5 := frozen_block hx5 4
                            have z5 := block_lt hx5
                            clear hd5 hk5 hx5
                            refine hK.out _ _ trivial (fun hHeld => ?_)
                            clear hK K
                            refine wpAnyH_ready (rs := [5]) (by kernel_rfl) (by simp) ?_
                            refine AllReadyH.cons rfl (fun K hK => ?_) (AllReadyH.nil)
                            simp only [List.getElem_toArray, List.getElem_cons_zero, List.getElem_cons_succ]
                            go_simp
                            refine hK.out _ _ trivial (fun hHeld => ?_)
                            clear hK K
                            refine wpAnyH_ready (rs := [6]) (by kernel_rfl) (by simp) ?_
                            refine AllReadyH.cons rfl (fun K hK => ?_) (AllReadyH.nil)
                            simp only [List.getElem_toArray, List.getElem_cons_zero, List.getElem_cons_succ]
                            go_simp
                            refine hK.out _ _ trivial (fun hHeld => ?_)
                            clear hK K
                            refine wpAnyH_ready (rs := [7]) (by kernel_rfl) (by simp) ?_
                            refine AllReadyH.cons rfl (fun K hK => ?_) (AllReadyH.nil)
                            simp only [List.getElem_toArray, List.getElem_cons_zero, List.getElem_cons_succ]
                            go_simp
                            refine hK.out _ _ trivial (fun hHeld => ?_)
                            clear hK K
                            clear hHeld
                            refine wpAnyH_done (by kernel_rfl) ?_ _
                            go_wp2_with fail
                            go_roundw
                            case rel => exact ⟨t + 1, byteIn imm z0, rt, by omega, by go_num, HD5.out.keeps ((Below.refl _ _).setCell (by have := HQ4.out.size; omega) _), HK5.out.set _ _, block_put HX5.out (by rw [HOR.out]; rfl), HTN.out⟩
                            case measure => simp [intOf]; omega
                          · simp only [List.getElem_toArray, List.getElem_cons_zero, List.getElem_cons_succ]
                            go_simp
                            refine HDT.out.drew.take.mono ?_
                            rintro e v5 ⟨rfl, hd5, hk5⟩
                            have hx5 := (hk5.2 v4.heap.size (by have := HQ4.out.size; omega)).trans HXT.out
                            have HD5 := Lib.hid hd5
                            have HX5 := Lib.hid hx5
                            have HK5 := Lib.hid (HKT.out.below (Below.refl _ _).drew |>.ke hk5)
                            have c5 := (cell_block hx5 4).trans rfl
                            have n5 := frozen_block hx5 4
                            have z5 := block_lt hx5
                            clear hd5 hk5 hx5
                            refine hK.out _ _ trivial (fun hHeld => ?_)
                            clear hK K
                            refine wpAnyH_ready (rs := [2]) (by kernel_rfl) (by simp) ?_
                            refine AllReadyH.cons rfl (fun K hK => ?_) (AllReadyH.nil)
                            simp only [List.getElem_toArray, List.getElem_cons_zero, List.getElem_cons_succ]
                            go_simp
                            refine hK.out _ _ trivial (fun hHeld => ?_)
                            clear hK K
                            refine wpAnyH_ready (rs := [5]) (by kernel_rfl) (by simp) ?_
                            refine AllReadyH.cons rfl (fun K hK => ?_) (AllReadyH.nil)
                            simp only [List.getElem_toArray, List.getElem_cons_zero, List.getElem_cons_succ]
                            go_simp
                            refine hK.out _ _ trivial (fun hHeld => ?_)
                            clear hK K
                            refine wpAnyH_ready (rs := [6]) (by kernel_rfl) (by simp) ?_
                            refine AllReadyH.cons rfl (fun K hK => ?_) (AllReadyH.nil)
                            simp only [List.getElem_toArray, List.getElem_cons_zero, List.getElem_cons_succ]
                            go_simp
                            refine hK.out _ _ trivial (fun hHeld => ?_)
                            clear hK K
                            refine wpAnyH_ready (rs := [7]) (by kernel_rfl) (by simp) ?_
                            refine AllReadyH.cons rfl (fun K hK => ?_) (AllReadyH.nil)
                            simp only [List.getElem_toArray, List.getElem_cons_zero, List.getElem_cons_succ]
                            go_simp
                            refine hK.out _ _ trivial (fun hHeld => ?_)
                            clear hK K
                            clear hHeld
                            refine wpAnyH_done (by kernel_rfl) ?_ _
                            go_wp2_with fail
                            go_roundw
                            case rel => exact ⟨t + 1, byteIn imm z0, rt, by omega, by go_num, HD5.out.keeps ((Below.refl _ _).setCell (by have := HQ4.out.size; omega) _), HK5.out.set _ _, block_put HX5.out (by rw [HOR.out]; rfl), HTN.out⟩
                            case measure => simp [intOf]; omega
                        · simp only [List.getElem_toArray, List.getElem_cons_zero, List.getElem_cons_succ]
                          go_simp
                          refine HDT.out.drew.take.mono ?_
                          rintro e v5 ⟨rfl, hd5, hk5⟩
                          have hx5 := (hk5.2 v4.heap.size (by have := HQ4.out.size; omega)).trans HXT.out
                          have HD5 := Lib.hid hd5
                          have HX5 := Lib.hid hx5
                          have HK5 := Lib.hid (HKT.out.below (Below.refl _ _).drew |>.ke hk5)
                          have c5 := (cell_block hx5 4).trans rfl
                          have n5 := frozen_block hx5 4
                          have z5 := block_lt hx5
                          clear hd5 hk5 hx5
                          refine hK.out _ _ trivial (fun hHeld => ?_)
                          clear hK K
                          refine wpAnyH_ready (rs := [1]) (by kernel_rfl) (by simp) ?_
                          refine AllReadyH.cons rfl (fun K hK => ?_) (AllReadyH.nil)
                          simp only [List.getElem_toArray, List.getElem_cons_zero, List.getElem_cons_succ]
                          go_simp
                          refine hK.out _ _ trivial (fun hHeld => ?_)
                          clear hK K
                          refine wpAnyH_ready (rs := [2]) (by kernel_rfl) (by simp) ?_
                          refine AllReadyH.cons rfl (fun K hK => ?_) (AllReadyH.nil)
                          simp only [List.getElem_toArray, List.getElem_cons_zero, List.getElem_cons_succ]
                          go_simp
                          refine hK.out _ _ trivial (fun hHeld => ?_)
                          clear hK K
                          refine wpAnyH_ready (rs := [5]) (by kernel_rfl) (by simp) ?_
                          refine AllReadyH.cons rfl (fun K hK => ?_) (AllReadyH.nil)
                          simp only [List.getElem_toArray, List.getElem_cons_zero, List.getElem_cons_succ]
                          go_simp
                          refine hK.out _ _ trivial (fun hHeld => ?_)
                          clear hK K
                          refine wpAnyH_ready (rs := [6]) (by kernel_rfl) (by simp) ?_
                          refine AllReadyH.cons rfl (fun K hK => ?_) (AllReadyH.nil)
                          simp only [List.getElem_toArray, List.getElem_cons_zero, List.getElem_cons_succ]
                          go_simp
                          refine hK.out _ _ trivial (fun hHeld => ?_)
                          clear hK K
                          refine wpAnyH_ready (rs := [7]) (by kernel_rfl) (by simp) ?_
                          refine AllReadyH.cons rfl (fun K hK => ?_) (AllReadyH.nil)
                          simp only [List.getElem_toArray, List.getElem_cons_zero, List.getElem_cons_succ]
                          go_simp
                          refine hK.out _ _ trivial (fun hHeld => ?_)
                          clear hK K
                          clear hHeld
                          refine wpAnyH_done (by kernel_rfl) ?_ _
                          go_wp2_with fail
                          go_roundw
                          case rel => exact ⟨t + 1, byteIn imm z0, rt, by omega, by go_num, HD5.out.keeps ((Below.refl _ _).setCell (by have := HQ4.out.size; omega) _), HK5.out.set _ _, block_put HX5.out (by rw [HOR.out]; rfl), HTN.out⟩
                          case measure => simp [intOf]; omega
                      · simp only [List.getElem_toArray, List.getElem_cons_zero, List.getElem_cons_succ]
                        go_simp
                        refine HDT.out.drew.take.mono ?_
                        rintro e v5 ⟨rfl, hd5, hk5⟩
                        have hx5 := (hk5.2 v4.heap.size (by have := HQ4.out.size; omega)).trans HXT.out
                        have HD5 := Lib.hid hd5
                        have HX5 := Lib.hid hx5
                        have HK5 := Lib.hid (HKT.out.below (Below.refl _ _).drew |>.ke hk5)
                        have c5 := (cell_block hx5 4).trans rfl
                        have n5 := frozen_block hx5 4
                        have z5 := block_lt hx5
                        clear hd5 hk5 hx5
                        refine hK.out _ _ trivial (fun hHeld => ?_)
                        clear hK K
                        refine wpAnyH_ready (rs := [0]) (by kernel_rfl) (by simp) ?_
                        refine AllReadyH.cons rfl (fun K hK => ?_) (AllReadyH.nil)
                        simp only [List.getElem_toArray, List.getElem_cons_zero]
                        go_simp
                        refine hK.out _ _ trivial (fun hHeld => ?_)
                        clear hK K
                        refine wpAnyH_ready (rs := [1]) (by kernel_rfl) (by simp) ?_
                        refine AllReadyH.cons rfl (fun K hK => ?_) (AllReadyH.nil)
                        simp only [List.getElem_toArray, List.getElem_cons_zero, List.getElem_cons_succ]
                        go_simp
                        refine hK.out _ _ trivial (fun hHeld => ?_)
                        clear hK K
                        refine wpAnyH_ready (rs := [2]) (by kernel_rfl) (by simp) ?_
                        refine AllReadyH.cons rfl (fun K hK => ?_) (AllReadyH.nil)
                        simp only [List.getElem_toArray, List.getElem_cons_zero, List.getElem_cons_succ]
                        go_simp
                        refine hK.out _ _ trivial (fun hHeld => ?_)
                        clear hK K
                        refine wpAnyH_ready (rs := [5]) (by kernel_rfl) (by simp) ?_
                        refine AllReadyH.cons rfl (fun K hK => ?_) (AllReadyH.nil)
                        simp only [List.getElem_toArray, List.getElem_cons_zero, List.getElem_cons_succ]
                        go_simp
                        refine hK.out _ _ trivial (fun hHeld => ?_)
                        clear hK K
                        refine wpAnyH_ready (rs := [6]) (by kernel_rfl) (by simp) ?_
                        refine AllReadyH.cons rfl (fun K hK => ?_) (AllReadyH.nil)
                        simp only [List.getElem_toArray, List.getElem_cons_zero, List.getElem_cons_succ]
                        go_simp
                        refine hK.out _ _ trivial (fun hHeld => ?_)
                        clear hK K
                        refine wpAnyH_ready (rs := [7]) (by kernel_rfl) (by simp) ?_
                        refine AllReadyH.cons rfl (fun K hK => ?_) (AllReadyH.nil)
                        simp only [List.getElem_toArray, List.getElem_cons_zero, List.getElem_cons_succ]
                        go_simp
                        refine hK.out _ _ trivial (fun hHeld => ?_)
                        clear hK K
                        clear hHeld
                        refine wpAnyH_done (by kernel_rfl) ?_ _
                        go_wp2_with fail
                        go_roundw
                        case rel => exact ⟨t + 1, byteIn imm z0, rt, by omega, by go_num, HD5.out.keeps ((Below.refl _ _).setCell (by have := HQ4.out.size; omega) _), HK5.out.set _ _, block_put HX5.out (by rw [HOR.out]; rfl), HTN.out⟩
                        case measure => simp [intOf]; omega
--DNR
end Go.Proofs.YtfngkpbbimibaaaDoor
