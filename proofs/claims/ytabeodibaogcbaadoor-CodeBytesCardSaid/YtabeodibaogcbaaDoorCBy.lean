/-
  The walk of CodeBytes: it returns true.
-/
import Derived.Test.YtabeodibaogcbaaDoorEnc
import Derived.Test.YtabeodibaogcbaaDoorOpn
import Derived.Deep.QuietTactic
import Derived.BigQuiet
namespace Go.Proofs.YtabeodibaogcbaaDoor
open Go.RowKit Tier
theorem encIns_flat_length (l : List Ins) : (l.flatMap encIns).length = 12 * l.length := by
  induction l with
  | nil => rfl
  | cons x l ih => rw [List.flatMap_cons, List.length_append, ih, List.length_cons]; simp [encIns]; omega
theorem encFn_length (f : Fnc) : (encFn f).length = 3 + 12 * f.code.length := by
  unfold encFn; rw [List.length_append, encIns_flat_length]; rfl
def encTo (p : List Fnc) (k : Nat) : List Int := [(p.length : Int)] ++ (p.take k).flatMap encFn
theorem encTo_succ (p : List Fnc) (k : Nat) (f : Fnc) (h : p[k]? = some f) : (encTo p (k + 1)).length = (encTo p k).length + (3 + 12 * f.code.length) := by
  unfold encTo; rw [take_flat _ _ _ _ h, ← List.append_assoc, List.length_append, encFn_length]
theorem encTo_all (p : List Fnc) : encTo p p.length = encP p := by unfold encTo encP; rw [List.take_length]
theorem encTo_le (p : List Fnc) (h : ProgOk p) : ∀ k, k ≤ p.length → (encTo p k).length ≤ 1 + 483 * k := by
  intro k
  induction k with
  | zero => intro _; simp [encTo]
  | succ k ih =>
    intro hk
    have hg : p[k]? = some (p[k]'(by omega)) := List.getElem?_eq_getElem (by omega)
    have := (h.fn _ (List.mem_of_getElem? hg)).c2
    rw [encTo_succ p k _ hg]
    have := ih (by omega)
    omega
set_option maxRecDepth 100000 in
set_option maxHeartbeats 4000000 in
theorem codeBytes_walk (A : Option Addr) (l : List Fnc) (cap : Nat) (w : World) (ht : Tab w) (hraw : RawsAt w A l) (hln : (l.length : Int) ≤ 9223372036854775807) :
    Calls Tryd.prog 4 #[.slice A l.length cap] w fun e w' => e = .returned (.bool true) ∧ Below w.heap.size w w' := by
  have HT := Lib.hid ht
  have HR := Lib.hid hraw
  have HPE := Lib.hid (progE_mk l false)
  clear ht hraw
  go_enter Tryd.func4, Tryd.ntmps4
  go_wp2_with fail
  refine (shaped_any A cap l _ hln HR.out).mono ?_
  rintro e w1 ⟨⟨A1, cap1, vs, rfl, hpv⟩, hb1⟩
  have HPV := Lib.hid hpv
  have HB1 := Lib.hid hb1
  clear hpv hb1
  generalize mkProg l false = p at *
  have HPO := Lib.hid (prog_ok HPE.out)
  have hl1 := HPO.out.l1
  have hl2 := HPO.out.l2
  go_wp2_with fail
  refine (encode_any p A1 cap1 _ ((HT.out.keeps HB1.out).alloc _) (HPV.out.at.keeps ((Below.refl _ _).alloc (Nat.le_refl _) _)) HPE.out).mono ?_
  rintro e w2 ⟨⟨v, rfl, ho⟩, hb2⟩
  have hq := (hb2.block w1.heap.size (by simp)).trans (heap_alloc_new w1 _)
  have q1 := cell_block hq
  have z1 : w1.heap.size < w2.heap.size := Nat.lt_of_lt_of_le (by simp) hb2.size
  have HB2 := Lib.hid (show Below w1.heap.size w1 w2 from ((Below.refl _ _).alloc (Nat.le_refl _) _).trans (hb2.mono (by simp)))
  obtain ⟨A2, cap2, hv, hcell⟩ := own_slice ho
  subst hv
  have hle := encTo_le p HPO.out p.length (Nat.le_refl _)
  have hlen0 : 1 ≤ (encP p).length := by simp [encP]
  obtain ⟨g2, rfl, hg2, hc2⟩ := hcell hlen0
  have c2 : w2.cell? ⟨g2, 0, none⟩ = some (.int .u8 (p.length : Nat)) := by rw [hc2 0 (by omega)]; simp [encP]
  obtain ⟨A0, cap0, hA0, hA⟩ := HPV.out.at.slice
  simp only [Value.slice.injEq, true_and] at hA0
  obtain ⟨g, hAg, hg, hfn⟩ := hA (by omega)
  obtain ⟨rfl, rfl⟩ := hA0
  have HF := Lib.hid hfn
  have HEA := Lib.hid (encTo_all p)
  have HES := Lib.hid (encTo_succ p)
  have HEL := Lib.hid (encTo_le p HPO.out)
  rw [← HEA.out] at ho
  rw [← encTo_all p]
  clear hfn hA hc2 hcell hb2 hq ho
  subst hAg
  have hgz : g < w2.heap.size := Nat.lt_of_lt_of_le hg HB2.out.size
  have hp4 : (p.length : Int) ≤ 4 := by omega
  rw [encTo_all] at hle
  rw [← encTo_all] at hlen0 hle
  generalize hN : p.length = N at *
  have HN := Lib.hid hN
  clear hN
  go_wp2_with fail
  go_loop [6, 7] (fun n i => ∃ k : Nat, k ≤ N ∧ i = .int .i64 k ∧ n = .int .i64 ((encTo p k).length : Nat)) (fun _ i => N - (intOf i).toNat)
  case atStart => exact ⟨0, by omega, rfl, rfl⟩
  case round =>
    obtain ⟨k, hk, rfl, rfl⟩ := hrel
    by_cases hkN : k = N
    · subst hkN
      go_wp2_with fail
      go_quiet (fail)
      go_wp2_with fail
      go_ret
      refine ⟨rfl, ?_⟩
      exact bthen HB1.out (below_drewN HB2.out _)
    · have hkN' : (k : Int) < N := by omega
      obtain ⟨f, hf⟩ : ∃ f, p[k]? = some f := ⟨p[k]'(by have := HN.out; omega), List.getElem?_eq_getElem _⟩
      have hfo := (HPO.out.fn f (List.mem_of_getElem? hf)).c2
      have HS := Lib.hid (HES.out k f hf)
      have hbd := HEL.out k (by have := HN.out; omega)
      obtain ⟨u, hu, c0, c1, d2⟩ := HF.out k f hf
      rw [← HB2.out.cell (p := ⟨g, _, none⟩) hg] at c0 c1 d2
      obtain ⟨CA, ccap, rfl, hCA⟩ := hu.slice
      clear hkN hCA hu hf
      have hm : (f.code.length : Int) ≤ 40 := by omega
      go_wp2_with fail
      go_round
      case rel => exact ⟨k + 1, by omega, by go_num, by rw [HS.out]; apply congrArg (Value.int .i64); omega⟩
      case measure => simp [intOf]; omega
end Go.Proofs.YtabeodibaogcbaaDoor
