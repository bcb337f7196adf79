/-
  The contract of the engine's next.
-/
import Derived.Test.YtfngkpbbimibaaaDoorSt5
import Derived.Test.YtfngkpbbimibaaaDoorSt6
namespace Go.Proofs.YtfngkpbbimibaaaDoor
open Go.RowKit Tier
set_option maxRecDepth 100000 in
theorem next_empty {w0 w : World} {E : Nat} {pv FS ES AS : Value} {s : St} (h : EngAt w0 w E pv s FS ES AS) (hm : s.mem.length = 16) (hfu : s.fuel = 0) :
    Calls Tryd.prog 50 #[.pointer (some ⟨E, 0, none⟩)] w fun e w' => e = .returned (.tuple #[]) ∧ EngAt w0 w' E pv { s with status := 2 } FS ES AS := by
  have e19 := (h.cellC hm (i := 19) (by omega)).trans (stC_19 _ _ _ hm)
  rw [hfu] at e19
  have HH := Lib.hid h
  have HM := Lib.hid hm
  clear h hm
  go_enter Tryd.func50, Tryd.ntmps50
  go_wp2_with (go_at_call 54; go_must (refine (halt_any HH.out HM.out 2).mono ?_; rintro e w4 ⟨rfl, h4⟩))
  exact bodyPost_ret (v := .tuple #[]) (by simp [results, Tryd.results50, go_sem]) rfl ⟨rfl, h4⟩
theorem enext_any {p : List Fnc} (hp : Right p) {w0 w : World} {E : Nat} {pv FS ES AS : Value} {s : St} (h : EngAt w0 w E pv s FS ES AS) (hP : ProgAt w0 pv p) (hi : StInv p s) (hst : s.status = 0) :
    Calls Tryd.prog 50 #[.pointer (some ⟨E, 0, none⟩)] w fun e w' => e = .returned (.tuple #[]) ∧ ∃ FS' ES' AS', EngAt w0 w' E pv (stepSt p s) FS' ES' AS' := by
  by_cases hfu : s.fuel = 0
  · refine (next_empty h hi.mem hfu).mono ?_
    rintro e w' ⟨rfl, h'⟩
    refine ⟨rfl, FS, ES, AS, ?_⟩
    unfold stepSt
    rw [if_pos hfu]; exact h'
  obtain ⟨fs, f, hf⟩ := hi.running hst
  rw [stepSt_exec hf hfu]
  by_cases h1 : mkOk (insOf p f).op (f.reg (insOf p f).b) = true
  · exact next_pure hp h hP hi hfu hf h1
  have h1' : mkOk (insOf p f).op (f.reg (insOf p f).b) = false := by simpa using h1
  have hO := hp.ins (hi.fr f (by rw [hf]; simp))
  have o1 := hO.op1
  have o2 := hO.op2
  by_cases c5 : (insOf p f).op = 5
  · exact next_zero hp h hP hi hfu hf h1' c5
  have o3 : 13 ≤ (insOf p f).op := by simp [mkOk] at h1; omega
  by_cases c13 : (insOf p f).op = 13
  · by_cases ha : f.reg (insOf p f).a < 0
    · exact next_out13a hp h hP hi hfu hf h1' c13 ha
    · by_cases hb : 16 ≤ f.reg (insOf p f).a
      · exact next_out13b hp h hP hi hfu hf h1' c13 hb
      · exact next_load hp h hP hi hfu hf h1' c13 (by omega) (by omega)
  by_cases c14 : (insOf p f).op = 14
  · by_cases ha : f.reg (insOf p f).a < 0
    · exact next_out14a hp h hP hi hfu hf h1' c14 ha
    · by_cases hb : 16 ≤ f.reg (insOf p f).a
      · exact next_out14b hp h hP hi hfu hf h1' c14 hb
      · exact next_store hp h hP hi hfu hf h1' c14 (by omega) (by omega)
  by_cases c15 : (insOf p f).op = 15
  · exact next_jump hp h hP hi hfu hf h1' c15
  by_cases c16 : (insOf p f).op = 16
  · by_cases ha : f.reg (insOf p f).a = 0
    · exact next_if0 hp h hP hi hfu hf h1' c16 ha
    · exact next_if1 hp h hP hi hfu hf h1' c16 ha
  by_cases c17 : (insOf p f).op = 17
  · by_cases hd : fs.length + 1 = 8
    · exact next_deep hp h hP hi hfu hf h1' c17 hd
    · exact next_call hp h hP hi hfu hf h1' c17 hd
  by_cases c18 : (insOf p f).op = 18
  · exact next_host hp h hP hi hfu hf h1' c18
  have c19 : (insOf p f).op = 19 := by omega
  rcases List.eq_nil_or_concat fs with hn | ⟨gs, u, hn⟩
  · exact next_ret1 hp h hP hi hfu hf h1' c19 hn
  · exact next_ret2 hp h hP hi hfu hf h1' c19 (hn.trans List.concat_eq_append)
end Go.Proofs.YtfngkpbbimibaaaDoor
