/-
  The contracts of the engine's small functions: halt, answer.
-/
import Derived.Test.YtnbopmlemddakaaDoorSt1
import Derived.Deep.AppendLies
namespace Go.Proofs.YtnbopmlemddakaaDoor
open Go.RowKit Tier
section
variable {w0 w w' : World} {E B : Nat} {pv FS ES AS : Value} {s : St}
theorem eng_ne60 : (60 : TypeId) ≠ 89 := by decide
theorem eng_ne3 : (3 : TypeId) ≠ 89 := by decide
theorem own_type {e t : TypeId} {size : Nat} {v : Value} {n : Nat} {xs : List Value} (h : w.ownsRow B e size v n xs) {k : Nat} {c : Array Value} {fz : Nat × Nat} (hk : w.heap[k]? = some (.cells c t fz)) (ht : e ≠ t) : v.ownBlock ≠ some k := by
  intro he
  rcases h.2 with ⟨rfl, -⟩ | ⟨g, cap, cur, rfl, hg, hh, -⟩
  · cases he
  · obtain rfl : g = k := by simpa [Value.ownBlock] using he
    rw [hh] at hk
    simp only [Option.some.injEq, Obj.cells.injEq] at hk
    exact ht hk.2.1
theorem num_type {t : TypeId} {v : Value} {l : List Int} (h : NumAt w B v l) (hl : 0 < l.length) {k : Nat} {c : Array Value} {fz : Nat × Nat} (hk : w.heap[k]? = some (.cells c t fz)) (ht : 3 ≠ t) : v.ownBlock ≠ some k := by
  intro he
  obtain ⟨A, cap, rfl, -, h3⟩ := h
  obtain ⟨b, o, cur, rfl, -, h6, -⟩ := h3 hl
  obtain rfl : b = k := by simpa [Value.ownBlock] using he
  rw [h6] at hk
  simp only [Option.some.injEq, Obj.cells.injEq] at hk
  exact ht hk.2.1
theorem NumAt.set {v : Value} {l : List Int} (h : NumAt w B v l) {k : Nat} (hk : 0 < l.length → v.ownBlock ≠ some k) (i : Nat) (u : Value) : NumAt (w.setCell ⟨k, i, none⟩ u) B v l := by
  obtain ⟨A, cap, rfl, h2, h3⟩ := h
  refine ⟨A, cap, rfl, h2, fun hl => ?_⟩
  obtain ⟨b, o, cur, rfl, h5, h6, h7⟩ := h3 hl
  exact ⟨b, o, cur, rfl, h5, block_set_ne h6 (fun e => hk hl (by rw [e]; rfl)) _ _, h7⟩
/-- A store into another block. -/
theorem StRows.set (h : StRows w B s FS ES AS) {k : Nat} {c : Array Value} {fz : Nat × Nat} {t : TypeId} (hk : w.heap[k]? = some (.cells c t fz)) (h1 : 60 ≠ t) (h2 : 3 ≠ t) (i : Nat) (u : Value) : StRows (w.setCell ⟨k, i, none⟩ u) B s FS ES AS :=
  ⟨ownsRow_setCell_other h.fr (own_type h.fr hk h1) u, ownsRow_setCell_other h.ev (own_type h.ev hk h2) u, h.an.set (fun hl => num_type h.an hl hk h2) i u, h.ne⟩
theorem EngAt.lt (h : EngAt w0 w E pv s FS ES AS) : E < w.heap.size := block_lt h.blk
theorem EngAt.frozen (h : EngAt w0 w E pv s FS ES AS) (i : Nat) : w.frozen? ⟨E, i, none⟩ = false := frozen_block h.blk i
theorem EngAt.cellC (h : EngAt w0 w E pv s FS ES AS) (hm : s.mem.length = 16) {i : Nat} (hi : i < 22) : w.cell? ⟨E, i, none⟩ = (stCells s FS ES AS)[i]? := by
  rw [cell_block h.blk, List.getElem?_toArray, List.getElem?_append_left (by rw [stCells_length hm]; exact hi)]
theorem EngAt.cellP (h : EngAt w0 w E pv s FS ES AS) (hm : s.mem.length = 16) : w.cell? ⟨E, 22, none⟩ = some pv := by
  rw [cell_block h.blk, List.getElem?_toArray, List.getElem?_append_right (by rw [stCells_length hm]; exact Nat.le_refl _), stCells_length hm]; rfl
theorem EngAt.cellM (h : EngAt w0 w E pv s FS ES AS) (hm : s.mem.length = 16) {i : Nat} (hi : i < 16) : w.cell? ⟨E, 3 + i, none⟩ = some (.int .i64 (s.mem.getD i 0)) := by
  rw [h.cellC hm (by omega), stC_mem FS ES AS hm hi]
theorem EngAt.set (h : EngAt w0 w E pv s FS ES AS) (hm : s.mem.length = 16) {i : Nat} (hi : i < 22) {v : Value} {s' : St} {FS' ES' AS' : Value} (he : (stCells s FS ES AS).set i v = stCells s' FS' ES' AS') (hr : StRows (w.setCell ⟨E, i, none⟩ v) w0.heap.size s' FS' ES' AS') :
    EngAt w0 (w.setCell ⟨E, i, none⟩ v) E pv s' FS' ES' AS' := by
  refine ⟨block_put h.blk ?_, hr, h.base, h.below.setCell h.base v⟩
  rw [List.set_append_left _ _ (by rw [stCells_length hm]; exact hi), he]
/-- A store of a number. -/
theorem EngAt.set' (h : EngAt w0 w E pv s FS ES AS) (hm : s.mem.length = 16) {i : Nat} (hi : i < 22) {v : Value} {s' : St} (he : (stCells s FS ES AS).set i v = stCells s' FS ES AS) (h1 : s'.frames = s.frames) (h2 : s'.events = s.events) (h3 : s'.answers = s.answers) :
    EngAt w0 (w.setCell ⟨E, i, none⟩ v) E pv s' FS ES AS := by
  have := h.rows.set h.blk eng_ne60 eng_ne3 i v
  exact h.set hm hi he ⟨by rw [h1]; exact this.fr, by rw [h2]; exact this.ev, by rw [h3]; exact this.an, by rw [h3]; exact this.ne⟩
/-- Blocks of instructions stay as they are. -/
def KeptI (w w' : World) : Prop := ∀ (k : Nat) (c : Array Value) (fz : Nat × Nat), w.heap[k]? = some (.cells c 62 fz) → w'.heap[k]? = some (.cells c 62 fz)
end
theorem eng_told {w0 w w2 : World} {E : Nat} {pv FS ES AS : Value} {s : St} (h : EngAt w0 w E pv s FS ES AS) (hm : s.mem.length = 16) {o : Obj} {g cap : Nat} {a : Int}
    (hown : w2.ownsRow w0.heap.size 3 1 (.slice (some ⟨g, 0, none⟩) (s.events.length + 1) cap) (s.events.length + 1) (intsV s.events ++ [.int .i64 a])) (hg : (w.alloc o).grownBy w2 ES.ownBlock) (hat : ES.ownBlock = some g ∨ g = w.heap.size + 1) :
    w2.frozen? ⟨E, 20, none⟩ = false ∧ w2.cell? ⟨E, 20, none⟩ = some ES ∧ ∀ w3, w2.setCell ⟨E, 20, none⟩ (.slice (some ⟨g, 0, none⟩) (s.events.length + 1) cap) = w3 →
      EngAt w0 w3 E pv { s with events := s.events ++ [a] } FS (.slice (some ⟨g, 0, none⟩) (s.events.length + 1) cap) AS ∧ KeptI w w3 := by
  have hE : ES.ownBlock ≠ some E := own_type h.rows.ev h.blk eng_ne3
  have keep : ∀ (k : Nat) (ob : Obj), w.heap[k]? = some ob → ES.ownBlock ≠ some k → w2.heap[k]? = some ob := fun k ob hk hne =>
    (hg.block k (by have := block_lt hk; simp; omega) (fun e => hne e.symm)).trans (block_alloc hk o)
  have hblk := keep E _ h.blk hE
  refine ⟨frozen_block hblk 20, ?_, ?_⟩
  · rw [cell_block hblk, ← cell_block h.blk, h.cellC hm (by omega), stC_20 FS ES AS hm]
  · intro w3 hw3
    have hl : (s.events ++ [a]).length = s.events.length + 1 := by simp
    have hiv : intsV (s.events ++ [a]) = intsV s.events ++ [.int .i64 a] := by simp [intsV]
    have hfr : w2.ownsRow w0.heap.size 60 14 FS s.frames.length (frCells s.frames) := by
      refine (h.rows.fr.alloc o).kept hg ?_
      rcases h.rows.fr.2 with ⟨hf, -⟩ | ⟨g', c', cur, hf, -, hh, -⟩
      · rw [hf]; exact .inl rfl
      · right
        intro e
        have e' : ES.ownBlock = some g' := by rw [← e, hf]; rfl
        exact own_type h.rows.ev hh (by decide) e'
    have han : NumAt w2 w0.heap.size AS s.answers := by
      obtain ⟨A, c, rfl, h2, h3⟩ := h.rows.an
      refine ⟨A, c, rfl, h2, fun hl => ?_⟩
      obtain ⟨b, o', cur, rfl, h5, h6, h7⟩ := h3 hl
      exact ⟨b, o', cur, rfl, h5, keep b _ h6 (fun e => h.rows.ne hl b e rfl), h7⟩
    have hrows : StRows w2 w0.heap.size { s with events := s.events ++ [a] } FS (.slice (some ⟨g, 0, none⟩) (s.events.length + 1) cap) AS := by
      refine ⟨hfr, by simpa only [hl, hiv] using hown, han, fun hl k hk he => ?_⟩
      obtain rfl : g = k := by simpa [Value.ownBlock] using hk
      rcases hat with hat | rfl
      · exact h.rows.ne hl g hat he
      · obtain ⟨A, c, rfl, -, h3⟩ := h.rows.an
        obtain ⟨b, o', cur, rfl, -, h6, -⟩ := h3 hl
        have := block_lt h6
        have : b = w.heap.size + 1 := by simpa [Value.ownBlock] using he
        omega
    have hbel : Below w0.heap.size w0 w2 := (h.below.alloc h.below.size o).grown hg (by have := h.below.size; simp; omega) (fun k hk => by
      have := h.rows.ev.lt k hk
      omega)
    subst hw3
    refine ⟨⟨block_put hblk ?_, hrows.set hblk eng_ne60 eng_ne3 20 _, h.base, hbel.setCell h.base _⟩, fun k c fz hk => ?_⟩
    · rw [List.set_append_left _ _ (by rw [stCells_length hm]; omega), stS_20 FS ES AS hm]; rfl
    · have hke : k ≠ E := fun e => by
        subst e
        rw [h.blk] at hk
        simp only [Option.some.injEq, Obj.cells.injEq] at hk
        exact absurd hk.2.1 (by decide)
      exact block_set_ne (keep k _ hk (own_type h.rows.ev hk (by decide))) (fun e => hke e.symm) _ _
theorem KeptI.set {w w' : World} (h : KeptI w w') {k : Nat} {c : Array Value} {fz : Nat × Nat} {t : TypeId} (hk : w'.heap[k]? = some (.cells c t fz)) (ht : t ≠ 62) (i : Nat) (u : Value) : KeptI w (w'.setCell ⟨k, i, none⟩ u) := fun j c' fz' hj => by
  have h1 := h j c' fz' hj
  refine block_set_ne h1 (fun e => ?_) _ _
  subst e
  rw [hk] at h1
  simp only [Option.some.injEq, Obj.cells.injEq] at h1
  exact ht h1.2.1
theorem eng_took {w0 w : World} {E b o Ac : Nat} {pv FS ES : Value} {s : St} (h : EngAt w0 w E pv s FS ES (.slice (some ⟨b, o, none⟩) s.answers.length Ac)) (hm : s.mem.length = 16) (hl : 0 < s.answers.length) :
    w.cell? ⟨b, o, none⟩ = some (.int .i64 (s.answers.headD 0)) ∧ ∀ (d : Addr) (c' : Nat), (1 < s.answers.length → d = ⟨b, o + 1, none⟩) → s.answers.length - 1 ≤ c' → EngAt w0 (w.setCell ⟨E, 21, none⟩ (.slice (some d) (s.answers.length - 1) c')) E pv { s with answers := s.answers.tail } FS ES (.slice (some d) (s.answers.length - 1) c') := by
  obtain ⟨A, c, hA, hc, h3⟩ := h.rows.an
  obtain ⟨b', o', cur, hA', hb, hblk, hcur⟩ := h3 hl
  simp only [Value.slice.injEq, true_and] at hA
  obtain ⟨hA1, hA2⟩ := hA
  rw [← hA1] at hA'
  simp only [Option.some.injEq, Addr.mk.injEq, and_true] at hA'
  obtain ⟨rfl, rfl⟩ := hA'
  obtain ⟨x, xs, hx⟩ : ∃ x xs, s.answers = x :: xs := by
    cases hs : s.answers with
    | nil => rw [hs] at hl; cases hl
    | cons x xs => exact ⟨x, xs, rfl⟩
  have hne : b ≠ E := fun e => by
    subst e
    rw [h.blk] at hblk
    simp only [Option.some.injEq, Obj.cells.injEq] at hblk
    exact absurd hblk.2.1 (by decide)
  refine ⟨?_, fun d c' hd hc' => ?_⟩
  · rw [cell_block hblk]
    have := hcur 0 x (by rw [hx]; rfl)
    rw [Nat.add_zero] at this
    rw [this, hx]; rfl
  have h0 := h.rows.set h.blk eng_ne60 eng_ne3 21 (.slice (some d) (s.answers.length - 1) c')
  have htl : s.answers.tail.length = s.answers.length - 1 := List.length_tail
  refine h.set hm (by omega) (stS_21 _ _ _ hm _) ⟨h0.fr, h0.ev, ⟨some d, c', ?_, ?_, fun ht => ?_⟩, fun ht k hk e => ?_⟩
  · show Value.slice _ _ _ = .slice _ s.answers.tail.length _
    rw [htl]
  · show s.answers.tail.length ≤ _
    rw [htl]; exact hc'
  · have ht' : 0 < s.answers.tail.length := ht
    refine ⟨b, o + 1, cur, by rw [hd (by omega)], hb, block_set_ne hblk (fun e => hne e.symm) _ _, fun i y hy => ?_⟩
    have := hcur (i + 1) y (by rw [hx] at hy ⊢; exact hy)
    rw [show o + 1 + i = o + (i + 1) by omega]; exact this
  · have ht' : 0 < s.answers.tail.length := ht
    rw [hd (by omega)] at e
    exact h.rows.ne hl k hk (by simpa [Value.ownBlock] using e)
theorem halt_any {w0 w : World} {E : Nat} {pv FS ES AS : Value} {s : St} (h : EngAt w0 w E pv s FS ES AS) (hm : s.mem.length = 16) (n : Int) :
    Calls Tryd.prog 57 #[.pointer (some ⟨E, 0, none⟩), .int .i64 n] w fun e w' => e = .returned (.tuple #[]) ∧ EngAt w0 w' E pv { s with status := n } FS ES AS := by
  have q0 := h.cellC hm (i := 0) (by omega)
  rw [stC_0] at q0
  have f0 := h.frozen 0
  have HX := Lib.hid (h.set' hm (i := 0) (by omega) (v := .int .i64 n) (s' := { s with status := n }) (stS_0 (s := s) FS ES AS n) rfl rfl rfl)
  clear h
  go_enter Tryd.func57, Tryd.ntmps57
  go_wp2_with fail
  exact bodyPost_end (v := .tuple #[]) (by simp [results, Tryd.results57, go_sem]) rfl ⟨rfl, HX.out⟩
set_option maxRecDepth 100000 in
set_option maxHeartbeats 4000000 in
theorem answer_any {w0 w : World} {E : Nat} {pv FS ES AS : Value} {s : St} (h : EngAt w0 w E pv s FS ES AS) (hm : s.mem.length = 16) (he : s.events.length ≤ 1000000) (a : Int) :
    Calls Tryd.prog 59 #[.pointer (some ⟨E, 0, none⟩), .int .i64 a] w fun e w' => e = .returned (.int .i64 (s.answers.headD 0)) ∧ (∃ ES' AS', EngAt w0 w' E pv { s with events := s.events ++ [a], answers := s.answers.tail } FS ES' AS') ∧ KeptI w w' := by
  obtain ⟨i0, hi, hz0, hz1, hz2⟩ := info_parts infoIn
  have q20 := h.cellC hm (i := 20) (by omega)
  rw [stC_20 FS ES AS hm] at q20
  have f20 := h.frozen 20
  obtain ⟨EA, Ec, hEv, -⟩ := own_slice h.rows.ev
  subst hEv
  obtain ⟨AA, Ac, hAv, hcap, h3⟩ := h.rows.an
  subst hAv
  have H3 := Lib.hid h3
  clear h3
  obtain ⟨n, hn⟩ : ∃ n, s.answers.length = n := ⟨_, rfl⟩
  rw [hn] at hcap
  have HH := Lib.hid h
  have HM := Lib.hid hm
  have HN := Lib.hid hn
  clear h hm
  have step1 : ∀ (w3 : World) (g cap : Nat), EngAt w0 w3 E pv { s with events := s.events ++ [a] } FS (.slice (some ⟨g, 0, none⟩) (s.events.length + 1) cap) (.slice AA s.answers.length Ac) → w3.cell? ⟨E, 21, none⟩ = some (.slice AA n Ac) := fun w3 g cap h => by
    have q := h.cellC (s := { s with events := s.events ++ [a] }) HM.out (i := 21) (by omega)
    rw [stC_21 (s := { s with events := s.events ++ [a] }) _ _ _ HM.out] at q
    rw [q, HN.out]
  have S1 := Lib.hid step1
  clear step1 hn
  by_cases hz : n = 0
  · subst hz
    have HA := Lib.hid (List.eq_nil_of_length_eq_zero HN.out)
    go_enter Tryd.func59, Tryd.ntmps59
    go_wp2_with (at_builtin; go_must (refine wpList_append_lies _ rfl _ _ 28 rfl w0.heap.size 3 i0 _ 1 8 Tryd.underlying28 hi hz0 hz1 hz2 rfl (by decide) (.slice EA s.events.length Ec) s.events.length (intsV s.events) rfl (HH.out.rows.ev.alloc _) ⟨w.heap.size, 0, none⟩ 1 1 [.int .i64 a] rfl rfl (World.news_of_block (cs := #[.int .i64 a]) (t := 3) (fr := (0, 0)) (heap_alloc_new _ _)) (by simp [Value.oneCell']) (by decide) (by unfold maxLen; omega) (by omega) (by have := HH.out.below.size; simp; omega) _ rfl ?_))
    intro g cap w2 hown hgr hat _
    obtain ⟨f3, q3, hstep⟩ := eng_told HH.out HM.out hown hgr hat
    have HSTEP := Lib.hid hstep
    clear hstep hown hgr hat f20 q20 hi hz0 hz1 hz2
    go_wp2_with (obtain ⟨w3, hw3⟩ : ∃ w3, w2.setCell ⟨E, 20, none⟩ (.slice (some ⟨g, 0, none⟩) (s.events.length + 1) cap) = w3 := ⟨_, rfl⟩; rw [hw3]; have HX := Lib.hid (HSTEP.out w3 hw3); have q21 := S1.out w3 g cap HX.out.1; clear hw3 f3 q3)
    go_ret
    refine ⟨ret_int (by rw [HA.out]; rfl), ⟨.slice (some ⟨g, 0, none⟩) (s.events.length + 1) cap, .slice AA s.answers.length Ac, ?_⟩, HX.out.2⟩
    have e : s.answers.tail = s.answers := by rw [HA.out]; rfl
    rw [e]
    exact HX.out.1
  · obtain ⟨b, o, cur, hAA, hbb, hblk, hcur⟩ := H3.out (by have := HN.out; omega)
    subst hAA
    have n1 : 1 ≤ n := by omega
    have HT := Lib.hid (fun (w3 : World) (g cap : Nat) (h : EngAt w0 w3 E pv { s with events := s.events ++ [a] } FS (.slice (some ⟨g, 0, none⟩) (s.events.length + 1) cap) (.slice (some ⟨b, o, none⟩) s.answers.length Ac)) => eng_took (s := { s with events := s.events ++ [a] }) h HM.out (by have := HN.out; show 0 < s.answers.length; omega))
    have hz' : ((n : Int) == 0) = false := by simpa using hz
    have hz2' : (1 : Int) ≤ n := by omega
    clear hblk hcur H3
    go_enter Tryd.func59, Tryd.ntmps59
    go_wp2_with (at_builtin; go_must (refine wpList_append_lies _ rfl _ _ 28 rfl w0.heap.size 3 i0 _ 1 8 Tryd.underlying28 hi hz0 hz1 hz2 rfl (by decide) (.slice EA s.events.length Ec) s.events.length (intsV s.events) rfl (HH.out.rows.ev.alloc _) ⟨w.heap.size, 0, none⟩ 1 1 [.int .i64 a] rfl rfl (World.news_of_block (cs := #[.int .i64 a]) (t := 3) (fr := (0, 0)) (heap_alloc_new _ _)) (by simp [Value.oneCell']) (by decide) (by unfold maxLen; omega) (by omega) (by have := HH.out.below.size; simp; omega) _ rfl ?_))
    intro g cap w2 hown hgr hat _
    obtain ⟨f3, q3, hstep⟩ := eng_told HH.out HM.out hown hgr hat
    have HSTEP := Lib.hid hstep
    clear hstep hown hgr hat f20 q20 hi hz0 hz1 hz2
    go_wp2_with (obtain ⟨w3, hw3⟩ : ∃ w3, w2.setCell ⟨E, 20, none⟩ (.slice (some ⟨g, 0, none⟩) (s.events.length + 1) cap) = w3 := ⟨_, rfl⟩; rw [hw3]; have HX := Lib.hid (HSTEP.out w3 hw3); have q21 := S1.out w3 g cap HX.out.1; have HT3 := Lib.hid (HT.out w3 g cap HX.out.1); have qb := HT3.out.1; have f21 := HX.out.1.frozen 21; clear hw3 f3 q3)
    all_goals go_ret
    all_goals (
      have hb := HT3.out.2
      have hb2 := fun v => HX.out.2.set HX.out.1.blk (by decide) 21 v
      rw [HN.out] at hb)
    · exact ⟨rfl, ⟨_, _, hb ⟨b, o, none⟩ 0 (fun _ => by omega) (by omega)⟩, hb2 _⟩
    · exact ⟨rfl, ⟨_, _, hb ⟨b, o + 1, none⟩ (Ac - 1) (fun _ => rfl) (by omega)⟩, hb2 _⟩
end Go.Proofs.YtnbopmlemddakaaDoor
