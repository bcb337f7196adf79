/-
  Plain: a run goes from block to block as the blocks say, and has come through the one above. No program is in sight.
-/
import Derived.Test.YtefbdecejoeamaaDoorAb
import Derived.Test.YtefbdecejoeamaaDoorAvP
import Derived.Test.YtefbdecejoeamaaDoorStL
import Derived.Test.YtefbdecejoeamaaDoorOpI
namespace Tier
open Go Go.RowKit Go.Proofs.YtefbdecejoeamaaDoor
section
variable {p : List Fnc} {F : Fnc}
theorem nextL_on {x : Ins} {pc : Nat} (h15 : x.op ≠ 15) (h19 : x.op ≠ 19) : pc + 1 ∈ nextL x pc := by
  unfold nextL; rw [if_neg h19, if_neg h15]; split <;> simp
/-- What a step does to the first frame. -/
theorem bot_step (hp : Right p) {s : St} (hi : StInv p s) (hst : s.status = 0) (hst' : (stepSt p s).status = 0) {f0 : Fr} {rest : List Fr} (h0 : s.frames = f0 :: rest) :
    ∃ f1 rest', (stepSt p s).frames = f1 :: rest' ∧ f1.fn = f0.fn ∧ ((f1 = f0 ∧ rest' ≠ []) ∨ (rest' = [] ∧ f1.pc.toNat ∈ nextL (insOf p f0) f0.pc.toNat)) := by
  have hfu : s.fuel ≠ 0 := fun e => by
    unfold stepSt at hst'; rw [if_pos e] at hst'; simp at hst'
  obtain ⟨fs, f, hf⟩ := hi.running hst
  have hfo : FrOk p f := hi.fr f (by rw [hf]; simp)
  have hio := hp.ins hfo
  have pc0 := hfo.pc0
  have o1 := hio.op1
  have o2 := hio.op2
  rw [stepSt_exec hf hfu] at hst' ⊢
  have hon : (insOf p f).op ≠ 15 → (insOf p f).op ≠ 19 → (f.pc + 1).toNat ∈ nextL (insOf p f) f.pc.toNat := fun h15 h19 => by
    have e : (f.pc + 1).toNat = f.pc.toNat + 1 := by omega
    rw [e]; exact nextL_on h15 h19
  rw [hf] at h0
  -- the last frame changes
  have top : ∀ g : Fr, g.fn = f.fn → g.pc.toNat ∈ nextL (insOf p f) f.pc.toNat → ∃ f1 rest', fs ++ [g] = f1 :: rest' ∧ f1.fn = f0.fn ∧ ((f1 = f0 ∧ rest' ≠ []) ∨ (rest' = [] ∧ f1.pc.toNat ∈ nextL (insOf p f0) f0.pc.toNat)) := fun g hg hn => by
    cases fs with
    | nil =>
      simp at h0
      obtain ⟨rfl, -⟩ := h0
      exact ⟨g, [], rfl, hg, .inr ⟨rfl, hn⟩⟩
    | cons f' fs =>
      simp at h0
      obtain ⟨rfl, -⟩ := h0
      exact ⟨f', fs ++ [g], rfl, rfl, .inl ⟨rfl, by simp⟩⟩
  rcases exec_split (p := p) fs f with ⟨a1, h⟩ | ⟨a1, h⟩ | ⟨a1, h⟩ | ⟨a1, -, -, h⟩ | ⟨a1, a2, a3, h⟩ | ⟨a1, h⟩ | ⟨a1, h⟩ | ⟨a1, -, h⟩ | ⟨a1, -, h⟩ | ⟨a1, h⟩ | ⟨a1, a2, h⟩ | ⟨a1, gs, g, a2, h⟩
  case inl =>
    rw [h s]
    have h12 : (insOf p f).op ≤ 12 := by simp [mkOk] at a1; omega
    exact top _ rfl (hon (by omega) (by omega))
  case inr.inl => rw [h s] at hst'; simp at hst'
  case inr.inr.inl => rw [h s] at hst'; simp at hst'
  case inr.inr.inr.inl => rw [h s]; exact top _ rfl (hon (by omega) (by omega))
  case inr.inr.inr.inr.inl => rw [h s]; exact top (f.at (f.pc + 1)) rfl (hon (by omega) (by omega))
  case inr.inr.inr.inr.inr.inl =>
    rw [h s]
    exact top _ rfl (by unfold nextL; rw [if_neg (by omega), if_pos a1]; simp [Fr.at])
  case inr.inr.inr.inr.inr.inr.inl =>
    rw [h s]
    refine top _ rfl ?_
    show (if f.reg (insOf p f).a = 0 then f.pc + 1 else (insOf p f).imm).toNat ∈ _
    split
    · exact hon (by omega) (by omega)
    · unfold nextL; rw [if_neg (by omega), if_neg (by omega), if_pos a1]; simp
  case inr.inr.inr.inr.inr.inr.inr.inl => rw [h s] at hst'; simp at hst'
  case inr.inr.inr.inr.inr.inr.inr.inr.inl =>
    rw [h s]
    cases fs with
    | nil =>
      simp at h0
      obtain ⟨rfl, -⟩ := h0
      exact ⟨f, _, rfl, rfl, .inl ⟨rfl, by simp⟩⟩
    | cons f' fs =>
      simp at h0
      obtain ⟨rfl, -⟩ := h0
      exact ⟨f', _, rfl, rfl, .inl ⟨rfl, by simp⟩⟩
  case inr.inr.inr.inr.inr.inr.inr.inr.inr.inl => rw [h s]; exact top ((f.put (insOf p f).dst (s.answers.headD 0)).at (f.pc + 1)) rfl (hon (by omega) (by omega))
  case inr.inr.inr.inr.inr.inr.inr.inr.inr.inr.inl => rw [h s] at hst'; simp at hst'
  case inr.inr.inr.inr.inr.inr.inr.inr.inr.inr.inr =>
    rw [h s]
    subst a2
    cases gs with
    | nil =>
      simp at h0
      obtain ⟨rfl, -⟩ := h0
      have hgo : FrOk p g := hi.fr g (by rw [hf]; simp)
      have hc := (hi.calls [] [] g f (by rw [hf]; simp)).1
      have hpc := hgo.pc0
      refine ⟨retFr p g (f.reg (insOf p f).a), [], rfl, rfl, .inr ⟨rfl, ?_⟩⟩
      have e : (g.pc + 1).toNat = g.pc.toNat + 1 := by omega
      show (g.pc + 1).toNat ∈ _
      rw [e]; exact nextL_on (by omega) (by omega)
    | cons f' gs =>
      simp at h0
      obtain ⟨rfl, -⟩ := h0
      exact ⟨f', _, rfl, rfl, .inl ⟨rfl, by simp⟩⟩
/-- Between two steps: at: the block the first frame was in; seen: the blocks come through. -/
structure RwI (F : Fnc) (s : St) (at_ : Int) (seen : List Bool) : Prop where
  len : seen.length = (hdL F).length
  bot : ∃ f rest, s.frames = f :: rest ∧ f.fn = 0 ∧ ((at_ = -1 ∧ rest = [] ∧ f.pc = 0) ∨ ∃ a : Nat, at_ = a ∧ a < (hdL F).length ∧ bB seen a = true ∧ (∀ k, k < (hdL F).length → bB seen k = false → Av (Edg F) k a) ∧ ((rest = [] ∧ ((hdA F a < f.pc.toNat ∧ f.pc.toNat < toF F (hdA F a)) ∨ f.pc.toNat ∈ nxN F (hdA F a))) ∨ (rest ≠ [] ∧ hdA F a ≤ f.pc.toNat ∧ f.pc.toNat < toF F (hdA F a))))
/-- .. where the first frame's block is known. -/
structure RwJ (F : Fnc) (s : St) (a : Nat) (seen : List Bool) : Prop where
  len : seen.length = (hdL F).length
  lt : a < (hdL F).length
  sn : bB seen a = true
  un : ∀ k, k < (hdL F).length → bB seen k = false → Av (Edg F) k a
  bot : ∃ f rest, s.frames = f :: rest ∧ f.fn = 0 ∧ hdA F a ≤ f.pc.toNat ∧ f.pc.toNat < toF F (hdA F a)
theorem RwJ.step (hp : Right p) (hF : p[0]? = some F) {s : St} {a : Nat} {seen : List Bool} (h : RwJ F s a seen) (hi : StInv p s) (hst : s.status = 0) (hst' : (stepSt p s).status = 0) : RwI F (stepSt p s) a seen := by
  obtain ⟨f0, rest, h0, hfn, hlo, hhi⟩ := h.bot
  obtain ⟨f1, rest', h1, h2, h3⟩ := bot_step hp hi hst hst' h0
  have hFm := List.mem_of_getElem? hF
  have hfo : FrOk p f0 := hi.fr f0 (by rw [h0]; simp)
  obtain ⟨F', m, a1, a2, a3, a4⟩ := hfo.parts
  rw [hfn] at a1
  have hFF : F' = F := by
    have e : p[(0 : Int).toNat]? = some F := hF
    rw [e] at a1
    exact (Option.some.inj a1).symm
  subst hFF
  have hm := (hdA_mem h.lt).1
  refine ⟨h.len, f1, rest', h1, by rw [h2]; exact hfn, .inr ⟨a, rfl, h.lt, h.sn, h.un, ?_⟩⟩
  rcases h3 with ⟨rfl, h4⟩ | ⟨h4, h5⟩
  · exact .inr ⟨h4, hlo, hhi⟩
  · refine .inl ⟨h4, ?_⟩
    by_cases hq : f0.pc.toNat + 1 < toF F' (hdA F' a)
    · have ho := cov_end hp hFm hm hlo hq
      rw [insAt_eq a4] at ho
      have hn : nextL (insOf p f0) f0.pc.toNat = [f0.pc.toNat + 1] := by unfold nextL; rw [if_neg (by omega), if_neg (by omega), if_neg (by omega)]
      rw [hn] at h5
      have := List.mem_singleton.1 h5
      exact .inl (by omega)
    · have hT : toF F' (hdA F' a) = f0.pc.toNat + 1 := by omega
      right
      unfold nxN
      rw [hT, Nat.add_sub_cancel, insAt_eq a4]
      exact (nextS_mem _ _ _).2 h5
/-- A frame more than the first: nothing is looked at. -/
theorem RwI.deep {s : St} {at_ : Int} {seen : List Bool} (h : RwI F s at_ seen) (hl : s.frames.length ≠ 1) : ∃ a : Nat, at_ = a ∧ RwJ F s a seen := by
  obtain ⟨f, rest, h0, hfn, h1⟩ := h.bot
  have hr : rest ≠ [] := fun e => hl (by rw [h0, e]; rfl)
  rcases h1 with ⟨-, h2, -⟩ | ⟨a, rfl, h3, h4, h5, h6⟩
  · exact absurd h2 hr
  · rcases h6 with ⟨h7, -⟩ | ⟨-, h8, h9⟩
    · exact absurd h7 hr
    · exact ⟨a, rfl, h.len, h3, h4, h5, f, rest, h0, hfn, h8, h9⟩
/-- The first frame alone: nb is the block it is in now. -/
structure Proc (F : Fnc) (at_ : Int) (seen : List Bool) (q nb : Nat) : Prop where
  lt : nb < (hdL F).length
  lo : hdA F nb ≤ q
  hi : q < toF F (hdA F nb)
  uniq : ∀ b, b < (hdL F).length → hdA F b ≤ q → q < toF F (hdA F b) → b = nb
  enter : hdA F nb = q → at_ ∈ prevF F nb ∧ (nb ≠ 0 → bB seen (idomN F nb) = true)
  stay : hdA F nb ≠ q → at_ = nb ∧ bB seen nb = true
  after : ∀ k, k < (hdL F).length → k ≠ nb → bB seen k = false → Av (Edg F) k nb
theorem RwI.proc (hp : Right p) (hF : F ∈ p) {s : St} {at_ : Int} {seen : List Bool} (h : RwI F s at_ seen) (hl : s.frames.length = 1) : ∃ f nb, s.frames = [f] ∧ f.fn = 0 ∧ Proc F at_ seen f.pc.toNat nb := by
  obtain ⟨f, rest, h0, hfn, h1⟩ := h.bot
  have hr : rest = [] := by rw [h0] at hl; simpa using hl
  subst hr
  have huniq : ∀ {q nb : Nat}, nb < (hdL F).length → hdA F nb ≤ q → q < toF F (hdA F nb) → ∀ b, b < (hdL F).length → hdA F b ≤ q → q < toF F (hdA F b) → b = nb := fun {q nb} h1 h2 h3 b h4 h5 h6 => by
    have := cov_one hp hF (hdA_mem h4).1 (hdA_mem h1).1 h5 h6 h2 h3
    have e1 := posH_hdA h4
    have e2 := posH_hdA h1
    rw [← e1, ← e2, this]
  have hz := zero_head hp hF
  have hH : 0 < (hdL F).length := (List.getElem?_eq_some_iff.1 hz).1
  rcases h1 with ⟨rfl, -, hpc⟩ | ⟨a, rfl, ha, hsa, hun, h2⟩
  · have hq : f.pc.toNat = 0 := by omega
    have h00 := hdA_eq hz
    have hto := (toF_spec hp hF (List.mem_of_getElem? hz)).1
    refine ⟨f, 0, h0, hfn, hH, by omega, by rw [h00, hq]; exact hto, huniq hH (by omega) (by rw [h00, hq]; exact hto), fun _ => ⟨prevF_mem.2 (.inl ⟨rfl, rfl⟩), fun e => absurd rfl e⟩, fun e => absurd (by rw [h00, hq]) e, fun k _ hk _ => .zero (fun e => hk e.symm)⟩
  · rcases h2 with ⟨-, h3 | h3⟩ | ⟨h3, -⟩
    · exact ⟨f, a, h0, hfn, ha, by omega, h3.2, huniq ha (by omega) h3.2, fun e => by omega, fun _ => ⟨rfl, hsa⟩, fun k hk _ hs => hun k hk hs⟩
    · have hm := (hdA_mem ha).1
      have hnh := nxN_head hp hF hm h3
      have hnb : posH F f.pc.toNat < (hdL F).length := (List.getElem?_eq_some_iff.1 (posH_get hnh)).1
      have he := hdA_posH hnh
      have hto := (toF_spec hp hF hnh).1
      have hE : Edg F a (posH F f.pc.toNat) := ⟨ha, List.mem_map.2 ⟨_, h3, rfl⟩⟩
      refine ⟨f, posH F f.pc.toNat, h0, hfn, hnb, by omega, by rw [he]; exact hto, huniq hnb (by omega) (by rw [he]; exact hto), fun _ => ⟨prevF_mem.2 (.inr ⟨a, ha, hE.2, rfl⟩), fun h00 => ?_⟩, fun e => absurd he e, fun k hk hne hs => .step (hun k hk hs) hE (fun e => hne e.symm)⟩
      obtain ⟨i1, i2⟩ := idomN_spec hp hF hnb h00
      cases hb : bB seen (idomN F (posH F f.pc.toNat)) with
      | true => rfl
      | false => exact absurd (.step (hun _ i1 hb) hE (fun e => i2.1 e.symm)) i2.2.1
    · exact absurd rfl h3
/-- Behind the two loops. -/
def seenN (F : Fnc) (seen : List Bool) (q nb : Nat) : List Bool := if hdA F nb = q then seen.set nb true else seen
theorem Proc.done {s : St} {at_ : Int} {seen : List Bool} {f : Fr} {nb : Nat} (h : Proc F at_ seen f.pc.toNat nb) (hl : seen.length = (hdL F).length) (h0 : s.frames = [f]) (hfn : f.fn = 0) : RwJ F s nb (seenN F seen f.pc.toNat nb) := by
  have hlt : nb < seen.length := by rw [hl]; exact h.lt
  have hs := bB_set hlt
  unfold seenN
  by_cases e : hdA F nb = f.pc.toNat
  · rw [if_pos e]
    refine ⟨by simp [hl], h.lt, by rw [hs, if_pos rfl], fun k hk hb => ?_, f, [], h0, hfn, h.lo, h.hi⟩
    rw [hs] at hb
    by_cases e2 : k = nb
    · rw [if_pos e2] at hb; cases hb
    · rw [if_neg e2] at hb; exact h.after k hk e2 hb
  · rw [if_neg e]
    refine ⟨hl, h.lt, (h.stay e).2, fun k hk hb => h.after k hk (fun e2 => ?_) hb, f, [], h0, hfn, h.lo, h.hi⟩
    rw [e2, (h.stay e).2] at hb; cases hb
end
end Tier
/-
  RunWays' memory: the state's box that changes, the row of blocks seen; all else stays.
-/
namespace Go.Proofs.YtefbdecejoeamaaDoor
open Go.RowKit Tier
/-- But for block b0 all old blocks are as they were. -/
structure Agr (w5 : World) (b0 : Nat) (wr : World) : Prop where
  size : w5.heap.size ≤ wr.heap.size
  blk : ∀ k, k < w5.heap.size → k ≠ b0 → wr.heap[k]? = w5.heap[k]?
section
variable {w5 wr w' : World} {b0 : Nat}
theorem Agr.refl (w : World) (b0 : Nat) : Agr w b0 w := ⟨Nat.le_refl _, fun _ _ _ => rfl⟩
theorem Agr.keeps (h : Agr w5 b0 wr) (hb : Below wr.heap.size wr w') : Agr w5 b0 w' := ⟨Nat.le_trans h.size hb.size, fun k hk hn => (hb.block k (Nat.lt_of_lt_of_le hk h.size)).trans (h.blk k hk hn)⟩
theorem Agr.put (h : Agr w5 b0 wr) (vs : List Value) : Agr w5 b0 (wr.setCells b0 0 vs) := by
  have hsz : ∀ (vs : List Value) (W : World) (o : Nat), (W.setCells b0 o vs).heap.size = W.heap.size := fun vs => by
    induction vs with
    | nil => intro W o; rfl
    | cons v vs ih => intro W o; show ((W.setCell ⟨b0, o, none⟩ v).setCells b0 (o + 1) vs).heap.size = _; rw [ih]; simp [World.setCell]
  refine ⟨by rw [hsz]; exact h.size, fun k hk hn => ?_⟩
  rw [← h.blk k hk hn]
  have hl : k < wr.heap.size := Nat.lt_of_lt_of_le hk h.size
  rw [block_setCells_ne vs (Array.getElem?_eq_getElem hl) (fun e => hn e.symm) 0, Array.getElem?_eq_getElem hl]
theorem Agr.new (h : Agr w5 b0 wr) {sb : Nat} (hs : w5.heap.size ≤ sb) (i : Nat) (v : Value) : Agr w5 b0 (wr.setCell ⟨sb, i, none⟩ v) :=
  ⟨by simp [World.setCell]; exact h.size, fun k hk hn => (Below.heap_setCell _ _ _ _ (by simp; omega)).trans (h.blk k hk hn)⟩
theorem Agr.cell (h : Agr w5 b0 wr) {k : Nat} (hk : k < w5.heap.size) (hn : k ≠ b0) (i : Nat) : wr.cell? ⟨k, i, none⟩ = w5.cell? ⟨k, i, none⟩ := by
  simp only [World.cell?, h.blk k hk hn]
theorem Agr.row (h : Agr w5 b0 wr) {A : Option Addr} {l : List Int} (hr : RowI w5 A l) (hn : ∀ g, A = some ⟨g, 0, none⟩ → g ≠ b0) : RowI wr A l := fun hl => by
  obtain ⟨g, h1, h2, h3⟩ := hr hl
  exact ⟨g, h1, Nat.lt_of_lt_of_le h2 h.size, fun i z hz => (h.cell h2 (hn g h1) i).trans (h3 i z hz)⟩
end
theorem Sx.mark {wP w : World} {pb : Nat} {pv : Value} {b : Nat} {C : List Value} {s : St} (h : Sx wP pb pv w [(b, C, s)]) {sb : Nat} {seen : List Bool} (hs : BolB w sb seen) (hB : wP.heap.size ≤ sb) (i : Nat) (v : Value) : Sx wP pb pv (w.setCell ⟨sb, i, none⟩ v) [(b, C, s)] := by
  have hne : pb ≠ sb := fun e => by
    have := h.pblk
    rw [e, hs] at this
    simp at this
  refine ⟨h.below.setCell hB _, block_set_ne h.pblk (fun e => hne e.symm) _ _, fun x hx => ?_⟩
  obtain rfl := List.mem_singleton.1 hx
  have hb := h.sts _ hx
  have hne2 : b ≠ sb := fun e => by
    have := hb.1
    simp only at this
    rw [e, hs] at this
    simp at this
  refine ⟨block_set_ne hb.1 (fun e => hne2 e.symm) _ _, ?_⟩
  obtain ⟨FS, ES, AS, h1, h2⟩ := hb.2
  exact ⟨FS, ES, AS, h1, h2.set hs (by decide) (by decide) i v⟩
structure RwM (w1 w5 wr : World) (pv : Value) (b0 sb : Nat) (C : List Value) (s : St) (seen : List Bool) : Prop where
  sx : Sx w1 w1.heap.size pv wr [(b0, C, s)]
  seen : BolB wr sb seen
  agr : Agr w5 b0 wr
section
variable {w1 w5 wr w' : World} {pv : Value} {b0 sb : Nat} {C : List Value} {s : St} {seen : List Bool}
theorem RwM.keeps (h : RwM w1 w5 wr pv b0 sb C s seen) (hb : Below wr.heap.size wr w') : RwM w1 w5 w' pv b0 sb C s seen := ⟨h.sx.keeps hb, h.seen.keeps hb, h.agr.keeps hb⟩
theorem RwM.mark (h : RwM w1 w5 wr pv b0 sb C s seen) (h1 : w1.heap.size ≤ w5.heap.size) (hs : w5.heap.size ≤ sb) (i : Nat) : RwM w1 w5 (wr.setCell ⟨sb, i, none⟩ (.bool true)) pv b0 sb C s (seen.set i true) :=
  ⟨h.sx.mark h.seen (by omega) i _, h.seen.set i true, h.agr.new hs i _⟩
theorem RwM.start {H : Nat} (h : Sx w1 w1.heap.size pv w5 [(b0, C, s)]) : RwM w1 w5 (w5.alloc (.cells (madeCells #[Value.bool false] H) 4)) pv b0 w5.heap.size C s (List.replicate H false) :=
  ⟨h.alloc _, by unfold BolB; rw [heap_alloc_new, made_bo], (Agr.refl w5 b0).keeps ((Below.refl _ _).alloc (Nat.le_refl _) _)⟩
/-- The state is put anew. -/
theorem RwM.next {w9 : World} {C2 : List Value} {s2 : St} (h : RwM w1 w5 wr pv b0 sb C s seen) (hb : Below wr.heap.size wr w9) (hx : Sx w1 w1.heap.size pv (w9.setCells b0 0 C2) [(b0, C2, s2)]) (hne : sb ≠ b0) : RwM w1 w5 (w9.setCells b0 0 C2) pv b0 sb C2 s2 seen :=
  ⟨hx, block_setCells_ne C2 (h.seen.keeps hb) (fun e => hne e.symm) 0, (h.agr.keeps hb).put C2⟩
end
end Go.Proofs.YtefbdecejoeamaaDoor
