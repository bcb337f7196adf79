/-
  Plain: to each phi that is left come two other values.
-/
import Derived.Test.YtlciakkbgaakiaaDoorSv3
namespace Go.Proofs.YtlciakkbgaakiaaDoor
open Go.RowKit Tier
section
variable {p : List Fnc} {F : Fnc} {O : List Nat} {bs : List BR} {l : List Int} {s s1 s2 : SB} {K : Nat}
/-- Behind a body a register is what an instruction made, or what it was. -/
theorem bod_keep (hp : Right p) (hF : F ∈ p) (hO : LiveOk p F O) {a : Nat} (ha : a ∈ hdL F) {R : List Int} (hR : R.length = 12) (S : List Int) {r : Nat} (hr : r < 12) : ∀ n, a + n ≤ toF F a →
    (∃ t, t < n ∧ (bodTo p F a R S n).R.getD r 0 = ((bodTo p F a R S n).I.getD t noIns).id ∧ 0 ≤ (bodTo p F a R S n).R.getD r 0) ∨
    ((bodTo p F a R S n).R.getD r 0 = R.getD r 0 ∧ ∀ m, ((n = 0 ∧ m = a) ∨ (0 < n ∧ m ∈ nextL (insAt F (a + n - 1)) (a + n - 1))) → (O.getD m 0).testBit r = true → (O.getD a 0).testBit r = true)
  | 0, _ => .inr ⟨rfl, fun m hm h => by
      rcases hm with ⟨_, rfl⟩ | ⟨h2, _⟩
      · exact h
      · omega⟩
  | n + 1, hn => by
    have h := bod_keep hp hF hO ha hR S hr n (by omega)
    obtain ⟨hl1, hl2, hl3⟩ := bodTo_len p F a hR S n
    rw [bodTo_succ]
    generalize bodTo p F a R S n = y at h hl1 hl2 hl3
    have hpr : rchB F (a + n) = true := cov_rch hp hF ha (by omega) (by omega)
    have hpl : a + n < F.code.length := by have := (toF_spec hp hF ha).2.1; omega
    have hx : F.code[a + n]? = some (insAt F (a + n)) := by unfold insAt; rw [List.getD_eq_getElem?_getD, List.getElem?_eq_getElem hpl]; rfl
    have hio := (hp.ok.fn F hF).ins _ (List.mem_of_getElem? hx)
    have hr12 := (hp.ok.fn F hF).r2
    obtain ⟨hp1, -⟩ := hO.pre (a + n) _ hpr hx
    have hat : (n = 0 ∧ a + n = a) ∨ (0 < n ∧ a + n ∈ nextL (insAt F (a + n - 1)) (a + n - 1)) := by
      by_cases e : n = 0
      · subst e; exact .inl ⟨rfl, rfl⟩
      · right
        have ho := cov_end hp hF ha (pc := a + n - 1) (by omega) (by omega)
        refine ⟨by omega, ?_⟩
        unfold nextL
        rw [if_neg (by omega), if_neg (by omega), if_neg (by omega), show a + n - 1 + 1 = a + n by omega]
        exact .head _
    generalize hxx : insAt F (a + n) = x at hx hio hp1
    have d1 := hio.dst1
    have d2 := hio.dst2
    have hstep : bodStep p F y (a + n) = if setsB x = true then ⟨y.R.set x.dst.toNat (y.S.length : Int), y.I ++ [insV p x y.R (a + n) (y.S.length : Int)], y.S ++ [(y.S.length : Int)]⟩ else ⟨y.R, y.I ++ [insV p x y.R (a + n) (-1)], y.S⟩ := by
      unfold bodStep
      rw [hxx]
    have hI : ∀ (z : InsS) (t : Nat), t < n + 1 → (y.I ++ [z]).getD t noIns = if t < n then y.I.getD t noIns else z := fun z t ht => by
      rw [getD_snoc' _ _ _ (by rw [List.length_append, hl3, List.length_singleton]; exact ht), hl3]
    have hnx : ∀ m, ((n + 1 = 0 ∧ m = a) ∨ (0 < n + 1 ∧ m ∈ nextL (insAt F (a + (n + 1) - 1)) (a + (n + 1) - 1))) → m ∈ nextL x (a + n) := fun m hm => by
      rcases hm with ⟨h, _⟩ | ⟨_, hm⟩
      · omega
      · rw [show a + (n + 1) - 1 = a + n by omega, hxx] at hm; exact hm
    rw [hstep]
    cases hs : setsB x with
    | true =>
      rw [if_pos rfl]
      by_cases e : r = x.dst.toNat
      · left
        refine ⟨n, by omega, ?_, ?_⟩
        · show (y.R.set x.dst.toNat _).getD r 0 = ((y.I ++ [_]).getD n noIns).id
          rw [getD_set _ (by omega), if_pos e, hI _ n (by omega), if_neg (by omega)]; rfl
        · show 0 ≤ (y.R.set x.dst.toNat _).getD r 0
          rw [getD_set _ (by omega), if_pos e]; omega
      · have e1 : (y.R.set x.dst.toNat (y.S.length : Int)).getD r 0 = y.R.getD r 0 := by rw [getD_set _ (by omega), if_neg e]
        rcases h with ⟨t, h1, h2, h3⟩ | ⟨h1, h2⟩
        · left
          exact ⟨t, by omega, by
            show (y.R.set x.dst.toNat _).getD r 0 = ((y.I ++ [_]).getD t noIns).id
            rw [e1, hI _ t (by omega), if_pos h1]; exact h2, by
            show 0 ≤ (y.R.set x.dst.toNat _).getD r 0
            rw [e1]; exact h3⟩
        · right
          refine ⟨by show (y.R.set x.dst.toNat _).getD r 0 = _; rw [e1]; exact h1, fun m hm hb => h2 (a + n) hat (hp1 m (hnx m hm) r hb ?_)⟩
          unfold setM
          rw [if_pos hs, pow_bit]
          simpa using fun e' : x.dst.toNat = r => e e'.symm
    | false =>
      rw [if_neg (by simp)]
      rcases h with ⟨t, h1, h2, h3⟩ | ⟨h1, h2⟩
      · left
        exact ⟨t, by omega, by
          show y.R.getD r 0 = ((y.I ++ [_]).getD t noIns).id
          rw [hI _ t (by omega), if_pos h1]; exact h2, h3⟩
      · right
        refine ⟨h1, fun m hm hb => h2 (a + n) hat (hp1 m (hnx m hm) r hb ?_)⟩
        unfold setM
        rw [if_neg (by rw [hs]; decide)]; simp
/-- Where values come from. -/
structure SrcOk (F : Fnc) (O : List Nat) (bs : List BR) (j : Nat) (x : PartS) (B E : List Int) (ends : List (List Int)) : Prop where
  keep : ∀ r, r < 12 → (∃ t, t < x.ins.length ∧ E.getD r 0 = (x.ins.getD t noIns).id ∧ 0 ≤ E.getD r 0) ∨ (E.getD r 0 = B.getD r 0 ∧ ∀ n ∈ nxI F (hdA F j), (O.getD (hdA F n) 0).testBit r = true → (O.getD (hdA F j) 0).testBit r = true)
  from0 : jn bs j = false → j = 0 → ∀ r, (O.getD (hdA F j) 0).testBit r = true → B.getD r 0 = (r : Int)
  fromq : jn bs j = false → j ≠ 0 → ∃ q : Nat, prevL bs j = [(q : Int)] ∧ ∀ r, (O.getD (hdA F j) 0).testBit r = true → B.getD r 0 = (ends.getD q []).getD r 0
theorem src_all (hk : checkP p = 0) (hF : F ∈ p) (hO : LiveOk p F O) (hb : BlkOk F bs) {l : List Nat} (hl : l.Nodup) (hlm : ∀ j ∈ l, j < bs.length) (h00 : l.getD 0 0 = 0) (hbe : Behind (fun i => nxI F (hdA F i)) l) : ∀ t, t ≤ l.length → ∀ u, u < t → ∀ j, l[u]? = some j → SrcOk F O bs j ((bldTo p F O bs l t).part j) ((bldTo p F O bs l t).began.getD j []) ((bldTo p F O bs l t).ends.getD j []) (bldTo p F O bs l t).ends
  | 0, _ => fun u hu => by omega
  | t + 1, ht => by
    have hp := right_of hk
    have hi : l[t]? = some (l[t]'(by omega)) := List.getElem?_eq_getElem _
    generalize l[t]'(by omega) = i at hi
    have hB := binv hk hF hO hb hl hlm h00 hbe t (by omega)
    have ih := src_all hk hF hO hb hl hlm h00 hbe t (by omega)
    rw [bldTo_succ p F O bs l hi]
    generalize hs : bldTo p F O bs l t = s at hB ih
    have hiB := hlm i (List.mem_of_getElem? hi)
    have hiH : i < (hdL F).length := by rw [← hb.len]; exact hiB
    have htl := (List.getElem?_eq_some_iff.1 hi).1
    have hnt : ∀ u, u < t → ∀ j, l[u]? = some j → j ≠ i := fun u hu j hj e => by
      subst e
      have := (List.getElem_inj (h₀ := (List.getElem?_eq_some_iff.1 hj).1) (h₁ := htl) hl).1 (by rw [(List.getElem?_eq_some_iff.1 hj).2, (List.getElem?_eq_some_iff.1 hi).2])
      omega
    have hin : i < s.parts.length := by rw [hB.n]; exact hiB
    have hpj : ∀ j, j ≠ i → (bldStep p F O bs s i).part j = s.part j := fun j hj => by
      have h := part_set s hin ⟨(i : Int), (s.part i).phis ++ (bldX F O bs s i).P, (s.part i).ins ++ (bldY p F O bs s i).I, (s.part i).inn⟩ j
      rw [if_neg hj] at h
      exact h
    have hej : ∀ j, (bldStep p F O bs s i).ends.getD j [] = if j = i then (bldY p F O bs s i).R else s.ends.getD j [] := fun j => getD_set _ (by rw [hB.ne]; exact hiB) _ _ j
    have hbj : ∀ j, (bldStep p F O bs s i).began.getD j [] = if j = i then (bldX F O bs s i).R else s.began.getD j [] := fun j => getD_set _ (by rw [hB.nb]; exact hiB) _ _ j
    intro u hu j hj
    by_cases e : u = t
    · subst e
      obtain rfl := Option.some.inj (hi.symm.trans hj)
      have hni : i ∉ l.take u := fun hm => by
        obtain ⟨v, hv, e⟩ := List.getElem_of_mem hm
        rw [List.length_take] at hv
        rw [List.getElem_take] at e
        exact hnt v (by omega) i (by rw [List.getElem?_eq_getElem (by omega), e]) rfl
      have hz := hB.un i hiB hni
      have hpart : (bldStep p F O bs s i).part i = ⟨(i : Int), (bldX F O bs s i).P, (bldY p F O bs s i).I, zR⟩ := by
        have h := part_set s hin ⟨(i : Int), (s.part i).phis ++ (bldX F O bs s i).P, (s.part i).ins ++ (bldY p F O bs s i).I, (s.part i).inn⟩ i
        rw [if_pos rfl] at h
        have h2 : (bldStep p F O bs s i).part i = ⟨(i : Int), (s.part i).phis ++ (bldX F O bs s i).P, (s.part i).ins ++ (bldY p F O bs s i).I, (s.part i).inn⟩ := h
        rw [h2, hz]; rfl
      obtain ⟨ham, -⟩ := hdA_mem2 hiH
      have hX := ent_facts (jn bs i) i (O.getD (hdA F i) 0) (bldE bs s i) s.same F.regs.toNat (by have := (hp.ok.fn F hF).r2; omega)
      have hXe : entTo (jn bs i) i (O.getD (hdA F i) 0) (bldE bs s i) s.same F.regs.toNat = bldX F O bs s i := rfl
      rw [hXe] at hX
      obtain ⟨hal, har⟩ := head_rch hp hF ham
      have hlr : ∀ r, (O.getD (hdA F i) 0).testBit r = true → r < F.regs.toNat := fun r h => live_regs hk hF hO har h
      have hsp := toF_spec hp hF ham
      have hYe : bodTo p F (hdA F i) (bldX F O bs s i).R (bldX F O bs s i).S (toF F (hdA F i) - hdA F i) = bldY p F O bs s i := rfl
      have hYl := (bodTo_len p F (hdA F i) hX.rl (bldX F O bs s i).S (toF F (hdA F i) - hdA F i)).2.2
      rw [hYe] at hYl
      rw [hpart, hej, if_pos rfl, hbj, if_pos rfl]
      refine ⟨fun r hr => ?_, fun hj0 h0 r hr => ?_, fun hj0 h0 => ?_⟩
      · have h := bod_keep hp hF hO ham hX.rl (bldX F O bs s i).S hr (toF F (hdA F i) - hdA F i) (by omega)
        rw [hYe] at h
        rcases h with ⟨t, h1, h2, h3⟩ | ⟨h1, h2⟩
        · exact .inl ⟨t, by show t < (bldY p F O bs s i).I.length; rw [hYl]; exact h1, h2, h3⟩
        · right
          refine ⟨h1, fun n hn hbt => ?_⟩
          unfold nxI at hn
          obtain ⟨m, hm, rfl⟩ := List.mem_map.1 hn
          rw [hdA_posH2 (nxN_head hp hF ham hm)] at hbt
          refine h2 m (.inr ⟨by omega, ?_⟩) hbt
          rw [show hdA F i + (toF F (hdA F i) - hdA F i) - 1 = toF F (hdA F i) - 1 by omega]
          unfold nxN at hm
          exact (nextS_mem _ _ _).1 hm
      · rw [hX.val r (hlr r hr) hr hj0, if_pos h0]
      · obtain ⟨q, v, hv, hq, hpl, hn⟩ := hB.single hk hF hb hl hlm h00 hbe hi hj0 h0
        refine ⟨q, hpl, fun r hr => ?_⟩
        rw [hX.val r (hlr r hr) hr hj0, if_neg h0, hej, if_neg (hnt v hv q hq)]
        unfold bldE
        rw [hpl]
        show (s.ends.getD ((q : Int).toNat) []).getD r 0 = _
        rw [Int.toNat_natCast]
    · have hji := hnt u (by omega) j hj
      have h := ih u (by omega) j hj
      rw [hpj j hji, hej, if_neg hji, hbj, if_neg hji]
      refine ⟨h.keep, h.from0, fun hj0 h0 => ?_⟩
      obtain ⟨q, h1, h2⟩ := h.fromq hj0 h0
      obtain ⟨q', v, hv, hq', hpl, hn⟩ := (binv hk hF hO hb hl hlm h00 hbe u (by omega)).single hk hF hb hl hlm h00 hbe hj hj0 h0
      rw [hpl] at h1
      have e : q' = q := by have := List.cons.inj h1; omega
      subst e
      exact ⟨q', hpl, fun r hr => by rw [hej, if_neg (hnt v (by omega) q' hq')]; exact h2 r hr⟩
/-- What comes to a phi that was struck is what stands for it. -/
theorem shr_args (ok : PhisOk s2) (h0 : AllR s2.same) (hself : Self s2.same) (hA : ∀ i k, i < s2.parts.length → k < (s2.part i).phis.length → ∀ a ∈ (s2.phi i k).args, 0 ≤ a) (hinj : ∀ i k i' k', i < s2.parts.length → k < (s2.part i).phis.length → i' < s2.parts.length → k' < (s2.part i').phis.length → (s2.phi i k).id = (s2.phi i' k').id → i = i' ∧ k = k') (h : Shr s2 l) : ∀ i k, i < s2.parts.length → k < (s2.part i).phis.length → ∀ e : Nat, (s2.phi i k).id = e → l[e]? ≠ some (e : Int) → ∀ a ∈ (s2.phi i k).args, rti l a = (rt l e : Nat) := by
  induction h with
  | base =>
    intro i k hi hk e he hne
    exfalso
    obtain ⟨d, h1, h2⟩ := ok.id i k hi hk
    rw [he] at h1
    have := Int.ofNat_inj.1 h1
    subst this
    exact hne (hself e h2)
  | @step l i0 k0 d x hs hi0 hk0 hd hr ht ih =>
    have hal := hs.all ok h0
    obtain ⟨hx1, hx2⟩ := trvP_root ok hal hs.len hi0 hk0 ht
    rw [hd] at hx2
    have hxd : x ≠ d := by omega
    have hrt : ∀ v, v < l.length → rt (l.set d (x : Int)) v = if rt l v = d then x else rt l v := fun v hv => rt_set hal hr hx1 hxd hv
    intro i k hi hk e he hne a ha
    have ha0 := hA i k hi hk a ha
    have hal2 := (ok.arg i k hi hk a ha).2
    obtain ⟨a', rfl⟩ : ∃ n : Nat, a = n := ⟨a.toNat, by omega⟩
    have hlen := hs.len
    obtain ⟨e', he1, he2⟩ := ok.id i k hi hk
    rw [he] at he1
    have := Int.ofNat_inj.1 he1
    subst this
    rw [rti_nat, hrt a' (by omega), hrt e (by omega)]
    by_cases hed : e = d
    · subst hed
      rw [rt_root hr, if_pos rfl]
      have h1 := ht
      unfold trvP at h1
      have h2 := trv_all (s2.phi i0 k0).id ((s2.phi i0 k0).args.map (rti l)) (-1) (fun b hb => by
        obtain ⟨c, hc, rfl⟩ := List.mem_map.1 hb
        have hc0 := hA i0 k0 hi0 hk0 c hc
        obtain ⟨c', rfl⟩ : ∃ n : Nat, c = n := ⟨c.toNat, by omega⟩
        rw [rti_nat]; omega) (by omega) (by rw [h1]; omega)
      obtain ⟨rfl, rfl⟩ := hinj i k i0 k0 hi hk hi0 hk0 (he.trans hd.symm)
      have h3 := h2.1 (rti l (a' : Int)) (List.mem_map.2 ⟨_, ha, rfl⟩)
      rw [h1, hd, rti_nat] at h3
      by_cases h4 : rt l a' = e
      · rw [if_pos h4]
      · rw [if_neg h4]; omega
    · have h1 : l[e]? ≠ some (e : Int) := by
        rw [List.getElem?_set, if_neg (fun e2 => hed e2.symm)] at hne; exact hne
      have h2 := ih i k hi hk e he h1 _ ha
      rw [rti_nat] at h2
      rw [Int.ofNat_inj.1 h2]
theorem trv_neg (id : Int) : ∀ (l : List Int) (v : Int), (∀ a ∈ l, 0 ≤ a) → trv id l v < 0 → (0 ≤ v → ∃ a ∈ l, a ≠ id ∧ a ≠ v) ∧ (v < 0 → (∀ a ∈ l, a = id) ∨ ∃ a ∈ l, ∃ b ∈ l, a ≠ id ∧ b ≠ id ∧ a ≠ b)
  | [], v, _, h => ⟨fun h0 => by unfold trv at h; omega, fun _ => .inl (fun a ha => by cases ha)⟩
  | a :: l, v, hl, h => by
    have ha := hl a (.head _)
    have hl' : ∀ x ∈ l, 0 ≤ x := fun x hx => hl x (.tail _ hx)
    unfold trv at h
    by_cases e : a = id ∨ a = v
    · rw [if_pos e] at h
      obtain ⟨h1, h2⟩ := trv_neg id l v hl' h
      refine ⟨fun h0 => ?_, fun h0 => ?_⟩
      · obtain ⟨b, hb, h3⟩ := h1 h0
        exact ⟨b, .tail _ hb, h3⟩
      · have ea : a = id := by rcases e with e | e; exact e; omega
        rcases h2 h0 with h3 | ⟨b, hb, c, hc, h3⟩
        · left
          intro x hx
          rcases List.mem_cons.1 hx with rfl | hx
          · exact ea
          · exact h3 x hx
        · exact .inr ⟨b, .tail _ hb, c, .tail _ hc, h3⟩
    · rw [if_neg e] at h
      have e1 : a ≠ id := fun h => e (.inl h)
      have e2 : a ≠ v := fun h => e (.inr h)
      refine ⟨fun h0 => ⟨a, .head _, e1, e2⟩, fun h0 => ?_⟩
      rw [if_neg (by omega)] at h
      obtain ⟨b, hb, h3, h4⟩ := (trv_neg id l a hl' h).1 ha
      exact .inr ⟨a, .head _, b, .tail _ hb, e1, h3, fun e => h4 e.symm⟩
/-- Two that stand for themselves are counted as two. -/
theorem BuiltX.num_inj (h : BuiltX p F O bs K s1 s2 l s) {u v : Nat} (hu : l[u]? = some (u : Int)) (hv : l[v]? = some (v : Int)) (he : numM F bs s2 l u = numM F bs s2 l v) : u = v := by
  have hn := (h.nodup (Nat.le_refl _)).1
  have hge : ∀ v ∈ allG { s2 with same := l } bs.length, F.params.toNat ≤ v := fun v hv => by
    obtain ⟨i, hi, h1, -⟩ := (h.nodup (Nat.le_refl _)).2 v hv
    have := h.raw.ge i hi; omega
  have key : ∀ w, (w ∈ allG { s2 with same := l } bs.length ∨ w < F.params.toNat) → (∃ k, ∃ hk : k < (allG { s2 with same := l } bs.length).length, (allG { s2 with same := l } bs.length)[k] = w ∧ numM F bs s2 l w = ((F.params.toNat + k : Nat) : Int)) ∨ (w < F.params.toNat ∧ numM F bs s2 l w = (w : Int)) := fun w hw => by
    by_cases hm : w ∈ allG { s2 with same := l } bs.length
    · obtain ⟨k, hk, e⟩ := List.getElem_of_mem hm
      left
      refine ⟨k, hk, e, ?_⟩
      have h1 := numF_get F.params.toNat _ hn k hk
      rw [e] at h1; exact h1
    · right
      have hw2 : w < F.params.toNat := by rcases hw with hw | hw; exact absurd hw hm; exact hw
      refine ⟨hw2, ?_⟩
      have h1 := numF_out F.params.toNat w _ hm
      rw [if_pos hw2] at h1; exact h1
  rcases key u (h.given hu) with ⟨k, hk, e1, e2⟩ | ⟨e1, e2⟩ <;> rcases key v (h.given hv) with ⟨k', hk', f1, f2⟩ | ⟨f1, f2⟩
  · have : k = k' := by rw [e2, f2] at he; omega
    subst this
    rw [← e1, ← f1]
  · rw [e2, f2] at he; omega
  · rw [e2, f2] at he; omega
  · rw [e2, f2] at he; omega
theorem BuiltX.src (h : BuiltX p F O bs K s1 s2 l s) {j : Nat} (hj : j < bs.length) : SrcOk F O bs j (s1.part j) (s1.began.getD j []) (s1.ends.getD j []) s1.ends := by
  obtain ⟨h1, h2⟩ := ord_ok h.hk h.hF h.b.bok K
  obtain ⟨u, hu, e⟩ := List.getElem_of_mem (ord_all h.hk h.hF h.b.bok h.b.ord j hj)
  have h3 := src_all h.hk h.hF h.b.lok h.b.bok h1.nodup h1.lt h1.fst h1.beh K (by rw [h.b.ord]; exact Nat.le_refl _) u (Nat.lt_of_lt_of_eq hu h.b.ord) j (by rw [List.getElem?_eq_getElem hu, e])
  rw [h.hs] at h3
  exact h3
theorem BuiltX.args (h : BuiltX p F O bs K s1 s2 l s) {i k : Nat} (hi : i < bs.length) (hk : k < (s1.part i).phis.length) : (s2.phi i k).args = fullA s1.ends (prevL bs i) (s1.phi i k).reg := by
  have h5 := h.cls.arg i k hk
  rw [if_pos (.inl hi), h.fin.arg] at h5
  show s2.arg i k = _
  rw [h5]; rfl
/-- A phi that is left has something else come to it. -/
theorem BuiltX.other (h : BuiltX p F O bs K s1 s2 l s) {i0 k0 : Nat} (hi0 : i0 < bs.length) (hk0 : k0 < (s1.part i0).phis.length) {d : Nat} (hd : (s2.phi i0 k0).id = d) (hroot : l[d]? = some (d : Int)) : ¬ ∀ a ∈ (s2.phi i0 k0).args, rti l a = (d : Int) := by
  intro hall
  have hp := right_of h.hk
  have hok2 := (h.fin.cls s2 (by rw [h.raw.inv.n]; exact h.cls)).1
  have hal2 := (h.fin.cls s2 (by rw [h.raw.inv.n]; exact h.cls)).2.1
  have hn2 := h.n2
  have hlen := h.len
  have hself2 : Self s2.same := by rw [h.cls.same]; exact h.raw.inv.self
  have hreg : ∀ i k, i < bs.length → k < (s1.part i).phis.length → ∃ r : Nat, (s1.phi i k).reg = r ∧ r < 12 ∧ (O.getD (hdA F i) 0).testBit r = true ∧ (s1.began.getD i []).getD r 0 = (s1.phi i k).id := fun i k hi hk => by
    obtain ⟨r, r1, r2, r3, r4, r5⟩ := (h.raw.part i hi).preg k hk
    exact ⟨r, r1, r2, r4, r5⟩
  have hA : ∀ i k, i < s2.parts.length → k < (s2.part i).phis.length → ∀ a ∈ (s2.phi i k).args, 0 ≤ a := fun i k hi hk a ha => by
    rw [hn2] at hi
    rw [h.phl] at hk
    rw [h.args hi hk] at ha
    unfold fullA at ha
    obtain ⟨q, hq, rfl⟩ := List.mem_map.1 ha
    obtain ⟨r, r1, r2, r3, r4⟩ := hreg i k hi hk
    rw [r1]
    exact (comes_ok h.hk h.hF h.b.lok h.b.bok h.b.ord h.hs hi r2 r3 hq).1
  have hinj : ∀ i k i' k', i < s2.parts.length → k < (s2.part i).phis.length → i' < s2.parts.length → k' < (s2.part i').phis.length → (s2.phi i k).id = (s2.phi i' k').id → i = i' ∧ k = k' := fun i k i' k' hi hk hi' hk' he => by
    rw [hn2] at hi hi'
    rw [h.pid hi hk, h.pid hi' hk'] at he
    have he := Int.ofNat_inj.1 he
    rw [h.phl] at hk hk'
    have p1 := (h.raw.part i hi).plo
    have p2 := (h.raw.part i' hi').plo
    by_cases e : i = i'
    · subst e; exact ⟨rfl, by omega⟩
    · rcases h.raw.ap i i' hi hi' e with h1 | h1 <;> omega
  have hsa := shr_args hok2 hal2 hself2 hA hinj h.b.shr
  -- to a phi that the same stands for, just the same comes
  have hphi : ∀ i k, i < bs.length → k < (s1.part i).phis.length → rti l (s1.phi i k).id = (d : Int) → ∀ a ∈ (s2.phi i k).args, rti l a = (d : Int) := fun i k hi hk hr a ha => by
    have hk2 : k < (s2.part i).phis.length := by rw [h.phl]; exact hk
    have hid := h.pid hi hk2
    rw [(h.cls.phi i k).2] at hid
    rw [hid, rti_nat] at hr
    have hr := Int.ofNat_inj.1 hr
    by_cases e : l[lowB p F O bs K i + k]? = some ((lowB p F O bs K i + k : Nat) : Int)
    · rw [rt_root e] at hr
      have h1 := hinj i k i0 k0 (by rw [hn2]; exact hi) hk2 (by rw [hn2]; exact hi0) (by rw [h.phl]; exact hk0) (by rw [(h.cls.phi i k).2, hid, hd, hr])
      obtain ⟨rfl, rfl⟩ := h1
      exact hall a ha
    · rw [hsa i k (by rw [hn2]; exact hi) hk2 _ (by rw [(h.cls.phi i k).2, hid]) e a ha, hr]
  have hdlow : F.params.toNat ≤ d := by
    have h1 := h.pid hi0 (by rw [h.phl]; exact hk0)
    rw [hd] at h1
    have h1 := Int.ofNat_inj.1 h1
    have := h.raw.ge i0 hi0
    omega
  have hpar : ∀ r : Nat, r < F.params.toNat → rti l (r : Int) ≠ (d : Int) := fun r hr e => by
    have h1 : l[r]? = some (r : Int) := by
      rw [h.b.shr.out (v := r) (fun i k hi hk e2 => by
        rw [hn2] at hi
        rw [h.pid hi hk] at e2
        have := h.raw.ge i hi
        omega), h.cls.same]
      exact h.raw.inv.self r (by have := h.raw.inv.ge; omega)
    rw [rti_nat, rt_root h1] at e
    omega
  have hins : ∀ i t, i < bs.length → t < (s1.part i).ins.length → 0 ≤ ((s1.part i).ins.getD t noIns).id → rti l ((s1.part i).ins.getD t noIns).id ≠ (d : Int) := fun i t hi ht h0 e => by
    obtain ⟨v, hv⟩ : ∃ v : Nat, ((s1.part i).ins.getD t noIns).id = v := ⟨((s1.part i).ins.getD t noIns).id.toNat, by omega⟩
    obtain ⟨r1, r2, r3⟩ := h.iroot hi ht hv
    rw [hv, rti_nat, rt_root r1] at e
    have e := Int.ofNat_inj.1 e
    have h1 := h.pid hi0 (by rw [h.phl]; exact hk0)
    rw [hd] at h1
    have h1 := Int.ofNat_inj.1 h1
    have p1 := (h.raw.part i0 hi0).plo
    by_cases e2 : i = i0
    · subst e2; omega
    · rcases h.raw.ap i i0 hi hi0 e2 with h3 | h3 <;> omega
  have hC := blocks_ind hp h.hF (C := fun j => ∀ r, r < 12 → (O.getD (hdA F j) 0).testBit r = true → rti l ((s1.began.getD j []).getD r 0) ≠ (d : Int)) (fun r hr hb he => ?_) (fun q hq hc n hn r hr hb he => ?_) i0 (by rw [← h.b.bok.len]; exact hi0)
  · obtain ⟨r, r1, r2, r3, r4⟩ := hreg i0 k0 hi0 hk0
    refine hC r r2 r3 ?_
    rw [r4, ← (h.cls.phi i0 k0).2, hd, rti_nat, rt_root hroot]
  · have h0B : 0 < bs.length := bs_pos h.hk h.hF h.b.bok
    cases hj : jn bs 0 with
    | true =>
      obtain ⟨k, h1, h2, h3⟩ := (h.raw.part 0 h0B).vj hj r hb
      have h2 : (s1.phi 0 k).reg = (r : Int) := h2
      have h3 : (s1.phi 0 k).id = (s1.began.getD 0 []).getD r 0 := h3
      have h4 := hphi 0 k h0B h1 (by rw [h3]; exact he)
      have h00 : hdA F 0 = 0 := hdA_eq (zero_head hp h.hF)
      rw [h00] at hb
      have hrP := live_entry h.hk h.hF h.b.lok hb
      refine hpar r hrP (h4 (r : Int) ?_)
      rw [h.args h0B h1, h2]
      unfold fullA
      refine List.mem_map.2 ⟨-1, ?_, by unfold comes; rw [if_neg (by omega)]⟩
      rw [prevL_eq h.b.bok h0B]
      exact prevF_mem.2 (.inl ⟨rfl, rfl⟩)
    | false =>
      rw [(h.src h0B).from0 hj rfl r hb] at he
      have h00 : hdA F 0 = 0 := hdA_eq (zero_head hp h.hF)
      rw [h00] at hb
      exact hpar r (live_entry h.hk h.hF h.b.lok hb) he
  · have hqB : q < bs.length := by rw [h.b.bok.len]; exact hq
    have hnB := nx_lt h.hk h.hF h.b.bok q hqB n hn
    have hqm : (q : Int) ∈ prevL bs n := by
      rw [prevL_eq h.b.bok hnB]
      exact prevF_mem.2 (.inr ⟨q, hq, hn, rfl⟩)
    have hE : rti l ((s1.ends.getD q []).getD r 0) = (d : Int) := by
      cases hj : jn bs n with
      | true =>
        obtain ⟨k, h1, h2, h3⟩ := (h.raw.part n hnB).vj hj r hb
        have h2 : (s1.phi n k).reg = (r : Int) := h2
        have h3 : (s1.phi n k).id = (s1.began.getD n []).getD r 0 := h3
        refine hphi n k hnB h1 (by rw [h3]; exact he) _ ?_
        rw [h.args hnB h1, h2]
        unfold fullA
        refine List.mem_map.2 ⟨(q : Int), hqm, ?_⟩
        unfold comes
        rw [if_pos (by omega), Int.toNat_natCast, Int.toNat_natCast]
      | false =>
        by_cases e : n = 0
        · subst e
          exfalso
          have hm1 : (-1 : Int) ∈ prevL bs 0 := by rw [prevL_eq h.b.bok hnB]; exact prevF_mem.2 (.inl ⟨rfl, rfl⟩)
          unfold jn at hj
          have hlen : ¬ ((prevL bs 0).length : Int) > 1 := of_decide_eq_false hj
          cases hpl : prevL bs 0 with
          | nil => rw [hpl] at hm1; cases hm1
          | cons a r =>
            rw [hpl] at hlen hm1 hqm
            cases r with
            | nil =>
              have := List.mem_singleton.1 hm1
              have := List.mem_singleton.1 hqm
              omega
            | cons b r => simp at hlen; omega
        · obtain ⟨q', hpl, hb2⟩ := (h.src hnB).fromq hj e
          rw [hpl] at hqm
          have : q' = q := by have := List.mem_singleton.1 hqm; omega
          subst this
          rw [← hb2 r hb]; exact he
    rcases (h.src hqB).keep r hr with ⟨t, h1, h2, h3⟩ | ⟨h1, h2⟩
    · rw [h2] at hE h3
      exact hins q t hqB h1 h3 hE
    · rw [h1] at hE
      exact hc r hr (h2 n hn hb) hE
/-- To each phi that is left come two others. -/
theorem BuiltX.says (h : BuiltX p F O bs K s1 s2 l s) {i k : Nat} (hi : i < bs.length) (hk : k < (s.part i).phis.length) : ∃ a ∈ (s.phi i k).args, ∃ b ∈ (s.phi i k).args, a ≠ (s.phi i k).id ∧ b ≠ (s.phi i k).id ∧ a ≠ b := by
  have hpt : s.part i = ⟨(s2.part i).block, (keepF { s2 with same := l } i).phis.map (toPhi l (numM F bs s2 l)), (s2.part i).ins.map (toIns l (numM F bs s2 l)), (s2.began.getD i []).map (toV l (numM F bs s2 l))⟩ := h.b.part i hi
  have hlen := h.len
  rw [hpt] at hk
  simp only [List.length_map] at hk
  obtain ⟨t, ht, hte⟩ := keepF_phi hk
  have ht1 : t < (s1.part i).phis.length := by rw [← h.phl]; exact ht
  have hphi : s.phi i k = toPhi l (numM F bs s2 l) (s2.phi i t) := by
    unfold SB.phi
    rw [hpt]
    dsimp only
    rw [getD_map _ _ noPhi _ hk, hte]; rfl
  -- it stands for itself
  have hid := h.pid hi (by rw [h.phl]; exact ht1)
  obtain ⟨d, hd⟩ : ∃ d, lowB p F O bs K i + t = d := ⟨_, rfl⟩
  rw [hd] at hid
  have hroot : l[d]? = some (d : Int) := by
    have hk2 : k < (keptK { s2 with same := l } i (s2.part i).phis.length).length := by
      have : (keepF { s2 with same := l } i).phis.length = (keptK { s2 with same := l } i (s2.part i).phis.length).length := by unfold keepF; rw [List.length_map]; rfl
      omega
    have hm := keptK_mem.1 (List.getElem_mem hk2)
    have e1 : (keepF { s2 with same := l } i).phis.getD k noPhi = s2.phi i (keptK { s2 with same := l } i (s2.part i).phis.length)[k] := by
      unfold keepF
      show (List.map (SB.phi { s2 with same := l } i) (keptK { s2 with same := l } i (s2.part i).phis.length)).getD k noPhi = _
      rw [getD_map _ _ 0 _ hk2, List.getD_eq_getElem?_getD, List.getElem?_eq_getElem hk2]; rfl
    have e2 : (s2.phi i (keptK { s2 with same := l } i (s2.part i).phis.length)[k]).id = (d : Int) := by
      rw [← e1, hte]; exact hid
    have h2 := hm.2
    have e3 : (({ s2 with same := l } : SB).phi i (keptK { s2 with same := l } i (s2.part i).phis.length)[k]).id = (d : Int) := e2
    rw [e3, Int.toNat_natCast] at h2
    exact h2
  have hdone := h.b.done i t hi (by rw [h.phl]; exact ht1) d hid hroot
  have hpos : ∀ a ∈ (s2.phi i t).args, 0 ≤ a ∧ a < (l.length : Int) := fun a ha => by
    rw [h.args hi ht1] at ha
    unfold fullA at ha
    obtain ⟨q, hq, rfl⟩ := List.mem_map.1 ha
    obtain ⟨r, r1, r2, -, r4, -⟩ := (h.raw.part i hi).preg t ht1
    have r1 : (s1.phi i t).reg = (r : Int) := r1
    rw [r1, hlen]
    exact comes_ok h.hk h.hF h.b.lok h.b.bok h.b.ord h.hs hi r2 r4 hq
  unfold trvP at hdone
  have hrp : ∀ a ∈ (s2.phi i t).args.map (rti l), 0 ≤ a := fun a ha => by
    obtain ⟨b, hb, rfl⟩ := List.mem_map.1 ha
    obtain ⟨h1, -⟩ := hpos b hb
    obtain ⟨b', rfl⟩ : ∃ n : Nat, b = n := ⟨b.toNat, by omega⟩
    rw [rti_nat]; omega
  rcases (trv_neg _ _ (-1) hrp hdone).2 (by omega) with h1 | ⟨a, ha, b, hb, h1, h2, h3⟩
  · exact absurd (fun a ha => by rw [h1 _ (List.mem_map.2 ⟨a, ha, rfl⟩), hid]) (h.other hi ht1 hid hroot)
  · obtain ⟨a', ha', rfl⟩ := List.mem_map.1 ha
    obtain ⟨b', hb', rfl⟩ := List.mem_map.1 hb
    obtain ⟨pa1, pa2⟩ := hpos a' ha'
    obtain ⟨pb1, pb2⟩ := hpos b' hb'
    obtain ⟨a'', rfl⟩ : ∃ n : Nat, a' = n := ⟨a'.toNat, by omega⟩
    obtain ⟨b'', rfl⟩ : ∃ n : Nat, b' = n := ⟨b'.toNat, by omega⟩
    rw [rti_nat, hid] at h1
    rw [rti_nat, hid] at h2
    rw [rti_nat, rti_nat] at h3
    have ra := h.all.root (v := a'') (by omega)
    have rb := h.all.root (v := b'') (by omega)
    have tv : ∀ v : Nat, toV l (numM F bs s2 l) (v : Int) = numM F bs s2 l (rt l v) := fun v => by
      unfold toV
      rw [if_neg (by omega), Int.toNat_natCast]
    have tid : (s.phi i k).id = numM F bs s2 l d := by
      rw [hphi]
      show toV l (numM F bs s2 l) (s2.phi i t).id = _
      rw [hid, tv, rt_root hroot]
    rw [tid, hphi]
    show ∃ a ∈ (s2.phi i t).args.map (toV l (numM F bs s2 l)), ∃ b ∈ (s2.phi i t).args.map (toV l (numM F bs s2 l)), _
    refine ⟨_, List.mem_map.2 ⟨_, ha', rfl⟩, _, List.mem_map.2 ⟨_, hb', rfl⟩, fun e => ?_, fun e => ?_, fun e => ?_⟩
    · rw [tv] at e
      exact h1 (by rw [h.num_inj ra hroot e])
    · rw [tv] at e
      exact h2 (by rw [h.num_inj rb hroot e])
    · rw [tv, tv] at e
      exact h3 (by rw [h.num_inj ra rb e])
end
end Go.Proofs.YtlciakkbgaakiaaDoor
