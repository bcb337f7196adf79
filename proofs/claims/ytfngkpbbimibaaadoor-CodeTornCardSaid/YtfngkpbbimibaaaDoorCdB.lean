/-
  The walks of CodeBack and CodeTorn: they return true.
-/
import Derived.Test.YtfngkpbbimibaaaDoorDec
import Derived.Test.YtfngkpbbimibaaaDoorSh
import Derived.Test.YtfngkpbbimibaaaDoorSpg
import Derived.Test.YtfngkpbbimibaaaDoorOpn
namespace Go.Proofs.YtfngkpbbimibaaaDoor
open Go.RowKit Tier
theorem in_small {n : Int} (h0 : 0 ≤ n) (h1 : n < 1000) : In n := by unfold In; omega
theorem raw_imm {x : Ins} {regs places funcs : Int} (hx : In x.imm) (h1 : 1 ≤ places) (h2 : places < 1000) (h3 : 1 ≤ funcs) (h4 : funcs < 1000) : In (rawIns x regs places funcs).imm := by
  have p1 := picked_in x.imm places h1
  have p2 := picked_in x.imm funcs h3
  unfold rawIns
  repeat' split
  all_goals dsimp only
  all_goals first | exact hx | exact in_small (by omega) (by omega)
/-- Immediate numbers of a program made of raw numbers that lie in memory. -/
theorem mk_in {w : World} {A : Option Addr} {l : List Fnc} (h : RawsAt w A l) : ∀ f ∈ mkProg l false, ∀ x ∈ f.code, In x.imm := by
  intro f hf x hx
  have hn := funcsN_in l
  obtain ⟨i, -, rfl⟩ := List.mem_map.1 hf
  have hr : ∀ y ∈ (rawOf l i).code, In y.imm := by
    intro y hy
    unfold rawOf at hy
    cases hg : l[i]? with
    | none => rw [hg] at hy; simp at hy
    | some g =>
      rw [hg] at hy
      have hi := (List.getElem?_eq_some_iff.1 hg).1
      obtain ⟨b, o, -, -, hq⟩ := h (by omega)
      obtain ⟨-, -, -, CA, cap, hc, -⟩ := hq i g hg
      obtain ⟨j, hj⟩ := List.getElem?_of_mem hy
      have hjl := (List.getElem?_eq_some_iff.1 hj).1
      obtain ⟨rb, ro, -, -, hq2⟩ := hc (by simp at hjl; omega)
      exact (hq2 j y hj).1.2.2.2.2
  unfold mkFn at hx
  simp only [Bool.false_eq_true, if_false, List.nil_append, List.length_nil] at hx
  rcases List.mem_append.1 hx with hx | hx
  · obtain ⟨y, hy, rfl⟩ := List.mem_map.1 hx
    exact raw_imm (hr y (List.mem_of_mem_take hy)) (by omega) (by omega) (by omega) (by omega)
  · simp only [List.mem_cons, List.not_mem_nil, or_false] at hx
    rcases hx with rfl | rfl <;> exact in_small (by decide) (by decide)
theorem OwnB.rest {w : World} {B : Nat} {v : Value} {l : List Int} (h : OwnB w B v l) : RestAt w v l := by
  rcases h.2 with ⟨rfl, h0⟩ | ⟨g, cap, cur, rfl, hg, hh, hn, hc, hs, ht⟩
  · have : l = [] := List.eq_nil_of_length_eq_zero h0
    subst this
    exact ⟨none, 0, rfl, Nat.le_refl _, fun h => by simp at h⟩
  · refine ⟨_, cap, rfl, hn, fun _ => ⟨g, 0, rfl, block_lt hh, fun i x hx => ?_⟩⟩
    have hi : i < l.length := (List.getElem?_eq_some_iff.1 hx).1
    have := congrArg (·[i]?) ht
    simp only [List.getElem?_take, Nat.mul_one, if_pos hi, List.getElem?_map, hx, Option.map_some] at this
    rw [Nat.zero_add, cell_block hh]
    simpa using this
set_option maxRecDepth 100000 in
set_option maxHeartbeats 4000000 in
theorem codeBack_walk (A : Option Addr) (l : List Fnc) (cap : Nat) (w : World) (ht : Tab w) (hraw : RawsAt w A l) (hln : (l.length : Int) ≤ 9223372036854775807) :
    Calls Tryd.prog 3 #[.slice A l.length cap] w fun e w' => e = .returned (.bool true) ∧ Below w.heap.size w w' := by
  have HT := Lib.hid ht
  have HR := Lib.hid hraw
  have HPE := Lib.hid (progE_mk l false)
  have HIM := Lib.hid (mk_in hraw)
  clear ht hraw
  go_enter Tryd.func3, Tryd.ntmps3
  go_wp2_with fail
  refine (shaped_any A cap l _ hln HR.out).mono ?_
  rintro e w1 ⟨⟨A1, cap1, vs, rfl, hpv⟩, hb1⟩
  have HPV := Lib.hid hpv
  have HB1 := Lib.hid hb1
  clear hpv hb1
  generalize mkProg l false = p at *
  have HPO := Lib.hid (prog_ok HPE.out)
  have HDE := Lib.hid (dec_enc HPE.out HIM.out)
  have HLE := Lib.hid (enc_le HPO.out)
  have HBY := Lib.hid (enc_byte HPO.out)
  go_wp2_with fail
  have hbox := heap_alloc_new w1 (.cells #[.slice A1 p.length cap1] 25)
  refine (encode_any p A1 cap1 _ ((HT.out.keeps HB1.out).alloc _) (HPV.out.at.keeps ((Below.refl _ _).alloc (Nat.le_refl _) _)) HPE.out).mono ?_
  rintro e w2 ⟨⟨v, rfl, ho⟩, hb2⟩
  have HX2 := Lib.hid ((hb2.block w1.heap.size (by simp)).trans hbox)
  have HB2 := Lib.hid (show Below w1.heap.size w1 w2 from ((Below.refl _ _).alloc (Nat.le_refl _) _).trans (hb2.mono (by simp)))
  have HRS := Lib.hid ho.rest
  obtain ⟨A2, cap2, hv, -⟩ := own_slice ho
  subst hv
  clear ho hb2 hbox
  have HT2 := Lib.hid ((HT.out.keeps HB1.out).keeps HB2.out)
  go_wp2_with fail
  refine (decode_any A2 cap2 (encP p) w2 HT2.out HRS.out HBY.out (by have := HLE.out; omega)).mono ?_
  rintro e w3 ⟨v3, rfl, -, hdp, hb3⟩
  have HP3 := Lib.hid (hdp _ HDE.out.1 HDE.out.2)
  rw [HDE.out.1]
  obtain ⟨A3, cap3, hv3, -⟩ := HP3.out.slice
  subst hv3
  have HX3 := Lib.hid ((hb3.block _ (block_lt HX2.out)).trans HX2.out)
  have HB3 := Lib.hid (HB2.out.trans (hb3.mono HB2.out.size))
  have HL0 : Hid (0 < (encP p).length) := Lib.hid (by simp [encP])
  have HPA := Lib.hid (HPV.out.at.keeps HB3.out)
  clear hdp hb3
  have x0 := (cell_block HX3.out 0).trans rfl
  have z0 := block_lt HX3.out
  have HBX := Lib.hid (heap_alloc_new w3 (.cells #[.slice A3 p.length cap3] 25))
  go_wp2_with (first | (go_at_call 11; go_must (refine (sameProg_any p A1 cap1 A3 cap3 _ (HPA.out.keeps ((Below.refl _ _).alloc (Nat.le_refl _) _)) (HP3.out.keeps ((Below.refl _ _).alloc (Nat.le_refl _) _)) (by have := HPO.out.l2; omega) (fun f hf => by have := (HPO.out.fn f hf).c2; omega)).mono ?_; rintro e w4 ⟨rfl, hb4⟩; have HX4 := Lib.hid ((hb4.block w1.heap.size (by have := z0; simp; omega)).trans (block_alloc HX3.out (.cells #[.slice A3 p.length cap3] 25))); have x4 := (cell_block HX4.out 0).trans rfl; have z4 := block_lt HX4.out; have HB4 := Lib.hid (show Below w1.heap.size w1 w4 from HB3.out.trans ((((Below.refl _ w3).alloc (Nat.le_refl _) _).trans (hb4.mono (by simp))).mono HB3.out.size)); clear hb4)) | (go_at_call 12; go_must (refine (check_any p _ w4 ((HT.out.keeps HB1.out).keeps HB4.out) (HPV.out.at.keeps HB4.out) (by have := HPO.out.l2; omega) (fun f hf => by have := (HPO.out.fn f hf).c2; omega)).mono ?_; rintro e w5 ⟨rfl, hb5⟩; rw [HPE.out]; have HB5 := Lib.hid (HB4.out.trans (hb5.mono HB4.out.size)); clear hb5)))
  go_ret
  exact ⟨by rw [decide_eq_true HL0.out]; rfl, bthen HB1.out HB5.out⟩
theorem RestAt.cut {w : World} {A : Option Addr} {cap : Nat} {l : List Int} (h : RestAt w (.slice A l.length cap) l) {n : Nat} (hn : n ≤ l.length) : RestAt w (.slice A n cap) (l.take n) := by
  obtain ⟨A', cap', h1, h2, h3⟩ := h
  simp only [Value.slice.injEq, true_and] at h1
  obtain ⟨rfl, rfl⟩ := h1
  have hl : (l.take n).length = n := by rw [List.length_take]; omega
  refine ⟨A, cap, by rw [hl], by omega, fun h0 => ?_⟩
  obtain ⟨b, o, e, hz, hc⟩ := h3 (by omega)
  exact ⟨b, o, e, hz, fun i x hx => hc i x (by
    have hi : i < n := by have := (List.getElem?_eq_some_iff.1 hx).1; omega
    rwa [List.getElem?_take, if_pos hi] at hx)⟩
set_option maxRecDepth 100000 in
set_option maxHeartbeats 4000000 in
theorem codeTorn_walk (A : Option Addr) (l : List Fnc) (cap : Nat) (cut tail : Int) (w : World) (ht : Tab w) (hraw : RawsAt w A l) (hln : (l.length : Int) ≤ 9223372036854775807) (hcut : In cut) (htl : (Lit.int .u8 tail).wf = true) :
    Calls Tryd.prog 5 #[.slice A l.length cap, .int .i64 cut, .int .u8 tail] w fun e w' => e = .returned (.bool true) ∧ Below w.heap.size w w' := by
  have HT := Lib.hid ht
  have HR := Lib.hid hraw
  have HPE := Lib.hid (progE_mk l false)
  have HIM := Lib.hid (mk_in hraw)
  have HBT : Hid (Byte tail) := Lib.hid (by simp [Lit.wf, IntKind.min, IntKind.max, IntKind.signed, IntKind.bits] at htl; unfold Byte; omega)
  have HCUT := Lib.hid hcut
  obtain ⟨i0, hi, hz0, hz1, hz2⟩ := info_parts infoB
  clear ht hraw hcut htl
  go_enter Tryd.func5, Tryd.ntmps5
  go_wp2_with fail
  refine (shaped_any A cap l _ hln HR.out).mono ?_
  rintro e w1 ⟨⟨A1, cap1, vs, rfl, hpv⟩, hb1⟩
  have HPV := Lib.hid hpv
  have HB1 := Lib.hid hb1
  clear hpv hb1
  generalize mkProg l false = p at *
  have HPO := Lib.hid (prog_ok HPE.out)
  have HLE := Lib.hid (enc_le HPO.out)
  have HBY := Lib.hid (enc_byte HPO.out)
  go_wp2_with fail
  refine (encode_any p A1 cap1 _ (HT.out.keeps HB1.out) HPV.out.at HPE.out).mono ?_
  rintro e w2 ⟨⟨v, rfl, ho⟩, hb2⟩
  have HB2 := Lib.hid hb2
  have HRS := Lib.hid ho.rest
  obtain ⟨A2, cap2, hv, -⟩ := own_slice ho
  subst hv
  obtain ⟨b2, hA2, hz2', hc2, cur2, hblk2⟩ : ∃ b, A2 = some ⟨b, 0, none⟩ ∧ b < w2.heap.size ∧ (encP p).length ≤ cap2 ∧ ∃ cur : Array Value, w2.heap[b]? = some (.cells cur 5 (0, 0)) := by
    rcases ho.2 with ⟨h, -⟩ | ⟨g, c, cur, hv, hg, hh, hn, -⟩
    · simp [encP] at h
    · simp only [Value.slice.injEq, true_and] at hv
      exact ⟨g, hv.1, block_lt hh, by rw [hv.2]; exact hn, cur, hh⟩
  subst hA2
  have HT2 := Lib.hid ((HT.out.keeps HB1.out).keeps HB2.out)
  obtain ⟨E, hE⟩ : ∃ E, encP p = E := ⟨_, rfl⟩
  have HTORN := Lib.hid (fun (n : Nat) (h : n < E.length) => show decE (E.take n) = 4 by rw [← hE] at h ⊢; exact dec_torn HPE.out HIM.out h)
  have HMORE := Lib.hid (fun (b : Int) => show decE (E ++ [b]) = 5 by rw [← hE]; exact dec_more HPE.out HIM.out b)
  have HL0 : Hid (1 ≤ E.length) := Lib.hid (by rw [← hE]; simp [encP])
  rw [hE] at HLE HBY HRS hc2 ⊢
  obtain ⟨N, hN⟩ : ∃ N, E.length = N := ⟨_, rfl⟩
  rw [hN] at HLE HRS HL0 HTORN hc2 ⊢
  have HN := Lib.hid hN
  have hle := HLE.out
  have hl0 := HL0.out
  clear ho hb2 hE hN
  have n0 : ((N : Int) == 0) = false := by simp; omega
  have hpk := picked_in cut (N : Int) (by omega)
  obtain ⟨k, hk⟩ : ∃ k : Nat, pickedI cut (N : Int) = (k : Int) := ⟨(pickedI cut (N : Int)).toNat, by omega⟩
  have HK := Lib.hid hk
  rw [hk] at hpk
  have hkN := hpk.2
  have hk0 := hpk.1
  have hkc : k ≤ cap2 := by omega
  have hkci : (k : Int) ≤ (cap2 : Int) := by omega
  have hlk : (E.take k).length = k := by rw [List.length_take]; have := HN.out; omega
  have hdk := decode_any (some ⟨b2, 0, none⟩) cap2 (E.take k) w2 HT2.out (by rw [hlk]; have := HRS.out; rw [← HN.out] at this; exact this.cut (by have := HN.out; omega)) (fun b hb => HBY.out b (List.mem_of_mem_take hb)) (by rw [hlk]; omega)
  rw [hlk] at hdk
  have HDK := Lib.hid hdk
  have HTK := Lib.hid (HTORN.out k (by have := HN.out; omega))
  clear hk hpk hlk hdk
  go_wp2_with (go_at_call 13; go_must (refine (picked_any cut (N : Int) _ HCUT.out (by omega) (by omega)).mono ?_; rintro e w' ⟨rfl, rfl⟩; rw [HK.out]))
  refine HDK.out.mono ?_
  rintro e w3 ⟨v3, rfl, hv3, -, hb3⟩
  obtain rfl := hv3 (by rw [HTK.out]; decide)
  rw [HTK.out]
  clear hv3
  have HB3 := Lib.hid hb3
  have HT3 := Lib.hid (HT2.out.keeps hb3)
  have HX3 := Lib.hid ((HB3.out.block _ hz2').trans hblk2)
  have HS3 := Lib.hid (Nat.lt_of_lt_of_le hz2' hb3.size)
  clear hb3 hz2' hblk2
  have HRS4 := Lib.hid ((HRS.out.keeps HB3.out).keeps ((Below.refl _ _).alloc (Nat.le_refl _) (.cells #[.slice none 0 0] 25)))
  have HNW : Hid (∀ (j : Nat) (u : Value), (E.map (Value.int .u8))[j]? = some u → (w3.alloc (.cells #[.slice none 0 0] 25)).cell? ((⟨b2, 0, none⟩ : Addr).add j) = some u) := Lib.hid (fun j u hu => by
    rw [List.getElem?_map, Option.map_eq_some_iff] at hu
    obtain ⟨x, hx, rfl⟩ := hu
    obtain ⟨A', cap', h1, h2, h3⟩ := HRS4.out
    obtain ⟨b, o, e, hz, hc⟩ := h3 (by have := HN.out; have := HL0.out; omega)
    simp only [Value.slice.injEq] at h1
    rw [e] at h1
    simp only [Option.some.injEq, Addr.mk.injEq, and_true] at h1
    obtain ⟨⟨rfl, rfl⟩, -⟩ := h1
    have := hc j x hx
    rw [Nat.zero_add] at this
    rw [show (⟨b2, 0, none⟩ : Addr).add j = ⟨b2, j, none⟩ by unfold Addr.add; split <;> simp_all]
    exact this)
  have HLN := Lib.hid (show (E.map (Value.int .u8)).length = N * 1 by simp [HN.out])
  have HDM := Lib.hid (HMORE.out tail)
  go_wp2_with (first | (have tok := HOWN5; at_builtin; go_must (refine wpList_append_own _ rfl _ _ 27 rfl w3.heap.size 5 i0 _ 1 1 Tryd.underlying27 hi hz0 hz1 hz2 rfl (by decide) (.slice A5 N cap5) N (E.map (Value.int .u8)) rfl (own_below HOWN5.out ((Below.refl _ _).alloc (Nat.le_refl _) _)) ⟨w5.heap.size, 0, none⟩ 1 1 [.int .u8 tail] rfl rfl (World.news_of_block (cs := #[.int .u8 tail]) (t := 5) (fr := (0, 0)) (heap_alloc_new _ _)) (by simp [Value.oneCell']) (by unfold maxLen; omega) (by omega) (by have := HB5.out.size; simp at this ⊢; omega) ?_); intro v6 w6 hown6 hg6 _; obtain ⟨A6, cap6, hv6, -⟩ := own_slice hown6; rw [hv6] at hown6; rw [hv6]; have HOWN6 := Lib.hid hown6; have HB6 : Hid (Below w3.heap.size w3 w6) := Lib.hid ((HB5.out.alloc (by have := HB5.out.size; omega) _).grown hg6 (by have := HB5.out.size; simp; omega) (fun k hk => (World.ownsRow.lt HOWN5.out k hk).1)); clear hown6 hg6 tok) | (at_builtin; go_must (refine wpList_append_own _ rfl _ _ 27 rfl w3.heap.size 5 i0 _ 1 1 Tryd.underlying27 hi hz0 hz1 hz2 rfl (by decide) (.slice none 0 0) 0 [] rfl (World.ownsRow_nil _ _ _ _) ⟨b2, 0, none⟩ N cap2 (E.map (Value.int .u8)) rfl HLN.out HNW.out (by simp [Value.oneCell']) (by unfold maxLen; omega) (by omega) (by simp) ?_); intro v5 w5 hown5 hg5 _; obtain ⟨A5, cap5, hv5, -⟩ := own_slice hown5; rw [hv5] at hown5; rw [hv5]; simp only [Nat.zero_add, List.nil_append] at hown5 ⊢; have HOWN5 := Lib.hid hown5; have HB5 : Hid (Below w3.heap.size w3 w5) := Lib.hid (((Below.refl _ w3).alloc (Nat.le_refl _) (.cells #[.slice none 0 0] 25)).grown hg5 (by simp) (fun k hk => by simp [Value.ownBlock] at hk)); clear hown5 hg5))
  have hle2 : (E ++ [tail]).length = N + 1 := by simp [HN.out]
  have hob : OwnB w6 w3.heap.size (.slice A6 (N + 1) cap6) (E ++ [tail]) := by
    unfold OwnB
    rw [hle2, List.map_append]
    exact HOWN6.out
  have hrs := hob.rest
  have hdk := decode_any A6 cap6 (E ++ [tail]) w6 (HT3.out.keeps HB6.out) (by rw [hle2]; exact hrs) (fun b hb => by
    rcases List.mem_append.1 hb with h | h
    · exact HBY.out b h
    · rw [List.mem_singleton.1 h]; exact HBT.out) (by rw [hle2]; omega)
  rw [hle2] at hdk
  have HDK2 := Lib.hid hdk
  clear hle2 hob hrs hdk
  refine HDK2.out.mono ?_
  rintro e w7 ⟨v7, rfl, hv7, -, hb7⟩
  obtain rfl := hv7 (by rw [HDM.out]; decide)
  rw [HDM.out]
  have HB7 := Lib.hid hb7
  clear hv7 hb7
  go_wp2_with fail
  go_ret
  exact ⟨rfl, bthen HB1.out (bthen HB2.out (bthen HB3.out (bthen HB6.out (HB7.out.alloc HB7.out.size _))))⟩
end Go.Proofs.YtfngkpbbimibaaaDoor
