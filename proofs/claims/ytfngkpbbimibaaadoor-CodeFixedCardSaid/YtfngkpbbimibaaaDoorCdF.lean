/-
  The walk of CodeFixed: it returns true.
-/
import Derived.Test.YtfngkpbbimibaaaDoorDec
import Derived.Test.YtfngkpbbimibaaaDoorOpn
import Derived.Laws.AppendOwnNone
import Derived.Laws.BytesArg
import Derived.SizedLaws
namespace Go.Proofs.YtfngkpbbimibaaaDoor
open Go.RowKit Tier
theorem OwnB.rest2 {w : World} {B : Nat} {v : Value} {l : List Int} (h : OwnB w B v l) : RestAt w v l := by
  rcases h.2 with ⟨rfl, h0⟩ | ⟨g, cap, cur, rfl, hg, hh, hn, hc, hs, ht⟩
  · have : l = [] := List.eq_nil_of_length_eq_zero h0
    subst this
    exact ⟨none, 0, rfl, Nat.le_refl _, fun h => by simp at h⟩
  · refine ⟨_, cap, rfl, hn, fun _ => ⟨g, 0, rfl, block_lt hh, fun i x hx => ?_⟩⟩
    have hi : i < l.length := (List.getElem?_eq_some_iff.1 hx).1
    have := congrArg (·[i]?) ht
    simp only [List.getElem?_take, Nat.mul_one, if_pos hi, List.getElem?_map, hx, Option.map_some] at this
    rw [Nat.zero_add, cell_block hh]
    simpa using this
/-- Behind the copy of the bytes. -/
def CopyAt (w : World) (l : List Int) (v5 : Value) (w5 : World) : Prop := OwnB w5 w.heap.size v5 l ∧ Below w.heap.size w w5
/-- A row of bytes as a string. -/
theorem conv_any {w : World} {A : Option Addr} {l : List Int} {cap : Nat} (h : RestAt w (.slice A l.length cap) l) (hl : 0 < l.length) : (convert 27 9 (.slice A l.length cap)).run Tryd.prog w = .ok (.string (strOfNums l)) w := by
  obtain ⟨A', cap', h1, h2, h3⟩ := h
  simp only [Value.slice.injEq, true_and] at h1
  obtain ⟨rfl, rfl⟩ := h1
  obtain ⟨b, o, rfl, hz, hc⟩ := h3 hl
  refine run_convert_bytes_arg w 27 5 Tryd.underlying27 Tryd.underlying5 b o l.length cap l rfl (fun i hi => ?_) 9 Tryd.underlying9
  rw [hc i _ (List.getElem?_eq_getElem hi), List.getD_eq_getElem?_getD, List.getElem?_eq_getElem hi]
  rfl
set_option maxRecDepth 100000 in
set_option maxHeartbeats 4000000 in
theorem codeFixed_walk (A : Option Addr) (l : List Int) (cap : Nat) (w : World) (ht : Tab w) (hr : RestAt w (.slice A l.length cap) l) (hb : ∀ b ∈ l, Byte b) (hl : (l.length : Int) ≤ 140737488351232) (hnil : A = none → cap = 0) :
    Calls Tryd.prog 4 #[.slice A l.length cap] w fun e w' => e = .returned (.bool true) ∧ Below w.heap.size w w' := by
  obtain ⟨i0, hi, hz0, hz1, hz2⟩ := info_parts infoB
  have HT := Lib.hid ht
  have HR := Lib.hid hr
  have HBY := Lib.hid hb
  obtain ⟨N, hN⟩ : ∃ N, l.length = N := ⟨_, rfl⟩
  have HN := Lib.hid hN
  rw [hN] at HR hl ⊢
  have hlm : N ≤ 140737488351232 := by omega
  clear ht hr hb hN
  have REST : Hid (∀ (v5 : Value) (w5 : World), CopyAt w l v5 w5 → ∃ A5 cap5, v5 = .slice A5 N cap5 ∧ Calls Tryd.prog 10 #[.slice A5 N cap5] w5 (DecRet w5 l)) := Lib.hid (fun v5 w5 h => by
    obtain ⟨A5, cap5, hv, -⟩ := own_slice h.1
    subst hv
    rw [HN.out] at h ⊢
    refine ⟨A5, cap5, rfl, ?_⟩
    have := decode_any A5 cap5 l w5 (HT.out.keeps h.2) (by rw [HN.out]; exact h.1.rest2) HBY.out (by rw [HN.out]; omega)
    rw [HN.out] at this
    exact this)
  have HBK := trivial
  clear HBK
  cases A with
  | none =>
    obtain rfl : cap = 0 := hnil rfl
    obtain rfl : N = 0 := by
      obtain ⟨A', cap', h1, h2, h3⟩ := HR.out
      simp only [Value.slice.injEq] at h1
      obtain ⟨-, -, rfl⟩ := h1
      have := HN.out
      omega
    clear hnil
    by_cases hE : decE l = 0
    · exfalso
      obtain ⟨p, htp, hpe, henc⟩ := dec_back HBY.out hE
      have := HN.out
      rw [← henc] at this
      simp [encP] at this
    · have HE := Lib.hid hE
      clear hE
      go_enter Tryd.func4, Tryd.ntmps4
      go_wp2_with (at_builtin; go_must (refine wpList_append_own_none rfl _ _ 27 rfl w.heap.size 5 i0 1 Tryd.underlying27 hi (.slice none 0 0) 0 [] rfl (World.ownsRow_nil _ _ _ _) rfl ?_); have HCP : Hid (CopyAt w l (.slice none 0 0) w) := Lib.hid ⟨by unfold OwnB; rw [HN.out, List.eq_nil_of_length_eq_zero HN.out]; exact World.ownsRow_nil _ _ _ _, Below.refl _ _⟩)
      obtain ⟨A5, cap5, hv5, hdk⟩ := REST.out _ _ HCP.out
      obtain ⟨w5, hw5⟩ : ∃ w5, w = w5 := ⟨_, rfl⟩
      clear hw5
      simp only [Value.slice.injEq] at hv5
      obtain ⟨rfl, -, rfl⟩ := hv5
      refine hdk.mono ?_
      rintro e w6 ⟨v6, rfl, hv6, -, hb6⟩
      obtain rfl := hv6 HE.out
      obtain ⟨q, hq⟩ : ∃ q, decE l = q := ⟨_, rfl⟩
      have hq1 : (q != 0) = true := by rw [← hq]; simpa using HE.out
      rw [hq]
      have HB6 := Lib.hid (bthen HCP.out.2 hb6)
      clear hv6 hb6 hdk hq
      go_wp2_with fail
      go_ret
      exact ⟨rfl, HB6.out.alloc HB6.out.size _⟩
  | some ad =>
    clear hnil
    have HLN := Lib.hid (show (l.map (Value.int .u8)).length = N * 1 by simp [HN.out])
    have HNW : Hid (∀ (j : Nat) (u : Value), (l.map (Value.int .u8))[j]? = some u → w.cell? (ad.add j) = some u) := Lib.hid (fun j u hu => by
      rw [List.getElem?_map, Option.map_eq_some_iff] at hu
      obtain ⟨x, hx, rfl⟩ := hu
      obtain ⟨A', cap', h1, h2, h3⟩ := HR.out
      obtain ⟨b, o, e, hz, hc⟩ := h3 (by have := (List.getElem?_eq_some_iff.1 hx).1; omega)
      simp only [Value.slice.injEq] at h1
      rw [e] at h1
      simp only [Option.some.injEq] at h1
      obtain ⟨rfl, -⟩ := h1
      rw [show (⟨b, o, none⟩ : Addr).add j = ⟨b, o + j, none⟩ by unfold Addr.add; split <;> simp_all]
      exact hc j x hx)
    by_cases hE : decE l = 0
    · have HE := Lib.hid hE
      clear hE
      obtain ⟨p, htp, hpe, henc⟩ := dec_back HBY.out HE.out
      have HTP := Lib.hid htp
      have HPE := Lib.hid hpe
      have HEN := Lib.hid henc
      have HN0 : Hid (0 < N) := Lib.hid (by rw [← HN.out, ← henc]; simp [encP])
      clear htp hpe henc
      go_enter Tryd.func4, Tryd.ntmps4
      go_wp2_with (at_builtin; go_must (refine wpList_append_own _ rfl _ _ 27 rfl w.heap.size 5 i0 _ 1 1 Tryd.underlying27 hi hz0 hz1 hz2 rfl (by decide) (.slice none 0 0) 0 [] rfl (World.ownsRow_nil _ _ _ _) ad N cap (l.map (Value.int .u8)) rfl HLN.out HNW.out (by simp [Value.oneCell']) (by unfold maxLen; omega) (by omega) (Nat.le_refl _) ?_); intro v5 w5 hown5 hg5 _; have HCP : Hid (CopyAt w l v5 w5) := Lib.hid ⟨by unfold OwnB; rw [HN.out]; simpa using hown5, (Below.refl w.heap.size w).grown hg5 (Nat.le_refl _) (fun k hk => by simp [Value.ownBlock] at hk)⟩; clear hown5 hg5)
      obtain ⟨A5, cap5, hv5, hdk⟩ := REST.out _ _ HCP.out
      subst hv5
      refine hdk.mono ?_
      rintro e w6 ⟨v6, rfl, -, hp6, hb6⟩
      have HP6 := Lib.hid (hp6 _ HE.out HTP.out)
      rw [HE.out]
      obtain ⟨A6, cap6, hv6, -⟩ := HP6.out.slice
      subst hv6
      have HB6 := Lib.hid (bthen HCP.out.2 hb6)
      clear hp6 hb6 hdk
      have hbox := heap_alloc_new w6 (.cells #[.slice A6 p.length cap6] 25)
      have hbx := (Below.refl w6.heap.size w6).alloc (Nat.le_refl _) (.cells #[.slice A6 p.length cap6] 25)
      have HBOX := Lib.hid hbox
      have HBX := Lib.hid hbx
      clear hbox hbx
      go_wp2_with fail
      refine (encode_any p A6 cap6 _ ((HT.out.keeps HB6.out).alloc _) (HP6.out.keeps HBX.out) HPE.out).mono ?_
      rintro e w7 ⟨⟨v7, rfl, ho⟩, hb7⟩
      have HB7 := Lib.hid (bthen HB6.out (bthen HBX.out hb7))
      obtain ⟨A7, cap7, hv7, -⟩ := own_slice ho
      subst hv7
      have hlen : (encP p).length = N := by rw [HEN.out, HN.out]
      have k1 := conv_any ho.rest2 (by rw [hlen]; exact HN0.out)
      rw [hlen] at k1 ⊢
      rw [HEN.out] at k1
      have hr7 := HR.out.keeps HB7.out
      rw [← HN.out] at hr7
      have k2 := conv_any hr7 (by rw [HN.out]; exact HN0.out)
      rw [HN.out] at k2
      clear ho hb7 hlen hr7
      obtain ⟨sl, hsl⟩ : ∃ s, strOfNums l = s := ⟨_, rfl⟩
      rw [hsl] at k1 k2
      clear hsl
      go_wp2_with fail
      go_ret
      exact ⟨by simp, HB7.out⟩
    · have HE := Lib.hid hE
      clear hE
      go_enter Tryd.func4, Tryd.ntmps4
      go_wp2_with (at_builtin; go_must (refine wpList_append_own _ rfl _ _ 27 rfl w.heap.size 5 i0 _ 1 1 Tryd.underlying27 hi hz0 hz1 hz2 rfl (by decide) (.slice none 0 0) 0 [] rfl (World.ownsRow_nil _ _ _ _) ad N cap (l.map (Value.int .u8)) rfl HLN.out HNW.out (by simp [Value.oneCell']) (by unfold maxLen; omega) (by omega) (Nat.le_refl _) ?_); intro v5 w5 hown5 hg5 _; have HCP : Hid (CopyAt w l v5 w5) := Lib.hid ⟨by unfold OwnB; rw [HN.out]; simpa using hown5, (Below.refl w.heap.size w).grown hg5 (Nat.le_refl _) (fun k hk => by simp [Value.ownBlock] at hk)⟩; clear hown5 hg5)
      obtain ⟨A5, cap5, hv5, hdk⟩ := REST.out _ _ HCP.out
      subst hv5
      refine hdk.mono ?_
      rintro e w6 ⟨v6, rfl, hv6, -, hb6⟩
      obtain rfl := hv6 HE.out
      obtain ⟨q, hq⟩ : ∃ q, decE l = q := ⟨_, rfl⟩
      have hq1 : (q != 0) = true := by rw [← hq]; simpa using HE.out
      rw [hq]
      have HB6 := Lib.hid (bthen HCP.out.2 hb6)
      clear hv6 hb6 hdk hq
      go_wp2_with fail
      go_ret
      exact ⟨rfl, HB6.out.alloc HB6.out.size _⟩
end Go.Proofs.YtfngkpbbimibaaaDoor
namespace Go.Proofs.YtfngkpbbimibaaaDoor
open Go Go.ChangeShapes Go.WideShapes Go.ChangeAt Go.RowKit Tier
theorem cByte : Tryd.prog.cellsOf 5 = 1 := by kernel_rfl
theorem bByte : Tryd.prog.bytesOf 5 = 1 := by kernel_rfl
set_option maxRecDepth 100000 in
/-- An argument of bytes. -/
theorem open_y {H : Type} {enc : TypeId × Value → H} {w : World} {base : Nat} {spare : Nat → Bool} {held : Bool} {r : Reach} {b0 : Nat} {v : Value} {d : DataW H} {p : List MemPlace}
    (hv : Value.okWide Tryd.prog w r b0 27 v) (h : DataW.Trod enc Tryd.prog w base spare held 27 v d p) :
    ∃ A cap l, v = .slice A (List.length l) cap ∧ RestAt w v l ∧ (∀ b ∈ l, Byte b) ∧ (A = none → cap = 0) ∧ (l.length = 0 ∨ ∃ es sp, d = .slice es sp ∧ l.length ≤ es.length) := by
  obtain ⟨fuel, h⟩ := h
  have hvc : v.cells.toList = [v] := by
    obtain ⟨a, len, cap, rfl⟩ := okWide_slice Tryd.underlying27 hv; rfl
  rw [hvc] at h
  rcases open_ints Tryd.underlying27 Tryd.underlying5 cByte h with ⟨h1, -⟩ | ⟨a, len, cap, zs, h1, hb, hl, hm, hz, hx, hc, hw⟩
  · obtain rfl : v = .slice none 0 0 := by simpa using h1
    exact ⟨none, 0, [], rfl, ⟨none, 0, rfl, Nat.le_refl _, fun h => by simp at h⟩, fun b hb => by simp at hb, fun _ => rfl, .inl rfl⟩
  · obtain rfl : v = .slice (some a) len cap := by simpa using h1
    have hzl : len ≤ zs.length := by rw [hz]; split <;> omega
    have hln : (zs.take len).length = len := by rw [List.length_take]; omega
    refine ⟨some a, cap, zs.take len, by rw [hln], ⟨some a, cap, by rw [hln], by rw [hln]; exact hl, fun h0 => ?_⟩, fun b hb => ?_, (fun h => by cases h), .inr ⟨_, _, congrArg Prod.fst hx, by simp [lits]⟩⟩
    · have h00 := hc 0 (by omega)
      rw [show a.add 0 = a from rfl] at h00
      have hs : a.spot = none := World.cell?_spot h00
      refine ⟨a.block, a.off, by cases a; simp_all, ?_, fun i x hx => ?_⟩
      · exact block_of_cell h00
      · have hi : i < len := by have := (List.getElem?_eq_some_iff.1 hx).1; omega
        have h2 := hc i (by omega)
        rw [spot_eq hs] at h2
        rw [h2]
        rw [List.getElem?_take, if_pos hi] at hx
        rw [List.getD_eq_getElem?_getD, hx]
        rfl
    · have := hw b (List.mem_of_mem_take hb)
      simp [Lit.wf, IntKind.min, IntKind.max, IntKind.signed, IntKind.bits] at this
      unfold Byte; omega
end Go.Proofs.YtfngkpbbimibaaaDoor
