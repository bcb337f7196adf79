/-
  place.behind: the places behind an instruction of a block.
-/
import Derived.Test.YtfdppmjoinodgaaDoorPm
import Derived.Test.YtfdppmjoinodgaaDoorSsV
namespace Go.Proofs.YtfdppmjoinodgaaDoor
open Go.RowKit Tier
/-- The places behind an instruction. -/
def behL (F : Fnc) (i pc : Nat) : List Nat := if pc + 1 < toF F (hdA F i) then [pc + 1] else (nxI F (hdA F i)).map (hdA F)
set_option maxRecDepth 100000 in
set_option maxHeartbeats 8000000 in
theorem behind_any (F : Fnc) (bs : List BR) (gb Bb : Nat) (i pc : Nat) (r : BR) (w : World) (hB : BlkB w gb Bb bs) (hok : BlkOk F bs) (hr : bs[i]? = some r) (hpc : pc ≤ 1000) (hnl : (nxI F (hdA F i)).length ≤ 100) (hnx : ∀ n ∈ nxI F (hdA F i), n < bs.length) :
    Calls Tryd.prog 54 #[.agg #[.int .i64 r.fr, .int .i64 r.to, r.nv, r.pv], .slice (some ⟨gb, 0, none⟩) bs.length bs.length, .int .i64 (pc : Int)] w fun e w' => (∃ v, e = .returned v ∧ OwnI w' w.heap.size v (natI (behL F i pc))) ∧ Below w.heap.size w w' := by
  obtain ⟨h1, h2, h3, -⟩ := hok.at_ i r hr
  obtain ⟨NA, ncap, hnv, hncell⟩ := own_slice (hB.rows.own i r false hr)
  obtain ⟨PA, pcap, hpv, -⟩ := own_slice (hB.rows.own i r true hr)
  have hnv' : r.nv = .slice NA r.nl.length ncap := hnv
  have hpv' : r.pv = .slice PA r.pl.length pcap := hpv
  have hBL := Lib.hid (show behL F i pc = if pc + 1 < toF F (hdA F i) then [pc + 1] else (nxI F (hdA F i)).map (hdA F) from rfl)
  obtain ⟨L, hL⟩ : ∃ L, nxI F (hdA F i) = L := ⟨_, rfl⟩
  obtain ⟨tf, htf⟩ : ∃ t, toF F (hdA F i) = t := ⟨_, rfl⟩
  obtain ⟨pn, hpn⟩ : ∃ n, r.pl.length = n := ⟨_, rfl⟩
  obtain ⟨n, hn⟩ : ∃ n, L.length = n := ⟨_, rfl⟩
  rw [hL] at h3 hBL hnl hnx
  rw [htf] at h2 hBL
  rw [hpn] at hpv'
  have hnl2 : r.nl.length = n := by rw [h3, natI_length, hn]
  rw [hnl2] at hnv'
  rw [hn] at hnl
  rw [h1, h2, hnv', hpv']
  obtain ⟨a, ha⟩ : ∃ a, hdA F i = a := ⟨_, rfl⟩
  rw [ha]
  have HC := Lib.hid (show ∀ t : Nat, t < n → ∃ g x, NA = some ⟨g, 0, none⟩ ∧ g < w.heap.size ∧ L[t]? = some x ∧ w.cell? ⟨g, t, none⟩ = some (.int .i64 (x : Int)) ∧ x < bs.length from fun t ht => by
    have hnl3 : (r.lst false).length = n := hnl2
    obtain ⟨g, e1, e2, e3⟩ := hncell (by rw [hnl3]; omega)
    obtain ⟨x, hx⟩ : ∃ x, L[t]? = some x := ⟨_, List.getElem?_eq_getElem (by rw [hn]; exact ht)⟩
    refine ⟨g, x, e1, e2, hx, ?_, hnx x (List.mem_of_getElem? hx)⟩
    rw [e3 t (by rw [hnl3]; omega)]
    have e4 : r.lst false = natI L := h3
    rw [e4]
    simp [natI, hx])
  have HBK := Lib.hid hB
  have HOK := Lib.hid hok
  have HLN := Lib.hid hn
  obtain ⟨H, hH⟩ : ∃ H, bs.length = H := ⟨_, rfl⟩
  rw [hH] at HC ⊢
  have HH := Lib.hid hH
  have zgb := block_lt hB.blk
  clear hB hok hr hL htf hpn hnl2 hnv hpv hnv' hpv' hncell h1 h2 h3 hn ha hH hnx
  go_enter Tryd.func54, Tryd.ntmps54
  have HB1 := Lib.hid ((Below.refl w.heap.size w).alloc (Nat.le_refl _) (.cells #[.int .i64 (a : Int), .int .i64 (tf : Int), .slice NA n ncap, .slice PA pn pcap] 84))
  by_cases hc : pc + 1 < tf
  · have hc1 : (pc : Int) + 1 < tf := by omega
    rw [if_pos hc] at hBL
    clear hc
    go_wp2_with fail
    go_ret
    refine ⟨⟨_, rfl, ?_⟩, ?_⟩
    · rw [hBL.out]
      have h := OwnI.made (w.alloc (.cells #[.int .i64 (a : Int), .int .i64 (tf : Int), .slice NA n ncap, .slice PA pn pcap] 84)) w.heap.size [((pc + 1 : Nat) : Int)] HB1.out.size (by simp)
      simpa [natI] using h
    · exact HB1.out.alloc HB1.out.size _
  · have hc1 : ¬ (pc : Int) + 1 < tf := by omega
    rw [if_neg hc] at hBL
    clear hc
    have HOB := Lib.hid (OwnI.nil (w.alloc (.cells #[.int .i64 (a : Int), .int .i64 (tf : Int), .slice NA n ncap, .slice PA pn pcap] 84)) w.heap.size)
    go_wp2_with fail
    go_loopw [7, 21] (fun v7 v21 wr => ∃ (t : Nat) (A4 : Option Addr) (c4 : Nat), t ≤ n ∧ v21 = .int .i64 (t : Int) ∧ v7 = .slice A4 t c4 ∧ OwnI wr w.heap.size v7 (natI ((L.take t).map (hdA F))) ∧ Below w.heap.size w wr) (fun _ v21 _ => n - (intOf v21).toNat)
    case atStart => exact ⟨0, none, 0, by omega, rfl, rfl, HOB.out, HB1.out⟩
    case round =>
      obtain ⟨t, A4, c4, ht, rfl, rfl, hO, hb⟩ := hrel
      have HO := Lib.hid hO
      have HB := Lib.hid hb
      by_cases ht0 : t = n
      · have ht0' := ht0.symm
        subst ht0'
        clear hO hb
        go_wp2_with fail
        go_ret
        refine ⟨⟨_, rfl, ?_⟩, HB.out⟩
        have h := HO.out
        rw [List.take_of_length_le (Nat.le_of_eq HLN.out)] at h
        rw [hBL.out]; exact h
      · have ht1 : (t : Int) < n := by omega
        have ht2 : (0 : Int) ≤ t := by omega
        obtain ⟨g, x, rfl, zg, hx, hcx, hxH⟩ := HC.out t (by omega)
        obtain ⟨rx, hrx⟩ : ∃ y, bs[x]? = some y := ⟨_, List.getElem?_eq_getElem (by rw [HH.out]; exact hxH)⟩
        have hfx : rx.fr = (hdA F x : Int) := (HOK.out.at_ x rx hrx).1
        have q1 : wr.cell? ⟨gb, x * 4, none⟩ = some (.int .i64 (hdA F x : Int)) := (hb.cell (p := ⟨gb, _, none⟩) zgb).trans ((HBK.out.cell hrx (j := 0) (by omega)).trans (by show some (Value.int .i64 rx.fr) = _; rw [hfx]))
        have q0 : wr.cell? ⟨g, t, none⟩ = some (.int .i64 (x : Int)) := (hb.cell (p := ⟨g, _, none⟩) zg).trans hcx
        have z1 := Nat.lt_of_lt_of_le zgb hb.size
        have z0 := Nat.lt_of_lt_of_le zg hb.size
        have hx1 : (x : Int) < H := by omega
        have hx2 : (0 : Int) ≤ x := by omega
        obtain ⟨y, hy⟩ : ∃ y, hdA F x = y := ⟨_, rfl⟩
        rw [hy] at q1
        have HTK := Lib.hid (show natI ((L.take (t + 1)).map (hdA F)) = natI ((L.take t).map (hdA F)) ++ [(y : Int)] by rw [List.take_add_one, hx]; simp [natI, hy])
        have hlt : (natI ((L.take t).map (hdA F))).length = t := by rw [natI_length, List.length_map, List.length_take, HLN.out]; omega
        have HOW := Lib.hid (show wr.ownsRow w.heap.size 3 1 (.slice A4 t c4) t ((natI ((L.take t).map (hdA F))).map (Value.int .i64)) by have h := hO; unfold OwnI at h; rw [hlt] at h; exact h)
        have HLT := Lib.hid hlt
        obtain ⟨i0, hI0, hz0, hz1, hz2⟩ := info_parts infoInt
        have hw7 := hb.size
        clear hO hb hx hcx hrx hfx hy hlt ht0
        go_wp2_with (at_builtin; go_must (refine wpList_append_own _ rfl _ _ 37 rfl w.heap.size 3 i0 _ 1 8 Tryd.underlying37 hI0 hz0 hz1 hz2 rfl (by decide) (.slice A4 t c4) t ((natI ((L.take t).map (hdA F))).map (Value.int .i64)) rfl (own_below HOW.out ((Below.refl _ _).alloc (Nat.le_refl _) _)) ⟨wr.heap.size, 0, none⟩ 1 1 [.int .i64 (y : Int)] rfl rfl (World.news_of_block (cs := #[.int .i64 (y : Int)]) (t := 3) (fr := (0, 0)) (by simpa using heap_alloc_new wr (.cells #[.int .i64 (y : Int)] 3))) (by simp [Value.oneCell']) (by unfold maxLen; omega) (by omega) (by simp; omega) ?_); intro v9 w9 hown9 hg9 _; obtain ⟨A9, cap9, hv9, -⟩ := own_slice hown9; rw [hv9] at hown9; rw [hv9]; have HB9 := Lib.hid ((HB.out.alloc HB.out.size (.cells #[.int .i64 (y : Int)] 3)).grown hg9 (by simp; omega) (fun k hk => (World.ownsRow.lt HOW.out k hk).1)); have HO9 := Lib.hid hown9; clear hown9 hg9)
        go_roundw
        case rel => exact ⟨t + 1, A9, cap9, by omega, by go_num, rfl, by rw [HTK.out]; unfold OwnI; simp only [List.length_append, List.length_cons, List.length_nil, HLT.out]; have h := HO9.out; simpa using h, HB9.out⟩
        case measure => simp [intOf]; omega
end Go.Proofs.YtfdppmjoinodgaaDoor
