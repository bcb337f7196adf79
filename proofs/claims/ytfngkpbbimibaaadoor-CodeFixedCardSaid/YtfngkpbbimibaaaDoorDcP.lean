/-
  Plain laws of code.Decode: programs out of bytes; what was encoded is decoded, what was decoded is encoded as it was; what is torn is none. No program is in sight.
-/
import Derived.Test.YtfngkpbbimibaaaDoorEnc
import Derived.Test.YtfngkpbbimibaaaDoorOk
namespace Tier
open Go Go.RowKit
/-- One byte more of a number. -/
def byteIn (x b : Int) : Int := wrap64 (x * 256 + b)
/-- So many bytes more of a number. -/
def tk8 : Nat → Int → List Int → Option (Int × List Int)
  | 0, x, r => some (x, r)
  | _ + 1, _, [] => none
  | n + 1, x, b :: r => tk8 n (byteIn x b) r
def tkIns : List Int → Option (Ins × List Int)
  | o :: d :: a :: b :: r => (tk8 8 0 r).map fun y => (⟨o, d, a, b, y.1⟩, y.2)
  | _ => none
def tkCode : Nat → List Ins → List Int → Option (List Ins × List Int)
  | 0, c, r => some (c, r)
  | n + 1, c, r => match tkIns r with
    | none => none
    | some y => tkCode n (c ++ [y.1]) y.2
def tkFn : List Int → Option (Fnc × List Int)
  | p :: g :: n :: r => (tkCode n.toNat [] r).map fun y => (⟨p, g, y.1⟩, y.2)
  | _ => none
def tkFns : Nat → List Fnc → List Int → Option (List Fnc × List Int)
  | 0, c, r => some (c, r)
  | n + 1, c, r => match tkFn r with
    | none => none
    | some y => tkFns n (c ++ [y.1]) y.2
def tkP : List Int → Option (List Fnc × List Int)
  | [] => none
  | n :: r => tkFns n.toNat [] r
/-- The error of a decoding. -/
def errOf : Option (List Fnc × List Int) → Int
  | none => 4
  | some y => if y.2 ≠ [] then 5 else progE y.1
def decE (l : List Int) : Int := if 4000 < l.length then 1 else errOf (tkP l)
/-! more bytes behind -/
theorem tk8_app : ∀ (n : Nat) (x : Int) (l t : List Int) (m : Int) (r : List Int), tk8 n x l = some (m, r) → tk8 n x (l ++ t) = some (m, r ++ t)
  | 0, x, l, t, m, r, h => by
    simp only [tk8, Option.some.injEq, Prod.mk.injEq] at h ⊢
    obtain ⟨rfl, rfl⟩ := h
    exact ⟨rfl, rfl⟩
  | n + 1, x, [], t, m, r, h => by simp [tk8] at h
  | n + 1, x, b :: l, t, m, r, h => by
    simp only [tk8, List.cons_append] at h ⊢
    exact tk8_app n _ l t m r h
theorem tkIns_app {l t r : List Int} {x : Ins} (h : tkIns l = some (x, r)) : tkIns (l ++ t) = some (x, r ++ t) := by
  match l, h with
  | o :: d :: a :: b :: l, h =>
    simp only [tkIns, List.cons_append, Option.map_eq_some_iff] at h ⊢
    obtain ⟨⟨m, r'⟩, h1, h2⟩ := h
    simp only [Prod.mk.injEq] at h2
    obtain ⟨rfl, rfl⟩ := h2
    exact ⟨_, tk8_app _ _ _ _ _ _ h1, rfl⟩
theorem tkCode_app : ∀ (n : Nat) (c : List Ins) (l t : List Int) (m : List Ins) (r : List Int), tkCode n c l = some (m, r) → tkCode n c (l ++ t) = some (m, r ++ t)
  | 0, c, l, t, m, r, h => by
    simp only [tkCode, Option.some.injEq, Prod.mk.injEq] at h ⊢
    obtain ⟨rfl, rfl⟩ := h
    exact ⟨rfl, rfl⟩
  | n + 1, c, l, t, m, r, h => by
    unfold tkCode at h ⊢
    cases hi : tkIns l with
    | none => rw [hi] at h; cases h
    | some y =>
      rw [hi] at h
      rw [tkIns_app (t := t) (show tkIns l = some (y.1, y.2) from hi)]
      exact tkCode_app n _ _ t m r h
theorem tkFn_app {l t r : List Int} {x : Fnc} (h : tkFn l = some (x, r)) : tkFn (l ++ t) = some (x, r ++ t) := by
  match l, h with
  | p :: g :: n :: l, h =>
    simp only [tkFn, List.cons_append, Option.map_eq_some_iff] at h ⊢
    obtain ⟨⟨m, r'⟩, h1, h2⟩ := h
    simp only [Prod.mk.injEq] at h2
    obtain ⟨rfl, rfl⟩ := h2
    exact ⟨_, tkCode_app _ _ _ _ _ _ h1, rfl⟩
theorem tkFns_app : ∀ (n : Nat) (c : List Fnc) (l t : List Int) (m : List Fnc) (r : List Int), tkFns n c l = some (m, r) → tkFns n c (l ++ t) = some (m, r ++ t)
  | 0, c, l, t, m, r, h => by
    simp only [tkFns, Option.some.injEq, Prod.mk.injEq] at h ⊢
    obtain ⟨rfl, rfl⟩ := h
    exact ⟨rfl, rfl⟩
  | n + 1, c, l, t, m, r, h => by
    unfold tkFns at h ⊢
    cases hi : tkFn l with
    | none => rw [hi] at h; cases h
    | some y =>
      rw [hi] at h
      rw [tkFn_app (t := t) (show tkFn l = some (y.1, y.2) from hi)]
      exact tkFns_app n _ _ t m r h
theorem tkP_app {l t r : List Int} {p : List Fnc} (h : tkP l = some (p, r)) : tkP (l ++ t) = some (p, r ++ t) := by
  match l, h with
  | n :: l, h => exact tkFns_app _ _ _ _ _ _ h
/-! digits -/
theorem wrap64_of {x y : Int} (h : ∃ k, x = y + 18446744073709551616 * k) (hy : In y) : wrap64 x = y := by
  obtain ⟨k, h⟩ := h; unfold In at hy; unfold wrap64; omega
theorem wrap64_is (x : Int) : ∃ k, wrap64 x = x + 18446744073709551616 * k := ⟨(wrap64 x - x) / 18446744073709551616, by unfold wrap64; omega⟩
theorem byteIn_is (x b : Int) : ∃ k, byteIn x b = x * 256 + b + 18446744073709551616 * k := wrap64_is _
theorem byteIn_in (x b : Int) : In (byteIn x b) := by unfold byteIn wrap64 In; omega
/-- A shift by eight bits, and a byte. -/
theorem byteIn_or (x b : Int) (h0 : 0 ≤ b) (h1 : b < 256) : bits .or .i64 (wrap64 (x * 256)) b = byteIn x b := by
  unfold byteIn
  rw [bits_or, wrap64_toInt, wrap64_toInt, V_toInt]
  congr 1
  have h : V (x * 256) &&& V b = 0#64 := by
    apply BitVec.eq_of_toNat_eq
    rw [BitVec.toNat_and, BitVec.toNat_ofInt, BitVec.toNat_ofInt]
    obtain ⟨n, hn⟩ : ∃ n : Nat, (x * 256 % ((2 ^ 64 : Nat) : Int)).toNat = n * 256 := ⟨(x % 72057594037927936).toNat, by simp only [Nat.reducePow]; omega⟩
    obtain ⟨m, rfl⟩ : ∃ m : Nat, b = (m : Int) := ⟨b.toNat, by omega⟩
    have hm : (((m : Int)) % ((2 ^ 64 : Nat) : Int)).toNat = m := by simp only [Nat.reducePow]; omega
    rw [hn, hm]
    apply Nat.eq_of_testBit_eq
    intro i
    rw [Nat.testBit_and, show n * 256 = n * 2 ^ 8 from rfl, Nat.testBit_mul_two_pow]
    by_cases hi : i < 8
    · simp; omega
    · have : m.testBit i = false := Nat.testBit_lt_two_pow (Nat.lt_of_lt_of_le (by omega : m < 2 ^ 8) (Nat.pow_le_pow_right (by omega) (by omega)))
      rw [this]; simp
  have e := and_add_or (V (x * 256)) (V b)
  rw [h] at e
  rw [V_add, ← e]
  simp
/-- Eight bytes as a number, and back. -/
def num8 (b0 b1 b2 b3 b4 b5 b6 b7 : Int) : Int := ((((((b0 * 256 + b1) * 256 + b2) * 256 + b3) * 256 + b4) * 256 + b5) * 256 + b6) * 256 + b7
theorem tk8_num (b0 b1 b2 b3 b4 b5 b6 b7 : Int) (t : List Int) : ∃ m k, tk8 8 0 (b0 :: b1 :: b2 :: b3 :: b4 :: b5 :: b6 :: b7 :: t) = some (m, t) ∧ In m ∧ m = num8 b0 b1 b2 b3 b4 b5 b6 b7 + 18446744073709551616 * k := by
  refine ⟨byteIn (byteIn (byteIn (byteIn (byteIn (byteIn (byteIn (byteIn 0 b0) b1) b2) b3) b4) b5) b6) b7, ?_⟩
  have e : ∀ (x b y k : Int), x = y + 18446744073709551616 * k → ∃ k', byteIn x b = y * 256 + b + 18446744073709551616 * k' := fun x b y k h => by
    obtain ⟨k', h'⟩ := byteIn_is x b
    exact ⟨k' + 256 * k, by rw [h', h]; omega⟩
  obtain ⟨k0, h0⟩ := e 0 b0 0 0 (by omega)
  obtain ⟨k1, h1⟩ := e _ b1 _ _ h0
  obtain ⟨k2, h2⟩ := e _ b2 _ _ h1
  obtain ⟨k3, h3⟩ := e _ b3 _ _ h2
  obtain ⟨k4, h4⟩ := e _ b4 _ _ h3
  obtain ⟨k5, h5⟩ := e _ b5 _ _ h4
  obtain ⟨k6, h6⟩ := e _ b6 _ _ h5
  obtain ⟨k7, h7⟩ := e _ b7 _ _ h6
  refine ⟨k7, rfl, byteIn_in _ _, ?_⟩
  rw [h7]
  unfold num8
  simp only [Int.zero_mul, Int.zero_add]
theorem tk8_some : ∀ {n : Nat} {x : Int} {l r : List Int} {m : Int}, tk8 n x l = some (m, r) → ∃ bs, bs.length = n ∧ l = bs ++ r
  | 0, x, l, r, m, h => by
    simp only [tk8, Option.some.injEq, Prod.mk.injEq] at h
    exact ⟨[], rfl, h.2⟩
  | n + 1, x, [], r, m, h => by simp [tk8] at h
  | n + 1, x, b :: l, r, m, h => by
    simp only [tk8] at h
    obtain ⟨bs, h1, h2⟩ := tk8_some h
    exact ⟨b :: bs, by simp [h1], by rw [h2]; rfl⟩
end Tier
namespace Go.Proofs.YtfngkpbbimibaaaDoor
open Go.RowKit Tier
theorem immB_div (m : Int) : immB m 0 = m / 256 / 256 / 256 / 256 / 256 / 256 / 256 % 256 ∧ immB m 1 = m / 256 / 256 / 256 / 256 / 256 / 256 % 256 ∧ immB m 2 = m / 256 / 256 / 256 / 256 / 256 % 256 ∧ immB m 3 = m / 256 / 256 / 256 / 256 % 256 ∧
    immB m 4 = m / 256 / 256 / 256 % 256 ∧ immB m 5 = m / 256 / 256 % 256 ∧ immB m 6 = m / 256 % 256 ∧ immB m 7 = m % 256 := by
  refine ⟨?_, ?_, ?_, ?_, ?_, ?_, ?_, ?_⟩
  · show m / 72057594037927936 % 256 = _; omega
  · show m / 281474976710656 % 256 = _; omega
  · show m / 1099511627776 % 256 = _; omega
  · show m / 4294967296 % 256 = _; omega
  · show m / 16777216 % 256 = _; omega
  · show m / 65536 % 256 = _; omega
  · show m / 256 % 256 = _; omega
  · show m / 1 % 256 = _; omega
theorem range8 (m : Int) : (List.range 8).map (immB m) = [immB m 0, immB m 1, immB m 2, immB m 3, immB m 4, immB m 5, immB m 6, immB m 7] := rfl
theorem digits8 {b0 b1 b2 b3 b4 b5 b6 b7 m k : Int} (hm : m = num8 b0 b1 b2 b3 b4 b5 b6 b7 + 18446744073709551616 * k)
    (h0 : 0 ≤ b0 ∧ b0 < 256) (h1 : 0 ≤ b1 ∧ b1 < 256) (h2 : 0 ≤ b2 ∧ b2 < 256) (h3 : 0 ≤ b3 ∧ b3 < 256) (h4 : 0 ≤ b4 ∧ b4 < 256) (h5 : 0 ≤ b5 ∧ b5 < 256) (h6 : 0 ≤ b6 ∧ b6 < 256) (h7 : 0 ≤ b7 ∧ b7 < 256) :
    [immB m 0, immB m 1, immB m 2, immB m 3, immB m 4, immB m 5, immB m 6, immB m 7] = [b0, b1, b2, b3, b4, b5, b6, b7] := by
  obtain ⟨e0, e1, e2, e3, e4, e5, e6, e7⟩ := immB_div m
  have p : ∀ (x y b c d k : Int), d = 256 * c → x = y * 256 + b + d * k → 0 ≤ b ∧ b < 256 → x % 256 = b ∧ x / 256 = y + c * k := fun x y b c d k hd h hb => by
    obtain ⟨z, hz⟩ : ∃ z, c * k = z := ⟨_, rfl⟩
    rw [hd, Int.mul_assoc, hz] at h
    rw [hz]
    omega
  unfold num8 at hm
  obtain ⟨a7, d7⟩ := p m _ b7 72057594037927936 18446744073709551616 k (by omega) (by rw [hm]) h7
  obtain ⟨a6, d6⟩ := p (m / 256) _ b6 281474976710656 72057594037927936 k (by omega) (by rw [d7]) h6
  obtain ⟨a5, d5⟩ := p (m / 256 / 256) _ b5 1099511627776 281474976710656 k (by omega) (by rw [d6]) h5
  obtain ⟨a4, d4⟩ := p (m / 256 / 256 / 256) _ b4 4294967296 1099511627776 k (by omega) (by rw [d5]) h4
  obtain ⟨a3, d3⟩ := p (m / 256 / 256 / 256 / 256) _ b3 16777216 4294967296 k (by omega) (by rw [d4]) h3
  obtain ⟨a2, d2⟩ := p (m / 256 / 256 / 256 / 256 / 256) _ b2 65536 16777216 k (by omega) (by rw [d3]) h2
  obtain ⟨a1, d1⟩ := p (m / 256 / 256 / 256 / 256 / 256 / 256) _ b1 256 65536 k (by omega) (by rw [d2]) h1
  obtain ⟨a0, d0⟩ := p (m / 256 / 256 / 256 / 256 / 256 / 256 / 256) 0 b0 1 256 k (by omega) (by rw [d1]; omega) h0
  rw [e0, e1, e2, e3, e4, e5, e6, e7, a0, a1, a2, a3, a4, a5, a6, a7]
/-- Eight bytes make the number again. -/
theorem tk8_enc {m : Int} (hm : In m) (t : List Int) : tk8 8 0 ((List.range 8).map (immB m) ++ t) = some (m, t) := by
  rw [range8]
  obtain ⟨m', k, h1, h2, h3⟩ := tk8_num (immB m 0) (immB m 1) (immB m 2) (immB m 3) (immB m 4) (immB m 5) (immB m 6) (immB m 7) t
  show tk8 8 0 (_ :: _ :: _ :: _ :: _ :: _ :: _ :: _ :: t) = _
  rw [h1]
  have e : m' = m := by
    obtain ⟨e0, e1, e2, e3, e4, e5, e6, e7⟩ := immB_div m
    rw [e0, e1, e2, e3, e4, e5, e6, e7] at h3
    unfold num8 at h3
    unfold In at h2 hm
    obtain ⟨q1, g1⟩ : ∃ q, m / 256 = q := ⟨_, rfl⟩
    rw [g1] at h3
    obtain ⟨q2, g2⟩ : ∃ q, q1 / 256 = q := ⟨_, rfl⟩
    rw [g2] at h3
    obtain ⟨q3, g3⟩ : ∃ q, q2 / 256 = q := ⟨_, rfl⟩
    rw [g3] at h3
    obtain ⟨q4, g4⟩ : ∃ q, q3 / 256 = q := ⟨_, rfl⟩
    rw [g4] at h3
    obtain ⟨q5, g5⟩ : ∃ q, q4 / 256 = q := ⟨_, rfl⟩
    rw [g5] at h3
    obtain ⟨q6, g6⟩ : ∃ q, q5 / 256 = q := ⟨_, rfl⟩
    rw [g6] at h3
    obtain ⟨q7, g7⟩ : ∃ q, q6 / 256 = q := ⟨_, rfl⟩
    rw [g7] at h3
    have e7 : (q7 % 256) = q7 - 256 * (q7 / 256) := by omega
    have e6 : q6 % 256 = q6 - 256 * q7 := by omega
    have e5 : q5 % 256 = q5 - 256 * q6 := by omega
    have e4 : q4 % 256 = q4 - 256 * q5 := by omega
    have e3 : q3 % 256 = q3 - 256 * q4 := by omega
    have e2 : q2 % 256 = q2 - 256 * q3 := by omega
    have e1 : q1 % 256 = q1 - 256 * q2 := by omega
    have e0 : m % 256 = m - 256 * q1 := by omega
    rw [e0, e1, e2, e3, e4, e5, e6, e7] at h3
    obtain ⟨z, hz⟩ : ∃ z, q7 / 256 = z := ⟨_, rfl⟩
    rw [hz] at h3
    clear e0 e1 e2 e3 e4 e5 e6 e7 g1 g2 g3 g4 g5 g6 g7 hz h1
    omega
  rw [e]
/-- A byte. -/
def Byte (b : Int) : Prop := 0 ≤ b ∧ b < 256
theorem tk8_back {l r : List Int} {m : Int} (hl : ∀ b ∈ l, Byte b) (h : tk8 8 0 l = some (m, r)) : l = (List.range 8).map (immB m) ++ r ∧ In m := by
  obtain ⟨bs, h1, rfl⟩ := tk8_some h
  match bs, h1 with
  | [b0, b1, b2, b3, b4, b5, b6, b7], _ =>
    obtain ⟨m', k, h1, h2, h3⟩ := tk8_num b0 b1 b2 b3 b4 b5 b6 b7 r
    have h' : tk8 8 0 (b0 :: b1 :: b2 :: b3 :: b4 :: b5 :: b6 :: b7 :: r) = some (m, r) := h
    rw [h1] at h'
    simp only [Option.some.injEq, Prod.mk.injEq, and_true] at h'
    subst h'
    have d := digits8 h3 (hl b0 (by simp)) (hl b1 (by simp)) (hl b2 (by simp)) (hl b3 (by simp)) (hl b4 (by simp)) (hl b5 (by simp)) (hl b6 (by simp)) (hl b7 (by simp))
    rw [range8, d]
    exact ⟨rfl, h2⟩
theorem tkIns_enc {x : Ins} (hm : In x.imm) (t : List Int) : tkIns (encIns x ++ t) = some (x, t) := by
  show (tk8 8 0 ((List.range 8).map (immB x.imm) ++ t)).map (fun y => ((⟨x.op, x.dst, x.a, x.b, y.1⟩ : Ins), y.2)) = _
  rw [tk8_enc hm]; rfl
theorem tkIns_back {l r : List Int} {x : Ins} (hl : ∀ b ∈ l, Byte b) (h : tkIns l = some (x, r)) : l = encIns x ++ r := by
  match l, h with
  | o :: d :: a :: b :: l, h =>
    simp only [tkIns, Option.map_eq_some_iff] at h
    obtain ⟨⟨m, r'⟩, h1, h2⟩ := h
    simp only [Prod.mk.injEq] at h2
    obtain ⟨rfl, rfl⟩ := h2
    have := (tk8_back (fun b hb => hl b (by simp [hb])) h1).1
    show o :: d :: a :: b :: l = _
    rw [this]
    rfl
theorem tkCode_enc : ∀ (c c0 : List Ins) (t : List Int), (∀ x ∈ c, In x.imm) → tkCode c.length c0 (c.flatMap encIns ++ t) = some (c0 ++ c, t)
  | [], c0, t, _ => by simp [tkCode]
  | x :: c, c0, t, h => by
    rw [List.flatMap_cons, List.append_assoc]
    show tkCode (c.length + 1) c0 _ = _
    unfold tkCode
    rw [tkIns_enc (h x (by simp))]
    simp only
    rw [tkCode_enc c (c0 ++ [x]) t (fun y hy => h y (by simp [hy]))]
    simp
theorem tkCode_back : ∀ (n : Nat) (c0 m : List Ins) (l r : List Int), (∀ b ∈ l, Byte b) → tkCode n c0 l = some (m, r) → ∃ c, m = c0 ++ c ∧ c.length = n ∧ l = c.flatMap encIns ++ r
  | 0, c0, m, l, r, _, h => by
    simp only [tkCode, Option.some.injEq, Prod.mk.injEq] at h
    exact ⟨[], by simp [h.1], rfl, by simp [h.2]⟩
  | n + 1, c0, m, l, r, hl, h => by
    unfold tkCode at h
    cases hi : tkIns l with
    | none => rw [hi] at h; cases h
    | some y =>
      rw [hi] at h
      have e := tkIns_back hl (show tkIns l = some (y.1, y.2) from hi)
      obtain ⟨c, h1, h2, h3⟩ := tkCode_back n _ _ _ _ (fun b hb => hl b (by rw [e]; simp [hb])) h
      exact ⟨y.1 :: c, by rw [h1]; simp, by simp [h2], by rw [e, h3]; simp⟩
theorem tkFn_enc {f : Fnc} (h : ∀ x ∈ f.code, In x.imm) (t : List Int) : tkFn (encFn f ++ t) = some (f, t) := by
  show (tkCode ((f.code.length : Int)).toNat [] (f.code.flatMap encIns ++ t)).map (fun y => ((⟨f.params, f.regs, y.1⟩ : Fnc), y.2)) = _
  rw [Int.toNat_natCast, tkCode_enc _ _ _ h]
  rfl
theorem tkFn_back {l r : List Int} {f : Fnc} (hl : ∀ b ∈ l, Byte b) (h : tkFn l = some (f, r)) : l = encFn f ++ r := by
  match l, h with
  | p :: g :: n :: l, h =>
    simp only [tkFn, Option.map_eq_some_iff] at h
    obtain ⟨⟨m, r'⟩, h1, h2⟩ := h
    simp only [Prod.mk.injEq] at h2
    obtain ⟨rfl, rfl⟩ := h2
    obtain ⟨c, h3, h4, h5⟩ := tkCode_back _ _ _ _ _ (fun b hb => hl b (by simp [hb])) h1
    have hn := hl n (by simp)
    have e : m = c := by simpa using h3
    subst e
    unfold Byte at hn
    have : (m.length : Int) = n := by omega
    show p :: g :: n :: l = p :: g :: (m.length : Int) :: (m.flatMap encIns ++ _)
    rw [this, h5]
theorem tkFns_enc : ∀ (c c0 : List Fnc) (t : List Int), (∀ f ∈ c, ∀ x ∈ f.code, In x.imm) → tkFns c.length c0 (c.flatMap encFn ++ t) = some (c0 ++ c, t)
  | [], c0, t, _ => by simp [tkFns]
  | x :: c, c0, t, h => by
    rw [List.flatMap_cons, List.append_assoc]
    show tkFns (c.length + 1) c0 _ = _
    unfold tkFns
    rw [tkFn_enc (h x (by simp))]
    simp only
    rw [tkFns_enc c (c0 ++ [x]) t (fun y hy => h y (by simp [hy]))]
    simp
theorem tkFns_back : ∀ (n : Nat) (c0 m : List Fnc) (l r : List Int), (∀ b ∈ l, Byte b) → tkFns n c0 l = some (m, r) → ∃ c, m = c0 ++ c ∧ c.length = n ∧ l = c.flatMap encFn ++ r
  | 0, c0, m, l, r, _, h => by
    simp only [tkFns, Option.some.injEq, Prod.mk.injEq] at h
    exact ⟨[], by simp [h.1], rfl, by simp [h.2]⟩
  | n + 1, c0, m, l, r, hl, h => by
    unfold tkFns at h
    cases hi : tkFn l with
    | none => rw [hi] at h; cases h
    | some y =>
      rw [hi] at h
      have e := tkFn_back hl (show tkFn l = some (y.1, y.2) from hi)
      obtain ⟨c, h1, h2, h3⟩ := tkFns_back n _ _ _ _ (fun b hb => hl b (by rw [e]; simp [hb])) h
      exact ⟨y.1 :: c, by rw [h1]; simp, by simp [h2], by rw [e, h3]; simp⟩
theorem tkP_enc {p : List Fnc} (h : ∀ f ∈ p, ∀ x ∈ f.code, In x.imm) (t : List Int) : tkP (encP p ++ t) = some (p, t) := by
  show tkFns ((p.length : Int)).toNat [] (p.flatMap encFn ++ t) = _
  rw [Int.toNat_natCast, tkFns_enc _ _ _ h]
  rfl
theorem tkP_back {l r : List Int} {p : List Fnc} (hl : ∀ b ∈ l, Byte b) (h : tkP l = some (p, r)) : l = encP p ++ r := by
  match l, h with
  | n :: l, h =>
    obtain ⟨c, h3, h4, h5⟩ := tkFns_back _ _ _ _ _ (fun b hb => hl b (by simp [hb])) h
    have hn := hl n (by simp)
    have e : p = c := by simpa using h3
    subst e
    unfold Byte at hn
    have : (p.length : Int) = n := by omega
    show n :: l = (p.length : Int) :: (p.flatMap encFn ++ r)
    rw [this, h5]
/-- A part of what was encoded is none. -/
theorem tkP_torn {p : List Fnc} (h : ∀ f ∈ p, ∀ x ∈ f.code, In x.imm) {n : Nat} (hn : n < (encP p).length) : tkP ((encP p).take n) = none := by
  cases hx : tkP ((encP p).take n) with
  | none => rfl
  | some y =>
    have h1 := tkP_app (t := (encP p).drop n) (show tkP _ = some (y.1, y.2) from hx)
    rw [List.take_append_drop] at h1
    have h2 := tkP_enc h []
    rw [List.append_nil, h1] at h2
    simp only [Option.some.injEq, Prod.mk.injEq, List.append_eq_nil_iff] at h2
    have := congrArg List.length h2.2.2
    simp at this
    omega
theorem encIns_len (l : List Ins) : (l.flatMap encIns).length = 12 * l.length := by
  induction l with
  | nil => rfl
  | cons x l ih => rw [List.flatMap_cons, List.length_append, ih, List.length_cons]; simp [encIns]; omega
theorem encFns_le : ∀ (p : List Fnc), (∀ f ∈ p, f.code.length ≤ 40) → (p.flatMap encFn).length ≤ 483 * p.length
  | [], _ => by simp
  | f :: p, h => by
    have h1 := encFns_le p (fun g hg => h g (by simp [hg]))
    have h2 := h f (by simp)
    rw [List.flatMap_cons, List.length_append, List.length_cons]
    have : (encFn f).length = 3 + 12 * f.code.length := by unfold encFn; rw [List.length_append, encIns_len]; rfl
    omega
theorem enc_le {p : List Fnc} (h : ProgOk p) : (encP p).length ≤ 1933 := by
  have h1 := encFns_le p (fun f hf => (h.fn f hf).c2)
  have h2 := h.l2
  unfold encP
  rw [List.length_append]
  simp only [List.length_cons, List.length_nil]
  omega
theorem enc_byte {p : List Fnc} (h : ProgOk p) : ∀ b ∈ encP p, Byte b := by
  intro b hb
  unfold encP at hb
  rcases List.mem_append.1 hb with hb | hb
  · rw [List.mem_singleton.1 hb]; have := h.l2; unfold Byte; omega
  · obtain ⟨f, hf, hb⟩ := List.mem_flatMap.1 hb
    have ho := h.fn f hf
    have r1 := ho.r1; have r2 := ho.r2; have p1 := ho.p1; have p2 := ho.p2; have c2 := ho.c2
    unfold encFn at hb
    rcases List.mem_append.1 hb with hb | hb
    · simp only [List.mem_cons, List.not_mem_nil, or_false] at hb
      unfold Byte
      rcases hb with rfl | rfl | rfl <;> omega
    · obtain ⟨x, hx, hb⟩ := List.mem_flatMap.1 hb
      have hi := ho.ins x hx
      unfold encIns at hb
      rcases List.mem_append.1 hb with hb | hb
      · have := hi.op1; have := hi.op2; have := hi.dst1; have := hi.dst2; have := hi.a1; have := hi.a2; have := hi.b1; have := hi.b2
        simp only [List.mem_cons, List.not_mem_nil, or_false] at hb
        unfold Byte
        rcases hb with rfl | rfl | rfl | rfl <;> omega
      · obtain ⟨t, -, rfl⟩ := List.mem_map.1 hb
        unfold immB Byte
        exact ⟨Int.emod_nonneg _ (by omega), Int.emod_lt_of_pos _ (by omega)⟩
/-- What a program in shape comes to. -/
theorem dec_enc {p : List Fnc} (h : progE p = 0) (hi : ∀ f ∈ p, ∀ x ∈ f.code, In x.imm) : decE (encP p) = 0 ∧ tkP (encP p) = some (p, []) := by
  have h1 := enc_le (prog_ok h)
  have h2 := tkP_enc hi []
  rw [List.append_nil] at h2
  refine ⟨?_, h2⟩
  rw [decE, if_neg (by omega), h2]
  exact h
theorem dec_torn {p : List Fnc} (h : progE p = 0) (hi : ∀ f ∈ p, ∀ x ∈ f.code, In x.imm) {n : Nat} (hn : n < (encP p).length) : decE ((encP p).take n) = 4 := by
  have h1 := enc_le (prog_ok h)
  rw [decE, if_neg (by rw [List.length_take]; omega), tkP_torn hi hn]
  rfl
theorem dec_more {p : List Fnc} (h : progE p = 0) (hi : ∀ f ∈ p, ∀ x ∈ f.code, In x.imm) (b : Int) : decE (encP p ++ [b]) = 5 := by
  have h1 := enc_le (prog_ok h)
  rw [decE, if_neg (by rw [List.length_append]; simp; omega), tkP_enc hi]
  rfl
theorem dec_back {l : List Int} (hl : ∀ b ∈ l, Byte b) (h : decE l = 0) : ∃ p, tkP l = some (p, []) ∧ progE p = 0 ∧ encP p = l := by
  unfold decE at h
  by_cases h4 : 4000 < l.length
  · rw [if_pos h4] at h; cases h
  rw [if_neg h4] at h
  cases hp : tkP l with
  | none => rw [hp] at h; cases h
  | some y =>
    obtain ⟨p, r⟩ := y
    rw [hp] at h
    have h : (if r ≠ [] then (5 : Int) else progE p) = 0 := h
    by_cases hr : r = []
    · subst hr
      have e : progE p = 0 := by simpa using h
      refine ⟨p, rfl, e, ?_⟩
      have := tkP_back hl hp
      rw [List.append_nil] at this
      exact this.symm
    · rw [if_pos hr] at h; cases h
end Go.Proofs.YtfngkpbbimibaaaDoor
