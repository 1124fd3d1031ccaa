/- bits.Div64 of this program is the exact quotient and rest of 128 bits by 64 bits. -/
import Derived.Test.YtlnhpccapadpmaaMd
import Derived.Test.YtlnhpccapadpmaaPr0b
import Derived.Laws.MathBits
namespace Go.Proofs.Ytlnhpccapadpmaa.Pure
set_option linter.unusedVariables false
set_option linter.unusedSimpArgs false
open Go.RowKit Go.Proofs.Ytlnhpccapadpmaa.Pr Go.Proofs.YtlnhpccapadpmaaW.PrintWords Go.Proofs.YtlnhpccapadpmaaW.PrintLast Go.Proofs.YtlnhpccapadpmaaW.PrintMore
namespace Mb
theorem lz (v : Int) (h0 : 0 < v) (h1 : v ≤ 18446744073709551615) : bits_LeadingZeros64.f 40 v = some (64 - ((bitLen v.toNat : Nat) : Int)) := by
  unfold bits_LeadingZeros64.f
  rw [len64 39 v (by omega) h1, Option.bind_some]
  have := bitLen_le64 v.toNat (by omega)
  rw [w64 (by omega) (by omega)]
theorem rhat (u x9 : Int) (h0 : 0 ≤ u) (h1 : u < 18446744073709551616) (hx : 2147483648 ≤ x9) (hx2 : x9 < 4294967296) :
    0 ≤ IntKind.u64.wrap (u - IntKind.u64.wrap (IntKind.u64.wrap (Int.tdiv u x9) * x9)) ∧ IntKind.u64.wrap (u - IntKind.u64.wrap (IntKind.u64.wrap (Int.tdiv u x9) * x9)) < 4294967296 := by
  have e0 : Int.tdiv u x9 = u / x9 := Int.tdiv_eq_ediv_of_nonneg h0
  have q0 : 0 ≤ u / x9 := Int.ediv_nonneg h0 (by omega)
  have q1 : u / x9 ≤ u := Int.ediv_le_self _ h0
  have e1 : IntKind.u64.wrap (u / x9) = u / x9 := by rw [IntKind.wrap_u64]; omega
  have m0 := Int.emod_nonneg u (show x9 ≠ 0 by omega)
  have m1 := Int.emod_lt_of_pos u (show 0 < x9 by omega)
  have d := Int.mul_ediv_add_emod u x9
  have hmul : u / x9 * x9 = u - u % x9 := by rw [Int.mul_comm]; omega
  have q2 : 0 ≤ u / x9 * x9 := Int.mul_nonneg q0 (by omega)
  have e2 : IntKind.u64.wrap (u / x9 * x9) = u - u % x9 := by rw [hmul, IntKind.wrap_u64]; omega
  rw [e0, e1, e2, show u - (u - u % x9) = u % x9 by omega, IntKind.wrap_u64]
  omega
theorem wlt (x : Int) : 0 ≤ IntKind.u64.wrap x ∧ IntKind.u64.wrap x < 18446744073709551616 := by rw [IntKind.wrap_u64]; omega
theorem l1_last (k : Nat) (x2 x8 x9 x10 x14 x15 x16 x17 x18 : Int) (h8 : 0 ≤ x8) (h9 : 2147483648 ≤ x9) (h92 : x9 < 4294967296) (h16 : 2147483648 ≤ x16) (h162 : x16 < 4294967296) :
    ∃ r, bits_Div64.l1 (k + 2) x2 x8 x9 x10 x14 x15 x16 x17 x18 = some r := by
  have hw : IntKind.u64.wrap (x16 + x9) ≥ 4294967296 := by rw [IntKind.wrap_u64]; omega
  have hj : ∀ c, ∃ r, bits_Div64.j4 (k + 1) x2 x8 x9 x10 x14 x15 x16 x17 x18 c = some r := fun c => by
    cases c with
    | true => simp only [bits_Div64.j4, if_true, if_pos hw, if_pos h8]; exact ⟨_, rfl⟩
    | false => simp only [bits_Div64.j4, Bool.false_eq_true, if_false, if_pos h8]; exact ⟨_, rfl⟩
  simp only [bits_Div64.l1]
  split
  · exact hj _
  · exact hj _
theorem l1_ok (k : Nat) (x2 x8 x9 x10 x14 x15 x16 x17 x18 : Int) (h8 : 0 ≤ x8) (h9 : 2147483648 ≤ x9) (h92 : x9 < 4294967296) (h16 : 0 ≤ x16) (h162 : x16 < 4294967296) :
    ∃ r, bits_Div64.l1 (k + 4) x2 x8 x9 x10 x14 x15 x16 x17 x18 = some r := by
  have hj : ∀ c, ∃ r, bits_Div64.j4 (k + 3) x2 x8 x9 x10 x14 x15 x16 x17 x18 c = some r := fun c => by
    cases c with
    | true =>
      simp only [bits_Div64.j4, if_true, if_pos h8]
      split
      · exact ⟨_, rfl⟩
      · rename_i hw
        have e : IntKind.u64.wrap (x16 + x9) = x16 + x9 := by rw [IntKind.wrap_u64]; omega
        rw [e] at hw ⊢
        exact l1_last k x2 x8 x9 x10 x14 x15 _ x17 _ h8 h9 h92 (by omega) (by omega)
    | false => simp only [bits_Div64.j4, Bool.false_eq_true, if_false, if_pos h8]; exact ⟨_, rfl⟩
  simp only [bits_Div64.l1]
  split
  · exact hj _
  · exact hj _
theorem j2_ok (k : Nat) (x2 x8 x9 x10 x11 x13 x14 x15 : Int) (h8 : 0 ≤ x8) (h9 : 2147483648 ≤ x9) (h92 : x9 < 4294967296) : ∃ r, bits_Div64.j2 (k + 5) x2 x8 x9 x10 x11 x13 x14 x15 = some r := by
  simp only [bits_Div64.j2, if_neg (show ¬ x9 = 0 by omega)]
  have hr := rhat (IntKind.u64.wrap ((IntKind.u64.wrap ((IntKind.u64.wrap (x11 * 4294967296)) + x13)) - (IntKind.u64.wrap (x15 * x2)))) x9 (wlt _).1 (wlt _).2 h9 h92
  exact l1_ok k _ _ _ _ _ _ _ _ _ h8 h9 h92 hr.1 hr.2
theorem l0_last (k : Nat) (x2 x8 x9 x10 x11 x13 x14 x15 x16 : Int) (h8 : 0 ≤ x8) (h9 : 2147483648 ≤ x9) (h92 : x9 < 4294967296) (h16 : 2147483648 ≤ x16) (h162 : x16 < 4294967296) :
    ∃ r, bits_Div64.l0 (k + 7) x2 x8 x9 x10 x11 x13 x14 x15 x16 = some r := by
  have hw : IntKind.u64.wrap (x16 + x9) ≥ 4294967296 := by rw [IntKind.wrap_u64]; omega
  have hj : ∀ c, ∃ r, bits_Div64.j1 (k + 6) x2 x8 x9 x10 x11 x13 x14 x15 x16 c = some r := fun c => by
    cases c with
    | true => simp only [bits_Div64.j1, if_true, if_pos hw]; exact j2_ok k _ _ _ _ _ _ _ _ h8 h9 h92
    | false => simp only [bits_Div64.j1, Bool.false_eq_true, if_false]; exact j2_ok k _ _ _ _ _ _ _ _ h8 h9 h92
  simp only [bits_Div64.l0]
  split
  · exact hj _
  · exact hj _
theorem l0_ok (k : Nat) (x2 x8 x9 x10 x11 x13 x14 x15 x16 : Int) (h8 : 0 ≤ x8) (h9 : 2147483648 ≤ x9) (h92 : x9 < 4294967296) (h16 : 0 ≤ x16) (h162 : x16 < 4294967296) :
    ∃ r, bits_Div64.l0 (k + 9) x2 x8 x9 x10 x11 x13 x14 x15 x16 = some r := by
  have hj : ∀ c, ∃ r, bits_Div64.j1 (k + 8) x2 x8 x9 x10 x11 x13 x14 x15 x16 c = some r := fun c => by
    cases c with
    | true =>
      simp only [bits_Div64.j1, if_true]
      split
      · exact j2_ok (k + 2) _ _ _ _ _ _ _ _ h8 h9 h92
      · rename_i hw
        have e : IntKind.u64.wrap (x16 + x9) = x16 + x9 := by rw [IntKind.wrap_u64]; omega
        rw [e] at hw ⊢
        exact l0_last k _ _ _ _ _ _ _ _ _ h8 h9 h92 (by omega) (by omega)
    | false => simp only [bits_Div64.j1, Bool.false_eq_true, if_false]; exact j2_ok (k + 2) _ _ _ _ _ _ _ _ h8 h9 h92
  simp only [bits_Div64.l0]
  split
  · exact hj _
  · exact hj _
theorem div64_ok (a lo m : Int) (ha : 1 ≤ a) (hm : a < m) (hm2 : m ≤ 18446744073709551615) : ∃ r, bits_Div64.f 40 a lo m = some r := by
  unfold bits_Div64.f
  rw [if_neg (by omega), if_neg (by omega), if_neg (by omega), lz m (by omega) hm2, Option.bind_some]
  have hL := bitLen_le64 m.toNat (by omega)
  have hsp := bitLen_spec m.toNat
  have hne : m.toNat ≠ 0 := by omega
  have hL0 : bitLen m.toNat ≠ 0 := fun e => by have := hsp.1; rw [e] at this; simp at this; omega
  generalize hLL : bitLen m.toNat = L at *
  have e1 : IntKind.u64.wrap (64 - (L : Int)) = 64 - (L : Int) := by rw [IntKind.wrap_u64]; omega
  rw [e1]
  rw [if_pos (by omega), if_pos (wlt _).1]
  have hs : (64 - (L : Int)).toNat = 64 - L := by omega
  have hy : shl .u64 m (64 - (L : Int)) = ((m.toNat * 2 ^ (64 - L) : Nat) : Int) ∧ 2 ^ 63 ≤ m.toNat * 2 ^ (64 - L) ∧ m.toNat * 2 ^ (64 - L) < 2 ^ 64 := by
    have p1 : 2 ^ L * 2 ^ (64 - L) = 2 ^ 64 := by rw [← Nat.pow_add]; congr 1; omega
    have p2 : 2 ^ (L - 1) * 2 ^ (64 - L) = 2 ^ 63 := by rw [← Nat.pow_add]; congr 1; omega
    have hpos : 0 < 2 ^ (64 - L) := Nat.pow_pos (by decide)
    have l1 : m.toNat * 2 ^ (64 - L) < 2 ^ 64 := by rw [← p1]; exact Nat.mul_lt_mul_of_pos_right hsp.1 hpos
    have l2 : 2 ^ 63 ≤ m.toNat * 2 ^ (64 - L) := by rw [← p2]; exact Nat.mul_le_mul_right _ (hsp.2 hne)
    refine ⟨?_, l2, l1⟩
    unfold shl
    rw [hs, show min (64 - L) IntKind.u64.bits = 64 - L by show min (64 - L) 64 = _; omega]
    have e2 : m * 2 ^ (64 - L) = ((m.toNat * 2 ^ (64 - L) : Nat) : Int) := by
      rw [Int.natCast_mul, Int.toNat_of_nonneg (by omega)]; simp
    rw [e2, IntKind.wrap_u64]
    have e3 : (2 : Nat) ^ 64 = 18446744073709551616 := by simp only [Nat.reducePow]
    rw [e3] at l1
    omega
  obtain ⟨hy, l2, l1⟩ := hy
  have e3 : (2 : Nat) ^ 64 = 18446744073709551616 := by simp only [Nat.reducePow]
  have e4 : (2 : Nat) ^ 63 = 9223372036854775808 := by simp only [Nat.reducePow]
  rw [e3] at l1
  rw [e4] at l2
  rw [hy]
  generalize m.toNat * 2 ^ (64 - L) = y at *
  rw [if_neg (by omega)]
  have hr : ∀ u : Int, 0 ≤ u → u < 18446744073709551616 → _ := fun u h0 h1 => rhat u ((y : Int) / 4294967296) h0 h1 (by omega) (by omega)
  have hb : ∀ x z : Int, 0 ≤ Go.bits .or .u64 x z ∧ Go.bits .or .u64 x z < 18446744073709551616 := fun x z => wlt _
  exact l0_ok 31 _ _ _ _ _ _ _ _ _ (by omega) (by omega) (by omega) (hr _ (hb _ _).1 (hb _ _).2).1 (hr _ (hb _ _).1 (hb _ _).2).2
/-- A digit of the quotient, tried: y = y1 2^32 + y0; q y1 + r = u; Q the digit. -/
structure Tri (y y1 y0 u u1 Q : Int) : Prop where
  hy : y = y1 * 4294967296 + y0
  h1 : 2147483648 ≤ y1
  h2 : y1 < 4294967296
  h3 : 0 ≤ y0
  h4 : y0 < 4294967296
  hu : 0 ≤ u
  huy : u < y
  g1 : 0 ≤ u1
  g2 : u1 < 4294967296
  hQ0 : 0 ≤ Q
  hQ1 : Q * y ≤ u * 4294967296 + u1
  hQ2 : u * 4294967296 + u1 < (Q + 1) * y
section
variable {y y1 y0 u u1 Q q r : Int}
theorem Tri.QB (t : Tri y y1 y0 u u1 Q) : Q < 4294967296 := by
  obtain ⟨hy, h1, h2, h3, h4, hu, huy, g1, g2, hQ0, hQ1, hQ2⟩ := t
  apply Int.lt_of_not_ge
  intro h
  have : 4294967296 * y ≤ Q * y := Int.mul_le_mul_of_nonneg_right h (by omega)
  omega
theorem split_y (t : Tri y y1 y0 u u1 Q) (q : Int) : q * y = q * y1 * 4294967296 + q * y0 := by rw [t.hy, Int.mul_add, Int.mul_assoc]
/-- The trial is too great just where the test says so. -/
theorem Tri.great (t : Tri y y1 y0 u u1 Q) (hq : q * y1 + r = u) (h : Q < q) : r * 4294967296 + u1 < q * y0 := by
  have e := split_y t q
  have h5 : (Q + 1) * y ≤ q * y := Int.mul_le_mul_of_nonneg_right (by omega) (by have := t.hu; have := t.huy; omega)
  have := t.hQ2
  omega
theorem Tri.fine (t : Tri y y1 y0 u u1 Q) (hq : Q * y1 + r = u) : Q * y0 ≤ r * 4294967296 + u1 := by
  have e := split_y t Q
  have := t.hQ1
  omega
theorem Tri.broke (t : Tri y y1 y0 u u1 Q) (hq : q * y1 + r = u) (h : Q < q) (hqB : q ≤ 4294967297) (hr : 4294967296 ≤ r + y1) : q - 1 = Q := by
  have e := split_y t (q - 1)
  have hc0 : (q - 1) * y0 ≤ 4294967296 * 4294967295 := Int.mul_le_mul (by omega) (by have := t.h4; omega) t.h3 (by omega)
  have e2 : (q - 1) * y1 = q * y1 - y1 := by rw [Int.sub_mul, Int.one_mul]
  have h5 : ¬ Q + 1 ≤ q - 1 := fun hc => by
    have h6 : (Q + 1) * y ≤ (q - 1) * y := Int.mul_le_mul_of_nonneg_right hc (by have := t.hu; have := t.huy; omega)
    have := t.hQ2
    have := t.g1
    omega
  omega
theorem prodB {q y0 : Int} (h0 : 0 ≤ q) (hq : q < 4294967296) (h3 : 0 ≤ y0) (h4 : y0 < 4294967296) : 0 ≤ q * y0 ∧ q * y0 < 18446744073709551616 := by
  have a := Int.mul_nonneg h0 h3
  have b : q * y0 ≤ 4294967295 * 4294967295 := Int.mul_le_mul (by omega) (by omega) h3 (by omega)
  omega
theorem wm {x : Int} (h0 : 0 ≤ x) (h : x < 18446744073709551616) : IntKind.u64.wrap x = x := by rw [IntKind.wrap_u64]; omega
theorem test_great (t : Tri y y1 y0 u u1 Q) (hq : q * y1 + r = u) (h : Q < q) (hr0 : 0 ≤ r) (hr : r < 4294967296) (hqB : q < 4294967296) : decide (IntKind.u64.wrap (q * y0) > IntKind.u64.wrap (IntKind.u64.wrap (4294967296 * r) + u1)) = true := by
  have a := t.great hq h
  have b := prodB (q := q) (y0 := y0) (by have := t.hQ0; omega) hqB t.h3 t.h4
  have c := t.g1
  have d := t.g2
  rw [wm b.1 b.2, wm (x := 4294967296 * r) (by omega) (by omega), wm (by omega) (by omega)]
  simp only [decide_eq_true_eq]
  omega
theorem test_fine (t : Tri y y1 y0 u u1 Q) (hq : Q * y1 + r = u) (hr0 : 0 ≤ r) (hr : r < 4294967296) : decide (IntKind.u64.wrap (Q * y0) > IntKind.u64.wrap (IntKind.u64.wrap (4294967296 * r) + u1)) = false := by
  have a := t.fine hq
  have b := prodB (q := Q) (y0 := y0) t.hQ0 t.QB t.h3 t.h4
  have c := t.g1
  have d := t.g2
  rw [wm b.1 b.2, wm (x := 4294967296 * r) (by omega) (by omega), wm (by omega) (by omega)]
  simp only [decide_eq_false_iff_not]
  omega
end
theorem l0_part {y y1 y0 u u1 Q : Int} (t : Tri y y1 y0 u u1 Q) (s u0 : Int) (res : Int × Int) : ∀ (n k : Nat) (q r : Int), k ≤ n → q * y1 + r = u → 0 ≤ r → r < 4294967296 → Q ≤ q → q ≤ 4294967297 → bits_Div64.l0 k y s y1 y0 u u1 u0 q r = some res → ∃ k', bits_Div64.j2 k' y s y1 y0 u u1 u0 Q = some res := by
  intro n
  induction n with
  | zero =>
    intro k q r hk _ _ _ _ _ h
    obtain rfl : k = 0 := by omega
    simp [bits_Div64.l0] at h
  | succ n ih =>
    intro k q r hk hq hr0 hr hQ hqB h
    match k, h with
    | 0, h => simp [bits_Div64.l0] at h
    | 1, h => simp only [bits_Div64.l0, bits_Div64.j1] at h; split at h <;> cases h
    | k + 2, h =>
      simp only [bits_Div64.l0] at h
      by_cases hgt : Q < q
      · have hj : bits_Div64.j1 (k + 1) y s y1 y0 u u1 u0 q r true = some res := by
          by_cases hB : q ≥ 4294967296
          · rwa [if_pos hB] at h
          · rw [if_neg hB, test_great t hq hgt hr0 hr (by omega)] at h
            exact h
        have hQ0 := t.hQ0
        have hy1 := t.h1
        have hy2 := t.h2
        simp only [bits_Div64.j1, if_true] at hj
        rw [wm (x := r + y1) (by omega) (by omega), wm (x := q - 1) (by omega) (by omega)] at hj
        by_cases hb : r + y1 ≥ 4294967296
        · rw [if_pos hb, t.broke hq hgt hqB hb] at hj
          exact ⟨k, hj⟩
        · rw [if_neg hb] at hj
          exact ih k (q - 1) (r + y1) (by omega) (by rw [Int.sub_mul, Int.one_mul]; omega) (by omega) (by omega) (by omega) (by omega) hj
      · obtain rfl : q = Q := by omega
        have hB := t.QB
        rw [if_neg (by omega), test_fine t hq hr0 hr] at h
        simp only [bits_Div64.j1, Bool.false_eq_true, if_false] at h
        exact ⟨k, h⟩
theorem l1_part {y y1 y0 u u1 Q : Int} (t : Tri y y1 y0 u u1 Q) (s Q1 : Int) (hs : 0 ≤ s) (h10 : 0 ≤ Q1) (h1B : Q1 < 4294967296) (res : Int × Int) : ∀ (n k : Nat) (q r : Int), k ≤ n → q * y1 + r = u → 0 ≤ r → r < 4294967296 → Q ≤ q → q ≤ 4294967297 → bits_Div64.l1 k y s y1 y0 u1 Q1 r u q = some res →
    res = (Q1 * 4294967296 + Q, shr .u64 (u * 4294967296 + u1 - Q * y) s) := by
  have fin : ∀ q, q = Q → ((IntKind.u64.wrap ((IntKind.u64.wrap (Q1 * 4294967296)) + q), shr .u64 (IntKind.u64.wrap ((IntKind.u64.wrap ((IntKind.u64.wrap (u * 4294967296)) + u1)) - (IntKind.u64.wrap (q * y)))) s) : Int × Int) = (Q1 * 4294967296 + Q, shr .u64 (u * 4294967296 + u1 - Q * y) s) := by
    rintro q rfl
    have hB := t.QB
    have a := t.hQ0
    have b := t.hQ1
    have c := t.hQ2
    have d := t.huy
    have e := t.hu
    have e2 : (q + 1) * y = q * y + y := by rw [Int.add_mul, Int.one_mul]
    have hyM : y < 18446744073709551616 := by have := t.hy; have := t.h2; have := t.h4; omega
    rw [wm (x := Q1 * 4294967296) (by omega) (by omega), wm (x := Q1 * 4294967296 + q) (by omega) (by omega)]
    congr 2
    simp only [IntKind.wrap_u64]
    generalize q * y = P at *
    omega
  intro n
  induction n with
  | zero =>
    intro k q r hk _ _ _ _ _ h
    obtain rfl : k = 0 := by omega
    simp [bits_Div64.l1] at h
  | succ n ih =>
    intro k q r hk hq hr0 hr hQ hqB h
    match k, h with
    | 0, h => simp [bits_Div64.l1] at h
    | 1, h => simp only [bits_Div64.l1, bits_Div64.j4] at h; split at h <;> cases h
    | k + 2, h =>
      simp only [bits_Div64.l1] at h
      by_cases hgt : Q < q
      · have hj : bits_Div64.j4 (k + 1) y s y1 y0 u1 Q1 r u q true = some res := by
          by_cases hB : q ≥ 4294967296
          · rwa [if_pos hB] at h
          · rw [if_neg hB, test_great t hq hgt hr0 hr (by omega)] at h
            exact h
        have hQ0 := t.hQ0
        have hy1 := t.h1
        have hy2 := t.h2
        simp only [bits_Div64.j4, if_true, if_pos hs] at hj
        rw [wm (x := r + y1) (by omega) (by omega), wm (x := q - 1) (by omega) (by omega)] at hj
        by_cases hb : r + y1 ≥ 4294967296
        · rw [if_pos hb] at hj
          rw [← Option.some.inj hj]
          exact fin _ (t.broke hq hgt hqB hb)
        · rw [if_neg hb] at hj
          exact ih k (q - 1) (r + y1) (by omega) (by rw [Int.sub_mul, Int.one_mul]; omega) (by omega) (by omega) (by omega) (by omega) hj
      · obtain rfl : q = Q := by omega
        have hB := t.QB
        rw [if_neg (by omega), test_fine t hq hr0 hr] at h
        simp only [bits_Div64.j4, Bool.false_eq_true, if_false, if_pos hs] at h
        rw [← Option.some.inj h]
        exact fin _ rfl
/-- The first trial. -/
theorem Tri.start {y y1 y0 u u1 Q : Int} (t : Tri y y1 y0 u u1 Q) : (u / y1) * y1 + u % y1 = u ∧ 0 ≤ u % y1 ∧ u % y1 < 4294967296 ∧ Q ≤ u / y1 ∧ u / y1 ≤ 4294967297 := by
  obtain ⟨hy, h1, h2, h3, h4, hu, huy, g1, g2, hQ0, hQ1, hQ2⟩ := id t
  have d := Int.mul_ediv_add_emod u y1
  rw [Int.mul_comm] at d
  have m0 := Int.emod_nonneg u (show y1 ≠ 0 by omega)
  have m1 := Int.emod_lt_of_pos u (show 0 < y1 by omega)
  refine ⟨d, m0, by omega, ?_, ?_⟩
  · apply (Int.le_ediv_iff_mul_le (by omega)).2
    have e := split_y t Q
    have : 0 ≤ Q * y0 := Int.mul_nonneg hQ0 h3
    omega
  · apply Int.le_of_lt_add_one
    apply (Int.ediv_lt_iff_lt_mul (by omega)).2
    omega
theorem quot_tri {y y1 y0 u u1 : Int} (hy : y = y1 * 4294967296 + y0) (h1 : 2147483648 ≤ y1) (h2 : y1 < 4294967296) (h3 : 0 ≤ y0) (h4 : y0 < 4294967296) (hu : 0 ≤ u) (huy : u < y) (g1 : 0 ≤ u1) (g2 : u1 < 4294967296) :
    Tri y y1 y0 u u1 ((u * 4294967296 + u1) / y) := by
  have hyp : 0 < y := by omega
  have d := Int.mul_ediv_add_emod (u * 4294967296 + u1) y
  rw [Int.mul_comm] at d
  have m0 := Int.emod_nonneg (u * 4294967296 + u1) (show y ≠ 0 by omega)
  have m1 := Int.emod_lt_of_pos (u * 4294967296 + u1) hyp
  refine ⟨hy, h1, h2, h3, h4, hu, huy, g1, g2, Int.ediv_nonneg (by omega) (by omega), by omega, ?_⟩
  rw [Int.add_mul, Int.one_mul]
  omega
theorem tdivw {u y1 : Int} (hu : 0 ≤ u) (hM : u < 18446744073709551616) (h1 : 2147483648 ≤ y1) : IntKind.u64.wrap (Int.tdiv u y1) = u / y1 := by
  rw [Int.tdiv_eq_ediv_of_nonneg hu]
  have q0 : 0 ≤ u / y1 := Int.ediv_nonneg hu (by omega)
  have q1 : u / y1 ≤ u := Int.ediv_le_self _ hu
  exact wm q0 (by omega)
theorem restw {u y1 : Int} (hu : 0 ≤ u) (hM : u < 18446744073709551616) (h1 : 2147483648 ≤ y1) : IntKind.u64.wrap (u - IntKind.u64.wrap (u / y1 * y1)) = u % y1 := by
  have d := Int.mul_ediv_add_emod u y1
  rw [Int.mul_comm] at d
  have m0 := Int.emod_nonneg u (show y1 ≠ 0 by omega)
  have q0 : 0 ≤ u / y1 := Int.ediv_nonneg hu (by omega)
  have q2 : 0 ≤ u / y1 * y1 := Int.mul_nonneg q0 (by omega)
  rw [wm (x := u / y1 * y1) q2 (by omega), wm (by omega) (by omega)]
  omega
/-- Two digits of a quotient, by a divisor whose highest bit is set. -/
theorem l0_exact (k : Nat) {y y1 y0 u u1 u0 s : Int} (hs : 0 ≤ s) (hy : y = y1 * 4294967296 + y0) (h1 : 2147483648 ≤ y1) (h2 : y1 < 4294967296) (h3 : 0 ≤ y0) (h4 : y0 < 4294967296) (hu : 0 ≤ u) (huy : u < y) (g1 : 0 ≤ u1) (g2 : u1 < 4294967296) (e1 : 0 ≤ u0) (e2 : u0 < 4294967296)
    (res : Int × Int) (h : bits_Div64.l0 k y s y1 y0 u u1 u0 (u / y1) (u % y1) = some res) :
    res = ((u * 18446744073709551616 + u1 * 4294967296 + u0) / y, shr .u64 ((u * 18446744073709551616 + u1 * 4294967296 + u0) % y) s) := by
  have hyM : y < 18446744073709551616 := by omega
  have t := quot_tri hy h1 h2 h3 h4 hu huy g1 g2
  obtain ⟨a1, a2, a3, a4, a5⟩ := t.start
  obtain ⟨k', hk'⟩ := l0_part t s u0 res k k _ _ (Nat.le_refl _) a1 a2 a3 a4 a5 h
  have hQB := t.QB
  have hQ0 := t.hQ0
  have b1 := t.hQ1
  have b2 := t.hQ2
  generalize hQ : (u * 4294967296 + u1) / y = Q at *
  obtain ⟨V, hV⟩ : ∃ V, V = u * 4294967296 + u1 - Q * y := ⟨_, rfl⟩
  have bb : (Q + 1) * y = Q * y + y := by rw [Int.add_mul, Int.one_mul]
  have hV0 : 0 ≤ V := by omega
  have hVy : V < y := by omega
  have hVw : IntKind.u64.wrap ((IntKind.u64.wrap ((IntKind.u64.wrap (u * 4294967296)) + u1)) - (IntKind.u64.wrap (Q * y))) = V := by
    simp only [IntKind.wrap_u64]
    generalize Q * y = P at *
    omega
  match k', hk' with
  | 0, hk' => simp [bits_Div64.j2] at hk'
  | k' + 1, hk' =>
    simp only [bits_Div64.j2, if_neg (show ¬ y1 = 0 by omega)] at hk'
    rw [hVw, tdivw hV0 (by omega) h1, restw hV0 (by omega) h1] at hk'
    have t2 := quot_tri hy h1 h2 h3 h4 hV0 hVy e1 e2
    obtain ⟨c1, c2, c3, c4, c5⟩ := t2.start
    have hr := l1_part t2 s Q hs hQ0 hQB res k' k' _ _ (Nat.le_refl _) c1 c2 c3 c4 c5 hk'
    have d1 := t2.hQ1
    have d2 := t2.hQ2
    generalize (V * 4294967296 + u0) / y = Q0 at *
    have dd : (Q0 + 1) * y = Q0 * y + y := by rw [Int.add_mul, Int.one_mul]
    have hN : u * 18446744073709551616 + u1 * 4294967296 + u0 = (V * 4294967296 + u0 - Q0 * y) + y * (Q * 4294967296 + Q0) := by
      rw [Int.mul_add, ← Int.mul_assoc, Int.mul_comm y Q, Int.mul_comm y Q0]
      omega
    have hq : (u * 18446744073709551616 + u1 * 4294967296 + u0) / y = Q * 4294967296 + Q0 := by
      rw [hN, Int.add_mul_ediv_left _ _ (by omega), Int.ediv_eq_zero_of_lt (by omega) (by omega)]; omega
    have hm : (u * 18446744073709551616 + u1 * 4294967296 + u0) % y = V * 4294967296 + u0 - Q0 * y := by
      rw [hN, Int.add_mul_emod_self_left, Int.emod_eq_of_lt (by omega) (by omega)]
    rw [hr, hq, hm]
theorem wraps64 (n : Int) (h0 : 0 ≤ n) (h1 : n < 2 ^ 64) : IntKind.u64.wrap n = n := by rw [IntKind.wrap_u64]; omega
theorem div64_exact (k : Nat) (hi lo m : Int) (res : Int × Int) (hi0 : 0 ≤ hi) (him : hi < m) (hm : m ≤ 18446744073709551615) (lo0 : 0 ≤ lo) (lo1 : lo ≤ 18446744073709551615) (h : bits_Div64.f 40 hi lo m = some res) :
    res = ((hi * 18446744073709551616 + lo) / m, (hi * 18446744073709551616 + lo) % m) := by
  unfold bits_Div64.f at h
  rw [if_neg (by omega), if_neg (by omega)] at h
  by_cases hz : hi = 0
  · subst hz
    rw [if_pos rfl] at h
    rw [← Option.some.inj h, Int.zero_mul, Int.zero_add, Int.tdiv_eq_ediv_of_nonneg lo0, Int.tmod_eq_emod_of_nonneg lo0]
    have q0 : 0 ≤ lo / m := Int.ediv_nonneg lo0 (by omega)
    have q1 : lo / m ≤ lo := Int.ediv_le_self _ lo0
    rw [wm q0 (by omega)]
  · rw [if_neg hz, lz m (by omega) hm, Option.bind_some] at h
    have hL := bitLen_le64 m.toNat (by omega)
    have hsp := bitLen_spec m.toNat
    have hne : m.toNat ≠ 0 := by omega
    have hL0 : bitLen m.toNat ≠ 0 := fun e => by have := hsp.1; rw [e] at this; simp at this; omega
    generalize hLL : bitLen m.toNat = L at *
    obtain ⟨s, hs⟩ : ∃ s : Nat, s = 64 - L := ⟨_, rfl⟩
    have es : IntKind.u64.wrap (64 - (L : Int)) = (s : Int) := by rw [IntKind.wrap_u64]; omega
    have es2 : IntKind.u64.wrap (64 - (s : Int)) = ((64 - s : Nat) : Int) := by rw [IntKind.wrap_u64]; omega
    rw [es, es2] at h
    have e64 : (2 : Nat) ^ 64 = 18446744073709551616 := by simp only [Nat.reducePow]
    have p1 : 2 ^ L * 2 ^ s = 18446744073709551616 := by rw [← e64, ← Nat.pow_add]; congr 1; omega
    have p2 : 2 ^ (L - 1) * 2 ^ s = 9223372036854775808 := by rw [← Nat.pow_add, show L - 1 + s = 63 by omega]
    have p3 : 2 ^ (64 - s) * 2 ^ s = 18446744073709551616 := by rw [← e64, ← Nat.pow_add]; congr 1; omega
    have hpos : 0 < 2 ^ s := Nat.pow_pos (by decide)
    have l1 : m.toNat * 2 ^ s < 18446744073709551616 := by rw [← p1]; exact Nat.mul_lt_mul_of_pos_right hsp.1 hpos
    have l2 : 9223372036854775808 ≤ m.toNat * 2 ^ s := by rw [← p2]; exact Nat.mul_le_mul_right _ (hsp.2 hne)
    have hmin : ∀ n : Nat, n ≤ 64 → min ((n : Int)).toNat IntKind.u64.bits = n := fun n hn => by show min ((n : Int)).toNat 64 = n; omega
    have hy : shl .u64 m (s : Int) = ((m.toNat * 2 ^ s : Nat) : Int) := by
      unfold shl
      rw [hmin s (by omega)]
      have e2 : m * 2 ^ s = ((m.toNat * 2 ^ s : Nat) : Int) := by rw [Int.natCast_mul, Int.toNat_of_nonneg (by omega)]; simp
      rw [e2]; exact wm (by omega) (by omega)
    have hhi : shl .u64 hi (s : Int) = ((hi.toNat * 2 ^ s : Nat) : Int) := by
      unfold shl
      rw [hmin s (by omega)]
      have e2 : hi * 2 ^ s = ((hi.toNat * 2 ^ s : Nat) : Int) := by rw [Int.natCast_mul, Int.toNat_of_nonneg (by omega)]; simp
      have : hi.toNat * 2 ^ s ≤ m.toNat * 2 ^ s := Nat.mul_le_mul_right _ (by omega)
      rw [e2]; exact wm (by omega) (by omega)
    have hlo : shl .u64 lo (s : Int) = ((lo.toNat % 2 ^ (64 - s) * 2 ^ s : Nat) : Int) := by
      unfold shl
      rw [hmin s (by omega)]
      have e2 : lo * 2 ^ s = ((lo.toNat * 2 ^ s : Nat) : Int) := by rw [Int.natCast_mul, Int.toNat_of_nonneg (by omega)]; simp
      rw [e2, IntKind.wrap_u64]
      have : lo.toNat * 2 ^ s % 18446744073709551616 = lo.toNat % 2 ^ (64 - s) * 2 ^ s := by rw [← p3, Nat.mul_mod_mul_right]
      omega
    have hlr : shr .u64 lo ((64 - s : Nat) : Int) = ((lo.toNat / 2 ^ (64 - s) : Nat) : Int) := by
      unfold shr
      rw [hmin _ (by omega), Int.natCast_ediv, Int.toNat_of_nonneg (by omega)]
      simp
    have hA : lo.toNat / 2 ^ (64 - s) < 2 ^ s := by
      rw [Nat.div_lt_iff_lt_mul (Nat.pow_pos (by decide)), Nat.mul_comm, p3]
      omega
    have hB : lo.toNat % 2 ^ (64 - s) * 2 ^ s < 18446744073709551616 := by
      rw [← p3]; exact Nat.mul_lt_mul_of_pos_right (Nat.mod_lt _ (Nat.pow_pos (by decide))) hpos
    have hlm : hi.toNat * 2 ^ s + 2 ^ s ≤ m.toNat * 2 ^ s := by rw [← Nat.succ_mul]; exact Nat.mul_le_mul_right _ (by omega)
    have hor : Go.bits .or .u64 (shl .u64 hi (s : Int)) (shr .u64 lo ((64 - s : Nat) : Int)) = ((hi.toNat * 2 ^ s + lo.toNat / 2 ^ (64 - s) : Nat) : Int) := by
      rw [hhi, hlr, Int.natCast_add]
      have ep : ((2 : Int) ^ s) = ((2 ^ s : Nat) : Int) := by simp
      have ep64 : ((2 : Int) ^ 64) = 18446744073709551616 := by simp
      generalize lo.toNat / 2 ^ (64 - s) = A at hA
      have hA2 : A < 18446744073709551616 := by omega
      have hX : hi.toNat * 2 ^ s < 18446744073709551616 := by omega
      refine bits_join .u64 64 (by decide) wraps64 s _ _ (Int.natCast_nonneg _) ?_ (by rw [ep64]; exact Int.ofNat_lt.2 hX) (Int.natCast_nonneg _) (by rw [ep]; exact Int.ofNat_lt.2 hA) (by rw [ep64]; exact Int.ofNat_lt.2 hA2)
      rw [ep, ← Int.natCast_emod, Nat.mul_mod_left]; rfl
    have hdec : lo.toNat = lo.toNat / 2 ^ (64 - s) * 2 ^ (64 - s) + lo.toNat % 2 ^ (64 - s) := by
      have := Nat.div_add_mod lo.toNat (2 ^ (64 - s)); rw [Nat.mul_comm] at this; omega
    have hall : (hi.toNat * 18446744073709551616 + lo.toNat) * 2 ^ s = (hi.toNat * 2 ^ s + lo.toNat / 2 ^ (64 - s)) * 18446744073709551616 + lo.toNat % 2 ^ (64 - s) * 2 ^ s := by
      have q1 : lo.toNat * 2 ^ s = lo.toNat / 2 ^ (64 - s) * 18446744073709551616 + lo.toNat % 2 ^ (64 - s) * 2 ^ s := by
        conv => lhs; rw [hdec]
        rw [Nat.add_mul, Nat.mul_assoc, p3]
      rw [Nat.add_mul, Nat.add_mul, q1, Nat.mul_right_comm]
      omega
    rw [hor, hlo, hy] at h
    generalize hY : m.toNat * 2 ^ s = Y at *
    generalize hU : hi.toNat * 2 ^ s + lo.toNat / 2 ^ (64 - s) = U at *
    generalize hT : lo.toNat % 2 ^ (64 - s) * 2 ^ s = T at *
    have hUY : U < Y := by omega
    rw [and_low32 _ (by omega) (by omega), and_low32 _ (by omega) (by omega)] at h
    rw [if_pos (by omega), if_pos (by omega), if_neg (by omega), tdivw (by omega) (by omega) (by omega), restw (by omega) (by omega) (by omega)] at h
    have hr := l0_exact 40 (by omega) (by omega) (by omega) (by omega) (by omega) (by omega) (by omega) (by omega) (by omega) (by omega) (by omega) (by omega) res h
    rw [hr]
    have hN : (U : Int) * 18446744073709551616 + (T : Int) / 4294967296 * 4294967296 + (T : Int) % 4294967296 = (((hi.toNat * 18446744073709551616 + lo.toNat) * 2 ^ s : Nat) : Int) := by
      rw [hall]; omega
    have hn2 : (hi * 18446744073709551616 + lo) = ((hi.toNat * 18446744073709551616 + lo.toNat : Nat) : Int) := by omega
    have hm2 : m = ((m.toNat : Nat) : Int) := by omega
    rw [hN, hn2, ← hY]
    conv => rhs; rw [hm2]
    have f1 : (hi.toNat * 18446744073709551616 + lo.toNat) * 2 ^ s / (m.toNat * 2 ^ s) = (hi.toNat * 18446744073709551616 + lo.toNat) / m.toNat := Nat.mul_div_mul_right _ _ hpos
    have f2 : (hi.toNat * 18446744073709551616 + lo.toNat) * 2 ^ s % (m.toNat * 2 ^ s) = (hi.toNat * 18446744073709551616 + lo.toNat) % m.toNat * 2 ^ s := Nat.mul_mod_mul_right _ _ _
    rw [← Int.natCast_ediv, ← Int.natCast_emod, ← Int.natCast_ediv, ← Int.natCast_emod, f1, f2]
    congr 1
    unfold shr
    rw [hmin s (by omega)]
    have ep : ((2 : Int) ^ s) = ((2 ^ s : Nat) : Int) := by simp
    rw [ep, ← Int.natCast_ediv, Nat.mul_div_cancel _ hpos]
end Mb
end Go.Proofs.Ytlnhpccapadpmaa.Pure
