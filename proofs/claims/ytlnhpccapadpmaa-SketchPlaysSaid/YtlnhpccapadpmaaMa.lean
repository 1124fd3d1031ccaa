/- Plain laws of package sketch: Len64, Index, Span. -/
import Derived.Test.YtlnhpccapadpmaaPr0a
import Derived.Test.YtlnhpccapadpmaaXRk
namespace Go.Proofs.Ytlnhpccapadpmaa.Pure
set_option linter.unusedVariables false
set_option linter.unusedSimpArgs false
open Go.RowKit Go.Proofs.Ytlnhpccapadpmaa.Pr Go.Proofs.YtlnhpccapadpmaaW.PrintWords Go.Proofs.YtlnhpccapadpmaaW.PrintLast Go.Proofs.YtlnhpccapadpmaaW.PrintMore

theorem pow_le (s : Nat) (h : s ≤ 58) : (2 : Int) ^ s ≤ 288230376151711744 := by
  have h1 : (2 : Nat) ^ s ≤ 2 ^ 58 := Nat.pow_le_pow_right (by decide) h
  have e : (2 : Nat) ^ 58 = 288230376151711744 := by simp only [Nat.reducePow]
  rw [e] at h1
  have h2 : ((2 ^ s : Nat) : Int) ≤ ((288230376151711744 : Nat) : Int) := Int.ofNat_le.2 h1
  simpa using h2
theorem w64 {n : Int} (h : -9223372036854775808 ≤ n) (h' : n ≤ 9223372036854775807) : wrap64 n = n := by unfold wrap64; omega
theorem wu {n : Int} (h : 0 ≤ n) (h' : n ≤ 18446744073709551615) : IntKind.u64.wrap n = n := wrap_u64' n h h'
def tab : ByteArray := (⟨#[0, 1, 2, 2, 3, 3, 3, 3, 4, 4, 4, 4, 4, 4, 4, 4, 5, 5, 5, 5, 5, 5, 5, 5, 5, 5, 5, 5, 5, 5, 5, 5, 6, 6, 6, 6, 6, 6, 6, 6, 6, 6, 6, 6, 6, 6, 6, 6, 6, 6, 6, 6, 6, 6, 6, 6, 6, 6, 6, 6, 6, 6, 6, 6, 7, 7, 7, 7, 7, 7, 7, 7, 7, 7, 7, 7, 7, 7, 7, 7, 7, 7, 7, 7, 7, 7, 7, 7, 7, 7, 7, 7, 7, 7, 7, 7, 7, 7, 7, 7, 7, 7, 7, 7, 7, 7, 7, 7, 7, 7, 7, 7, 7, 7, 7, 7, 7, 7, 7, 7, 7, 7, 7, 7, 7, 7, 7, 7, 8, 8, 8, 8, 8, 8, 8, 8, 8, 8, 8, 8, 8, 8, 8, 8, 8, 8, 8, 8, 8, 8, 8, 8, 8, 8, 8, 8, 8, 8, 8, 8, 8, 8, 8, 8, 8, 8, 8, 8, 8, 8, 8, 8, 8, 8, 8, 8, 8, 8, 8, 8, 8, 8, 8, 8, 8, 8, 8, 8, 8, 8, 8, 8, 8, 8, 8, 8, 8, 8, 8, 8, 8, 8, 8, 8, 8, 8, 8, 8, 8, 8, 8, 8, 8, 8, 8, 8, 8, 8, 8, 8, 8, 8, 8, 8, 8, 8, 8, 8, 8, 8, 8, 8, 8, 8, 8, 8, 8, 8, 8, 8, 8, 8, 8, 8, 8, 8, 8, 8, 8, 8, 8, 8, 8, 8, 8, 8]⟩ : ByteArray)
theorem tab_fin : ∀ m : Fin 256, bt tab ((m : Nat) : Int) = ((bitLen m : Nat) : Int) := by decide +kernel
theorem tab_get (i : Int) (h0 : 0 ≤ i) (h : i < 256) : bt tab i = ((bitLen i.toNat : Nat) : Int) := by
  have := tab_fin ⟨i.toNat, by omega⟩
  simpa [Int.toNat_of_nonneg h0] using this
theorem j0_eq (k : Nat) (x0 x2 : Int) : bits_Len64.j0 (k + 1) x0 x2 = (if x0 ≥ 65536 then (if (x0 / 65536) ≥ 256 then (if 0 ≤ (((x0 / 65536) / 256) % 256) then (if (((x0 / 65536) / 256) % 256) < 256 then (some (wrap64 ((wrap64 ((wrap64 (x2 + 16)) + 8)) + (wrap64 (bt tab (((x0 / 65536) / 256) % 256)))))) else (none)) else (none)) else (if 0 ≤ ((x0 / 65536) % 256) then (if ((x0 / 65536) % 256) < 256 then (some (wrap64 ((wrap64 (x2 + 16)) + (wrap64 (bt tab ((x0 / 65536) % 256)))))) else (none)) else (none))) else (if x0 ≥ 256 then (if 0 ≤ ((x0 / 256) % 256) then (if ((x0 / 256) % 256) < 256 then (some (wrap64 ((wrap64 (x2 + 8)) + (wrap64 (bt tab ((x0 / 256) % 256)))))) else (none)) else (none)) else (if 0 ≤ ((x0) % 256) then (if ((x0) % 256) < 256 then (some (wrap64 (x2 + (wrap64 (bt tab ((x0) % 256)))))) else (none)) else (none)))) := rfl
theorem bitLen_le64 (n : Nat) (h : n ≤ 18446744073709551615) : bitLen n ≤ 64 := by
  have h1 := bitLen_spec n
  by_cases e : n = 0
  · subst e; simp [bitLen]
  · have h2 := h1.2 e
    have : ¬ 64 < bitLen n := fun hc => by
      have h3 : 2 ^ 64 ≤ 2 ^ (bitLen n - 1) := Nat.pow_le_pow_right (by decide) (by omega)
      have : (2 : Nat) ^ 64 = 18446744073709551616 := by simp only [Nat.reducePow]
      omega
    omega
theorem len64 (k : Nat) (v : Int) (h0 : 0 ≤ v) (h1 : v ≤ 18446744073709551615) : bits_Len64.f (k + 1) v = some ((bitLen v.toNat : Nat) : Int) := by
  have key : ∀ (x n : Int), 0 ≤ x → x ≤ 4294967295 → 0 ≤ n → n ≤ 32 → bits_Len64.j0 (k + 1) x n = some (n + ((bitLen x.toNat : Nat) : Int)) := by
    intro x n hx0 hx1 hn0 hn1
    have tg := tab_get
    rw [j0_eq]
    have b8 : ∀ y : Int, 0 ≤ y → y < 256 → bitLen y.toNat ≤ 8 := fun y h0 h1 => bitLen_le8 _ (by omega)
    by_cases c1 : x ≥ 65536
    · rw [if_pos c1]
      by_cases c2 : x / 65536 ≥ 256
      · rw [if_pos c2, if_pos (by omega), if_pos (by omega), tg _ (by omega) (by omega)]
        have e := bitLen_shift x.toNat 24 (by simp only [Nat.reducePow]; omega)
        have e2 : (x / 65536 / 256 % 256).toNat = x.toNat / 2 ^ 24 := by simp only [Nat.reducePow]; omega
        have := b8 (x / 65536 / 256 % 256) (by omega) (by omega)
        rw [e2] at this ⊢
        rw [e]
        congr 1; unfold wrap64; omega
      · rw [if_neg c2, if_pos (by omega), if_pos (by omega), tg _ (by omega) (by omega)]
        have e := bitLen_shift x.toNat 16 (by simp only [Nat.reducePow]; omega)
        have e2 : (x / 65536 % 256).toNat = x.toNat / 2 ^ 16 := by simp only [Nat.reducePow]; omega
        have := b8 (x / 65536 % 256) (by omega) (by omega)
        rw [e2] at this ⊢
        rw [e]
        congr 1; unfold wrap64; omega
    · rw [if_neg c1]
      by_cases c2 : x ≥ 256
      · rw [if_pos c2, if_pos (by omega), if_pos (by omega), tg _ (by omega) (by omega)]
        have e := bitLen_shift x.toNat 8 (by simp only [Nat.reducePow]; omega)
        have e2 : (x / 256 % 256).toNat = x.toNat / 2 ^ 8 := by simp only [Nat.reducePow]; omega
        have := b8 (x / 256 % 256) (by omega) (by omega)
        rw [e2] at this ⊢
        rw [e]
        congr 1; unfold wrap64; omega
      · rw [if_neg c2, if_pos (by omega), if_pos (by omega), tg _ (by omega) (by omega)]
        have e2 : (x % 256).toNat = x.toNat := by omega
        have := b8 (x % 256) (by omega) (by omega)
        rw [e2] at this ⊢
        congr 1; unfold wrap64; omega
  unfold bits_Len64.f
  by_cases c : v ≥ 4294967296
  · rw [if_pos c, key _ _ (by omega) (by omega) (by omega) (by omega)]
    have e := bitLen_shift v.toNat 32 (by simp only [Nat.reducePow]; omega)
    rw [e]
    have e2 : (v / 4294967296).toNat = v.toNat / 2 ^ 32 := by simp only [Nat.reducePow]; omega
    rw [e2]
    congr 1
  · rw [if_neg c, key _ _ h0 (by omega) (by omega) (by omega)]
    simp

theorem and31 (n : Int) : bits .and .i64 n 31 = n % 32 := by
  have h31 : (BitVec.ofInt 64 31).toNat = 2 ^ 5 - 1 := by decide
  have key : (BitVec.ofInt 64 n &&& BitVec.ofInt 64 31).toNat = (n % ((2 ^ 64 : Nat) : Int)).toNat % 2 ^ 5 := by
    rw [BitVec.toNat_and, BitVec.toNat_ofInt, h31, Nat.and_two_pow_sub_one_eq_mod]
  show IntKind.i64.wrap ((BitVec.ofInt 64 n &&& BitVec.ofInt 64 31).toNat : Nat) = n % 32
  rw [key, IntKind.wrap_i64]
  omega
/-- What bar a value is in: a place and a shift. -/
def barOf (v : Int) : Int := if v < 64 then v else 32 * ((bitLen v.toNat : Nat) - 6 : Int) + v / 2 ^ (bitLen v.toNat - 6)
theorem bitLen_ge7 (n : Nat) (h : 64 ≤ n) : 7 ≤ bitLen n := by
  have h1 := (bitLen_spec n).1
  have : ¬ bitLen n ≤ 6 := fun hc => by
    have h3 : 2 ^ bitLen n ≤ 2 ^ 6 := Nat.pow_le_pow_right (by decide) hc
    have : (2 : Nat) ^ 6 = 64 := by simp only [Nat.reducePow]
    omega
  omega
/-- From 64 on: v stands between q 2^s and (q + 1) 2^s, q from 32 to 63. -/
theorem bar_parts (v : Int) (h0 : 64 ≤ v) (h1 : v ≤ 18446744073709551615) : ∃ s q : Nat, 1 ≤ s ∧ s ≤ 58 ∧ 32 ≤ q ∧ q < 64 ∧ bitLen v.toNat = s + 6 ∧ v / 2 ^ s = q := by
  have g7 := bitLen_ge7 v.toNat (by omega)
  have g64 := bitLen_le64 v.toNat (by omega)
  obtain ⟨s, hs⟩ : ∃ s, bitLen v.toNat = s + 6 := ⟨bitLen v.toNat - 6, by omega⟩
  have sp := bitLen_spec v.toNat
  rw [hs] at sp
  have e1 : 2 ^ (s + 6) = 64 * 2 ^ s := by rw [Nat.pow_add]; omega
  have e2 : 2 ^ (s + 6 - 1) = 32 * 2 ^ s := by rw [show s + 6 - 1 = s + 5 by omega, Nat.pow_add]; omega
  have lo := sp.2 (by omega)
  have hi := sp.1
  rw [e1] at hi
  rw [e2] at lo
  have hp : 0 < 2 ^ s := Nat.pow_pos (by decide)
  have q1 : 32 ≤ v.toNat / 2 ^ s := (Nat.le_div_iff_mul_le hp).2 lo
  have q2 : v.toNat / 2 ^ s < 64 := (Nat.div_lt_iff_lt_mul hp).2 hi
  refine ⟨s, v.toNat / 2 ^ s, by omega, by omega, q1, q2, hs, ?_⟩
  have : ((v.toNat : Nat) : Int) = v := by omega
  rw [← this]
  push_cast
  simp
theorem x3 (s q : Nat) (hs1 : 1 ≤ s) (hs2 : s ≤ 58) (hq1 : 32 ≤ q) (hq2 : q < 64) : wrap64 ( wrap64 (64 + wrap64 (32 * wrap64 (wrap64 ((((s + 6 : Nat) : Int)) - 1) - 6))) + wrap64 (q : Int) % 32) = 32 * (((s + 6 : Nat) : Int) - 6) + q := by
    unfold wrap64; omega
theorem index_eq (k : Nat) (v : Int) (h0 : 0 ≤ v) (h1 : v ≤ 18446744073709551615) : sketch_Index.f (k + 1) v = some (barOf v) := by
  unfold sketch_Index.f barOf
  by_cases c : v < 64
  · rw [if_pos c, if_pos c, w64 (by omega) (by omega)]
  · rw [if_neg c, if_neg c, len64 k v h0 h1]
    obtain ⟨s, q, hs1, hs2, hq1, hq2, hb, hv⟩ := bar_parts v (by omega) h1
    simp only [Option.bind_some]
    rw [hb]
    have e1 : wrap64 (wrap64 (((s + 6 : Nat) : Int) - 1) - 5) = s := by unfold wrap64; omega
    rw [e1, if_pos (by omega)]
    have e2 : shr .u64 v (s : Int) = q := by
      unfold shr
      rw [Nat.min_eq_left (by simp [IntKind.bits]; omega)]
      simpa using hv
    have e3 := x3 s q hs1 hs2 hq1 hq2
    rw [e2, and31]
    simp only [Nat.add_sub_cancel]
    rw [hv]
    rw [e3]
theorem span_low (k : Nat) (i : Int) (h0 : 0 ≤ i) (h1 : i < 64) : sketch_Span.f (k + 1) i = some (i, i, 0) := by
  unfold sketch_Span.f
  rw [if_neg (by omega)]
  have : decide (i ≥ 1920) = false := decide_eq_false (by omega)
  rw [this]
  simp only [sketch_Span.j0]
  rw [if_neg (by simp), if_pos h1, wu (by omega) (by omega)]
theorem span_high (k s q : Nat) (hs1 : 1 ≤ s) (hs2 : s ≤ 58) (hq1 : 32 ≤ q) (hq2 : q < 64) : sketch_Span.f (k + 1) (32 * s + q) = some ((q : Int) * 2 ^ s, (q : Int) * 2 ^ s + (2 ^ s - 1), 0) := by
  have hp := pow_le s hs2
  have hp0 : (0 : Int) < 2 ^ s := Int.pow_pos (by decide)
  have hm : 0 ≤ (q : Int) * 2 ^ s := Int.mul_nonneg (by omega) (by omega)
  have hm2 : (q : Int) * 2 ^ s ≤ 63 * 2 ^ s := Int.mul_le_mul_of_nonneg_right (by omega) (by omega)
  unfold sketch_Span.f
  rw [if_neg (by omega)]
  have : decide ((32 * (s : Int) + q) ≥ 1920) = false := decide_eq_false (by omega)
  rw [this]
  simp only [sketch_Span.j0]
  rw [if_neg (by simp), if_neg (by omega)]
  have e0 : wrap64 (32 * (s : Int) + q - 64) = 32 * (s : Int) + q - 64 := w64 (by omega) (by omega)
  rw [e0]
  have e1 : Int.tdiv (32 * (s : Int) + q - 64) 32 = s - 1 := by rw [Int.tdiv_eq_ediv_of_nonneg (by omega)]; omega
  have e2 : Int.tmod (32 * (s : Int) + q - 64) 32 = q - 32 := by rw [Int.tmod_eq_emod_of_nonneg (by omega)]; omega
  have e3 : wrap64 (wrap64 (wrap64 ((s : Int) - 1) + 6) - 5) = s := by unfold wrap64; omega
  rw [e1, e2, e3, if_pos (by omega)]
  have e4 : shl .u64 1 (s : Int) = 2 ^ s := by
    unfold shl
    rw [Nat.min_eq_left (by simp [IntKind.bits]; omega)]
    simp only [Int.toNat_natCast, Int.one_mul]
    exact wu (by omega) (by omega)
  have e5 : IntKind.u64.wrap (32 + IntKind.u64.wrap ((q : Int) - 32)) = q := by rw [wu (n := (q : Int) - 32) (by omega) (by omega), wu (by omega) (by omega)]; omega
  rw [e4, e5, wu (n := (q : Int) * 2 ^ s) (by omega) (by omega), wu (n := (2 : Int) ^ s - 1) (by omega) (by omega), wu (by omega) (by omega)]
end Go.Proofs.Ytlnhpccapadpmaa.Pure
