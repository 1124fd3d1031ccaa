/- The pure statement of SketchBars: every value is in one bar; bars follow one another without a gap. -/
import Derived.Test.YtlnhpccapadpmaaPr2b
import Derived.Test.YtlnhpccapadpmaaMa
namespace Go.Proofs.Ytlnhpccapadpmaa.Pure
open Go.RowKit Go.Proofs.Ytlnhpccapadpmaa.Pr Go.Proofs.YtlnhpccapadpmaaW.PrintWords Go.Proofs.YtlnhpccapadpmaaW.PrintLast

theorem awake20 : spoorlaw13_awake.f 20 = some true := by kernel_rfl
theorem pick_eq (c n : Int) (hc : -9223372036854775808 ≤ c) (hc' : c ≤ 9223372036854775807) (hn : 0 < n) : ∃ r, spoorlaw13_pick.f c n = some r ∧ 0 ≤ r ∧ r < n := by
  unfold spoorlaw13_pick.f
  by_cases c0 : c < 0
  · rw [if_pos c0, if_neg (by omega)]
    have e : wrap64 (-(wrap64 (c + 1))) = -(c + 1) := by unfold wrap64; omega
    rw [e, Int.tmod_eq_emod_of_nonneg (by omega)]
    exact ⟨_, rfl, Int.emod_nonneg _ (by omega), Int.emod_lt_of_pos _ hn⟩
  · rw [if_neg c0, if_neg (by omega), Int.tmod_eq_emod_of_nonneg (by omega)]
    exact ⟨_, rfl, Int.emod_nonneg _ (by omega), Int.emod_lt_of_pos _ hn⟩
theorem pow_succ' (s : Nat) : (2 : Int) ^ (s + 1) = 2 * 2 ^ s := by rw [Int.pow_succ]; omega
theorem span_next (k : Nat) (i : Int) (h0 : 0 ≤ i) (h1 : i < 1919) : ∃ lo hi hi2, sketch_Span.f (k + 1) i = some (lo, hi, 0) ∧ sketch_Span.f (k + 1) (i + 1) = some (hi + 1, hi2, 0) ∧ 0 ≤ hi ∧ hi + 1 ≤ hi2 ∧ hi < 18446744073709551615 := by
  by_cases c : i < 63
  · exact ⟨i, i, i + 1, span_low k i h0 (by omega), span_low k (i + 1) (by omega) (by omega), h0, by omega, by omega⟩
  by_cases c2 : i = 63
  · subst c2
    refine ⟨63, 63, 65, span_low k 63 (by omega) (by omega), ?_, by omega, by omega, by omega⟩
    exact span_high k 1 32 (by omega) (by omega) (by omega) (by omega)
  obtain ⟨s, hs⟩ : ∃ s : Nat, i / 32 = s + 1 := ⟨(i / 32 - 1).toNat, by omega⟩
  obtain ⟨q, hq⟩ : ∃ q : Nat, i % 32 + 32 = q := ⟨(i % 32 + 32).toNat, by omega⟩
  obtain rfl : i = 32 * s + q := by omega
  have hp := pow_le s (by omega)
  have hp0 : (0 : Int) < 2 ^ s := Int.pow_pos (by decide)
  have hm : 0 ≤ (q : Int) * 2 ^ s := Int.mul_nonneg (by omega) (by omega)
  have hm2 : (q : Int) * 2 ^ s ≤ 63 * 2 ^ s := Int.mul_le_mul_of_nonneg_right (by omega) (by omega)
  by_cases c3 : q < 63
  · have hm3 : (q : Int) * 2 ^ s ≤ 62 * 2 ^ s := Int.mul_le_mul_of_nonneg_right (by omega) (by omega)
    have e := span_high k s (q + 1) (by omega) (by omega) (by omega) (by omega)
    refine ⟨_, _, ((q + 1 : Nat) : Int) * 2 ^ s + (2 ^ s - 1), span_high k s q (by omega) (by omega) (by omega) (by omega), ?_, by omega, ?_, by omega⟩
    · rw [show (32 * (s : Int) + q + 1) = 32 * s + ((q + 1 : Nat) : Int) by omega, e]
      congr 2
      push_cast
      rw [Int.add_mul]; omega
    · push_cast
      rw [Int.add_mul]; omega
  · obtain rfl : q = 63 := by omega
    have e := span_high k (s + 1) 32 (by omega) (by omega) (by omega) (by omega)
    have ep := pow_succ' s
    have hp1 := pow_le (s + 1) (by omega)
    refine ⟨_, _, ((32 : Nat) : Int) * 2 ^ (s + 1) + (2 ^ (s + 1) - 1), span_high k s 63 (by omega) (by omega) (by omega) (by omega), ?_, by omega, ?_, by omega⟩
    · rw [show (32 * (s : Int) + (63 : Nat) + 1) = 32 * ((s + 1 : Nat) : Int) + ((32 : Nat) : Int) by omega, e]
      congr 2
      omega
    · omega

theorem bars_rest (k : Nat) (raw : Int) (hr : -9223372036854775808 ≤ raw) (hr' : raw ≤ 9223372036854775807) : spoorlaw13_SketchBars.j1 (k + 2) raw false = some true := by
  obtain ⟨r, hp, hr0, hr1⟩ := pick_eq raw 1919 hr hr' (by omega)
  obtain ⟨lo, hi, hi2, e1, e2, g0, g1, g2⟩ := span_next k r hr0 hr1
  have e3 : sketch_Span.f (k + 1) 1919 = some (9295429630892703744 * 2 - 432345564227567616 + 0, 18446744073709551615, 0) := by
    have := span_high k 58 63 (by omega) (by omega) (by omega) (by omega)
    exact this
  have e4 := span_low k 0 (by omega) (by omega)
  simp only [spoorlaw13_SketchBars.j1]
  rw [if_neg (by simp), hp]
  simp only [Option.bind_some]
  rw [w64 (by omega) (by omega), e1, e2, e3, e4]
  simp only [Option.bind_some]
  simp only [if_true]
  rw [if_pos (by omega), wu (by omega) (by omega), if_pos rfl, if_pos g1]
  rfl

theorem bar_high (s q : Nat) (hs1 : 1 ≤ s) (hs2 : s ≤ 58) (hq1 : 32 ≤ q) (hq2 : q < 64) (x : Int) (h0 : (q : Int) * 2 ^ s ≤ x) (h1 : x ≤ (q : Int) * 2 ^ s + (2 ^ s - 1)) : barOf x = 32 * s + q := by
  have hp := pow_le s hs2
  have hp0 : (0 : Int) < 2 ^ s := Int.pow_pos (by decide)
  have hm : (32 : Int) * 2 ^ s ≤ q * 2 ^ s := Int.mul_le_mul_of_nonneg_right (by omega) (by omega)
  have hm2 : (q : Int) * 2 ^ s ≤ 63 * 2 ^ s := Int.mul_le_mul_of_nonneg_right (by omega) (by omega)
  have h2 : (2 : Int) ≤ 2 ^ s := by
    obtain ⟨t, rfl⟩ : ∃ t, s = t + 1 := ⟨s - 1, by omega⟩
    have := pow_succ' t
    have : (0 : Int) < 2 ^ t := Int.pow_pos (by decide)
    omega
  obtain ⟨s', q', a1, a2, a3, a4, a5, a6⟩ := bar_parts x (by omega) (by omega)
  have b0 : (0 : Int) < 2 ^ s' := Int.pow_pos (by decide)
  have c1 : (q' : Int) * 2 ^ s' ≤ x := by rw [← a6]; exact Int.ediv_mul_le _ (by omega)
  have c2 : x < ((q' : Int) + 1) * 2 ^ s' := by rw [← a6]; exact Int.lt_ediv_add_one_mul_self _ b0
  have hss : s' = s := by
    rcases Nat.lt_trichotomy s' s with h | h | h
    · exfalso
      have e : (2 : Int) ^ s = 2 ^ (s - s' - 1) * (2 * 2 ^ s') := by
        rw [← pow_succ', ← Int.pow_add]; congr 1; omega
      have e1 : (1 : Int) ≤ 2 ^ (s - s' - 1) := Int.pow_pos (by decide)
      have e2 : (2 * 2 ^ s' : Int) ≤ 2 ^ s := by
        rw [e]; have := Int.mul_le_mul_of_nonneg_right e1 (show (0 : Int) ≤ 2 * 2 ^ s' by omega); omega
      have e3 : ((q' : Int) + 1) * 2 ^ s' ≤ 64 * 2 ^ s' := Int.mul_le_mul_of_nonneg_right (by omega) (by omega)
      omega
    · exact h
    · exfalso
      have e : (2 : Int) ^ s' = 2 ^ (s' - s - 1) * (2 * 2 ^ s) := by
        rw [← pow_succ', ← Int.pow_add]; congr 1; omega
      have e1 : (1 : Int) ≤ 2 ^ (s' - s - 1) := Int.pow_pos (by decide)
      have e2 : (2 * 2 ^ s : Int) ≤ 2 ^ s' := by
        rw [e]; have := Int.mul_le_mul_of_nonneg_right e1 (show (0 : Int) ≤ 2 * 2 ^ s by omega); omega
      have e3 : (32 : Int) * 2 ^ s' ≤ q' * 2 ^ s' := Int.mul_le_mul_of_nonneg_right (by omega) (by omega)
      omega
  subst hss
  have hqq : (q' : Int) = q := by
    rw [← a6]
    have e1 : (q : Int) ≤ x / 2 ^ s' := (Int.le_ediv_iff_mul_le b0).2 h0
    have e2 : x / 2 ^ s' < q + 1 := by
      refine (Int.ediv_lt_iff_lt_mul b0).2 ?_
      rw [Int.add_mul]; omega
    omega
  unfold barOf
  rw [if_neg (by omega), a5, Nat.add_sub_cancel, a6, hqq]
  omega
theorem SketchBars : spoorlaw13_SketchBars.Pure := by
  intro v raw hv hr
  simp only [Lit.wf, IntKind.min, IntKind.max, IntKind.signed, IntKind.bits, Bool.and_eq_true, decide_eq_true_eq] at hv hr
  have v0 : 0 ≤ v := by simpa using hv.1
  have v1 : v ≤ 18446744073709551615 := by have := hv.2; simp at this; omega
  have r0 : -9223372036854775808 ≤ raw := by have := hr.1; simp at this; omega
  have r1 : raw ≤ 9223372036854775807 := by have := hr.2; simp at this; omega
  have rest := bars_rest 17 raw r0 r1
  refine ⟨20, ?_⟩
  unfold spoorlaw13_SketchBars.f
  rw [awake20, index_eq 19 v v0 v1]
  simp only [Option.bind_some]
  by_cases c : v < 64
  · have e : barOf v = v := by unfold barOf; rw [if_pos c]
    have ei := index_eq 19 v v0 v1
    rw [e] at ei ⊢
    rw [span_low 19 v v0 c]
    simp only [Option.bind_some, if_true]
    rw [if_neg (by omega), if_neg (by omega), if_neg (by omega), if_neg (by omega), ei]
    simp only [Option.bind_some, if_true, bne_self_eq_false, spoorlaw13_SketchBars.j0]
    rw [if_neg (by simp), if_pos c, w64 (by omega) (by omega), if_pos rfl, if_neg (by omega)]
    exact rest
  · obtain ⟨s, q, a1, a2, a3, a4, a5, a6⟩ := bar_parts v (by omega) v1
    have b0 : (0 : Int) < 2 ^ s := Int.pow_pos (by decide)
    have c1 : (q : Int) * 2 ^ s ≤ v := by rw [← a6]; exact Int.ediv_mul_le _ (by omega)
    have c2 : v < ((q : Int) + 1) * 2 ^ s := by rw [← a6]; exact Int.lt_ediv_add_one_mul_self _ b0
    rw [Int.add_mul] at c2
    have e := bar_high s q a1 a2 a3 a4 v c1 (by omega)
    have hp := pow_le s a2
    have hm : (32 : Int) * 2 ^ s ≤ q * 2 ^ s := Int.mul_le_mul_of_nonneg_right (by omega) (by omega)
    have hm2 : (q : Int) * 2 ^ s ≤ 63 * 2 ^ s := Int.mul_le_mul_of_nonneg_right (by omega) (by omega)
    have i1 := index_eq 19 ((q : Int) * 2 ^ s) (by omega) (by omega)
    rw [bar_high s q a1 a2 a3 a4 _ (Int.le_refl _) (by omega)] at i1
    have i2 := index_eq 19 ((q : Int) * 2 ^ s + (2 ^ s - 1)) (by omega) (by omega)
    rw [bar_high s q a1 a2 a3 a4 _ (by omega) (Int.le_refl _)] at i2
    rw [e, span_high 19 s q a1 a2 a3 a4]
    simp only [Option.bind_some, if_true]
    rw [if_neg (by omega), if_neg (by omega), if_neg (by omega), if_neg (by omega), i1]
    simp only [Option.bind_some, if_true]
    rw [i2]
    simp only [Option.bind_some, bne_self_eq_false, spoorlaw13_SketchBars.j0]
    have h2 : Int.tdiv ((q : Int) * 2 ^ s) 32 = (q : Int) * 2 ^ s / 32 := Int.tdiv_eq_ediv_of_nonneg (by omega)
    rw [if_neg (by simp), if_neg c, if_pos (by omega), h2]
    have h3 : decide ((IntKind.u64.wrap ((q : Int) * 2 ^ s + (2 ^ s - 1) - (q : Int) * 2 ^ s)) > (IntKind.u64.wrap ((q : Int) * 2 ^ s / 32))) = false := by
      rw [wu (by omega) (by omega), wu (by omega) (by omega)]
      exact decide_eq_false (by omega)
    rw [h3]
    exact rest
end Go.Proofs.Ytlnhpccapadpmaa.Pure
