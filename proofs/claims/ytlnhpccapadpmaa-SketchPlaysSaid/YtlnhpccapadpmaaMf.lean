/- Plain laws of spoorref13: Index, Span, Check; every good list is of a row. -/
import Derived.Test.YtlnhpccapadpmaaMb
import Derived.Test.YtlnhpccapadpmaaPr0c
namespace Go.Proofs.Ytlnhpccapadpmaa.Pure
set_option linter.unusedVariables false
set_option linter.unusedSimpArgs false
open Go.RowKit Go.Proofs.Ytlnhpccapadpmaa.Pr Go.Proofs.YtlnhpccapadpmaaW.PrintWords Go.Proofs.YtlnhpccapadpmaaW.PrintLast Go.Proofs.YtlnhpccapadpmaaW.PrintMore

theorem rix0 (x0 : Int) (k : Nat) : ∀ (n : Nat) (e x4 : Int), 0 ≤ e → e + n ≤ 100 → (2 : Int) ^ n ≤ x4 → x4 < 2 ^ (n + 1) → x4 ≤ 18446744073709551615 → spoorref13_Index.l0 (k + n + 1) x0 e x4 = spoorref13_Index.l1 k (e + n) x0 0 := by
  intro n
  induction n with
  | zero =>
    intro e x4 h0 h1 h2 h3 h4
    have e1 : (2 : Int) ^ (0 + 1) = 2 := by decide
    rw [e1] at h3
    simp only [spoorref13_Index.l0]
    rw [if_neg (by omega)]
    simp
  | succ n ih =>
    intro e x4 h0 h1 h2 h3 h4
    rw [Int.pow_succ] at h2 h3
    have hp : (0 : Int) < 2 ^ n := Int.pow_pos (by decide)
    have hp2 : (2 : Int) ^ (n + 1) = 2 ^ n * 2 := Int.pow_succ _ _
    rw [show k + (n + 1) + 1 = (k + n + 1) + 1 by omega]
    rw [spoorref13_Index.l0]
    rw [if_pos (by omega), w64 (by omega) (by omega), Int.tdiv_eq_ediv_of_nonneg (by omega), wu (by omega) (by omega)]
    rw [ih (e + 1) (x4 / 2) (by omega) (by omega) (by omega) (by omega) (by omega)]
    congr 1; omega
theorem div_two (x : Int) (m : Nat) (h : 0 ≤ x) : x / 2 / 2 ^ m = x / 2 ^ (m + 1) := by
  rw [Int.pow_succ, Int.mul_comm, Int.ediv_ediv_of_nonneg (by decide)]
theorem rix1 (e : Int) (he : 0 ≤ e) (he2 : e ≤ 100) (k : Nat) : ∀ (m : Nat) (x5 i : Int), 0 ≤ i → i + m = e - 5 → 0 ≤ x5 → x5 ≤ 18446744073709551615 →
    spoorref13_Index.l1 (k + m + 1) e x5 i = some (wrap64 ((wrap64 ((wrap64 (64 + (wrap64 (32 * (wrap64 (e - 6)))))) + (wrap64 (x5 / 2 ^ m)))) - 32)) := by
  intro m
  induction m with
  | zero =>
    intro x5 i h0 h1 h2 h3
    simp only [spoorref13_Index.l1]
    rw [if_neg (by rw [w64] <;> omega)]
    simp
  | succ m ih =>
    intro x5 i h0 h1 h2 h3
    rw [show k + (m + 1) + 1 = (k + m + 1) + 1 by omega]
    rw [spoorref13_Index.l1]
    rw [if_pos (by rw [w64] <;> omega), w64 (n := i + 1) (by omega) (by omega), Int.tdiv_eq_ediv_of_nonneg (by omega), wu (by omega) (by omega)]
    rw [ih (x5 / 2) (i + 1) (by omega) (by omega) (by omega) (by omega), div_two _ _ h2]
theorem rindex_eq (v : Int) (h0 : 0 ≤ v) (h1 : v ≤ 18446744073709551615) : ∃ k, spoorref13_Index.f k v = some (barOf v) := by
  unfold spoorref13_Index.f barOf
  by_cases c : v < 64
  · exact ⟨0, by rw [if_pos c, if_pos c, w64 (by omega) (by omega)]⟩
  · obtain ⟨s, q, a1, a2, a3, a4, a5, a6⟩ := bar_parts v (by omega) h1
    have hp : (0 : Int) < 2 ^ s := Int.pow_pos (by decide)
    have c1 : (q : Int) * 2 ^ s ≤ v := by rw [← a6]; exact Int.ediv_mul_le _ (by omega)
    have c2 : v < ((q : Int) + 1) * 2 ^ s := by rw [← a6]; exact Int.lt_ediv_add_one_mul_self _ hp
    have c3 : ((q : Int) + 1) * 2 ^ s ≤ 64 * 2 ^ s := Int.mul_le_mul_of_nonneg_right (by omega) (by omega)
    have c4 : (32 : Int) * 2 ^ s ≤ q * 2 ^ s := Int.mul_le_mul_of_nonneg_right (by omega) (by omega)
    have d1 : (2 : Int) ^ (s + 5) = 2 ^ s * 32 := by rw [Int.pow_add]; rfl
    have d2 : (2 : Int) ^ (s + 5 + 1) = 2 ^ s * 64 := by rw [show s + 5 + 1 = s + 6 by omega, Int.pow_add]; rfl
    refine ⟨(0 + s + 1) + (s + 5) + 1, ?_⟩
    rw [if_neg c, if_neg c, rix0 v (0 + s + 1) (s + 5) 0 v (by omega) (by omega) (by omega) (by omega) h1, rix1 _ (by omega) (by omega) 0 s v 0 (by omega) (by omega) h0 h1, a5, Nat.add_sub_cancel, a6]
    congr 1
    unfold wrap64; omega

theorem rsp (x0 : Int) (k : Nat) (s : Nat) (hs : s ≤ 58) (hx : wrap64 (Int.tdiv (wrap64 (x0 - 64)) 32) = (s : Int) - 1) : ∀ (m : Nat) (x5 x6 x7 : Int), 0 ≤ x7 → x7 + m = s → 0 ≤ x5 → 0 ≤ x6 → x5 * 2 ^ m ≤ 18446744073709551615 → x6 * 2 ^ m ≤ 18446744073709551615 →
    spoorref13_Span.l0 (k + m + 1) x0 x5 x6 x7 = some (x5 * 2 ^ m, IntKind.u64.wrap (x5 * 2 ^ m + IntKind.u64.wrap (x6 * 2 ^ m - 1)), 0) := by
  intro m
  induction m with
  | zero =>
    intro x5 x6 x7 h0 h1 h2 h3 h4 h5
    simp only [spoorref13_Span.l0]
    rw [hx, if_neg (by omega)]
    simp
  | succ m ih =>
    intro x5 x6 x7 h0 h1 h2 h3 h4 h5
    have hp : (1 : Int) ≤ 2 ^ m := Int.pow_pos (by decide)
    have g : ∀ x : Int, x * 2 ^ (m + 1) = 2 * x * 2 ^ m := fun x => by rw [Int.pow_succ, Int.mul_comm (2 ^ m) 2, ← Int.mul_assoc, Int.mul_comm x 2]
    rw [g] at h4 h5 ⊢
    rw [g]
    have l1 : 2 * x5 ≤ 2 * x5 * 2 ^ m := by have := Int.mul_le_mul_of_nonneg_left hp (show 0 ≤ 2 * x5 by omega); omega
    have l2 : 2 * x6 ≤ 2 * x6 * 2 ^ m := by have := Int.mul_le_mul_of_nonneg_left hp (show 0 ≤ 2 * x6 by omega); omega
    rw [show k + (m + 1) + 1 = (k + m + 1) + 1 by omega]
    rw [spoorref13_Span.l0, hx, if_pos (by omega), w64 (by omega) (by omega), wu (n := 2 * x5) (by omega) (by omega), wu (n := 2 * x6) (by omega) (by omega)]
    exact ih (2 * x5) (2 * x6) (x7 + 1) (by omega) (by omega) (by omega) (by omega) h4 h5
/-- Both tell the same span. -/
theorem span_both (i : Int) (h1 : -9223372036854775808 ≤ i) (h2 : i ≤ 9223372036854775807) : ∃ u v f, (∀ k, sketch_Span.f (k + 1) i = some (u, v, f)) ∧ ∃ k2, spoorref13_Span.f k2 i = some (u, v, f) := by
  by_cases c0 : i < 0
  · refine ⟨0, 0, 1, fun k => ?_, 1, ?_⟩
    · unfold sketch_Span.f; rw [if_pos c0]; rfl
    · unfold spoorref13_Span.f; rw [if_pos c0]; rfl
  by_cases c1 : i ≥ 1920
  · refine ⟨0, 0, 1, fun k => ?_, 1, ?_⟩
    · unfold sketch_Span.f; rw [if_neg c0, decide_eq_true c1]; rfl
    · unfold spoorref13_Span.f; rw [if_neg c0, decide_eq_true c1]; rfl
  by_cases c2 : i < 64
  · refine ⟨i, i, 0, fun k => span_low k i (by omega) c2, 1, ?_⟩
    unfold spoorref13_Span.f
    rw [if_neg c0, decide_eq_false c1]
    simp only [spoorref13_Span.j0]
    rw [if_neg (by simp), if_pos c2, wu (by omega) (by omega)]
  · obtain ⟨s, q, hs1, hs2, hq1, hq2, rfl⟩ : ∃ s q : Nat, 1 ≤ s ∧ s ≤ 58 ∧ 32 ≤ q ∧ q < 64 ∧ i = 32 * s + q := ⟨((i - 32) / 32).toNat, (i - 32 * ((i - 32) / 32)).toNat, by omega, by omega, by omega, by omega, by omega⟩
    refine ⟨_, _, _, fun k => span_high k s q hs1 hs2 hq1 hq2, (0 + s + 1) + 1, ?_⟩
    have hp := pow_le s hs2
    have hp0 : (0 : Int) < 2 ^ s := Int.pow_pos (by decide)
    have hm : 0 ≤ (q : Int) * 2 ^ s := Int.mul_nonneg (by omega) (by omega)
    have hm2 : (q : Int) * 2 ^ s ≤ 63 * 2 ^ s := Int.mul_le_mul_of_nonneg_right (by omega) (by omega)
    have e0 : wrap64 (32 * (s : Int) + q - 64) = 32 * (s : Int) + q - 64 := w64 (by omega) (by omega)
    have e1 : Int.tdiv (32 * (s : Int) + q - 64) 32 = s - 1 := by rw [Int.tdiv_eq_ediv_of_nonneg (by omega)]; omega
    have e2 : Int.tmod (32 * (s : Int) + q - 64) 32 = q - 32 := by rw [Int.tmod_eq_emod_of_nonneg (by omega)]; omega
    have e3 : wrap64 (Int.tdiv (wrap64 (32 * (s : Int) + q - 64)) 32) = (s : Int) - 1 := by rw [e0, e1, w64 (by omega) (by omega)]
    unfold spoorref13_Span.f
    rw [if_neg c0, decide_eq_false c1]
    rw [spoorref13_Span.j0]
    rw [if_neg (by simp), if_neg c2, e0, e2, show (32 : Int) + (q - 32) = q by omega, w64 (by omega) (by omega), wu (by omega) (by omega)]
    rw [rsp _ 0 s hs2 e3 s q 1 0 (by omega) (by omega) (by omega) (by omega) (by omega) (by omega)]
    rw [Int.one_mul, wu (n := (2 : Int) ^ s - 1) (by omega) (by omega), wu (by omega) (by omega)]

theorem rd_at (l : List S61) (i : Nat) (h : i < l.length) : rd_T61 l (i : Int) = l[i] := by simp [rd_T61, List.getD, h]
theorem rcheck_on (l : List S61) (hn : l.length ≤ 9223372036854775806) (d : Nat) : ∀ (k i : Nat) (last : Int), i ≤ l.length → l.length - i = d → d < k → (i = 0 → last = -1) → (0 < i → last = (rd_T61 l ((i : Int) - 1)).f0 ∧ 0 ≤ last) →
    spoorref13_Check.l0 k l i = some (if barsOK last (l.drop i) = true then 0 else 131) := by
  induction d with
  | zero =>
    intro k i last h1 hd hk _ _
    obtain ⟨k, rfl⟩ : ∃ m, k = m + 1 := ⟨k - 1, by omega⟩
    rw [spoorref13_Check.l0, if_neg (by omega), List.drop_eq_nil_of_le (by omega)]
    rfl
  | succ d ih =>
    intro k i last h1 hd hk hz hp
    obtain ⟨k, rfl⟩ : ∃ m, k = m + 1 := ⟨k - 1, by omega⟩
    have hi : i < l.length := by omega
    rw [spoorref13_Check.l0, if_pos (by omega), if_pos (by omega), List.drop_eq_getElem_cons hi]
    have hg := rd_at l i hi
    have nx := ih k (i + 1) (rd_T61 l (i : Int)).f0 (by omega) (by omega) (by omega) (fun h => by omega)
    have hgl : ∀ a0 : 0 ≤ (rd_T61 l (i : Int)).f0, 0 < i + 1 → (rd_T61 l (i : Int)).f0 = (rd_T61 l (((i + 1 : Nat) : Int) - 1)).f0 ∧ 0 ≤ (rd_T61 l (i : Int)).f0 := fun a0 _ => ⟨by rw [show ((i + 1 : Nat) : Int) - 1 = (i : Int) by omega], a0⟩
    rw [← hg]
    generalize rd_T61 l (i : Int) = b at *
    simp only [barsOK]
    by_cases a0 : b.f0 < 0
    · rw [if_pos a0]
      have : b.f0 ≤ last := by
        rcases Nat.eq_zero_or_pos i with h | h
        · have := hz h; omega
        · have := (hp h).2; omega
      simp [this]
    rw [if_neg a0]
    by_cases a1 : b.f0 ≥ 1920
    · rw [if_pos a1]; simp [a1]
    rw [if_neg a1]
    by_cases a2 : b.f1 = 0
    · rw [if_pos a2]; simp [a2]
    rw [if_neg a2]
    have e1 : ((i : Int) + 1 - 1).toNat = i := by omega
    have nx' := nx (hgl (by omega))
    push_cast at nx'
    have ew : wrap64 ((i : Int) + 1) = (i : Int) + 1 := w64 (by omega) (by omega)
    rw [ew, nx']
    have fin : ¬ b.f0 ≤ last → (some (if barsOK b.f0 (l.drop (i + 1)) = true then (0 : Int) else 131)) = some (if (!decide (b.f0 ≤ last) && !decide (b.f0 ≥ 1920) && !(b.f1 == 0) && barsOK b.f0 (l.drop (i + 1))) = true then 0 else 131) := fun h => by simp [h, a1, a2]
    by_cases a3 : (i : Int) > 0
    · have hl := hp (by omega)
      rw [if_pos a3, w64 (by omega) (by omega), if_pos (by omega), if_pos (by omega), ← hl.1]
      by_cases a4 : b.f0 ≤ last
      · rw [if_pos a4]; simp [a4]
      · rw [if_neg a4]; exact fin a4
    · rw [if_neg a3]
      have := hz (by omega)
      exact fin (by omega)
theorem rcheck_eq (l : List S61) (hn : l.length ≤ 9223372036854775806) (k : Nat) (hk : l.length < k) : spoorref13_Check.f k l = some (if barsOK (-1) l = true then 0 else 131) := by
  have := rcheck_on l hn l.length k 0 (-1) (by omega) (by omega) hk (fun _ => rfl) (fun h => by omega)
  simpa [spoorref13_Check.f] using this

theorem onto_on : ∀ (m : Nat) (n : Int) (l : List S61), n + m = 1920 → barsOK (n - 1) l = true → l.all okB = true → ∃ r : List Int, r.length = m ∧ (∀ x ∈ r, W x) ∧ barsFrom n r = l := by
  intro m
  induction m with
  | zero =>
    intro n l hn h1 h2
    cases l with
    | nil => exact ⟨[], rfl, by simp, rfl⟩
    | cons b t =>
      simp only [barsOK, Bool.and_eq_true, Bool.not_eq_true', decide_eq_false_iff_not, beq_eq_false_iff_ne] at h1
      omega
  | succ m ih =>
    intro n l hn h1 h2
    cases l with
    | nil =>
      obtain ⟨r, a, b, c⟩ := ih (n + 1) [] (by omega) rfl rfl
      refine ⟨0 :: r, by simp [a], ?_, by simp [barsFrom, c]⟩
      intro x hx
      rcases List.mem_cons.1 hx with rfl | hx
      · exact W0
      · exact b x hx
    | cons b t =>
      simp only [barsOK, Bool.and_eq_true, Bool.not_eq_true', decide_eq_false_iff_not, beq_eq_false_iff_ne] at h1
      obtain ⟨⟨⟨p1, p2⟩, p3⟩, p4⟩ := h1
      have h2' := h2
      simp only [List.all_cons, Bool.and_eq_true, okB, decide_eq_true_eq] at h2
      by_cases e : b.f0 = n
      · obtain ⟨r, a, bb, c⟩ := ih (n + 1) t (by omega) (by rw [show n + 1 - 1 = b.f0 by omega]; exact p4) (by simpa [okB] using h2.2)
        refine ⟨b.f1 :: r, by simp [a], ?_, ?_⟩
        · intro x hx
          rcases List.mem_cons.1 hx with rfl | hx
          · exact h2.1
          · exact bb x hx
        · have : b.f1 > 0 := by have := h2.1.1; omega
          simp only [barsFrom]
          rw [if_pos this, c, ← e]
      · obtain ⟨r, a, bb, c⟩ := ih (n + 1) (b :: t) (by omega) (by
          simp only [barsOK, Bool.and_eq_true, Bool.not_eq_true', decide_eq_false_iff_not, beq_eq_false_iff_ne]
          exact ⟨⟨⟨by omega, p2⟩, p3⟩, p4⟩) h2'
        refine ⟨0 :: r, by simp [a], ?_, by simp [barsFrom, c]⟩
        intro x hx
        rcases List.mem_cons.1 hx with rfl | hx
        · exact W0
        · exact bb x hx
/-- Every good list is of a row. -/
theorem bars_onto (l : List S61) (h1 : barsOK (-1) l = true) (h2 : l.all okB = true) : ∃ r, Row r ∧ bars r = l := by
  obtain ⟨r, a, b, c⟩ := onto_on 1920 0 l rfl h1 h2
  exact ⟨r, ⟨a, b⟩, c⟩
end Go.Proofs.Ytlnhpccapadpmaa.Pure
