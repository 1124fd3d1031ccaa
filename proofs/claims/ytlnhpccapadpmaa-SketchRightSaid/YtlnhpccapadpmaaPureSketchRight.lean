/- The pure statement of SketchRight: Quantile's two numbers hold the right value; it never falls. -/
import Derived.Test.YtlnhpccapadpmaaPr2c
import Derived.Test.YtlnhpccapadpmaaMe
namespace Go.Proofs.Ytlnhpccapadpmaa.Pure
set_option linter.unusedVariables false
set_option linter.unusedSimpArgs false
open Go.RowKit Go.Proofs.Ytlnhpccapadpmaa.Pr Go.Proofs.YtlnhpccapadpmaaW.PrintWords Go.Proofs.YtlnhpccapadpmaaW.PrintLast Go.Proofs.YtlnhpccapadpmaaW.PrintMore

/-- A bar's span: of just the values that are in it. -/
theorem span_bar (i : Int) (h0 : 0 ≤ i) (h1 : i < 1920) : ∃ lo hi, (∀ k, 0 < k → sketch_Span.f k i = some (lo, hi, 0)) ∧ (∀ v, W v → barOf v = i → lo ≤ v ∧ v ≤ hi) ∧ barOf lo = i ∧ barOf hi = i ∧ W lo ∧ W hi := by
  have hW : ∀ z : Int, 0 ≤ z → z ≤ 18446744073709551615 → W z := fun z a b => ⟨a, b⟩
  by_cases c : i < 64
  · refine ⟨i, i, fun k hk => ?_, fun v hv e => ?_, ?_, ?_, hW _ h0 (by omega), hW _ h0 (by omega)⟩
    · obtain ⟨k, rfl⟩ : ∃ m, k = m + 1 := ⟨k - 1, by omega⟩
      exact span_low k i h0 c
    · by_cases cv : v < 64
      · unfold barOf at e; rw [if_pos cv] at e; omega
      · exfalso
        obtain ⟨s, q, a1, a2, a3, a4, a5, a6⟩ := bar_parts v (by omega) hv.2
        have ev : barOf v = 32 * s + q := by unfold barOf; rw [if_neg cv, a5, Nat.add_sub_cancel, a6]; omega
        omega
    · unfold barOf; rw [if_pos c]
    · unfold barOf; rw [if_pos c]
  obtain ⟨s, hs⟩ : ∃ s : Nat, i / 32 = s + 1 := ⟨(i / 32 - 1).toNat, by omega⟩
  obtain ⟨q, hq⟩ : ∃ q : Nat, i % 32 + 32 = q := ⟨(i % 32 + 32).toNat, by omega⟩
  obtain rfl : i = 32 * s + q := by omega
  have hp := pow_le s (by omega)
  have hp0 : (0 : Int) < 2 ^ s := Int.pow_pos (by decide)
  have hm : 0 ≤ (q : Int) * 2 ^ s := Int.mul_nonneg (by omega) (by omega)
  have hm2 : (q : Int) * 2 ^ s ≤ 63 * 2 ^ s := Int.mul_le_mul_of_nonneg_right (by omega) (by omega)
  refine ⟨(q : Int) * 2 ^ s, (q : Int) * 2 ^ s + (2 ^ s - 1), fun k hk => ?_, fun v hv e => ?_, bar_high s q (by omega) (by omega) (by omega) (by omega) _ (Int.le_refl _) (by omega), bar_high s q (by omega) (by omega) (by omega) (by omega) _ (by omega) (Int.le_refl _), hW _ hm (by omega), hW _ (by omega) (by omega)⟩
  · obtain ⟨k, rfl⟩ : ∃ m, k = m + 1 := ⟨k - 1, by omega⟩
    exact span_high k s q (by omega) (by omega) (by omega) (by omega)
  · by_cases cv : v < 64
    · unfold barOf at e; rw [if_pos cv] at e; omega
    · obtain ⟨s', q', a1, a2, a3, a4, a5, a6⟩ := bar_parts v (by omega) hv.2
      have ev : barOf v = 32 * s' + q' := by unfold barOf; rw [if_neg cv, a5, Nat.add_sub_cancel, a6]; omega
      obtain rfl : s' = s := by omega
      have hqq : (q' : Int) = q := by omega
      have c1 : (q' : Int) * 2 ^ s' ≤ v := by rw [← a6]; exact Int.ediv_mul_le _ (by omega)
      have c2 : v < ((q' : Int) + 1) * 2 ^ s' := by rw [← a6]; exact Int.lt_ediv_add_one_mul_self _ hp0
      rw [hqq] at c1 c2
      rw [Int.add_mul] at c2
      omega
theorem rowC_snoc (l : List Int) (x : Int) : rowC zrow (l ++ [x]) = putRow (rowC zrow l) (barOf x) 1 := by unfold rowC; rw [List.foldl_append]; rfl
theorem right_on (l : List Int) (hl : ∀ v ∈ l, W v) (hn : l.length ≤ 2147483647) (a b c : Int) (k0 : Nat) (h : spoorlaw13_SketchRight.l0 k0 l a b c true (bars (rowC zrow l)) l.length = some true) (d : Nat) :
    ∀ i : Nat, i ≤ l.length → l.length - i = d → spoorlaw13_SketchRight.l0 (k0 + d) l a b c true (bars (rowC zrow (l.take i))) i = some true := by
  induction d with
  | zero =>
    intro i h1 hd
    obtain rfl : i = l.length := by omega
    rw [List.take_length]; exact h
  | succ d ih =>
    intro i h1 hd
    have hi : i < l.length := by omega
    have hg : rd l (i : Int) = l[i] := by simp [rd, List.getD, hi]
    have hx := hl l[i] (List.getElem_mem _)
    have hr : Row (rowC zrow (l.take i)) := Row.rowC (fun v hv => hl v (List.mem_of_mem_take hv)) Row.zero
    have e := ih (i + 1) (by omega) (by omega)
    rw [List.take_succ_eq_append_getElem hi, rowC_snoc] at e
    rw [show k0 + (d + 1) = (k0 + d) + 1 from rfl]
    simp only [spoorlaw13_SketchRight.l0]
    rw [if_pos (by omega), if_pos (by omega), hg, (add_bars hr hx W1).1]
    simp only [Option.bind_some, if_true]
    rw [w64 (by omega) (by omega)]
    push_cast at e
    exact e
/-- Where Quantile finds its bar. -/
theorem quant_at (l : List Int) (hl : ∀ v ∈ l, W v) (hn : l.length ≤ 2147483647) (h1 : 1 ≤ l.length) (num den : Int) (n0 : 0 ≤ num) (n1 : num ≤ den) (d0 : 0 < den) (d1 : den ≤ 1000000) (k : Nat) (hk : 2000 < k) :
    ∃ (i : Nat) (lo hi : Int), i < 1920 ∧ below l i < (rk l.length num den).toNat ∧ (rk l.length num den).toNat ≤ below l ((i : Int) + 1) ∧ (∀ k, 0 < k → sketch_Span.f k (i : Int) = some (lo, hi, 0)) ∧
      (∀ v, W v → barOf v = (i : Int) → lo ≤ v ∧ v ≤ hi) ∧ barOf lo = (i : Int) ∧ barOf hi = (i : Int) ∧ W lo ∧ W hi ∧ sketch_Quantile.f k (bars (rowC zrow l)) num den = some (lo, hi, 0) := by
  have hr : Row (rowC zrow l) := Row.rowC hl Row.zero
  have hpos : ∀ x ∈ rowC zrow l, 0 ≤ x := fun x hx => (hr.2 x hx).1
  have hall : below l 1920 = l.length := by
    unfold below
    rw [List.countP_eq_length]
    intro v hv
    have := (barOf_range (hl v hv)).2
    simp; omega
  have hsum : (rowC zrow l).sum = l.length := by
    have := take_sum l hl hn 1920 (Nat.le_refl _)
    rw [List.take_of_length_le (by rw [hr.1]; exact Nat.le_refl _)] at this
    rw [this]
    exact congrArg Nat.cast hall
  have ht : tot (bars (rowC zrow l)) = l.length := by rw [← hsum]; exact tot_from _ 0 hpos
  have rb := rk_bounds l.length num den (by omega) n0 n1 d0
  obtain ⟨i, hi, hq, ha, hb⟩ := qfind_from (rowC zrow l) 0 0 (rk l.length num den) hpos (by omega) (by omega)
  rw [hr.1] at hi
  rw [take_sum l hl hn i (by omega)] at ha
  rw [take_sum l hl hn (i + 1) (by omega)] at hb
  push_cast at hb
  rw [Int.zero_add] at hq
  obtain ⟨lo, hi', s1, s2, s3, s4, s5, s6⟩ := span_bar (i : Int) (by omega) (by omega)
  refine ⟨i, lo, hi', hi, by omega, by omega, s1, s2, s3, s4, s5, s6, ?_⟩
  refine quant_eq _ hr num den k hk n0 n1 d0 d1 ?_ (by rw [ht]; omega) i lo hi' (by rw [ht]; exact hq) s1
  intro e
  rw [e] at ht
  simp [tot] at ht
  omega
theorem pick_r (c n : Int) (hc : (Lit.int .i64 c).wf = true) (hn : 0 < n) : ∃ r, spoorlaw13_pick.f c n = some r ∧ 0 ≤ r ∧ r < n := by
  simp only [Lit.wf, IntKind.min, IntKind.max, IntKind.signed, IntKind.bits, Bool.and_eq_true, decide_eq_true_eq] at hc
  have h1 := hc.1
  have h2 := hc.2
  simp at h1 h2
  exact pick_eq c n (by omega) (by omega) hn
theorem W_wf {n : Int} (h : (Lit.int .u64 n).wf = true) : W n := by
  simp only [Lit.wf, IntKind.min, IntKind.max, IntKind.signed, IntKind.bits, Bool.and_eq_true, decide_eq_true_eq] at h
  have h1 := h.1
  have h2 := h.2
  simp at h1 h2
  exact ⟨by omega, show n ≤ 18446744073709551615 by omega⟩
theorem place_eq (n num den : Int) (hn0 : 1 ≤ n) (hn : n ≤ 2147483647) (n0 : 0 ≤ num) (n1 : num ≤ den) (d0 : 0 < den) (d1 : den ≤ 1000000) :
    wrap64 ((mx 1 (wrap64 (Int.tdiv (wrap64 ((wrap64 ((wrap64 (num * n)) + den)) - 1)) den))) - 1) = rk n num den - 1 := by
  have p0 : 0 ≤ num * n := Int.mul_nonneg n0 (by omega)
  have p1 : num * n ≤ 1000000 * 2147483647 := Int.mul_le_mul (by omega) hn (by omega) (by omega)
  have hr := rk_bounds n num den hn0 n0 n1 d0
  have e1 : wrap64 ((wrap64 ((wrap64 (num * n)) + den)) - 1) = n * num + (den - 1) := by
    rw [w64 (n := num * n) (by omega) (by omega), w64 (n := num * n + den) (by omega) (by omega), w64 (by omega) (by omega), Int.mul_comm num n]; omega
  have hm : num * n = n * num := Int.mul_comm _ _
  have e2 : Int.tdiv (n * num + (den - 1)) den = (n * num + (den - 1)) / den := Int.tdiv_eq_ediv_of_nonneg (by omega)
  have e3 : 0 ≤ (n * num + (den - 1)) / den := Int.ediv_nonneg (by omega) (by omega)
  have e5 : mx 1 ((n * num + (den - 1)) / den) = rk n num den := by unfold mx rk; split <;> split <;> omega
  have e4 : (n * num + (den - 1)) / den ≤ n := by unfold rk at hr; split at hr <;> omega
  rw [e1, e2, w64 (n := (n * num + (den - 1)) / den) (by omega) (by omega), e5, w64 (by omega) (by omega)]
theorem right_end (l : List Int) (hl : ∀ v ∈ l, W v) (hn : l.length ≤ 2147483647) (num less den : Int) (n0 : 0 ≤ less) (n1 : less ≤ num) (n2 : num ≤ den) (d0 : 0 < den) (d1 : den ≤ 1000000) (k : Nat) (hk : 2000 < k) :
    spoorlaw13_SketchRight.l0 (k + 2) l num less den true (bars (rowC zrow l)) l.length = some true := by
  have hr : Row (rowC zrow l) := Row.rowC hl Row.zero
  have hm0 : 0 ≤ num := by omega
  have wn : IntKind.u64.wrap num = num := wu hm0 (by omega)
  have wd : IntKind.u64.wrap den = den := wu (by omega) (by omega)
  have wl : IntKind.u64.wrap less = less := wu (by omega) (by omega)
  have wlen : IntKind.u64.wrap (l.length : Int) = l.length := wu (by omega) (by omega)
  simp only [spoorlaw13_SketchRight.l0]
  rw [if_neg (by omega), wn, wd, wlen]
  by_cases h0 : l.length = 0
  · have : l = [] := List.eq_nil_of_length_eq_zero h0
    subst this
    have e0 : bars (rowC zrow []) = [] := by kernel_rfl
    have e1 : sketch_Count.f (k + 1) [] = some (0, 0, 0) := by
      have := count_eq zrow Row.zero (k + 1) (by omega) (by have : bars zrow = [] := e0; rw [this]; decide)
      have h2 : bars zrow = [] := e0
      rw [h2] at this
      exact this
    have e2 : sketch_Quantile.f (k + 1) [] num den = some (0, 0, 132) := by
      have hc : sketch_Check.f [] = some 0 := by kernel_rfl
      unfold sketch_Quantile.f
      rw [hc]
      simp
    rw [e0, e1, e2]
    simp only [Option.bind_some, if_true, List.length_nil]
    simp only [spoorlaw13_SketchRight.j1]
    rfl
  · have ht : tot (bars (rowC zrow l)) = l.length := by
      have hall : below l 1920 = l.length := by
        unfold below
        rw [List.countP_eq_length]
        intro v hv
        have := (barOf_range (hl v hv)).2
        simp; omega
      have := take_sum l hl hn 1920 (Nat.le_refl _)
      rw [List.take_of_length_le (by rw [hr.1]; exact Nat.le_refl _)] at this
      have e := tot_from (rowC zrow l) 0 (fun x hx => (hr.2 x hx).1)
      rw [this] at e
      rw [show (1920 : Nat) = (1920 : Nat) from rfl] at e
      refine e.trans (congrArg Nat.cast hall)
    obtain ⟨i1, lo, hi, a1, a2, a3, a4, a5, a6, a7, a8, a9, aq⟩ := quant_at l hl hn (by omega) num den hm0 n2 d0 d1 (k + 1) (by omega)
    obtain ⟨i2, lo2, hi2, b1, b2, b3, b4, b5, b6, b7, b8, b9, bq⟩ := quant_at l hl hn (by omega) less den n0 (by omega) d0 d1 k (by omega)
    have rb := rk_bounds l.length num den (by omega) hm0 n2 d0
    have rm := rk_mono l.length less num den (by omega) n0 n1 d0
    obtain ⟨r, hrr⟩ : ∃ r : Nat, rk l.length num den = r := ⟨(rk l.length num den).toNat, by omega⟩
    have hb := rank_bar l hl r (by omega) (by omega) i1 (by rw [hrr] at a2; simpa using a2) (by rw [hrr] at a3; simpa using a3)
    have hsl := (sorted_ok l).2.length_eq
    have hgd : rd (sortedL l) (rk l.length num den - 1) = (sortedL l).getD (r - 1) 0 := by unfold rd; rw [hrr]; congr 1; omega
    have hmem : (sortedL l).getD (r - 1) 0 ∈ sortedL l := by
      have : r - 1 < (sortedL l).length := by omega
      simp only [List.getD, this, List.getElem?_eq_getElem, Option.getD_some]
      exact List.getElem_mem _
    have hw : W ((sortedL l).getD (r - 1) 0) := hl _ ((sorted_ok l).2.mem_iff.1 hmem)
    have hin := a5 _ hw hb
    have hii : i2 ≤ i1 := by
      by_cases c : i2 ≤ i1
      · exact c
      · exfalso
        have := below_mono l ((i1 : Int) + 1) i2 (by omega)
        omega
    have hlo : lo2 ≤ lo ∧ hi2 ≤ hi := by
      by_cases c : i2 = i1
      · subst c
        have := (b4 1 (by omega)).symm.trans (a4 1 (by omega))
        simp only [Option.some.injEq, Prod.mk.injEq] at this
        omega
      · constructor
        · by_cases h : lo2 ≤ lo
          · exact h
          · exfalso; have := barOf_mono a8 b8 (by omega : lo ≤ lo2); omega
        · by_cases h : hi2 ≤ hi
          · exact h
          · exfalso; have := barOf_mono a9 b9 (by omega : hi ≤ hi2); omega
    have hsort : spoorlaw13_sorted.f l = some (sortedL l) := by unfold spoorlaw13_sorted.f; rw [if_pos (by omega)]
    have hpl := place_eq l.length num den (by omega) (by omega) hm0 n2 d0 d1
    rw [count_eq _ hr (k + 1) (by omega) (by rw [ht]; omega), ht, aq]
    simp only [Option.bind_some, if_true, beq_self_eq_true, Bool.not_true, Bool.or_self]
    simp only [spoorlaw13_SketchRight.j1]
    rw [hpl, wl, wd, if_neg (by simp), if_neg (by omega), if_neg (by omega), hsort]
    simp only [Option.bind_some]
    rw [if_pos (by omega), if_pos (by omega), hgd, bq]
    simp only [Option.bind_some, if_true]
    obtain ⟨k, rfl⟩ : ∃ m, k = m + 1 := ⟨k - 1, by omega⟩
    rw [if_pos hin.1, if_pos hin.2, index_eq k lo a8.1 a8.2, index_eq k _ hw.1 hw.2, a6, hb]
    simp only [Option.bind_some, if_true]
    rw [if_pos hlo.1, decide_eq_true hlo.2]
theorem SketchRight : spoorlaw13_SketchRight.Pure := by
  intro l a1 a2 a3 _ _ hl w1 w2 w3
  have hW : ∀ v ∈ l, W v := fun v hv => W_wf (hl v hv)
  obtain ⟨K, hK⟩ : ∃ K, l.length + 2002 ≤ K := ⟨_, Nat.le_refl _⟩
  have aw : ∀ K, 20 ≤ K → spoorlaw13_awake.f K = some true := fun K hK => at_rounds spoorlaw13_awake.mono hK (by kernel_rfl)
  by_cases hn : (l.length : Int) > 2147483647
  · refine ⟨20, ?_⟩
    unfold spoorlaw13_SketchRight.f
    rw [aw 20 (Nat.le_refl _)]
    simp only [Option.bind_some]
    rw [if_pos hn]
  · obtain ⟨d, hd, d0, d1⟩ := pick_r a3 1000000 w3 (by omega)
    obtain ⟨n, hnn, n0, n1⟩ := pick_r a1 (1 + d + 1) w1 (by omega)
    obtain ⟨m, hm, m0, m1⟩ := pick_r a2 (n + 1) w2 (by omega)
    refine ⟨2003 + 2 + l.length, ?_⟩
    have e1 : wrap64 (1 + d) = 1 + d := w64 (by omega) (by omega)
    have e2 : wrap64 (1 + d + 1) = 1 + d + 1 := w64 (by omega) (by omega)
    have e3 : wrap64 (n + 1) = n + 1 := w64 (by omega) (by omega)
    have he := right_end l hW (by omega) n m (1 + d) m0 (by omega) (by omega) (by omega) (by omega) 2003 (by omega)
    have ho := right_on l hW (by omega) n m (1 + d) (2003 + 2) he l.length 0 (by omega) (by omega)
    have e0 : bars (rowC zrow (l.take 0)) = [] := by rw [List.take_zero]; kernel_rfl
    rw [e0] at ho
    unfold spoorlaw13_SketchRight.f
    rw [aw _ (by omega)]
    simp only [Option.bind_some]
    rw [if_neg hn, hd]
    simp only [Option.bind_some]
    rw [e1, e2, hnn]
    simp only [Option.bind_some]
    rw [e3, hm]
    exact ho
end Go.Proofs.Ytlnhpccapadpmaa.Pure
