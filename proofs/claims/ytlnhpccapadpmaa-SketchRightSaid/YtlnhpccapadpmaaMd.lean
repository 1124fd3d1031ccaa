/- Plain laws of package sketch: Mul64, Div64 (of one word), rank, sum, Quantile. -/
import Derived.Test.YtlnhpccapadpmaaMb
import Derived.Test.YtlnhpccapadpmaaPr2a
namespace Go.Proofs.Ytlnhpccapadpmaa.Pure
set_option linter.unusedVariables false
set_option linter.unusedSimpArgs false
open Go.RowKit Go.Proofs.Ytlnhpccapadpmaa.Pr Go.Proofs.YtlnhpccapadpmaaW.PrintWords Go.Proofs.YtlnhpccapadpmaaW.PrintLast Go.Proofs.YtlnhpccapadpmaaW.PrintMore

theorem u64w (n : Int) : IntKind.u64.wrap n = n % 18446744073709551616 := by simp [IntKind.wrap, IntKind.bits, IntKind.signed]
theorem mod_lt64 (z : Int) : 0 ≤ z % 18446744073709551616 ∧ z % 18446744073709551616 < 18446744073709551616 := by omega
theorem mul64_eq (x y : Int) (hx0 : 0 ≤ x) (hx : x ≤ 18446744073709551615) (hy0 : 0 ≤ y) (hy : y ≤ 18446744073709551615) :
    bits_Mul64.f x y = some (x * y / 18446744073709551616, x * y % 18446744073709551616) := by
  have h := mul64_arith x y hx0 (by omega) hy0 (by omega)
  unfold bits_Mul64.f
  simp only [u64w]
  rw [and_low32 x hx0 (by omega), and_low32 y hy0 (by omega), and_low32 _ (mod_lt64 _).1 (mod_lt64 _).2, h]
theorem div64_low (k : Nat) (a b : Int) (ha0 : 0 ≤ a) (ha : a ≤ 18446744073709551615) (hb0 : 0 < b) (hb : b ≤ 18446744073709551615) : bits_Div64.f k 0 a b = some (a / b, a % b) := by
  unfold bits_Div64.f
  have e1 : Int.tdiv a b = a / b := Int.tdiv_eq_ediv_of_nonneg ha0
  have e2 : Int.tmod a b = a % b := Int.tmod_eq_emod_of_nonneg ha0
  have e3 : 0 ≤ a / b := Int.ediv_nonneg ha0 (by omega)
  have e4 : a / b ≤ a := Int.ediv_le_self _ ha0
  rw [if_neg (by omega), if_neg (by omega), if_pos rfl, e1, e2, wu e3 (by omega)]
theorem add64_eq (x y c : Int) (hx : W x) (hy : W y) (hc : c = 0 ∨ c = 1) (h : x + y + c ≤ 18446744073709551615) : bits_Add64.f x y c = some (x + y + c, 0) := by
  unfold bits_Add64.f
  have h2 : x + y + c ≤ M64 := h
  rw [if_pos, if_pos h2, if_pos h2]
  simp only [inW, Bool.and_eq_true, Bool.or_eq_true, decide_eq_true_eq]
  exact ⟨⟨hx, hy⟩, hc⟩
/-- Of how many: at least one. -/
def rk (n num den : Int) : Int := if (n * num + (den - 1)) / den = 0 then 1 else (n * num + (den - 1)) / den
theorem rank_low (k : Nat) (n num den : Int) (hn0 : 0 ≤ n) (hn : n ≤ 2147483647) (h0 : 0 ≤ num) (h1 : num ≤ den) (h2 : 0 < den) (h3 : den ≤ 1000000) : sketch_rank.f k 0 n num den = some (0, rk n num den) := by
  have p0 : 0 ≤ n * num := Int.mul_nonneg hn0 h0
  have p1 : n * num ≤ 2147483647 * 1000000 := Int.mul_le_mul hn (by omega) h0 (by omega)
  have hW : ∀ z : Int, 0 ≤ z → z ≤ 18446744073709551615 → W z := fun z a b => ⟨a, b⟩
  have d0 : n * num / 18446744073709551616 = 0 := by omega
  have d1 : n * num % 18446744073709551616 = n * num := by omega
  unfold sketch_rank.f
  rw [mul64_eq n num hn0 (by omega) h0 (by omega), d0, d1]
  simp only [Option.bind_some]
  rw [mul64_eq 0 num (by omega) (by omega) h0 (by omega)]
  simp only [Option.bind_some, Int.zero_mul, Int.zero_ediv, Int.zero_emod]
  rw [add64_eq 0 0 0 W0 W0 (.inl rfl) (by omega)]
  simp only [Option.bind_some]
  rw [wu (by omega) (by omega), add64_eq (n * num) (den - 1) 0 (hW _ p0 (by omega)) (hW _ (by omega) (by omega)) (.inl rfl) (by omega)]
  simp only [Option.bind_some, Int.add_zero]
  rw [add64_eq 0 0 0 W0 W0 (.inl rfl) (by omega)]
  simp only [Option.bind_some, Int.add_zero]
  have e0 : IntKind.u64.wrap (IntKind.u64.wrap 0) = 0 := by kernel_rfl
  rw [e0, div64_low k 0 den (by omega) (by omega) h2 (by omega)]
  simp only [Option.bind_some, Int.zero_ediv, Int.zero_emod]
  rw [div64_low k 0 den (by omega) (by omega) h2 (by omega)]
  simp only [Option.bind_some, Int.zero_ediv, Int.zero_emod]
  rw [div64_low k _ den (by omega) (by omega) h2 (by omega)]
  simp only [Option.bind_some, true_and]
  unfold rk
  split <;> rfl
theorem rk_bounds (n num den : Int) (hn0 : 1 ≤ n) (h0 : 0 ≤ num) (h1 : num ≤ den) (h2 : 0 < den) : 1 ≤ rk n num den ∧ rk n num den ≤ n := by
  have p0 : 0 ≤ n * num := Int.mul_nonneg (by omega) h0
  have e3 : 0 ≤ (n * num + (den - 1)) / den := Int.ediv_nonneg (by omega) (by omega)
  have p1 : n * num ≤ n * den := Int.mul_le_mul_of_nonneg_left h1 (by omega)
  have e4 : (n * num + (den - 1)) / den < n + 1 := by
    refine (Int.ediv_lt_iff_lt_mul h2).2 ?_
    rw [Int.add_mul]; omega
  unfold rk; split <;> omega
theorem rk_mono (n a b den : Int) (hn0 : 1 ≤ n) (h0 : 0 ≤ a) (h1 : a ≤ b) (h2 : 0 < den) : rk n a den ≤ rk n b den := by
  have p1 : n * a ≤ n * b := Int.mul_le_mul_of_nonneg_left h1 (by omega)
  have p0 : 0 ≤ n * a := Int.mul_nonneg (by omega) h0
  have e4 : (n * a + (den - 1)) / den ≤ (n * b + (den - 1)) / den := Int.ediv_le_ediv h2 (by omega)
  have e3 : 0 ≤ (n * a + (den - 1)) / den := Int.ediv_nonneg (by omega) (by omega)
  unfold rk; split <;> split <;> omega

/-- How many values bars have. -/
def tot (l : List S61) : Int := (l.map (·.f1)).sum
theorem tot_nonneg (l : List S61) (h : ∀ b ∈ l, W b.f1) : 0 ≤ tot l := by
  induction l with
  | nil => exact Int.le_refl _
  | cons b t ih =>
    have := (h b List.mem_cons_self).1
    have := ih (fun x hx => h x (List.mem_cons_of_mem _ hx))
    simp only [tot, List.map_cons, List.sum_cons] at *
    omega
theorem sum_on (l : List S61) (h : ∀ b ∈ l, W b.f1) (hn : l.length ≤ 9223372036854775806) (d : Nat) : ∀ (k i : Nat) (c : Int), i ≤ l.length → l.length - i = d → d < k → 0 ≤ c → c + tot (l.drop i) ≤ 18446744073709551615 →
    sketch_sum.l0 k l (l.length : Int) i 0 c = some (0, c + tot (l.drop i)) := by
  induction d with
  | zero =>
    intro k i c h1 hd hk h0 hs
    obtain ⟨k, rfl⟩ : ∃ m, k = m + 1 := ⟨k - 1, by omega⟩
    simp only [sketch_sum.l0]
    rw [if_neg (by omega), List.drop_eq_nil_of_le (by omega)]
    simp [tot]
  | succ d ih =>
    intro k i c h1 hd hk h0 hs
    obtain ⟨k, rfl⟩ : ∃ m, k = m + 1 := ⟨k - 1, by omega⟩
    have hi : i < l.length := by omega
    have hg : rd_T61 l (i : Int) = l[i] := by simp [rd_T61, List.getD, hi]
    have hW := h l[i] (List.getElem_mem _)
    have ht := tot_nonneg (l.drop (i + 1)) (fun x hx => h x (List.mem_of_mem_drop hx))
    have ed : tot (l.drop i) = l[i].f1 + tot (l.drop (i + 1)) := by rw [List.drop_eq_getElem_cons hi]; simp only [tot, List.map_cons, List.sum_cons]
    rw [ed] at hs ⊢
    simp only [sketch_sum.l0]
    rw [if_pos (by omega), if_pos (by omega), if_pos (by omega), hg, add64_eq c _ 0 ⟨h0, show c ≤ 18446744073709551615 by have := hW.1; omega⟩ hW (.inl rfl) (by have := hW.1; omega)]
    simp only [Option.bind_some, Int.add_zero]
    rw [w64 (by omega) (by omega), wu (n := 0) (by omega) (by omega)]
    have e := ih k (i + 1) (c + l[i].f1) (by omega) (by omega) (by omega) (by have := hW.1; omega) (by omega)
    push_cast at e
    rw [e]
    simp only [Option.some.injEq, Prod.mk.injEq, true_and]
    exact Int.add_assoc _ _ _
theorem sum_eq (l : List S61) (h : ∀ b ∈ l, W b.f1) (hn : l.length ≤ 9223372036854775806) (k : Nat) (hk : l.length < k) (hs : tot l ≤ 18446744073709551615) : sketch_sum.f k l = some (0, tot l) := by
  have := sum_on l h hn l.length k 0 0 (by omega) (by omega) hk (by omega) (by simpa using hs)
  simpa [sketch_sum.f] using this
/-- The first bar up to whose end there are so many. -/
def qfind : List S61 → Int → Int → Option Int
  | [], _, _ => none
  | b :: t, c, r => if c + b.f1 ≥ r then some b.f0 else qfind t (c + b.f1) r
theorem quant_on (l : List S61) (h : ∀ b ∈ l, W b.f1) (hn : l.length ≤ 9223372036854775806) (r : Int) (hr : 0 ≤ r) (j : Int) (lo hi : Int) (d : Nat) : ∀ (k i : Nat) (c : Int), i ≤ l.length → l.length - i = d → d + 1 < k → 0 ≤ c → c + tot (l.drop i) ≤ 18446744073709551615 →
    qfind (l.drop i) c r = some j → (∀ k, 0 < k → sketch_Span.f k j = some (lo, hi, 0)) → sketch_Quantile.l0 k l l (l.length : Int) i 0 r 0 c = some (lo, hi, 0) := by
  induction d with
  | zero =>
    intro k i c h1 hd hk h0 hs hq _
    rw [List.drop_eq_nil_of_le (by omega)] at hq
    simp [qfind] at hq
  | succ d ih =>
    intro k i c h1 hd hk h0 hs hq hsp
    obtain ⟨k, rfl⟩ : ∃ m, k = m + 1 := ⟨k - 1, by omega⟩
    have hi : i < l.length := by omega
    have hg : rd_T61 l (i : Int) = l[i] := by simp [rd_T61, List.getD, hi]
    have hW := h l[i] (List.getElem_mem _)
    have ht := tot_nonneg (l.drop (i + 1)) (fun x hx => h x (List.mem_of_mem_drop hx))
    have ed : tot (l.drop i) = l[i].f1 + tot (l.drop (i + 1)) := by rw [List.drop_eq_getElem_cons hi]; simp only [tot, List.map_cons, List.sum_cons]
    rw [ed] at hs
    rw [List.drop_eq_getElem_cons hi] at hq
    simp only [qfind] at hq
    simp only [sketch_Quantile.l0]
    rw [if_pos (by omega), if_pos (by omega), if_pos (by omega), hg, add64_eq c _ 0 ⟨h0, show c ≤ 18446744073709551615 by have := hW.1; omega⟩ hW (.inl rfl) (by have := hW.1; omega)]
    simp only [Option.bind_some, Int.add_zero]
    rw [wu (n := 0) (by omega) (by omega), if_neg (by omega), if_pos rfl]
    by_cases hge : c + l[i].f1 ≥ r
    · rw [if_pos hge] at hq ⊢
      obtain rfl := Option.some.inj hq
      rw [hsp k (by omega)]
      rfl
    · rw [if_neg hge] at hq ⊢
      rw [w64 (by omega) (by omega)]
      have e := ih k (i + 1) (c + l[i].f1) (by omega) (by omega) (by omega) (by have := hW.1; omega) (by omega) hq hsp
      push_cast at e
      exact e
theorem quant_eq (r : List Int) (hr : Row r) (num den : Int) (k : Nat) (hk : 2000 < k) (h0 : 0 ≤ num) (h1 : num ≤ den) (h2 : 0 < den) (h3 : den ≤ 1000000) (hne : bars r ≠ []) (ht : tot (bars r) ≤ 2147483647) (j lo hi : Int)
    (hq : qfind (bars r) 0 (rk (tot (bars r)) num den) = some j) (hsp : ∀ k, 0 < k → sketch_Span.f k j = some (lo, hi, 0)) : sketch_Quantile.f k (bars r) num den = some (lo, hi, 0) := by
  have hb : ∀ b ∈ bars r, W b.f1 := fun b hb => okB_of (bars_okB hr) hb
  have hl := bars_len r hr
  have hlp : 0 < (bars r).length := List.length_pos_iff.2 hne
  have ht0 := tot_nonneg (bars r) hb
  have hrk : 0 ≤ rk (tot (bars r)) num den := by
    have p0 : 0 ≤ tot (bars r) * num := Int.mul_nonneg ht0 h0
    have e3 : 0 ≤ (tot (bars r) * num + (den - 1)) / den := Int.ediv_nonneg (by omega) (by omega)
    unfold rk; split <;> omega
  unfold sketch_Quantile.f
  rw [check_bars hr]
  simp only [Option.bind_some, if_true]
  rw [if_neg (by omega), if_neg (by omega), if_neg (by omega), if_neg (by omega), sum_eq _ hb (by omega) k (by omega) (by omega)]
  simp only [Option.bind_some]
  rw [rank_low k _ num den ht0 ht h0 h1 h2 h3]
  simp only [Option.bind_some]
  exact quant_on (bars r) hb (by omega) _ hrk j lo hi (bars r).length k 0 0 (by omega) (by omega) (by omega) (by omega) (by simp only [List.drop_zero]; omega) (by simpa using hq) hsp
theorem count_eq (r : List Int) (hr : Row r) (k : Nat) (hk : 2000 < k) (ht : tot (bars r) ≤ 2147483647) : sketch_Count.f k (bars r) = some (0, tot (bars r), 0) := by
  have hb : ∀ b ∈ bars r, W b.f1 := fun b hb => okB_of (bars_okB hr) hb
  have hl := bars_len r hr
  unfold sketch_Count.f
  rw [check_bars hr]
  simp only [Option.bind_some, if_true]
  rw [sum_eq _ hb (by omega) k (by omega) (by omega)]
  rfl
end Go.Proofs.Ytlnhpccapadpmaa.Pure
