/- Plain laws of package sketch and spoorref13: Count, Quantile, of any sums. -/
import Derived.Test.YtlnhpccapadpmaaMg
import Derived.Test.YtlnhpccapadpmaaMi
import Derived.Test.YtlnhpccapadpmaaPr0g
import Derived.Test.YtlnhpccapadpmaaXTm
namespace Go.Proofs.Ytlnhpccapadpmaa.Pure
set_option linter.unusedVariables false
set_option linter.unusedSimpArgs false
open Go.RowKit Go.Proofs.Ytlnhpccapadpmaa.Pr Go.Proofs.YtlnhpccapadpmaaW.PrintWords Go.Proofs.YtlnhpccapadpmaaW.PrintLast Go.Proofs.YtlnhpccapadpmaaW.PrintMore

/-- What the first bars count. -/
def upTo (l : List S61) (i : Nat) : Int := tot (l.take i)
theorem tot_app (a b : List S61) : tot (a ++ b) = tot a + tot b := by simp [tot]
theorem upTo_succ (l : List S61) (i : Nat) (hi : i < l.length) : upTo l (i + 1) = upTo l i + (rd_T61 l (i : Int)).f1 := by
  unfold upTo
  rw [List.take_succ_eq_append_getElem hi, tot_app, rd_at l i hi]
  simp [tot]
theorem tot_le (l : List S61) (h : ∀ b ∈ l, W b.f1) : tot l ≤ l.length * 18446744073709551615 := by
  induction l with
  | nil => simp [tot]
  | cons b t ih =>
    have h1 : b.f1 ≤ 18446744073709551615 := (h b List.mem_cons_self).2
    have h2 := ih (fun x hx => h x (List.mem_cons_of_mem _ hx))
    simp only [tot, List.map_cons, List.sum_cons, List.length_cons] at *
    omega
theorem upTo_range (l : List S61) (h : ∀ b ∈ l, W b.f1) (hl : l.length ≤ 1920) (i : Nat) : 0 ≤ upTo l i ∧ upTo l i ≤ 35417748621522339100800 := by
  have hm : ∀ b ∈ l.take i, W b.f1 := fun b hb => h b (List.mem_of_mem_take hb)
  have h1 := tot_nonneg _ hm
  have h2 := tot_le _ hm
  have h3 : (l.take i).length ≤ 1920 := by rw [List.length_take]; omega
  unfold upTo
  omega
theorem upTo_all (l : List S61) : upTo l l.length = tot l := by unfold upTo; rw [List.take_length]
theorem rd_W {l : List S61} (h : ∀ b ∈ l, W b.f1) (i : Nat) (hi : i < l.length) : 0 ≤ (rd_T61 l (i : Int)).f1 ∧ (rd_T61 l (i : Int)).f1 ≤ 18446744073709551615 := by
  rw [rd_at l i hi]; exact h _ (List.getElem_mem _)
theorem add64_any (x y : Int) (hx : 0 ≤ x ∧ x ≤ 18446744073709551615) (hy : 0 ≤ y ∧ y ≤ 18446744073709551615) : bits_Add64.f x y 0 = some ((x + y) % 18446744073709551616, (x + y) / 18446744073709551616) := by
  unfold bits_Add64.f
  rw [if_pos (by
    simp only [inW, Bool.and_eq_true, Bool.or_eq_true, decide_eq_true_eq]
    exact ⟨⟨hx, hy⟩, .inl trivial⟩), Int.add_zero]
  unfold M64
  by_cases c : x + y ≤ 18446744073709551615
  · rw [if_pos c, if_pos c]; congr 2 <;> omega
  · rw [if_neg c, if_neg c]; congr 2 <;> omega
theorem sum_any (l : List S61) (h : ∀ b ∈ l, W b.f1) (hl : l.length ≤ 1920) (d : Nat) : ∀ (k i : Nat), i ≤ l.length → l.length - i = d → d < k →
    sketch_sum.l0 k l (l.length : Int) i (upTo l i / 18446744073709551616) (upTo l i % 18446744073709551616) = some (upTo l l.length / 18446744073709551616, upTo l l.length % 18446744073709551616) := by
  induction d with
  | zero =>
    intro k i h1 hd hk
    obtain ⟨k, rfl⟩ : ∃ m, k = m + 1 := ⟨k - 1, by omega⟩
    obtain rfl : i = l.length := by omega
    rw [sketch_sum.l0, if_neg (by omega)]
  | succ d ih =>
    intro k i h1 hd hk
    obtain ⟨k, rfl⟩ : ∃ m, k = m + 1 := ⟨k - 1, by omega⟩
    have hi : i < l.length := by omega
    have e := ih k (i + 1) (by omega) (by omega) (by omega)
    have hr := upTo_range l h hl i
    have hw := rd_W h i hi
    rw [upTo_succ l i hi] at e
    rw [sketch_sum.l0, if_pos (by omega), if_pos (by omega), if_pos (by omega), add64_any _ _ (by omega) hw, Option.bind_some, ← e]
    generalize (rd_T61 l (i : Int)).f1 = f at *
    generalize upTo l i = t at *
    dsimp only
    rw [w64 (by omega) (by omega), wu (by omega) (by omega)]
    congr 1 <;> omega
theorem rcount_any (l : List S61) (h : ∀ b ∈ l, W b.f1) (hl : l.length ≤ 1920) (n : Nat) (hn : n ≤ l.length) (d : Nat) : ∀ (k i : Nat), i ≤ n → n - i = d → d < k →
    spoorref13_count.l0 k l (n : Int) i (upTo l i / 18446744073709551616) (upTo l i % 18446744073709551616) = some (upTo l n / 18446744073709551616, upTo l n % 18446744073709551616) := by
  induction d with
  | zero =>
    intro k i h1 hd hk
    obtain ⟨k, rfl⟩ : ∃ m, k = m + 1 := ⟨k - 1, by omega⟩
    obtain rfl : i = n := by omega
    rw [spoorref13_count.l0, if_neg (by omega)]
  | succ d ih =>
    intro k i h1 hd hk
    obtain ⟨k, rfl⟩ : ∃ m, k = m + 1 := ⟨k - 1, by omega⟩
    have hi : i < l.length := by omega
    have e := ih k (i + 1) (by omega) (by omega) (by omega)
    have hr := upTo_range l h hl i
    have hw := rd_W h i hi
    rw [upTo_succ l i hi] at e
    rw [spoorref13_count.l0, if_pos (by omega), if_pos (by omega), if_pos (by omega), ← e]
    generalize (rd_T61 l (i : Int)).f1 = f at *
    generalize upTo l i = t at *
    rw [wu (n := 18446744073709551615 - f) (by omega) (by omega), w64 (n := (i : Int) + 1) (by omega) (by omega), u64w (t % 18446744073709551616 + f), wu (n := t / 18446744073709551616 + 1) (by omega) (by omega)]
    split
    · congr 1 <;> omega
    · congr 1 <;> omega
/-- Both count the same. -/
theorem rcount_eq (l : List S61) (h : ∀ b ∈ l, W b.f1) (hl : l.length ≤ 1920) (n : Nat) (hn : n ≤ l.length) : spoorref13_count.f 2000 l (n : Int) = some (upTo l n / 18446744073709551616, upTo l n % 18446744073709551616) := by
  have := rcount_any l h hl n hn n 2000 0 (by omega) (by omega) (by omega)
  exact this
theorem sum_eq2 (l : List S61) (h : ∀ b ∈ l, W b.f1) (hl : l.length ≤ 1920) (k : Nat) (hk : 1920 < k) : sketch_sum.f k l = some (tot l / 18446744073709551616, tot l % 18446744073709551616) := by
  have := sum_any l h hl l.length k 0 (by omega) (by omega) (by omega)
  rw [upTo_all] at this
  exact this

theorem div64_any (a lo m : Int) (ha : 0 ≤ a) (hm : a < m) (hm2 : m ≤ 18446744073709551615) (l0 : 0 ≤ lo) (l1 : lo ≤ 18446744073709551615) (k : Nat) : bits_Div64.f (40 + k) a lo m = some ((a * 18446744073709551616 + lo) / m, (a * 18446744073709551616 + lo) % m) := by
  induction k with
  | zero =>
    by_cases c : a = 0
    · subst c
      rw [div64_low _ lo m l0 l1 (by omega) hm2]
      simp
    · obtain ⟨r, hr⟩ := Mb.div64_ok a lo m (by omega) hm hm2
      rw [hr, Mb.div64_exact 0 a lo m r ha hm hm2 l0 l1 hr]
  | succ k ih => exact bits_Div64.mono _ _ _ _ _ ih
theorem rank_any (k : Nat) (n num den : Int) (hn0 : 0 ≤ n) (hn : n ≤ 35417748621522339100800) (h0 : 0 ≤ num) (h1 : num ≤ den) (h2 : 0 < den) (h3 : den ≤ 1000000) :
    sketch_rank.f (40 + k) (n / 18446744073709551616) (n % 18446744073709551616) num den = some (rk n num den / 18446744073709551616, rk n num den % 18446744073709551616) := by
  have hh0 : 0 ≤ n / 18446744073709551616 ∧ n / 18446744073709551616 ≤ 1920 := by omega
  have hl0 : 0 ≤ n % 18446744073709551616 ∧ n % 18446744073709551616 ≤ 18446744073709551615 := by omega
  have hnn : n = n / 18446744073709551616 * 18446744073709551616 + n % 18446744073709551616 := by omega
  generalize n / 18446744073709551616 = hi at *
  generalize n % 18446744073709551616 = lo at *
  have m1 : 0 ≤ hi * num ∧ hi * num ≤ 1920000000 := ⟨Int.mul_nonneg hh0.1 h0, by have := Int.mul_le_mul hh0.2 (show num ≤ 1000000 by omega) h0 (by omega); omega⟩
  have m2 : 0 ≤ lo * num ∧ lo * num ≤ 18446744073709551615000000 := ⟨Int.mul_nonneg hl0.1 h0, by have := Int.mul_le_mul hl0.2 (show num ≤ 1000000 by omega) h0 (by omega); omega⟩
  have hR : n * num + (den - 1) = hi * num * 18446744073709551616 + lo * num + (den - 1) := by
    rw [hnn, Int.add_mul, Int.mul_assoc, Int.mul_comm 18446744073709551616 num, ← Int.mul_assoc]
  have q0 : hi * num / 18446744073709551616 = 0 := by omega
  have q1 : hi * num % 18446744073709551616 = hi * num := by omega
  unfold rk
  rw [hR]
  unfold sketch_rank.f
  rw [mul64_eq lo num hl0.1 hl0.2 h0 (by omega), Option.bind_some, mul64_eq hi num hh0.1 (by omega) h0 (by omega), Option.bind_some, q0, q1]
  dsimp only
  generalize hi * num = A at *
  generalize lo * num = B at *
  rw [add64_any _ _ (by omega) (by omega), Option.bind_some, wu (n := den - 1) (by omega) (by omega), add64_any _ _ (by omega) (by omega), Option.bind_some]
  dsimp only
  obtain ⟨c, hc⟩ : ∃ c, c = (B % 18446744073709551616 + (den - 1)) / 18446744073709551616 := ⟨_, rfl⟩
  obtain ⟨L, hL⟩ : ∃ L, L = (B % 18446744073709551616 + (den - 1)) % 18446744073709551616 := ⟨_, rfl⟩
  rw [← hc, ← hL]
  have e3 : (A + B / 18446744073709551616) % 18446744073709551616 = A + B / 18446744073709551616 := by omega
  have e3' : (A + B / 18446744073709551616) / 18446744073709551616 = 0 := by omega
  have hc1 : c = 0 ∨ c = 1 := by omega
  have e5 : bits_Add64.f ((A + B / 18446744073709551616) % 18446744073709551616) 0 c = some (A + B / 18446744073709551616 + c, 0) := by
    rw [e3, add64_eq _ 0 c ⟨by omega, show _ ≤ (18446744073709551615 : Int) by omega⟩ W0 hc1 (by omega), Int.add_zero]
  rw [e5, e3', Option.bind_some]
  dsimp only
  have e0 : IntKind.u64.wrap (IntKind.u64.wrap (0 + 0) + 0) = 0 := by kernel_rfl
  rw [e0]
  obtain ⟨H, hH⟩ : ∃ H, H = A + B / 18446744073709551616 + c := ⟨_, rfl⟩
  rw [← hH]
  have hH0 : 0 ≤ H ∧ H ≤ 18446744073709551615 := by omega
  have hL0 : 0 ≤ L ∧ L ≤ 18446744073709551615 := by omega
  have hall : A * 18446744073709551616 + B + (den - 1) = H * 18446744073709551616 + L := by omega
  rw [hall]
  clear hall hH hL hc e5 e3 e3' hR hnn
  rw [div64_low _ 0 den (by omega) (by omega) h2 (by omega), Option.bind_some]
  simp only [Int.zero_ediv, Int.zero_emod]
  rw [div64_low _ H den hH0.1 hH0.2 h2 (by omega), Option.bind_some]
  dsimp only
  have r0 := Int.emod_nonneg H (show den ≠ 0 by omega)
  have r1 := Int.emod_lt_of_pos H h2
  have rd := Int.mul_ediv_add_emod H den
  have rq : 0 ≤ H / den := Int.ediv_nonneg hH0.1 (by omega)
  rw [div64_any (H % den) L den r0 r1 (by omega) hL0.1 hL0.2 k, Option.bind_some]
  dsimp only
  have hsplit : (H * 18446744073709551616 + L) / den = H / den * 18446744073709551616 + (H % den * 18446744073709551616 + L) / den := by
    have : H * 18446744073709551616 + L = (H % den * 18446744073709551616 + L) + den * (H / den * 18446744073709551616) := by
      rw [← Int.mul_assoc]
      generalize den * (H / den) = z at *
      omega
    rw [this, Int.add_mul_ediv_left _ _ (by omega)]
    omega
  have q2 : 0 ≤ (H % den * 18446744073709551616 + L) / den := Int.ediv_nonneg (by omega) (by omega)
  have q3 : (H % den * 18446744073709551616 + L) / den < 18446744073709551616 := by
    refine (Int.ediv_lt_iff_lt_mul h2).2 ?_
    omega
  rw [hsplit]
  generalize (H % den * 18446744073709551616 + L) / den = q at *
  generalize H / den = p at *
  by_cases z : p = 0 ∧ q = 0
  · rw [if_pos z, if_pos (by omega)]; rfl
  · rw [if_neg z, if_neg (by omega)]
    congr 2 <;> omega
theorem rk_iff (n num den x : Int) (hn : 0 ≤ n) (h0 : 0 ≤ num) (h2 : 0 < den) (hx : 1 ≤ x) : x < rk n num den ↔ x * den < n * num := by
  have p0 : 0 ≤ n * num := Int.mul_nonneg hn h0
  have key : x < (n * num + (den - 1)) / den ↔ x * den < n * num := by
    rw [Int.lt_iff_add_one_le, Int.le_ediv_iff_mul_le h2, Int.add_mul]
    omega
  unfold rk
  by_cases c : (n * num + (den - 1)) / den = 0
  · rw [if_pos c]
    rw [c] at key
    constructor
    · intro h; omega
    · intro h; have := key.2 h; omega
  · rw [if_neg c]; exact key
theorem quant_at (l : List S61) (h : ∀ b ∈ l, W b.f1) (hl : l.length ≤ 1920) (R : Int) (m : Nat) (hm : m < l.length) (hlt : ∀ j, j < m → upTo l (j + 1) < R) (hge : R ≤ upTo l (m + 1)) (hR0 : 0 ≤ R) (r : Int × Int × Int) (hs : ∀ k, sketch_Span.f (k + 1) (rd_T61 l (m : Int)).f0 = some r) (d : Nat) : ∀ (k i : Nat), i ≤ m → m - i = d → d + 2 ≤ k →
    sketch_Quantile.l0 k l l (l.length : Int) i (R / 18446744073709551616) (R % 18446744073709551616) (upTo l i / 18446744073709551616) (upTo l i % 18446744073709551616) = some r := by
  induction d with
  | zero =>
    intro k i h1 hd hk
    obtain ⟨k, rfl⟩ : ∃ m, k = m + 2 := ⟨k - 2, by omega⟩
    obtain rfl : i = m := by omega
    have hr := upTo_range l h hl i
    have hw := rd_W h i hm
    have hs' := hs k
    rw [upTo_succ l i hm] at hge
    rw [sketch_Quantile.l0, if_pos (by omega), if_pos (by omega), if_pos (by omega), add64_any _ _ (by omega) hw, Option.bind_some, hs']
    generalize (rd_T61 l (i : Int)).f1 = f at *
    generalize upTo l i = t at *
    dsimp only
    rw [wu (by omega) (by omega)]
    by_cases c1 : t / 18446744073709551616 + (t % 18446744073709551616 + f) / 18446744073709551616 > R / 18446744073709551616
    · rw [if_pos c1]; rfl
    · rw [if_neg c1, if_pos (by omega), if_pos (by omega)]; rfl
  | succ d ih =>
    intro k i h1 hd hk
    obtain ⟨k, rfl⟩ : ∃ m, k = m + 1 := ⟨k - 1, by omega⟩
    have hi : i < l.length := by omega
    have e := ih k (i + 1) (by omega) (by omega) (by omega)
    have hr := upTo_range l h hl i
    have hw := rd_W h i hi
    have hlt' := hlt i (by omega)
    rw [upTo_succ l i hi] at e hlt'
    rw [sketch_Quantile.l0, if_pos (by omega), if_pos (by omega), if_pos (by omega), add64_any _ _ (by omega) hw, Option.bind_some]
    generalize (rd_T61 l (i : Int)).f1 = f at *
    generalize upTo l i = t at *
    dsimp only
    rw [wu (by omega) (by omega), w64 (by omega) (by omega)]
    have g1 : t / 18446744073709551616 + (t % 18446744073709551616 + f) / 18446744073709551616 = (t + f) / 18446744073709551616 := by omega
    have g2 : (t % 18446744073709551616 + f) % 18446744073709551616 = (t + f) % 18446744073709551616 := by omega
    rw [g1, g2]
    push_cast at e
    rw [if_neg (by omega)]
    by_cases c1 : (t + f) / 18446744073709551616 = R / 18446744073709551616
    · rw [if_pos c1, if_neg (by omega)]; exact e
    · rw [if_neg c1]; exact e
theorem first_at (f : Nat → Int) (R : Int) : ∀ n, (∃ m, m < n ∧ (∀ j, j < m → f (j + 1) < R) ∧ R ≤ f (m + 1)) ∨ (∀ j, j < n → f (j + 1) < R)
  | 0 => .inr (fun j h => by omega)
  | n + 1 => by
    rcases first_at f R n with ⟨m, a, b, c⟩ | h
    · exact .inl ⟨m, by omega, b, c⟩
    · by_cases c : R ≤ f (n + 1)
      · exact .inl ⟨n, by omega, h, c⟩
      · right
        intro j hj
        by_cases e : j = n
        · subst e; omega
        · exact h j (by omega)

theorem lt5i (s0 s1 s2 s3 s4 t0 t1 t2 t3 t4 : Int) (a0 : 0 ≤ s0 ∧ s0 < 4294967296) (a1 : 0 ≤ s1 ∧ s1 < 4294967296) (a2 : 0 ≤ s2 ∧ s2 < 4294967296) (a3 : 0 ≤ s3 ∧ s3 < 4294967296) (a4 : 0 ≤ s4 ∧ s4 < 4294967296)
    (b0 : 0 ≤ t0 ∧ t0 < 4294967296) (b1 : 0 ≤ t1 ∧ t1 < 4294967296) (b2 : 0 ≤ t2 ∧ t2 < 4294967296) (b3 : 0 ≤ t3 ∧ t3 < 4294967296) (b4 : 0 ≤ t4 ∧ t4 < 4294967296) :
    (if s4 = t4 then (if s3 = t3 then (if s2 = t2 then (if s1 = t1 then (if s0 = t0 then false else decide (s0 < t0)) else decide (s1 < t1)) else decide (s2 < t2)) else decide (s3 < t3)) else decide (s4 < t4)) =
    decide (s0 + 4294967296 * (s1 + 4294967296 * (s2 + 4294967296 * (s3 + 4294967296 * s4))) < t0 + 4294967296 * (t1 + 4294967296 * (t2 + 4294967296 * (t3 + 4294967296 * t4)))) := by
  by_cases c4 : s4 = t4
  · rw [if_pos c4]
    by_cases c3 : s3 = t3
    · rw [if_pos c3]
      by_cases c2 : s2 = t2
      · rw [if_pos c2]
        by_cases c1 : s1 = t1
        · rw [if_pos c1]
          by_cases c0 : s0 = t0
          · rw [if_pos c0]; exact (decide_eq_false (by omega)).symm
          · rw [if_neg c0, decide_eq_decide]; omega
        · rw [if_neg c1, decide_eq_decide]; omega
      · rw [if_neg c2, decide_eq_decide]; omega
    · rw [if_neg c3, decide_eq_decide]; omega
  · rw [if_neg c4, decide_eq_decide]; omega
theorem lt5 (s t : Nat → Int) (hs : ∀ k, 0 ≤ s k ∧ s k < 4294967296) (ht : ∀ k, 0 ≤ t k ∧ t k < 4294967296) : ltFrom s t 5 = decide (val5 s < val5 t) :=
  lt5i (s 0) (s 1) (s 2) (s 3) (s 4) (t 0) (t 1) (t 2) (t 3) (t 4) (hs 0) (hs 1) (hs 2) (hs 3) (hs 4) (ht 0) (ht 1) (ht 2) (ht 3) (ht 4)
theorem val_tv (n b : Int) (hn : 0 ≤ n) (hn2 : n ≤ 35417748621522339100800) (hb : 0 ≤ b ∧ b ≤ 1048576) : val5 (tv (n / 18446744073709551616) (n % 18446744073709551616) b) = n * b := by
  have h4 := tc_range (hi := n / 18446744073709551616) (lo := n % 18446744073709551616) (by omega) (by omega) hb 4
  have hw : n = tw (n / 18446744073709551616) (n % 18446744073709551616) 0 + 4294967296 * (tw (n / 18446744073709551616) (n % 18446744073709551616) 1) + 18446744073709551616 * (tw (n / 18446744073709551616) (n % 18446744073709551616) 2) + 79228162514264337593543950336 * (tw (n / 18446744073709551616) (n % 18446744073709551616) 3) := by
    simp only [tw]; omega
  have h0 : tw (n / 18446744073709551616) (n % 18446744073709551616) 4 = 0 := rfl
  conv => rhs; rw [hw]
  simp only [val5, tv, tc] at h4 ⊢
  rw [h0, Int.zero_mul]
  generalize tw (n / 18446744073709551616) (n % 18446744073709551616) 0 = w0 at *
  generalize tw (n / 18446744073709551616) (n % 18446744073709551616) 1 = w1 at *
  generalize tw (n / 18446744073709551616) (n % 18446744073709551616) 2 = w2 at *
  generalize tw (n / 18446744073709551616) (n % 18446744073709551616) 3 = w3 at *
  rw [Int.add_mul, Int.add_mul, Int.add_mul, Int.mul_assoc, Int.mul_assoc, Int.mul_assoc]
  generalize w0 * b = p0 at *
  generalize w1 * b = p1 at *
  generalize w2 * b = p2 at *
  generalize w3 * b = p3 at *
  omega
theorem tv_range (hi lo b : Int) (k : Nat) : 0 ≤ tv hi lo b k ∧ tv hi lo b k < 4294967296 := by unfold tv; omega
theorem lt_times (n m a b : Int) (hn : 0 ≤ n) (hn2 : n ≤ 35417748621522339100800) (hm : 0 ≤ m) (hm2 : m ≤ 35417748621522339100800) (ha : 0 ≤ a ∧ a ≤ 1000000) (hb : 0 ≤ b ∧ b ≤ 1000000) :
    ltFrom (tv (n / 18446744073709551616) (n % 18446744073709551616) a) (tv (m / 18446744073709551616) (m % 18446744073709551616) b) 5 = decide (n * a < m * b) := by
  rw [lt5 _ _ (tv_range _ _ _) (tv_range _ _ _), val_tv n a hn hn2 (by omega), val_tv m b hm hm2 (by omega)]
end Go.Proofs.Ytlnhpccapadpmaa.Pure
