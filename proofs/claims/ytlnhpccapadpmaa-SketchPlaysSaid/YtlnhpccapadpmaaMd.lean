/- Plain laws of package sketch: Mul64, Div64 (of one word), rank, sum, Quantile. -/
import Derived.Test.YtlnhpccapadpmaaMb
import Derived.Test.YtlnhpccapadpmaaPr2a
namespace Go.Proofs.Ytlnhpccapadpmaa.Pure
set_option linter.unusedVariables false
set_option linter.unusedSimpArgs false
open Go.RowKit Go.Proofs.Ytlnhpccapadpmaa.Pr Go.Proofs.YtlnhpccapadpmaaW.PrintWords Go.Proofs.YtlnhpccapadpmaaW.PrintLast Go.Proofs.YtlnhpccapadpmaaW.PrintMore

theorem u64w (n : Int) : IntKind.u64.wrap n = n % 18446744073709551616 := by simp [IntKind.wrap, IntKind.bits, IntKind.signed]
theorem mod_lt64 (z : Int) : 0 ≤ z % 18446744073709551616 ∧ z % 18446744073709551616 < 18446744073709551616 := by omega
theorem mul64_eq (x y : Int) (hx0 : 0 ≤ x) (hx : x ≤ 18446744073709551615) (hy0 : 0 ≤ y) (hy : y ≤ 18446744073709551615) :
    bits_Mul64.f x y = some (x * y / 18446744073709551616, x * y % 18446744073709551616) := by
  have h := mul64_arith x y hx0 (by omega) hy0 (by omega)
  unfold bits_Mul64.f
  simp only [u64w]
  rw [and_low32 x hx0 (by omega), and_low32 y hy0 (by omega), and_low32 _ (mod_lt64 _).1 (mod_lt64 _).2, h]
theorem div64_low (k : Nat) (a b : Int) (ha0 : 0 ≤ a) (ha : a ≤ 18446744073709551615) (hb0 : 0 < b) (hb : b ≤ 18446744073709551615) : bits_Div64.f k 0 a b = some (a / b, a % b) := by
  unfold bits_Div64.f
  have e1 : Int.tdiv a b = a / b := Int.tdiv_eq_ediv_of_nonneg ha0
  have e2 : Int.tmod a b = a % b := Int.tmod_eq_emod_of_nonneg ha0
  have e3 : 0 ≤ a / b := Int.ediv_nonneg ha0 (by omega)
  have e4 : a / b ≤ a := Int.ediv_le_self _ ha0
  rw [if_neg (by omega), if_neg (by omega), if_pos rfl, e1, e2, wu e3 (by omega)]
theorem add64_eq (x y c : Int) (hx : W x) (hy : W y) (hc : c = 0 ∨ c = 1) (h : x + y + c ≤ 18446744073709551615) : bits_Add64.f x y c = some (x + y + c, 0) := by
  unfold bits_Add64.f
  have h2 : x + y + c ≤ M64 := h
  rw [if_pos, if_pos h2, if_pos h2]
  simp only [inW, Bool.and_eq_true, Bool.or_eq_true, decide_eq_true_eq]
  exact ⟨⟨hx, hy⟩, hc⟩
/-- Of how many: at least one. -/
def rk (n num den : Int) : Int := if (n * num + (den - 1)) / den = 0 then 1 else (n * num + (den - 1)) / den
theorem rk_bounds (n num den : Int) (hn0 : 1 ≤ n) (h0 : 0 ≤ num) (h1 : num ≤ den) (h2 : 0 < den) : 1 ≤ rk n num den ∧ rk n num den ≤ n := by
  have p0 : 0 ≤ n * num := Int.mul_nonneg (by omega) h0
  have e3 : 0 ≤ (n * num + (den - 1)) / den := Int.ediv_nonneg (by omega) (by omega)
  have p1 : n * num ≤ n * den := Int.mul_le_mul_of_nonneg_left h1 (by omega)
  have e4 : (n * num + (den - 1)) / den < n + 1 := by
    refine (Int.ediv_lt_iff_lt_mul h2).2 ?_
    rw [Int.add_mul]; omega
  unfold rk; split <;> omega
/-- How many values bars have. -/
def tot (l : List S61) : Int := (l.map (·.f1)).sum
theorem tot_nonneg (l : List S61) (h : ∀ b ∈ l, W b.f1) : 0 ≤ tot l := by
  induction l with
  | nil => exact Int.le_refl _
  | cons b t ih =>
    have := (h b List.mem_cons_self).1
    have := ih (fun x hx => h x (List.mem_cons_of_mem _ hx))
    simp only [tot, List.map_cons, List.sum_cons] at *
    omega
end Go.Proofs.Ytlnhpccapadpmaa.Pure
