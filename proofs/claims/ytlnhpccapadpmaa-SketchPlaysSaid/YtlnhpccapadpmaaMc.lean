/- Plain laws of package sketch: sameBars. -/
import Derived.Test.YtlnhpccapadpmaaMb
import Derived.Test.YtlnhpccapadpmaaPr0b
namespace Go.Proofs.Ytlnhpccapadpmaa.Pure
set_option linter.unusedVariables false
set_option linter.unusedSimpArgs false
open Go.RowKit Go.Proofs.Ytlnhpccapadpmaa.Pr Go.Proofs.YtlnhpccapadpmaaW.PrintWords Go.Proofs.YtlnhpccapadpmaaW.PrintLast Go.Proofs.YtlnhpccapadpmaaW.PrintMore

theorem W_of_wf {n : Int} (h : (Lit.int .u64 n).wf = true) : W n := by
  simp only [Lit.wf, IntKind.min, IntKind.max, IntKind.signed, IntKind.bits, Bool.and_eq_true, decide_eq_true_eq] at h
  refine ⟨by simpa using h.1, ?_⟩
  have h2 := h.2
  unfold M64
  simp at h2
  omega
theorem same_self (a : List S61) (ha : a.length ≤ 9223372036854775806) (d : Nat) : ∀ (k : Nat) (i : Int), 0 ≤ i → i ≤ a.length → (a.length : Int) - i = d → d < k → spoorlaw13_sameBars.l0 k a a i = some true := by
  induction d with
  | zero =>
    intro k i h0 h1 hd hk
    obtain ⟨k, rfl⟩ : ∃ m, k = m + 1 := ⟨k - 1, by omega⟩
    simp only [spoorlaw13_sameBars.l0]
    rw [if_neg (by omega)]
  | succ d ih =>
    intro k i h0 h1 hd hk
    obtain ⟨k, rfl⟩ : ∃ m, k = m + 1 := ⟨k - 1, by omega⟩
    simp only [spoorlaw13_sameBars.l0]
    rw [if_pos (by omega), if_pos h0, if_pos (by omega), if_neg (by simp), w64 (by omega) (by omega)]
    exact ih k (i + 1) (by omega) (by omega) (by omega) (by omega)
theorem same_bars (a : List S61) (ha : a.length ≤ 9223372036854775806) (k : Nat) (hk : a.length < k) : spoorlaw13_sameBars.f k a a = some true := by
  unfold spoorlaw13_sameBars.f
  rw [if_pos rfl]
  exact same_self a ha a.length k 0 (by omega) (by omega) (by omega) hk
end Go.Proofs.Ytlnhpccapadpmaa.Pure
