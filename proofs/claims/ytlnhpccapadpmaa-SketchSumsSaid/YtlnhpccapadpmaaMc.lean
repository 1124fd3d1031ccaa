/- Plain laws of package sketch: put, sameBars. -/
import Derived.Test.YtlnhpccapadpmaaMb
import Derived.Test.YtlnhpccapadpmaaPr2d
import Derived.Test.YtlnhpccapadpmaaOp
namespace Go.Proofs.Ytlnhpccapadpmaa.Pure
set_option linter.unusedVariables false
set_option linter.unusedSimpArgs false
open Go.RowKit Go.Proofs.Ytlnhpccapadpmaa.Pr Go.Proofs.YtlnhpccapadpmaaW.PrintWords Go.Proofs.YtlnhpccapadpmaaW.PrintLast Go.Proofs.YtlnhpccapadpmaaW.PrintMore

theorem W_of_wf {n : Int} (h : (Lit.int .u64 n).wf = true) : W n := by
  simp only [Lit.wf, IntKind.min, IntKind.max, IntKind.signed, IntKind.bits, Bool.and_eq_true, decide_eq_true_eq] at h
  refine ⟨by simpa using h.1, ?_⟩
  have h2 := h.2
  unfold M64
  simp at h2
  omega
theorem same_self (a : List S61) (ha : a.length ≤ 9223372036854775806) (d : Nat) : ∀ (k : Nat) (i : Int), 0 ≤ i → i ≤ a.length → (a.length : Int) - i = d → d < k → spoorlaw13_sameBars.l0 k a a i = some true := by
  induction d with
  | zero =>
    intro k i h0 h1 hd hk
    obtain ⟨k, rfl⟩ : ∃ m, k = m + 1 := ⟨k - 1, by omega⟩
    simp only [spoorlaw13_sameBars.l0]
    rw [if_neg (by omega)]
  | succ d ih =>
    intro k i h0 h1 hd hk
    obtain ⟨k, rfl⟩ : ∃ m, k = m + 1 := ⟨k - 1, by omega⟩
    simp only [spoorlaw13_sameBars.l0]
    rw [if_pos (by omega), if_pos h0, if_pos (by omega), if_neg (by simp), w64 (by omega) (by omega)]
    exact ih k (i + 1) (by omega) (by omega) (by omega) (by omega)
theorem same_bars (a : List S61) (ha : a.length ≤ 9223372036854775806) (k : Nat) (hk : a.length < k) : spoorlaw13_sameBars.f k a a = some true := by
  unfold spoorlaw13_sameBars.f
  rw [if_pos rfl]
  exact same_self a ha a.length k 0 (by omega) (by omega) (by omega) hk
def rowOn (r : List Int) (l : List S73) : List Int := l.foldl (fun r p => putRow r (barOf p.f0) p.f1) r
def rowOf (l : List S73) : List Int := rowOn zrow l
theorem Row.on {l : List S73} (hl : ∀ x ∈ l, ok73 x) : ∀ {r : List Int}, Row r → Row (rowOn r l) := by
  induction l with
  | nil => intro r h; exact h
  | cons x t ih =>
    intro r h
    have hx := hl x List.mem_cons_self
    exact ih (fun y hy => hl y (List.mem_cons_of_mem _ hy)) (h.put (add_bars h (W_of_wf hx.1) (W_of_wf hx.2)).2 (W_of_wf hx.2))
theorem put_on (l : List S73) (hl : ∀ x ∈ l, ok73 x) (hn : l.length ≤ 9223372036854775806) (d : Nat) : ∀ (k : Nat) (i : Nat) (r : List Int), i ≤ l.length → l.length - i = d → d < k → Row r → spoorlaw13_put.l0 k l (bars r) i = some (bars (rowOn r (l.drop i)), true) := by
  induction d with
  | zero =>
    intro k i r h1 hd hk hr
    obtain ⟨k, rfl⟩ : ∃ m, k = m + 1 := ⟨k - 1, by omega⟩
    simp only [spoorlaw13_put.l0]
    rw [if_neg (by omega), List.drop_eq_nil_of_le (by omega)]
    rfl
  | succ d ih =>
    intro k i r h1 hd hk hr
    obtain ⟨k, rfl⟩ : ∃ m, k = m + 1 := ⟨k - 1, by omega⟩
    have hi : i < l.length := by omega
    have hg : rd_T73 l (i : Int) = l[i] := by simp [rd_T73, List.getD, hi]
    have hx := hl l[i] (List.getElem_mem _)
    have ha := add_bars hr (W_of_wf hx.1) (W_of_wf hx.2)
    simp only [spoorlaw13_put.l0]
    rw [if_pos (by omega), if_pos (by omega), hg, ha.1]
    simp only [Option.bind_some, if_true]
    have hr' := hr.put ha.2 (W_of_wf hx.2)
    rw [check_bars hr']
    simp only [Option.bind_some, if_true]
    rw [w64 (by omega) (by omega)]
    have e := ih k (i + 1) _ (by omega) (by omega) (by omega) hr'
    push_cast at e
    rw [e, List.drop_eq_getElem_cons hi]
    rfl
theorem put_eq (l : List S73) (hl : ∀ x ∈ l, ok73 x) (hn : l.length ≤ 9223372036854775806) (k : Nat) (hk : l.length < k) : spoorlaw13_put.f k l = some (bars (rowOf l), true) := by
  have := put_on l hl hn l.length k 0 zrow (by omega) (by omega) hk Row.zero
  have e0 : bars zrow = [] := by kernel_rfl
  rw [e0] at this
  exact this
end Go.Proofs.Ytlnhpccapadpmaa.Pure
