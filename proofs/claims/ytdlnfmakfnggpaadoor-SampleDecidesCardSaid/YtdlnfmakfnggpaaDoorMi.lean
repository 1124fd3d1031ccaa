/- The pure law of SampleWeighs. -/
import Derived.Test.YtdlnfmakfnggpaaDoorMh
import Derived.Test.YtdlnfmakfnggpaaDoorMy
import Derived.Test.YtdlnfmakfnggpaaDoorPr0h
import Derived.Test.YtdlnfmakfnggpaaDoorOp
namespace Go.Proofs.YtdlnfmakfnggpaaDoor.Pr
open Go.RowKit Go.Lib Go.Proofs.YtdlnfmakfnggpaaDoorW.PrintWords Go.Proofs.YtdlnfmakfnggpaaDoorW.PrintMore
set_option linter.unusedVariables false
set_option linter.unusedSimpArgs false
namespace Mg
/-! #### what came in -/
theorem reach_eq : reachBytes = 140737488351232 := by unfold reachBytes; rfl
theorem b36 : Tryd.prog.bytesOf 36 = 8 := by kernel_rfl
theorem b120 : Tryd.prog.bytesOf 120 = 48 := by kernel_rfl
theorem b122 : Tryd.prog.bytesOf 122 = 24 := by kernel_rfl
theorem b43 : 168 ≤ Tryd.prog.bytesOf 43 := of_decide_eq_true (by kernel_rfl)
theorem okS_of {x : S43} (h : ok43 x) : okS x := by
  obtain ⟨_, h1, _, ⟨h3, _⟩, h4, h5, _, _, _, _, ⟨h10, h10'⟩, h11, h11'⟩ := h
  rw [b36, reach_eq] at h3
  rw [b120, reach_eq] at h10
  rw [b122, reach_eq] at h11
  have hid : 0 ≤ x.f1 ∧ x.f1 ≤ 18446744073709551615 := by simpa [Lit.wf, IntKind.min, IntKind.max, IntKind.signed, IntKind.bits] using h1
  exact ⟨by omega, h4, h5, ⟨by omega, fun y hy => ⟨(h10' y hy).1, (h10' y hy).2.2.1⟩⟩, ⟨by omega, fun y hy => (h11' y hy).2⟩, hid⟩
/-! #### renamed -/
theorem clone_val (x : S43) (h : okS x) : spoorref04_Clone.f x.f0.f0 x.f0.f1 x.f1 x.f2 x.f3 x.f4 x.f5 x.f6 x.f7 x.f8 x.f9 x.f10 x.f11 = some (x.f0.f0, x.f0.f1, x.f1, x.f2, x.f3, x.f4, x.f5, x.f6, x.f7, x.f8, x.f9, x.f10, x.f11) := by
  have h1 := h.links
  have h2 := h.attrs.1
  have h3 := h.events.1
  unfold spoorref04_Clone.f
  simp only [Option.bind_some, List.length_nil, Nat.zero_add, List.nil_append]
  rw [if_pos h1, if_pos h2, if_pos h3]
/-! #### weight -/
theorem weight_val (l : List S43) (hl : l.length ≤ 140737488351232) : ∃ k v, spoorlaw21_weight.f k l = some v := by
  have key : ∀ (d i : Nat) (n : Int), i + d = l.length → ∃ v, spoorlaw21_weight.l0 (d + 1) l n (i : Int) = some v := by
    intro d
    induction d with
    | zero =>
      intro i n hi
      rw [spoorlaw21_weight.l0, if_neg (by omega)]; exact ⟨_, rfl⟩
    | succ d ih =>
      intro i n hi
      rw [spoorlaw21_weight.l0, if_pos (by omega)]
      by_cases c : n ≤ 2147483647
      · rw [if_pos c, if_pos (by omega), w64s (by omega)]; exact ih (i + 1) _ (by omega)
      · rw [if_neg c]; exact ⟨_, rfl⟩
  obtain ⟨v, hv⟩ := key l.length 0 0 (by omega)
  exact ⟨_, v, hv⟩
/-! #### policies that may be -/
theorem pol_zero {l : List S30} (h : polF l = 0) : l.length ≤ 20 ∧ ∀ x ∈ l, mayS x = true := by
  unfold polF at h
  by_cases c : 20 < l.length
  · rw [if_pos c] at h; omega
  · rw [if_neg c] at h
    refine ⟨by omega, fun x hx => ?_⟩
    by_cases c2 : (l.any fun x => !mayS x) = true
    · rw [if_pos c2] at h; omega
    · simp only [List.any_eq_true, not_exists, not_and, Bool.not_eq_true', Bool.not_eq_false] at c2
      exact c2 x hx
theorem pol_of {l : List S30} (h : l.length ≤ 20) (hm : ∀ x ∈ l, mayS x = true) : polF l = 0 := by
  unfold polF
  rw [if_neg (by omega), if_neg]
  simp only [List.any_eq_true, not_exists, not_and, Bool.not_eq_true', Bool.not_eq_false]
  exact hm
theorem may_part {x : S30} (h : mayS x = true) : (x.f0 = 4 → 0 ≤ x.f3 ∧ x.f3 ≤ 65536) ∧ (x.f0 ≠ 4 → x.f3 = 0) := by
  unfold mayS mayF at h
  constructor
  · intro e
    rw [e] at h
    simp at h
    omega
  · intro e
    by_cases e3 : x.f0 = 3
    · rw [e3] at h; simp at h; omega
    · simp [e, e3] at h; omega
theorem maxP_bd {l : List S30} (hm : ∀ x ∈ l, mayS x = true) : ∀ n, n ≤ l.length → 0 ≤ maxP l n ∧ maxP l n ≤ 65536
  | 0, _ => by simp [maxP]
  | n + 1, hn => by
    have ih := maxP_bd hm n (by omega)
    have h := may_part (hm _ (rd30_mem (l := l) (k := n) (by omega)))
    simp only [maxP]
    by_cases e : (rd_T30 l (n : Int)).f0 = 4
    · have := h.1 e; omega
    · have := h.2 e; omega
/-- A policy of the last kind keeps just what the greatest part keeps. -/
theorem any_part {l : List S30} (hm : ∀ x ∈ l, mayS x = true) (p : Int) (hp : 0 ≤ p) (hf : S30 → Bool) (h4 : ∀ x ∈ l, x.f0 = 4 → hf x = decide (p < x.f3)) (hs : ∀ x ∈ l, x.f0 ≠ 4 → hf x = false) : ∀ n, n ≤ l.length → (l.take n).any hf = decide (p < maxP l n)
  | 0, _ => by rw [List.take_zero, List.any_nil, decide_eq_false (show ¬ p < maxP l 0 by unfold maxP; omega)]
  | n + 1, hn => by
    have ih := any_part hm p hp hf h4 hs n (by omega)
    have hx := rd30_mem (l := l) (k := n) (by omega)
    have h := may_part (hm _ hx)
    rw [take_any l hf n (by omega), ih]
    have em : maxP l (n + 1) = max (maxP l n) (rd_T30 l (n : Int)).f3 := rfl
    by_cases e : (rd_T30 l (n : Int)).f0 = 4
    · rw [h4 _ hx e, Bool.eq_iff_iff, Bool.or_eq_true, decide_eq_true_eq, decide_eq_true_eq, decide_eq_true_eq, em]; omega
    · have e3 := h.2 e
      rw [hs _ hx e, Bool.eq_iff_iff, Bool.or_false, decide_eq_true_eq, decide_eq_true_eq, em]; omega
def hfM (R : List S43) (m : Int) : S30 → Bool := fun p => holdsF p R (tookV R) m
def sureL (l : List S30) : List S30 := l.filter (fun p => p.f0 != 4)
theorem decTail_some (l : List S30) (R : List S43) (m : Int) (h : ¬ ((dst (hfM R m) l l.length).2.1 = false ∧ (dst (hfM R m) l l.length).2.2.1 = true ∧ IntKind.u64.wrap (dst (hfM R m) l l.length).1 = 0)) :
    decTail l R (tookV R) m = some ((dst (hfM R m) l l.length).2.2.1, (dst (hfM R m) l l.length).2.2.2, 0, wtF (dst (hfM R m) l l.length), 0) := by
  unfold decTail
  exact if_neg h
end Mg
end Go.Proofs.YtdlnfmakfnggpaaDoor.Pr
