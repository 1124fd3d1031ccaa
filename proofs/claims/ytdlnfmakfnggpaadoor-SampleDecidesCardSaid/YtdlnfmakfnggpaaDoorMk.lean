/- Plain laws: the verdicts of Decide, by all policies and by the sure ones. -/
import Derived.Test.YtdlnfmakfnggpaaDoorMi
namespace Go.Proofs.YtdlnfmakfnggpaaDoor.Pr
open Go.RowKit Go.Lib Go.Proofs.YtdlnfmakfnggpaaDoorW.PrintWords Go.Proofs.YtdlnfmakfnggpaaDoorW.PrintMore
set_option linter.unusedVariables false
set_option linter.unusedSimpArgs false
namespace Mg
/-- The verdicts on a trace whose mix is m, by all policies and by the sure ones: what SampleWeighs asks of them. -/
theorem verdicts (l : List S30) (R : List S43) (m : Int) (p : Int) (hp0 : 0 ≤ p) (hp : m / 281474976710656 = p) (hz : polF l = 0) (hR : 0 < R.length) (hmix : sample_Mix.f (rd_T43 R 0).f0.f0 (rd_T43 R 0).f0.f1 = some m) :
    (decV l R = some (false, 0, 0, 0, 101) ∧ decV (sureL l) R = some (false, 0, 0, 0, 101)) ∨
    ∃ vk vp vw wk wp ww, decV l R = some (vk, vp, 0, vw, 0) ∧ decV (sureL l) R = some (wk, wp, 0, ww, 0) ∧ (wk = true → vk = true ∧ vw = 65536) ∧ (wk = false → vk = decide (p < maxP l l.length)) ∧
      (wk = false → vk = true → vw = 4294967296 / maxP l l.length) ∧ (vk = false → vw = 0 ∧ vp = -1) := by
  obtain ⟨hlen, hmay⟩ := pol_zero hz
  have hsub : ∀ x ∈ sureL l, x ∈ l ∧ x.f0 ≠ 4 := fun x hx => by
    have := List.mem_filter.1 hx
    exact ⟨this.1, by simpa using this.2⟩
  have hzs : polF (sureL l) = 0 := pol_of (by have := List.length_filter_le (fun p : S30 => p.f0 != 4) l; unfold sureL; omega) (fun x hx => hmay x (hsub x hx).1)
  unfold decV
  have hR0 : ¬ R.length = 0 := by omega
  simp only [if_pos hz, if_pos hzs, if_neg hR0, hmix, Option.bind_some]
  by_cases ho : oneF chkS R = true
  · right
    simp only [if_pos ho]
    obtain ⟨a1, a2, a3, a4⟩ := dst_val (hfM R m) l l.length (Nat.le_refl _)
    obtain ⟨b1, b2, b3, b4⟩ := dst_val (hfM R m) (sureL l) (sureL l).length (Nat.le_refl _)
    rw [List.take_length] at a2 a3 a4 b2 b3 b4
    have hbd := maxP_bd hmay l.length (Nat.le_refl _)
    have hsure : (sureL l).any (hfM R m) = l.any (fun p => hfM R m p && (p.f0 != 4)) := by
      unfold sureL
      rw [List.any_filter]
      congr 1
      funext q
      rw [Bool.and_comm]
    have hb23 : (dst (hfM R m) (sureL l) (sureL l).length).2.1 = (dst (hfM R m) (sureL l) (sureL l).length).2.2.1 := by
      rw [b2, b3, Bool.eq_iff_iff, List.any_eq_true, List.any_eq_true]
      constructor
      · rintro ⟨x, hx, h⟩; exact ⟨x, hx, by simp only [Bool.and_eq_true] at h; exact h.1⟩
      · rintro ⟨x, hx, h⟩; exact ⟨x, hx, by rw [h, Bool.true_and]; simpa using (hsub x hx).2⟩
    -- without a sure one: the parts alone
    have hpart : (dst (hfM R m) l l.length).2.1 = false → l.any (hfM R m) = decide (p < maxP l l.length) := fun h0 => by
      rw [a2] at h0
      have h := any_part hmay p hp0 (hfM R m) (fun x hx e => ?_) (fun x hx e => ?_) l.length (Nat.le_refl _)
      · rwa [List.take_length] at h
      · have hw := (may_part (hmay x hx)).1 e
        unfold hfM holdsF
        rw [if_neg (by omega), if_neg (by omega), if_neg (by omega), if_pos e, hp, IntKind.wrap_u64, show x.f3 % 18446744073709551616 = x.f3 by omega]
      · have := List.any_eq_false.1 h0 x hx
        simpa [e] using this
    have hw : IntKind.u64.wrap (maxP l l.length) = maxP l l.length := by rw [IntKind.wrap_u64]; omega
    rw [decTail_some l R m (by
      rintro ⟨c1, c2, c3⟩
      rw [a1, hw] at c3
      rw [a3, hpart c1, c3] at c2
      simp at c2; omega), decTail_some (sureL l) R m (by
      rintro ⟨c1, c2, c3⟩
      rw [hb23, c2] at c1; cases c1)]
    refine ⟨_, _, _, _, _, _, rfl, rfl, ?_, ?_, ?_, ?_⟩
    · intro h
      rw [b3, hsure, ← a2] at h
      refine ⟨?_, ?_⟩
      · rw [a3, List.any_eq_true]
        rw [a2, List.any_eq_true] at h
        obtain ⟨x, hx, h⟩ := h
        exact ⟨x, hx, by simp only [Bool.and_eq_true] at h; exact h.1⟩
      · unfold wtF; rw [h]; rfl
    · intro h
      rw [b3, hsure, ← a2] at h
      rw [a3]; exact hpart h
    · intro h hk
      rw [b3, hsure, ← a2] at h
      unfold wtF
      rw [h, hk, a1, hw, if_neg (by decide), if_pos rfl]
      have hpos : p < maxP l l.length := by
        rw [a3, hpart h] at hk; simpa using hk
      rw [Int.tdiv_eq_ediv_of_nonneg (by omega)]
      have q0 : 0 ≤ 4294967296 / maxP l l.length := Int.ediv_nonneg (by omega) (by omega)
      have q1 : 4294967296 / maxP l l.length ≤ 4294967296 := Int.ediv_le_self _ (by omega)
      rw [IntKind.wrap_u64]; omega
    · intro h
      refine ⟨?_, a4 (by rw [a3] at h; exact h)⟩
      have h2 : (dst (hfM R m) l l.length).2.1 = false := by
        rw [a2, List.any_eq_false]
        intro x hx
        rw [a3, List.any_eq_false] at h
        have := h x hx
        simp only [Bool.not_eq_true] at this
        simp [this]
      unfold wtF
      rw [h2, h]; rfl
  · left
    simp only [if_neg ho]; exact ⟨trivial, trivial⟩
end Mg
end Go.Proofs.YtdlnfmakfnggpaaDoor.Pr
