/- The pure statement of IvalClips: every Clip and Length is the document's answer. -/
import Derived.Test.YtafpmcmpkgbgaaaPr1g
import Derived.Test.YtafpmcmpkgbgaaaMe
namespace Go.Proofs.Ytafpmcmpkgbgaaa.Pure
set_option linter.unusedVariables false
set_option linter.unusedSimpArgs false
open Go.RowKit Go.Proofs.Ytafpmcmpkgbgaaa.Pr Go.Proofs.YtafpmcmpkgbgaaaW.PrintWords Go.Proofs.YtafpmcmpkgbgaaaW.PrintMore
theorem into_eq {a b c : Int} (h : ¬ c ≤ b) : ival_into.f a b c = spoorref06_into.f a b c := by
  unfold ival_into.f spoorref06_into.f mx mn
  repeat' split
  all_goals first | rfl | (congr 1; omega) | omega
theorem clip_eq (a b c d : Int) : ival_Clip.f a b c d = spoorref06_Clip.f a b c d := by
  unfold ival_Clip.f spoorref06_Clip.f ival_empty.f spoorref06_empty.f
  simp only [Option.bind_some]
  by_cases h : d ≤ c
  · rw [if_pos (decide_eq_true h), if_pos (decide_eq_true h)]
  · rw [if_neg (by simpa using h), if_neg (by simpa using h), into_eq h, into_eq h]
theorem clip_some (a b c d : Int) : ∃ p, spoorref06_Clip.f a b c d = some p := by
  have hi : ∀ x y z, ∃ q, spoorref06_into.f x y z = some q := by intro x y z; unfold spoorref06_into.f; split; exact ⟨_, rfl⟩; split <;> exact ⟨_, rfl⟩
  unfold spoorref06_Clip.f spoorref06_empty.f
  obtain ⟨q, hq⟩ := hi a c d
  obtain ⟨q', hq'⟩ := hi b c d
  simp only [Option.bind_some, hq, hq']
  split
  · exact ⟨_, rfl⟩
  · split <;> exact ⟨_, rfl⟩
theorem len_eq (a b : Int) : ival_Length.f a b = spoorref06_Length.f a b := rfl
theorem len_some (a b : Int) : ∃ p, spoorref06_Length.f a b = some p := by
  unfold spoorref06_Length.f spoorref06_empty.f
  simp only [Option.bind_some]
  split <;> exact ⟨_, rfl⟩
theorem IvalClips : ∀ (x0 : S23) (x1 : S23), (ok23 x0) → (ok23 x1) → ∃ k, spoorlaw06_IvalClips.f k x0.f0 x0.f1 x1.f0 x1.f1 = some true := by
  intro x0 x1 _ _
  refine ⟨20, ?_⟩
  unfold spoorlaw06_IvalClips.f
  rw [alive_ok (Nat.le_refl _), clip_eq]
  obtain ⟨p, hp⟩ := clip_some x0.f0 x0.f1 x1.f0 x1.f1
  obtain ⟨q, hq⟩ := len_some x0.f0 x0.f1
  obtain ⟨q', hq'⟩ := len_some p.1 p.2
  simp only [Option.bind_some, hp, len_eq, hq, hq', if_true, beq_self_eq_true, Bool.and_self]
end Go.Proofs.Ytafpmcmpkgbgaaa.Pure
