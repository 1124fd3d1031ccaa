/- The pure statement of IvalMoments: moment by moment, what is answered is what the two lists say. -/
import Derived.Test.YtafpmcmpkgbgaaaPr1f
import Derived.Test.YtafpmcmpkgbgaaaMe
namespace Go.Proofs.Ytafpmcmpkgbgaaa.Pure
set_option linter.unusedVariables false
set_option linter.unusedSimpArgs false
open Go.RowKit Go.Proofs.Ytafpmcmpkgbgaaa.Pr Go.Proofs.YtafpmcmpkgbgaaaW.PrintWords Go.Proofs.YtafpmcmpkgbgaaaW.PrintLast
theorem asked_ok (a b : List S23) (ha : a.length ≤ 1048576) (hb : b.length ≤ 1048576) (m : Int) (k : Nat) (hk : 5000000 ≤ k) : spoorlaw06_asked.f k a b m = some true := by
  have h1 := normal_len a
  have h2 := meet_len a b
  have h3 := minus_len a b
  unfold spoorlaw06_asked.f
  rw [in_eq a m (by omega) k (by omega), in_eq b m (by omega) k (by omega), normal_eq (by omega), meet_eq ha hb, minus_eq ha hb]
  simp only [Option.bind_some]
  rw [in_eq (normalL a) m (by omega) k (by omega), in_eq (meetL a b) m (by omega) k (by omega), in_eq (minusL a b) m (by omega) k (by omega)]
  simp only [Option.bind_some, ival_Has.f]
  have e0 : a.any (hasP m) = memB a m := rfl
  have e1 : memB (normalL a) m = memB a m := memB_eq (((normal_spec a).2 m).trans (memB_iff a m).symm)
  have e2 : memB (meetL a b) m = (memB a m && memB b m) := memB_eq (((meet_spec a b).2 m).trans (by rw [Bool.and_eq_true, memB_iff, memB_iff]))
  have e3 : memB (minusL a b) m = (memB a m && !memB b m) := memB_eq (((minus_spec a b).2 m).trans (by rw [Bool.and_eq_true, memB_iff, Bool.not_eq_true', ← Bool.not_eq_true, memB_iff]))
  rw [e0, e1, e2, e3]
  cases memB a m <;> cases memB b m <;> rfl
theorem IvalMoments : ∀ (l0 : List (S23)) (l1 : List (S23)) (a2 : Int) (a3 : Int), (((l0).length * Try.prog.bytesOf 23 ≤ reachBytes ∧ ∀ x ∈ l0, ok23 x)) → (((l1).length * Try.prog.bytesOf 23 ≤ reachBytes ∧ ∀ x ∈ l1, ok23 x)) → ((Lit.int .i64 a2).wf = true) → ((Lit.int .i64 a3).wf = true) → l0.length ≤ 1048576 → l1.length ≤ 1048576 → ∃ k, spoorlaw06_IvalMoments.f k l0 l1 a2 a3 = some true := by
  intro l0 l1 a2 a3 _ _ _ h3 hl0 hl1
  have h3 := i64_of h3
  obtain ⟨K, hK⟩ : ∃ K, 5000000 ≤ K := ⟨_, Nat.le_refl _⟩
  refine ⟨K + 2, ?_⟩
  unfold spoorlaw06_IvalMoments.f
  rw [alive_ok (by omega), Option.bind_some, if_pos rfl, asked_ok l0 l1 hl0 hl1 a2 _ (by omega), Option.bind_some]
  have hj1 : ∀ (n : Int) (y : List S23), 0 ≤ n → y.length ≠ 0 → spoorlaw06_IvalMoments.j1 (K + 1) l0 l1 n y = some true := by
    intro n y hn hy
    have h1 := Int.tmod_nonneg (y.length : Int) hn
    have h2 := Int.tmod_lt_of_pos n (show (0 : Int) < (y.length : Int) by omega)
    simp only [spoorlaw06_IvalMoments.j1]
    rw [if_neg (by omega), if_pos h1, if_pos h2]
    simp only [asked_ok l0 l1 hl0 hl1 _ K hK, Option.bind_some, if_true]
  simp only [spoorlaw06_IvalMoments.j0]
  rw [if_neg (by simp), if_pos (by simp; omega)]
  simp only [Option.bind_some, List.nil_append]
  rw [if_pos (by omega)]
  by_cases hz : ((l0 ++ l1).length : Int) = 0
  · rw [if_pos hz]
  · rw [if_neg hz]
    have hz' : (l0 ++ l1).length ≠ 0 := by omega
    by_cases hn : a3 < 0
    · rw [if_pos hn, w64' (n := a3 + 1) (by omega) (by omega), w64' (by omega) (by omega)]
      exact hj1 _ _ (by omega) hz'
    · rw [if_neg hn]
      exact hj1 _ _ (by omega) hz'
end Go.Proofs.Ytafpmcmpkgbgaaa.Pure
