/- The pure statement of IvalForm: one form for each set. -/
import Derived.Test.YtafpmcmpkgbgaaaPr1d
import Derived.Test.YtafpmcmpkgbgaaaMe
namespace Go.Proofs.Ytafpmcmpkgbgaaa.Pure
set_option linter.unusedVariables false
set_option linter.unusedSimpArgs false
open Go.RowKit Go.Proofs.Ytafpmcmpkgbgaaa.Pr Go.Proofs.YtafpmcmpkgbgaaaW.PrintWords Go.Proofs.YtafpmcmpkgbgaaaW.PrintLast
theorem IvalForm : ∀ (l0 : List (S23)) (l1 : List (S23)) (l2 : List Int), (((l0).length * Try.prog.bytesOf 23 ≤ reachBytes ∧ ∀ x ∈ l0, ok23 x)) → (((l1).length * Try.prog.bytesOf 23 ≤ reachBytes ∧ ∀ x ∈ l1, ok23 x)) → (((l2).length * Try.prog.bytesOf 2 ≤ reachBytes ∧ ∀ x ∈ l2, (Lit.int .i64 x).wf = true)) → l0.length ≤ 1048576 → l1.length ≤ 1048576 → l2.length ≤ 1048576 → ∃ k, spoorlaw06_IvalForm.f k l0 l1 l2 = some true := by
  intro l0 l1 l2 _ _ _ hl0 hl1 hl2
  have n0 := normal_spec l0
  have m1 := meet_spec l0 l1
  have s1 := minus_spec l0 l1
  have e0 := normal_len l0
  have e1 := meet_len l0 l1
  have e2 := minus_len l0 l1
  have q0 := normal_of_form n0.1
  obtain ⟨K, hK⟩ : ∃ K, 30000000 ≤ K := ⟨_, Nat.le_refl _⟩
  refine ⟨K, ?_⟩
  unfold spoorlaw06_IvalForm.f
  rw [alive_ok (by omega), Option.bind_some, normal_eq (by omega), Option.bind_some, normal_eq (by omega), Option.bind_some, meet_eq hl0 hl1, Option.bind_some, minus_eq hl0 hl1, Option.bind_some, q0]
  -- i of the list's intervals are still to be turned
  have key : ∀ (i k : Nat) (o : List S23), i ≤ l0.length → 2 * i + 20000000 < k → o.length ≤ 2 * (l0.length - i) → (∀ m, Mem o m ↔ Mem (l0.drop i) m) →
      spoorlaw06_IvalForm.l0 k l0 l2 true (normalL l0) (normalL l0) (meetL l0 l1) (minusL l0 l1) o ((i : Int) - 1) = some true := by
    intro i
    induction i with
    | zero =>
      intro k o hi hk ho hm
      obtain ⟨k, rfl⟩ : ∃ m, k = m + 1 := ⟨k - 1, by omega⟩
      unfold spoorlaw06_IvalForm.l0
      have no := normal_spec o
      have eo : normalL o = normalL l0 := form_unique no.1 n0.1 (fun m => by rw [no.2, n0.2, hm m, List.drop_zero])
      rw [if_neg (by omega), normal_eq (by omega), Option.bind_some, if_pos rfl, form_true _ n0.1 (by omega) k (by omega), Option.bind_some, if_pos rfl, form_true _ m1.1 (by omega) k (by omega), Option.bind_some, if_pos rfl, form_true _ s1.1 (by omega) k (by omega), Option.bind_some, if_pos rfl,
        same_refl _ (by omega) k (by omega), Option.bind_some, if_pos rfl, eo, same_refl _ (by omega) k (by omega), Option.bind_some]
    | succ i ih =>
      intro k o hi hk ho hm
      obtain ⟨k, rfl⟩ : ∃ m, k = m + 2 := ⟨k - 2, by omega⟩
      have hil : i < l0.length := by omega
      have e1 : (((i + 1 : Nat) : Int) - 1) = (i : Int) := by omega
      have e2 : wrap64 ((i : Int) - 1) = (i : Int) - 1 := w64' (by omega) (by omega)
      have hd := List.drop_eq_getElem_cons hil
      -- what is put behind has the moments of the interval
      have put : ∀ p : List S23, p.length ≤ 2 → (∀ m, Mem p m ↔ ((l0[i]).f0 ≤ m ∧ m < (l0[i]).f1)) → spoorlaw06_IvalForm.l0 k l0 l2 true (normalL l0) (normalL l0) (meetL l0 l1) (minusL l0 l1) (o ++ p) ((i : Int) - 1) = some true := by
        intro p hp hpm
        refine ih k (o ++ p) (by omega) (by omega) (by rw [List.length_append]; omega) (fun m => ?_)
        rw [Mem_append, hm m, hd, Mem_cons, hpm m]
        exact Or.comm
      have plain : (o ++ [(⟨(l0[i]).f0, (l0[i]).f1⟩ : S23)]).length ≤ 4194304 → spoorlaw06_IvalForm.l0 k l0 l2 true (normalL l0) (normalL l0) (meetL l0 l1) (minusL l0 l1) (o ++ [(⟨(l0[i]).f0, (l0[i]).f1⟩ : S23)]) ((i : Int) - 1) = some true :=
        fun _ => put _ (by simp) (fun m => by simp [Mem])
      unfold spoorlaw06_IvalForm.l0
      rw [e1, if_pos (by omega), if_pos (by omega), if_pos (by omega), rd_get hil]
      have hf : spoorlaw06_IvalForm.j1 (k + 1) l0 l2 true (normalL l0) (normalL l0) (meetL l0 l1) (minusL l0 l1) o (i : Int) false (l0[i]).f0 (l0[i]).f1 = some true := by
        unfold spoorlaw06_IvalForm.j1
        rw [if_neg (by simp), if_pos (by omega), e2]
        exact plain (by rw [List.length_append]; simp; omega)
      by_cases h2 : (i : Int) < (l2.length : Int)
      · rw [if_pos h2]
        by_cases h3 : (l0[i]).f0 ≤ rd l2 (i : Int)
        · rw [if_pos h3]
          by_cases h4 : rd l2 (i : Int) ≤ (l0[i]).f1
          · rw [decide_eq_true h4]
            unfold spoorlaw06_IvalForm.j1
            rw [if_pos rfl, if_pos (by omega), if_pos h2]
            unfold spoorlaw06_of.f
            simp only [Option.bind_some]
            rw [if_pos (by simp; omega), e2]
            refine put _ (by simp) (fun m => ?_)
            simp [Mem]
            omega
          · rw [decide_eq_false h4]; exact hf
        · rw [if_neg h3]; exact hf
      · rw [if_neg h2]; exact hf
  have e3 : wrap64 ((l0.length : Int) - 1) = (l0.length : Int) - 1 := w64' (by omega) (by omega)
  rw [e3]
  exact key l0.length K [] (Nat.le_refl _) (by omega) (by simp) (fun m => by rw [List.drop_length])
end Go.Proofs.Ytafpmcmpkgbgaaa.Pure
