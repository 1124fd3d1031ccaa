/- The pure statement of IvalCut: what is cut is empty, or lies within; it has just the moments of both. -/
import Derived.Test.YtafpmcmpkgbgaaaPr1h
import Derived.Test.YtafpmcmpkgbgaaaMd
import Derived.Test.YtafpmcmpkgbgaaaMe
namespace Go.Proofs.Ytafpmcmpkgbgaaa.Pure
set_option linter.unusedVariables false
set_option linter.unusedSimpArgs false
open Go.RowKit Go.Proofs.Ytafpmcmpkgbgaaa.Pr Go.Proofs.YtafpmcmpkgbgaaaW.PrintWords Go.Proofs.YtafpmcmpkgbgaaaW.PrintLast Go.Proofs.YtafpmcmpkgbgaaaW.PrintMore
/-- A number brought into two others. -/
def cl (a w0 w1 : Int) : Int := if a < w0 then w0 else if w1 < a then w1 else a
def clF (a0 a1 w0 w1 : Int) : Int × Int := if w1 ≤ w0 then (w0, w0) else if a1 ≤ a0 then (cl a0 w0 w1, cl a0 w0 w1) else (cl a0 w0 w1, cl a1 w0 w1)
theorem clip_cl (a0 a1 w0 w1 : Int) : ival_Clip.f a0 a1 w0 w1 = some (clF a0 a1 w0 w1) := by
  have hi : ∀ a, w0 < w1 → mx w0 (mn a w1) = cl a w0 w1 := by
    intro a h; unfold mx mn cl; repeat' split
    all_goals omega
  unfold ival_Clip.f ival_empty.f ival_into.f clF
  simp only [Option.bind_some]
  by_cases h : w1 ≤ w0
  · rw [if_pos (decide_eq_true h), if_pos h]
  · rw [if_neg (by simpa using h), if_neg h, hi _ (by omega), hi _ (by omega)]
    by_cases h' : a1 ≤ a0
    · rw [if_pos (decide_eq_true h'), if_pos h']
    · rw [if_neg (by simpa using h'), if_neg h']
/-- What is cut: in order; within where there is something within; with the moments of both; cut once more it stays. -/
theorem clF_spec (a0 a1 w0 w1 : Int) : ∃ c0 c1, clF a0 a1 w0 w1 = (c0, c1) ∧ c0 ≤ c1 ∧ (c1 = c0 ∨ (w0 ≤ c0 ∧ c0 < c1 ∧ c1 ≤ w1)) ∧ ((w1 ≤ w0 ∧ c0 = w0 ∧ c1 = w0) ∨ (w0 ≤ c0 ∧ c1 ≤ w1)) ∧ clF c0 c1 w0 w1 = (c0, c1) ∧
    ∀ m, ((a0 ≤ m ∧ m < a1) ∧ (w0 ≤ m ∧ m < w1)) ↔ (c0 ≤ m ∧ m < c1) := by
  unfold clF
  by_cases h : w1 ≤ w0
  · rw [if_pos h]
    exact ⟨w0, w0, rfl, Int.le_refl _, .inl rfl, .inl ⟨h, rfl, rfl⟩, by rw [if_pos h], fun m => by omega⟩
  · rw [if_neg h]
    simp only [if_neg h]
    have hc : ∀ a, w0 ≤ cl a w0 w1 ∧ cl a w0 w1 ≤ w1 := by
      intro a; unfold cl; repeat' split
      all_goals omega
    have hcc : ∀ a, cl (cl a w0 w1) w0 w1 = cl a w0 w1 := by
      intro a; have := hc a; generalize cl a w0 w1 = b at *; unfold cl; repeat' split
      all_goals omega
    have h0 := hc a0
    by_cases h' : a1 ≤ a0
    · rw [if_pos h']
      exact ⟨_, _, rfl, Int.le_refl _, .inl rfl, .inr ⟨h0.1, h0.2⟩, by rw [if_pos (Int.le_refl _), hcc], fun m => by omega⟩
    · rw [if_neg h']
      have h1 := hc a1
      have hm : cl a0 w0 w1 ≤ cl a1 w0 w1 := by
        unfold cl; repeat' split
        all_goals omega
      refine ⟨_, _, rfl, hm, ?_, .inr ⟨h0.1, h1.2⟩, ?_, fun m => ?_⟩
      · by_cases e : cl a1 w0 w1 = cl a0 w0 w1
        · exact .inl e
        · exact .inr ⟨h0.1, by omega, h1.2⟩
      · rw [hcc, hcc]
        split
        · have : cl a0 w0 w1 = cl a1 w0 w1 := by omega
          rw [this]
        · rfl
      · unfold cl
        repeat' split
        all_goals omega
theorem IvalCut : ∀ (x0 : S23) (x1 : S23), (ok23 x0) → (ok23 x1) → ∃ k, spoorlaw06_IvalCut.f k x0.f0 x0.f1 x1.f0 x1.f1 = some true := by
  intro x0 x1 o0 o1
  obtain ⟨a0, a1⟩ := x0
  obtain ⟨w0, w1⟩ := x1
  have ia := And.intro (i64_of o0.1) (i64_of o0.2)
  have iw := And.intro (i64_of o1.1) (i64_of o1.2)
  simp only at ia iw
  obtain ⟨c0, c1, ec, hle, hin, hbo, hcc, hmm⟩ := clF_spec a0 a1 w0 w1
  obtain ⟨K, hK⟩ : ∃ K, 5000 ≤ K := ⟨_, Nat.le_refl _⟩
  refine ⟨K + 2, ?_⟩
  -- meet and normal
  have me := meet_spec [⟨a0, a1⟩] [⟨w0, w1⟩]
  have nc := normal_spec [(⟨c0, c1⟩ : S23)]
  have e1 : normalL [(⟨c0, c1⟩ : S23)] = meetL [⟨a0, a1⟩] [⟨w0, w1⟩] := form_unique nc.1 me.1 (fun m => by rw [nc.2, me.2, Mem_cons, Mem_cons, Mem_cons]; have := hmm m; simp only [Mem_nil, or_false]; exact this.symm)
  have ln : (normalL [(⟨c0, c1⟩ : S23)]).length ≤ 2 := normal_len _
  have im : In64 (meetL [⟨a0, a1⟩] [⟨w0, w1⟩]) := in64_of me.1 (fun m h => ((me.2 m).1 h).1) (fun x hx => by simp at hx; subst hx; exact ia)
  -- its measure
  have hlen : lens (normalL [(⟨c0, c1⟩ : S23)]) = c1 - c0 := by
    by_cases h : c0 < c1
    · rw [normal_of_form (Form.cons Form.nil h (by simp))]; simp [lens]
    · have : normalL [(⟨c0, c1⟩ : S23)] = [] := form_unique nc.1 Form.nil (fun m => by rw [nc.2, Mem_cons]; simp only [Mem_nil, or_false, iff_false]; omega)
      rw [this]; simp [lens]; omega
  have hms : ∀ k, 1000 ≤ k → ival_Measure.f k (meetL [⟨a0, a1⟩] [⟨w0, w1⟩]) = some (c1 - c0) := by
    intro k hk
    rw [measure_eq _ (by rw [← e1]; omega) im k (by rw [← e1]; omega), normal_of_form me.1, ← e1, hlen]
  have hll : ival_Length.f c0 c1 = some (c1 - c0) := by
    by_cases h : c0 < c1
    · have ic : ((-9223372036854775808 ≤ c0 ∧ c0 ≤ 9223372036854775807) ∧ (-9223372036854775808 ≤ c1 ∧ c1 ≤ 9223372036854775807)) := by
        rcases hin with e | e
        · omega
        · omega
      exact length_eq (x := ⟨c0, c1⟩) h ic
    · unfold ival_Length.f ival_empty.f
      rw [Option.bind_some, if_pos (by simp; omega)]
      congr 1; omega
  have j1 : spoorlaw06_IvalCut.j1 (K + 1) true true true a0 a1 w0 w1 c0 c1 = some true := by
    simp only [spoorlaw06_IvalCut.j1]
    rw [meet_eq (by simp) (by simp), Option.bind_some, normal_eq (by simp), Option.bind_some, e1, same_refl _ (by rw [← e1]; omega) K (by rw [← e1]; omega), Option.bind_some, if_pos trivial, if_pos trivial, if_pos trivial, if_pos rfl, clip_cl, hcc, Option.bind_some, if_pos (by simp), hms K (by omega), Option.bind_some, hll, Option.bind_some]
    simp
  have j0 : spoorlaw06_IvalCut.j0 (K + 2) true true a0 a1 w0 w1 c0 c1 = some true := by
    simp only [spoorlaw06_IvalCut.j0]
    have hd : w0 ≤ c0 → c1 ≤ w1 → (if w0 ≤ c0 then (spoorlaw06_IvalCut.j1 (K + 1) true true (decide (c1 ≤ w1)) a0 a1 w0 w1 c0 c1) else (spoorlaw06_IvalCut.j1 (K + 1) true true false a0 a1 w0 w1 c0 c1)) = some true := by
      intro h h'; rw [if_pos h, decide_eq_true h']; exact j1
    by_cases h : w1 ≤ w0
    · rw [if_pos h]
      unfold spoorlaw06_of.f
      rw [Option.bind_some]
      rcases hbo with ⟨_, h1, h2⟩ | ⟨h1, h2⟩
      · rw [if_pos (by simp [h1, h2])]; exact j1
      · split
        · exact j1
        · first | (rw [decide_eq_true h2]; exact j1) | (rw [if_pos h1, decide_eq_true h2]; exact j1)
    · rw [if_neg h]
      rcases hbo with ⟨h1, _⟩ | ⟨h1, h2⟩
      · exact absurd h1 h
      · exact hd h1 h2
  unfold spoorlaw06_IvalCut.f
  simp only
  rw [alive_ok (by omega), Option.bind_some, clip_cl, ec, Option.bind_some]
  simp only
  by_cases h : c1 = c0
  · rw [if_pos h]; exact j0
  · rw [if_neg h]
    rcases hin with e | ⟨e1, e2, e3⟩
    · exact absurd e h
    · rw [if_pos e1, if_pos e2, decide_eq_true e3]; exact j0
end Go.Proofs.Ytafpmcmpkgbgaaa.Pure
