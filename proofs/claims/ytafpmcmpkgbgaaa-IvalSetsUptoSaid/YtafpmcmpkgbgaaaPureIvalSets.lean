/- The pure statement of IvalSets. -/
import Derived.Test.YtafpmcmpkgbgaaaXIs
import Derived.Test.YtafpmcmpkgbgaaaOp
namespace Go.Proofs.Ytafpmcmpkgbgaaa.Pure
open Go.RowKit Go.Proofs.Ytafpmcmpkgbgaaa.Pr Go.Proofs.YtafpmcmpkgbgaaaW.PrintWords Go.Proofs.YtafpmcmpkgbgaaaW.PrintLast
set_option linter.unusedVariables false
theorem IvalSets : ∀ (l0 : List (S23)) (l1 : List (S23)) (a2 : Int), (((l0).length * Try.prog.bytesOf 23 ≤ reachBytes ∧ ∀ x ∈ l0, ok23 x)) → (((l1).length * Try.prog.bytesOf 23 ≤ reachBytes ∧ ∀ x ∈ l1, ok23 x)) → ((Lit.int .i64 a2).wf = true) → l0.length ≤ 1048576 → l1.length ≤ 1048576 → ∃ k, (fun (_ : Nat) => spoorlaw06_IvalSets.f l0 l1 a2) k = some true := by
  intro l0 l1 a2 h0 h1 _ hl0 hl1
  refine ⟨0, ?_⟩
  show spoorlaw06_IvalSets.f l0 l1 a2 = some true
  unfold spoorlaw06_IvalSets.f
  rw [if_pos ⟨hl0, hl1, in64_of_ok h0.2, in64_of_ok h1.2⟩]
end Go.Proofs.Ytafpmcmpkgbgaaa.Pure
