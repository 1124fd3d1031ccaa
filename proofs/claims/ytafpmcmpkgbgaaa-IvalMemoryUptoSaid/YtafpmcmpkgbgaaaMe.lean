/- Plain law: the chapter's examples hold; and what the numbers of 64 bits are. -/
import Derived.Test.YtafpmcmpkgbgaaaPr1b
import Derived.Test.YtafpmcmpkgbgaaaMc
import Derived.Test.YtafpmcmpkgbgaaaOp
namespace Go.Proofs.Ytafpmcmpkgbgaaa.Pr
open Go.RowKit Go.Proofs.YtafpmcmpkgbgaaaW.PrintWords
set_option linter.unusedVariables false
set_option linter.unusedSimpArgs false
theorem alive_ok {K : Nat} (hK : 20 ≤ K) : spoorlaw06_alive.f K = some true := at_rounds spoorlaw06_alive.mono hK (by kernel_rfl)
theorem i64_of {n : Int} (h : (Lit.int .i64 n).wf = true) : -9223372036854775808 ≤ n ∧ n ≤ 9223372036854775807 := by
  simpa [Lit.wf, IntKind.min, IntKind.max, IntKind.signed, IntKind.bits] using h
theorem in64_of_ok {l : List S23} (h : ∀ x ∈ l, ok23 x) : In64 l := fun x hx => ⟨i64_of (h x hx).1, i64_of (h x hx).2⟩
theorem normal_eq {l : List S23} (h : l.length ≤ 4194304) : ival_Normal.f l = some (normalL l) := by unfold ival_Normal.f; rw [if_pos (by omega)]
theorem meet_eq {a b : List S23} (h : a.length ≤ 1048576) (h' : b.length ≤ 1048576) : ival_Meet.f a b = some (meetL a b) := by unfold ival_Meet.f; rw [if_pos (by omega)]
theorem minus_eq {a b : List S23} (h : a.length ≤ 1048576) (h' : b.length ≤ 1048576) : ival_Minus.f a b = some (minusL a b) := by unfold ival_Minus.f; rw [if_pos (by omega)]
theorem normal_of_form {l : List S23} (h : Form l) : normalL l = l := form_unique (normal_spec l).1 h (normal_spec l).2
theorem normal_len (l : List S23) : (normalL l).length ≤ 2 * l.length := by have := swept_length pNormal l []; simpa [normalL] using this
theorem meet_len (a b : List S23) : (meetL a b).length ≤ 2 * (a.length + b.length) := swept_length pMeet a b
theorem minus_len (a b : List S23) : (minusL a b).length ≤ 2 * (a.length + b.length) := swept_length pMinus a b
end Go.Proofs.Ytafpmcmpkgbgaaa.Pr
