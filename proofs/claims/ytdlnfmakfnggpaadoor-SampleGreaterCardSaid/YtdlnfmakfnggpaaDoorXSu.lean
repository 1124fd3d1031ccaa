/- sample.Check, in the print's form. -/
import Derived.Test.YtdlnfmakfnggpaaDoorXCs
import Derived.Test.YtdlnfmakfnggpaaDoorXSt
namespace Go.Proofs.YtdlnfmakfnggpaaDoor.Pr
open Go.RowKit Go.Lib Go.Proofs.YtdlnfmakfnggpaaDoorW.PrintWords
set_option linter.unusedVariables false
set_option linter.unusedSimpArgs false
def sample_Check.f (l0 : List S30) : Option Int := if (l0.all fun x => decide (x.f2.size ≤ 9223372036854775807)) = true then some (polF l0) else none
theorem sample_Check.calls (A0 : Option Addr) (c0 : Nat) (l0 : List S30) (r : Int) (w : World) (hr0 : Kd.C k30 w A0 l0.length l0) (hc0 : l0.length ≤ c0) (h : sample_Check.f l0 = some r) (hT : Tabs w) :
    Calls Tryd.prog 13 #[.slice A0 l0.length c0] w fun e w' => e = .returned (.int .i64 r) ∧ Below w.heap.size w w' := by
  unfold sample_Check.f at h
  by_cases hs : (l0.all fun x => decide (x.f2.size ≤ 9223372036854775807)) = true
  · rw [if_pos hs] at h
    obtain rfl := Option.some.inj h
    refine polcheck_run A0 c0 l0 w hr0 (fun x hx => ?_)
    have h2 : x.f2.size ≤ 9223372036854775807 := by simpa using List.all_eq_true.1 hs x hx
    exact ⟨h2, valid_tabs h2 hT⟩
  · rw [if_neg hs] at h; cases h
end Go.Proofs.YtdlnfmakfnggpaaDoor.Pr
