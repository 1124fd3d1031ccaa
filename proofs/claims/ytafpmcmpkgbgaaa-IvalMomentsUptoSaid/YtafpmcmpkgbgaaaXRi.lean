/- The contract of spoorref06.into, in the print's form of a function that may lay blocks. -/
import Derived.Test.YtafpmcmpkgbgaaaPr0
import Derived.Lib.Hide
import Derived.Outline
import Derived.IntWalk
namespace Go.Proofs.Ytafpmcmpkgbgaaa.Pr
open Go.RowKit Go.Proofs.YtafpmcmpkgbgaaaW.PrintWords Go.Proofs.YtafpmcmpkgbgaaaW.PrintLast Go.Proofs.YtafpmcmpkgbgaaaW.PrintMore
set_option linter.unusedVariables false
set_option linter.unusedSimpArgs false
def spoorref06_into.f (a0 : Int) (a1 : Int) (a2 : Int) : Option (Int) := if a0 < a1 then (some a1) else (if a0 > a2 then (some a2) else (some a0))
theorem spoorref06_into.calls (a0 : Int) (a1 : Int) (a2 : Int) (r : Int) (w : World) (h : spoorref06_into.f a0 a1 a2 = some r) :
    Calls Try.prog 37 #[.int .i64 a0, .int .i64 a1, .int .i64 a2] w fun e w' => e = .returned (.int .i64 r) ∧ Below w.heap.size w w' := by
  unfold spoorref06_into.f at h
  by_cases c4 : a0 < a1
  · rw [if_pos c4] at h
    have c4b0 : decide (a0 < a1) = true := decide_eq_true c4
    obtain rfl := Option.some.inj h
    clear c4 h
    go_enter Try.func37, Try.ntmps37
    go_wp2
    go_ret
    exact ⟨rfl, by repeat (first | exact Below.refl _ _ | apply pw_below_drewN | apply below_drew1)⟩
  · rw [if_neg c4] at h
    have c4b0 : decide (a0 < a1) = false := decide_eq_false c4
    clear c4
    by_cases c5 : a0 > a2
    · rw [if_pos c5] at h
      have c5b0 : decide (a2 < a0) = true := decide_eq_true c5
      obtain rfl := Option.some.inj h
      clear c5 h
      go_enter Try.func37, Try.ntmps37
      go_wp2
      go_ret
      exact ⟨rfl, by repeat (first | exact Below.refl _ _ | apply pw_below_drewN | apply below_drew1)⟩
    · rw [if_neg c5] at h
      have c5b0 : decide (a2 < a0) = false := decide_eq_false c5
      obtain rfl := Option.some.inj h
      clear c5 h
      go_enter Try.func37, Try.ntmps37
      go_wp2
      go_ret
      exact ⟨rfl, by repeat (first | exact Below.refl _ _ | apply pw_below_drewN | apply below_drew1)⟩
end Go.Proofs.Ytafpmcmpkgbgaaa.Pr
