/- What is left of a text of the print's words (WFour), where only what this claim names was kept (prune.py, a program of the session's own). -/
import Derived.Test.YtdlnfmakfnggpaaDoorWTab
/-! ### 56. Four, five, six operations that may come up next, in any order -/
namespace Go.Proofs.YtdlnfmakfnggpaaDoorW.PrintLast
section
variable {P : Program} {ops : Array Oper} {Q : Exit → Act → World → Prop} {md : Region.Mode} {S : World → Prop} {ds : List Nat} {T : Bool × List (List Nat × List Nat)}
end
end Go.Proofs.YtdlnfmakfnggpaaDoorW.PrintLast
