/- What is left of a text of the print's words (WInvWords), where only what this claim names was kept (prune.py, a program of the session's own). -/
import Derived.Test.YtdlnfmakfnggpaaDoorWInv
import Derived.Test.YtdlnfmakfnggpaaDoorWFootNe
namespace Go.Proofs.YtdlnfmakfnggpaaDoorW.PrintWords
open Go.RowKit
end Go.Proofs.YtdlnfmakfnggpaaDoorW.PrintWords
namespace Go.Proofs.YtdlnfmakfnggpaaDoorW.PrintLast
section
variable {ops : Array Oper} {a : Act} {o og : Oper} {g : Nat} {t : Tmp} {u : Bool}
end
end Go.Proofs.YtdlnfmakfnggpaaDoorW.PrintLast
