/- What is left of a text of the print's words (WFootNe), where only what this claim names was kept (prune.py, a program of the session's own). -/
import Derived.Test.YtdlnfmakfnggpaaDoorWN
/-! ### 52. A row that stays read whatever happens to a block (a set of blocks) doesn't lie there -/
namespace Go.Proofs.YtdlnfmakfnggpaaDoorW.PrintWords
open Go.RowKit
namespace Kd
section
variable {α : Type} {d : Kd α} {W : World} {g n : Nat} {S ok : Nat → Prop} {A : Option Addr} {ad : Addr} {xs : List α}
end
end Kd
end Go.Proofs.YtdlnfmakfnggpaaDoorW.PrintWords
