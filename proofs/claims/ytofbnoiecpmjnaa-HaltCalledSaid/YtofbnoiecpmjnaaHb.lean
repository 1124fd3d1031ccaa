/- What New makes. -/
import Derived.Test.YtofbnoiecpmjnaaHa
import Derived.Conc.SmallLaws
import Derived.Conc.EventLaws
import Derived.Lib.Hide
namespace Go.Proofs.Ytofbnoiecpmjnaa.Pr
open Go.RowKit Go.Proofs.YtofbnoiecpmjnaaW.PrintWords Go.MuLone
open Go.Lib
set_option linter.unusedVariables false
set_option linter.unusedSimpArgs false
def muObj : Obj := .cells #[.int .i32 0, .int .u32 0] 66
def chObj (closed : Bool) : Obj := .chan 0 #[] closed 0 0 false
def IsCh (W : World) (c : Nat) (closed : Bool) : Prop := W.heap[c]? = some (chObj closed)
def newSR (n : Int) (c : Nat) : SR := { above := none, und := .slice none 0 0, bud := decide (n > 0), left := n, why := 0, chn := c }
theorem mk_chan (W : World) : (Instr.makeChan 67 (.int .i64 0)).run Try.prog W = .ok (.chan (some W.heap.size)) (W.alloc (.chan 0 #[] false 0 0 false)) := by
  cases hi : Try.prog.info? 60 with
  | none => exact absurd hi (by decide +kernel)
  | some i => exact Go.Conc.run_makeChan (P := Try.prog) (w := W) Try.underlying67 hi .i64 0 (by omega) (by simp)
theorem new_bad (n : Int) (W : World) (h : n < 0) : Calls Try.prog 9 #[.int .i64 n] W fun e w' => e = .returned (.tuple #[.pointer none, .int .i64 1]) ∧ w' = W := by
  have hd : decide (n < 0) = true := decide_eq_true h
  go_enter Try.func9, Try.ntmps9
  go_wp2_with fail
  go_ret2
  exact ⟨rfl, rfl⟩
set_option maxRecDepth 100000 in
theorem new_run (n : Int) (W : World) (h : 0 ≤ n) : Calls Try.prog 9 #[.int .i64 n] W fun e w' => e = .returned (.tuple #[.pointer (some ⟨W.heap.size + 2, 0, none⟩), .int .i64 0]) ∧ w' = ((W.alloc muObj).alloc (chObj false)).alloc (.cells ((newSR n (W.heap.size + 1)).cells W.heap.size) 70) := by
  have hd : decide (n < 0) = false := decide_eq_false (by omega)
  have hmk := mk_chan
  go_enter Try.func9, Try.ntmps9
  go_wp2_with fail
  go_ret2
  exact ⟨rfl, rfl⟩
end Go.Proofs.Ytofbnoiecpmjnaa.Pr
