/- sample.may and what it calls: a policy that may be. -/
import Derived.Test.YthdkgilpnkabmaaGreatDoorCk
import Derived.Test.YthdkgilpnkabmaaGreatDoorPl
namespace Go.Proofs.YthdkgilpnkabmaaGreatDoor.Pr
open Go.RowKit Go.Lib Go.Proofs.YthdkgilpnkabmaaGreatDoorW.PrintWords
set_option linter.unusedVariables false
set_option linter.unusedSimpArgs false
theorem plain_ans {s : ByteArray} {w : World} (most fr : Int) (hs : s.size ≤ 9223372036854775807) (hT : ValidAt s w) : Ans 61 #[.string s, .int .i64 most, .int .u8 fr] (plainF s most fr) w :=
  fun W hW => plain_run s most fr W hs (hT.below hW)
set_option maxHeartbeats 1000000 in
theorem linked_nil (hi lo id par : Int) (c : Nat) (a : Option Addr) (sv op : ByteArray) (kd st s0 s1 : Int) (vA vE : Value) (w : World) :
    Ans 62 #[.agg #[.int .u64 hi, .int .u64 lo, .int .u64 id, .int .u64 par, .slice a 0 c, .string sv, .string op, .int .i64 kd, .int .i64 st, .int .i64 s0, .int .i64 s1, vA, vE]] true w := fun W hW => by
  have HB := Lib.hid ((Below.refl W.heap.size W).alloc (Nat.le_refl _) (.cells #[.int .u64 hi, .int .u64 lo, .int .u64 id, .int .u64 par, .slice a 0 c, .string sv, .string op, .int .i64 kd, .int .i64 st, .int .i64 s0, .int .i64 s1, vA, vE] 41))
  clear hW
  go_enter Tryz.func62, Tryz.ntmps62
  go_wp2
  refine wp_loop_rounds 1 ?_; rw [rounds_succ]
  go_wp2
  go_ret
  exact ⟨rfl, HB.out⟩
theorem carried_nil (a : Option Addr) (c : Nat) (w : World) : Ans 63 #[.slice a 0 c] true w := fun W hW => by
  clear hW
  go_enter Tryz.func63, Tryz.ntmps63
  go_wp2
  refine wp_loop_rounds 1 ?_; rw [rounds_succ]
  go_wp2
  go_ret
  exact ⟨rfl, Below.refl _ _⟩
theorem told_nil (a : Option Addr) (c : Nat) (w : World) : Ans 64 #[.slice a 0 c] true w := fun W hW => by
  clear hW
  go_enter Tryz.func64, Tryz.ntmps64
  go_wp2
  refine wp_loop_rounds 1 ?_; rw [rounds_succ]
  go_wp2
  go_ret
  exact ⟨rfl, Below.refl _ _⟩
theorem ret_b {a b : Bool} (h : a = b) : Ending.returned (.bool a) = .returned (.bool b) := by rw [h]
end Go.Proofs.YthdkgilpnkabmaaGreatDoor.Pr
