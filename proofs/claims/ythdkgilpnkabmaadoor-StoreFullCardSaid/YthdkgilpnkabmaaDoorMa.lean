/- sample.may and what it calls: a policy that may be. -/
import Derived.Test.YthdkgilpnkabmaaDoorCk
import Derived.Test.YthdkgilpnkabmaaDoorPl
namespace Go.Proofs.YthdkgilpnkabmaaDoor.Pr
open Go.RowKit Go.Lib Go.Proofs.YthdkgilpnkabmaaDoorW.PrintWords
set_option linter.unusedVariables false
set_option linter.unusedSimpArgs false
theorem plain_ans {s : ByteArray} {w : World} (most fr : Int) (hs : s.size ≤ 9223372036854775807) (hT : ValidAt s w) : Ans 19 #[.string s, .int .i64 most, .int .u8 fr] (plainF s most fr) w :=
  fun W hW => plain_run s most fr W hs (hT.below hW)
set_option maxHeartbeats 1000000 in
theorem linked_nil (hi lo id par : Int) (c : Nat) (a : Option Addr) (sv op : ByteArray) (kd st s0 s1 : Int) (vA vE : Value) (w : World) :
    Ans 20 #[.agg #[.int .u64 hi, .int .u64 lo, .int .u64 id, .int .u64 par, .slice a 0 c, .string sv, .string op, .int .i64 kd, .int .i64 st, .int .i64 s0, .int .i64 s1, vA, vE]] true w := fun W hW => by
  have HB := Lib.hid ((Below.refl W.heap.size W).alloc (Nat.le_refl _) (.cells #[.int .u64 hi, .int .u64 lo, .int .u64 id, .int .u64 par, .slice a 0 c, .string sv, .string op, .int .i64 kd, .int .i64 st, .int .i64 s0, .int .i64 s1, vA, vE] 36))
  clear hW
  go_enter Tryd.func20, Tryd.ntmps20
  go_wp2
  refine wp_loop_rounds 1 ?_; rw [rounds_succ]
  go_wp2
  go_ret
  exact ⟨rfl, HB.out⟩
theorem carried_nil (a : Option Addr) (c : Nat) (w : World) : Ans 21 #[.slice a 0 c] true w := fun W hW => by
  clear hW
  go_enter Tryd.func21, Tryd.ntmps21
  go_wp2
  refine wp_loop_rounds 1 ?_; rw [rounds_succ]
  go_wp2
  go_ret
  exact ⟨rfl, Below.refl _ _⟩
theorem told_nil (a : Option Addr) (c : Nat) (w : World) : Ans 22 #[.slice a 0 c] true w := fun W hW => by
  clear hW
  go_enter Tryd.func22, Tryd.ntmps22
  go_wp2
  refine wp_loop_rounds 1 ?_; rw [rounds_succ]
  go_wp2
  go_ret
  exact ⟨rfl, Below.refl _ _⟩
theorem ret_b {a b : Bool} (h : a = b) : Ending.returned (.bool a) = .returned (.bool b) := by rw [h]
end Go.Proofs.YthdkgilpnkabmaaDoor.Pr
