/- sample.may and what it calls: a policy that may be. -/
import Derived.Test.YtdlnfmakfnggpaaDoorXCk
import Derived.Test.YtdlnfmakfnggpaaDoorXPl
namespace Go.Proofs.YtdlnfmakfnggpaaDoor.Pr
open Go.RowKit Go.Lib Go.Proofs.YtdlnfmakfnggpaaDoorW.PrintWords
set_option linter.unusedVariables false
set_option linter.unusedSimpArgs false
theorem plain_ans {s : ByteArray} {w : World} (most fr : Int) (hs : s.size ≤ 9223372036854775807) (hT : ValidAt s w) : Ans 77 #[.string s, .int .i64 most, .int .u8 fr] (plainF s most fr) w :=
  fun W hW => plain_run s most fr W hs (hT.below hW)
set_option maxHeartbeats 1000000 in
theorem linked_nil (hi lo id par : Int) (c : Nat) (a : Option Addr) (sv op : ByteArray) (kd st s0 s1 : Int) (vA vE : Value) (w : World) :
    Ans 78 #[.agg #[.int .u64 hi, .int .u64 lo, .int .u64 id, .int .u64 par, .slice a 0 c, .string sv, .string op, .int .i64 kd, .int .i64 st, .int .i64 s0, .int .i64 s1, vA, vE]] true w := fun W hW => by
  have HB := Lib.hid ((Below.refl W.heap.size W).alloc (Nat.le_refl _) (.cells #[.int .u64 hi, .int .u64 lo, .int .u64 id, .int .u64 par, .slice a 0 c, .string sv, .string op, .int .i64 kd, .int .i64 st, .int .i64 s0, .int .i64 s1, vA, vE] 43))
  clear hW
  go_enter Tryd.func78, Tryd.ntmps78
  go_wp2
  refine wp_loop_rounds 1 ?_; rw [rounds_succ]
  go_wp2
  go_ret
  exact ⟨rfl, HB.out⟩
theorem carried_nil (a : Option Addr) (c : Nat) (w : World) : Ans 79 #[.slice a 0 c] true w := fun W hW => by
  clear hW
  go_enter Tryd.func79, Tryd.ntmps79
  go_wp2
  refine wp_loop_rounds 1 ?_; rw [rounds_succ]
  go_wp2
  go_ret
  exact ⟨rfl, Below.refl _ _⟩
theorem told_nil (a : Option Addr) (c : Nat) (w : World) : Ans 80 #[.slice a 0 c] true w := fun W hW => by
  clear hW
  go_enter Tryd.func80, Tryd.ntmps80
  go_wp2
  refine wp_loop_rounds 1 ?_; rw [rounds_succ]
  go_wp2
  go_ret
  exact ⟨rfl, Below.refl _ _⟩
theorem plain_x : plainF ⟨#[120]⟩ 100 32 = true := by decide +kernel
theorem serves_run (s : ByteArray) (w : World) (hs : s.size ≤ 9223372036854775807) (hT : ValidAt s w) :
    Calls Tryd.prog 61 #[.string s] w fun e w' => e = .returned (.bool (plainF s 60 33)) ∧ Below w.heap.size w w' := by
  have hx := plain_ans (s := ⟨#[120]⟩) (w := w) 100 32 (by decide) (valid_one 120 (by decide) (by decide +kernel) w)
  rw [plain_x] at hx
  have HC := Lib.hid (check_run 0 1 1 0 (.slice none 0 0) s ⟨#[120]⟩ 0 0 0 0 (.slice none 0 0) (.slice none 0 0) (plainF s 60 33) true true true true w
    (plain_ans 60 33 hs hT) hx (linked_nil 0 1 1 0 0 none s ⟨#[120]⟩ 0 0 0 0 _ _ w) (carried_nil none 0 w) (told_nil none 0 w))
  clear hx hT
  generalize plainF s 60 33 = b at *
  cases b
  all_goals
    go_enter Tryd.func61, Tryd.ntmps61
    go_wp2_with fail
    refine HC.out.mono ?_
    rintro e w1 ⟨rfl, hb⟩
    have HB := Lib.hid hb
    clear hb
    simp only [checkF]
    go_wp2_with fail
    go_ret
    exact ⟨rfl, HB.out⟩
def mayF (kd na : Int) (nm : ByteArray) (pt : Int) : Bool :=
  if kd < 0 ∨ 4 < kd then false else if na ≠ 0 ∧ kd ≠ 2 then false else if kd = 4 then (nm.toList.isEmpty && decide (0 ≤ pt) && decide (pt ≤ 65536))
  else if kd = 3 then (pt == 0 && plainF nm 60 33) else (nm.toList.isEmpty && pt == 0)
theorem serves_ans {s : ByteArray} {w : World} (hs : s.size ≤ 9223372036854775807) (hT : ValidAt s w) : Ans 61 #[.string s] (plainF s 60 33) w :=
  fun W hW => serves_run s W hs (hT.below hW)
theorem ret_b {a b : Bool} (h : a = b) : Ending.returned (.bool a) = .returned (.bool b) := by rw [h]
set_option maxHeartbeats 1000000 in
theorem may_run (kd na : Int) (nm : ByteArray) (pt : Int) (w : World) (hs : nm.size ≤ 9223372036854775807) (hT : ValidAt nm w) :
    Calls Tryd.prog 39 #[.agg #[.int .i64 kd, .int .u64 na, .string nm, .int .i64 pt]] w fun e w' => e = .returned (.bool (mayF kd na nm pt)) ∧ Below w.heap.size w w' := by
  have HS := Lib.hid (serves_ans hs hT)
  clear hs hT
  go_enter Tryd.func39, Tryd.ntmps39
  go_wp2_with (refine (HS.out _ ((Below.refl _ _).alloc (Nat.le_refl _) _)).mono ?_; rintro e w1 ⟨rfl, hb⟩; have HB := Lib.hid (((Below.refl w.heap.size w).alloc (Nat.le_refl _) _).trans (hb.mono (by simp))); clear hb)
  all_goals go_ret
  all_goals refine ⟨?_, by first | exact HB.out | exact (Below.refl _ _).alloc (Nat.le_refl _) _⟩
  all_goals refine ret_b ?_
  all_goals
    unfold mayF
    clear HS
    first
      | (rw [if_pos (by omega)]; done)
      | (rw [if_neg (by omega)]; simp_all; done)
      | (rw [if_neg (by omega)]; simp_all; omega)
end Go.Proofs.YtdlnfmakfnggpaaDoor.Pr
