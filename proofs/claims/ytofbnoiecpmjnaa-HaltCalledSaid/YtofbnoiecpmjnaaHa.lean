/- Stops in memory; what Why and Left answer. -/
import Derived.Test.YtofbnoiecpmjnaaLk
import Derived.Test.YtofbnoiecpmjnaaWWords
import Derived.WalkKit
import Derived.Outline
import Derived.IntWalk
import Derived.Laws.CopyRow
namespace Go.Proofs.Ytofbnoiecpmjnaa.Pr
open Go.RowKit Go.Proofs.YtofbnoiecpmjnaaW.PrintWords Go.MuLone
set_option linter.unusedVariables false
set_option linter.unusedSimpArgs false
/-- A stop, as its fields say (no function waits at it). -/
structure SR where
  above : Option Nat
  und : Value
  bud : Bool
  left : Int
  why : Int
  chn : Nat
def ptrOf (g : Nat) : Value := .pointer (some ⟨g, 0, none⟩)
def upOf : Option Nat → Value
  | none => .pointer none
  | some g => ptrOf g
def SR.cells (m : Nat) (s : SR) : Array Value := #[ptrOf m, upOf s.above, s.und, .bool s.bud, .int .i64 s.left, .int .i64 s.why, .chan (some s.chn), .slice none 0 0]
def IsStop (W : World) (m g : Nat) (s : SR) : Prop := W.heap[g]? = some (.cells (s.cells m) 70 (0, 0))
def IsMu (W : World) (m : Nat) : Prop := W.heap[m]? = some (.cells #[.int .i32 0, .int .u32 0] 66 (0, 0))
theorem lock_back {W : World} {m : Nat} (h : IsMu W m) : (W.setCell ⟨m, 0, none⟩ (.int .i32 1)).setCell ⟨m, 0, none⟩ (.int .i32 0) = W := by
  have h1 := setCell_eq_setRow W m 0 _ 66 (0, 0) (.int .i32 1) h
  have h2 := setRow_heap W m _ (#[.int .i32 0, .int .u32 0].setIfInBounds 0 (.int .i32 1)) 66 _ h
  rw [h1, setCell_eq_setRow _ m 0 _ 66 (0, 0) (.int .i32 0) h2, setRow_setRow]
  exact setRow_self W m _ 66 (0, 0) h
theorem IsMu.free {W : World} {m : Nat} (h : IsMu W m) : W.cell? ⟨m, 0, none⟩ = some (.int .i32 0) ∧ W.frozen? ⟨m, 0, none⟩ = false := ⟨(blk_cell h 0).trans rfl, blk_frozen h 0⟩
theorem IsMu.held {W : World} {m : Nat} (h : IsMu W m) : (W.setCell ⟨m, 0, none⟩ (.int .i32 1)).cell? ⟨m, 0, none⟩ = some (.int .i32 1) ∧ (W.setCell ⟨m, 0, none⟩ (.int .i32 1)).frozen? ⟨m, 0, none⟩ = false :=
  ⟨World.cell?_setCell_same W ⟨m, 0, none⟩ (.int .i32 1) h.free.1, by have := h.free.2; simp [this]⟩
theorem IsStop.cell {W : World} {m g : Nat} {s : SR} (h : IsStop W m g s) (i : Nat) {v : Value} (hv : (s.cells m)[i]? = some v) : W.cell? ⟨g, i, none⟩ = some v := by
  have := blk_cell h i
  rw [this, hv]
theorem IsStop.frozen {W : World} {m g : Nat} {s : SR} (h : IsStop W m g s) (i : Nat) : W.frozen? ⟨g, i, none⟩ = false := blk_frozen h i
theorem ne_mu {W : World} {m m' g : Nat} {s : SR} (h : IsStop W m' g s) (hm : IsMu W m) : g ≠ m := by
  rintro rfl
  unfold IsStop at h; unfold IsMu at hm
  rw [hm] at h
  cases h
theorem cell_held {W : World} {m m' g : Nat} {s : SR} (h : IsStop W m' g s) (hm : IsMu W m) (i : Nat) {v : Value} (hv : (s.cells m')[i]? = some v) : (W.setCell ⟨m, 0, none⟩ (.int .i32 1)).cell? ⟨g, i, none⟩ = some v := by
  rw [World.cell?_setCell_other W ⟨m, 0, none⟩ ⟨g, i, none⟩ _ (fun e => ne_mu h hm (congrArg Addr.block e).symm)]
  exact h.cell i hv
set_option maxHeartbeats 800000 in
theorem why_run (m g : Nat) (s : SR) (W : World) (hm : IsMu W m) (hs : IsStop W m g s) :
    Calls Try.prog 14 #[.pointer (some ⟨g, 0, none⟩)] W fun e w' => e = .returned (.int .i64 s.why) ∧ w' = W := by
  have c0 : W.cell? ⟨g, 0, none⟩ = some (.pointer (some ⟨m, 0, none⟩)) := hs.cell 0 rfl
  have hm0 := hm.free
  have d0 : (W.setCell ⟨m, 0, none⟩ (.int .i32 1)).cell? ⟨g, 0, none⟩ = some (.pointer (some ⟨m, 0, none⟩)) := cell_held hs hm 0 rfl
  have d5 : (W.setCell ⟨m, 0, none⟩ (.int .i32 1)).cell? ⟨g, 5, none⟩ = some (.int .i64 s.why) := cell_held hs hm 5 rfl
  go_enter_defers Try.func14, Try.ntmps14
  go_wp2_with (go_at_call 22; refine (lock_free muLib ⟨m, 0, none⟩ _ hm0.1 hm0.2).mono ?_; rintro e w' ⟨rfl, rfl⟩)
  refine leaves_cons (f := 23) (args := #[.pointer (some ⟨m, 0, none⟩)]) (by simp) (by simp [go_sem]) ?_
  refine (unlock_deferred muLib ⟨m, 0, none⟩ .returning _ hm.held.1 hm.held.2).mono ?_
  rintro e u' w'' ⟨rfl, rfl, rfl⟩
  exact ⟨_, results_tmp rfl _ _ _, rfl, lock_back hm⟩
set_option maxHeartbeats 800000 in
theorem left_run (m g : Nat) (s : SR) (W : World) (hm : IsMu W m) (hs : IsStop W m g s) :
    Calls Try.prog 13 #[.pointer (some ⟨g, 0, none⟩)] W fun e w' => e = .returned (.int .i64 (if s.bud = true then s.left else -1)) ∧ w' = W := by
  have c0 : W.cell? ⟨g, 0, none⟩ = some (.pointer (some ⟨m, 0, none⟩)) := hs.cell 0 rfl
  have hm0 := hm.free
  have d0 : (W.setCell ⟨m, 0, none⟩ (.int .i32 1)).cell? ⟨g, 0, none⟩ = some (.pointer (some ⟨m, 0, none⟩)) := cell_held hs hm 0 rfl
  have d3 : (W.setCell ⟨m, 0, none⟩ (.int .i32 1)).cell? ⟨g, 3, none⟩ = some (.bool s.bud) := cell_held hs hm 3 rfl
  have d4 : (W.setCell ⟨m, 0, none⟩ (.int .i32 1)).cell? ⟨g, 4, none⟩ = some (.int .i64 s.left) := cell_held hs hm 4 rfl
  generalize s.bud = b at *
  cases b
  all_goals
    go_enter_defers Try.func13, Try.ntmps13
    go_wp2_with (go_at_call 22; refine (lock_free muLib ⟨m, 0, none⟩ _ hm0.1 hm0.2).mono ?_; rintro e w' ⟨rfl, rfl⟩)
    refine leaves_cons (f := 23) (args := #[.pointer (some ⟨m, 0, none⟩)]) (by simp) (by simp [go_sem]) ?_
    refine (unlock_deferred muLib ⟨m, 0, none⟩ .returning _ hm.held.1 hm.held.2).mono ?_
    rintro e u' w'' ⟨rfl, rfl, rfl⟩
    exact ⟨_, results_tmp rfl _ _ _, rfl, lock_back hm⟩
end Go.Proofs.Ytofbnoiecpmjnaa.Pr
