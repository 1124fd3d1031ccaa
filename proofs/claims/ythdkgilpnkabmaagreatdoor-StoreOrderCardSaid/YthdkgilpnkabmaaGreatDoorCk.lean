/- span.Check, over what its parts answer. -/
import Derived.Test.YthdkgilpnkabmaaGreatDoorProg
import Derived.Test.YthdkgilpnkabmaaGreatDoorWWords
import Derived.WalkKit
import Derived.WalkMore
import Derived.Below
import Derived.Lib.Hide
import Derived.Outline
import Derived.IntWalk
import Derived.Deep.QuietTactic
import Derived.BigQuiet
import Derived.KernelRfl
namespace Go.Proofs.YthdkgilpnkabmaaGreatDoor.Pr
open Go.RowKit Go.Lib Go.Proofs.YthdkgilpnkabmaaGreatDoorW.PrintWords
set_option linter.unusedVariables false
set_option linter.unusedSimpArgs false
theorem bcell {W W1 : World} (hb : Below W.heap.size W W1) : (∀ b o, b < W.heap.size → W1.cell? ⟨b, o, none⟩ = W.cell? ⟨b, o, none⟩) ∧ (∀ b o, b < W.heap.size → W1.frozen? ⟨b, o, none⟩ = W.frozen? ⟨b, o, none⟩) :=
  ⟨fun b o h => hb.cell (p := ⟨b, o, none⟩) h, fun b o h => hb.frozen (p := ⟨b, o, none⟩) h⟩
/-- A function's answer, in whatever world follows. -/
def Ans (f : Nat) (args : Array Value) (b : Bool) (w : World) : Prop :=
  ∀ W, Below w.heap.size w W → Calls Tryz.prog f args W fun e w' => e = .returned (.bool b) ∧ Below W.heap.size W w'
theorem Ans.below {f : Nat} {args : Array Value} {b : Bool} {w w1 : World} (h : Ans f args b w) (hb : Below w.heap.size w w1) : Ans f args b w1 :=
  fun W hW => h W (hb.trans (hW.mono hb.size))
def checkF (hi lo id : Int) (ps po : Bool) (kd st s0 s1 : Int) (bl bc bt : Bool) : Int :=
  if (hi = 0 ∧ lo = 0) ∨ id = 0 then 41 else if (s0 < 0 ∨ s1 < s0) ∨ 4611686018427387904 < s1 then 42 else if ps = false ∨ po = false then 43
  else if ((kd < 0 ∨ 4 < kd) ∨ st < 0) ∨ 2 < st then 44 else if bl = false then 45 else if bc = false then 46 else if bt = false then 47 else 0
def CheckPost (w : World) (r : Int) (e : Ending) (w' : World) : Prop := e = .returned (.int .i64 r) ∧ Below w.heap.size w w'
theorem box_below (w : World) (a b : Array Value) (s t : Nat) : Below w.heap.size w ((w.alloc (.cells a s)).alloc (.cells b t)) :=
  ((Below.refl _ _).alloc (Nat.le_refl _) _).alloc (by simp) _
set_option maxHeartbeats 1000000 in
set_option maxRecDepth 100000 in
theorem check_a (hi lo id par : Int) (vL : Value) (sv op : ByteArray) (kd st s0 s1 : Int) (vA vE : Value) (ps po bl bc bt : Bool) (w : World)
    (hS : Ans 61 #[.string sv, .int .i64 60, .int .u8 33] ps w) (hO : Ans 61 #[.string op, .int .i64 100, .int .u8 32] po w)
    (hL : Ans 62 #[.agg #[.int .u64 hi, .int .u64 lo, .int .u64 id, .int .u64 par, vL, .string sv, .string op, .int .i64 kd, .int .i64 st, .int .i64 s0, .int .i64 s1, vA, vE]] bl w) (hA : Ans 63 #[vA] bc w) (hE : Ans 64 #[vE] bt w) (h1 : hi = 0 ∧ lo = 0) :
    Calls Tryz.prog 38 #[.agg #[.int .u64 hi, .int .u64 lo, .int .u64 id, .int .u64 par, vL, .string sv, .string op, .int .i64 kd, .int .i64 st, .int .i64 s0, .int .i64 s1, vA, vE]] w (CheckPost w 41) := by
  have HB0 := Lib.hid (box_below w #[.int .u64 hi, .int .u64 lo, .int .u64 id, .int .u64 par, vL, .string sv, .string op, .int .i64 kd, .int .i64 st, .int .i64 s0, .int .i64 s1, vA, vE] #[.int .u64 0, .int .u64 0] 41 33)
  have HS := Lib.hid hS
  have HO := Lib.hid hO
  have HL := Lib.hid hL
  have HA := Lib.hid hA
  have HE := Lib.hid hE
  clear hS hO hL hA hE
  obtain ⟨rfl, rfl⟩ := h1
  go_enter Tryz.func38, Tryz.ntmps38
  go_wp2_with fail
  all_goals
    go_ret
    exact ⟨rfl, HB0.out⟩
set_option maxHeartbeats 1000000 in
set_option maxRecDepth 100000 in
theorem check_bp (hi lo id par : Int) (vL : Value) (sv op : ByteArray) (kd st s0 s1 : Int) (vA vE : Value) (ps po bl bc bt : Bool) (w : World)
    (hS : Ans 61 #[.string sv, .int .i64 60, .int .u8 33] ps w) (hO : Ans 61 #[.string op, .int .i64 100, .int .u8 32] po w)
    (hL : Ans 62 #[.agg #[.int .u64 hi, .int .u64 lo, .int .u64 id, .int .u64 par, vL, .string sv, .string op, .int .i64 kd, .int .i64 st, .int .i64 s0, .int .i64 s1, vA, vE]] bl w) (hA : Ans 63 #[vA] bc w) (hE : Ans 64 #[vE] bt w) (h1 : ¬ hi = 0) (h2 : id = 0) :
    Calls Tryz.prog 38 #[.agg #[.int .u64 hi, .int .u64 lo, .int .u64 id, .int .u64 par, vL, .string sv, .string op, .int .i64 kd, .int .i64 st, .int .i64 s0, .int .i64 s1, vA, vE]] w (CheckPost w 41) := by
  have HB0 := Lib.hid (box_below w #[.int .u64 hi, .int .u64 lo, .int .u64 id, .int .u64 par, vL, .string sv, .string op, .int .i64 kd, .int .i64 st, .int .i64 s0, .int .i64 s1, vA, vE] #[.int .u64 0, .int .u64 0] 41 33)
  have HS := Lib.hid hS
  have HO := Lib.hid hO
  have HL := Lib.hid hL
  have HA := Lib.hid hA
  have HE := Lib.hid hE
  clear hS hO hL hA hE
  subst h2
  go_enter Tryz.func38, Tryz.ntmps38
  go_wp2_with fail
  all_goals
    go_ret
    exact ⟨rfl, HB0.out⟩
set_option maxHeartbeats 1000000 in
set_option maxRecDepth 100000 in
theorem check_bq (lo id par : Int) (vL : Value) (sv op : ByteArray) (kd st s0 s1 : Int) (vA vE : Value) (ps po bl bc bt : Bool) (w : World)
    (hS : Ans 61 #[.string sv, .int .i64 60, .int .u8 33] ps w) (hO : Ans 61 #[.string op, .int .i64 100, .int .u8 32] po w)
    (hL : Ans 62 #[.agg #[.int .u64 0, .int .u64 lo, .int .u64 id, .int .u64 par, vL, .string sv, .string op, .int .i64 kd, .int .i64 st, .int .i64 s0, .int .i64 s1, vA, vE]] bl w) (hA : Ans 63 #[vA] bc w) (hE : Ans 64 #[vE] bt w) (h1 : ¬ lo = 0) (h2 : id = 0) :
    Calls Tryz.prog 38 #[.agg #[.int .u64 0, .int .u64 lo, .int .u64 id, .int .u64 par, vL, .string sv, .string op, .int .i64 kd, .int .i64 st, .int .i64 s0, .int .i64 s1, vA, vE]] w (CheckPost w 41) := by
  have HB0 := Lib.hid (box_below w #[.int .u64 0, .int .u64 lo, .int .u64 id, .int .u64 par, vL, .string sv, .string op, .int .i64 kd, .int .i64 st, .int .i64 s0, .int .i64 s1, vA, vE] #[.int .u64 0, .int .u64 0] 41 33)
  have HS := Lib.hid hS
  have HO := Lib.hid hO
  have HL := Lib.hid hL
  have HA := Lib.hid hA
  have HE := Lib.hid hE
  clear hS hO hL hA hE
  subst h2
  go_enter Tryz.func38, Tryz.ntmps38
  go_wp2_with fail
  all_goals
    go_ret
    exact ⟨rfl, HB0.out⟩
set_option maxHeartbeats 1000000 in
set_option maxRecDepth 100000 in
theorem check_b (hi lo id par : Int) (vL : Value) (sv op : ByteArray) (kd st s0 s1 : Int) (vA vE : Value) (ps po bl bc bt : Bool) (w : World)
    (hS : Ans 61 #[.string sv, .int .i64 60, .int .u8 33] ps w) (hO : Ans 61 #[.string op, .int .i64 100, .int .u8 32] po w)
    (hL : Ans 62 #[.agg #[.int .u64 hi, .int .u64 lo, .int .u64 id, .int .u64 par, vL, .string sv, .string op, .int .i64 kd, .int .i64 st, .int .i64 s0, .int .i64 s1, vA, vE]] bl w) (hA : Ans 63 #[vA] bc w) (hE : Ans 64 #[vE] bt w) (h1 : ¬ (hi = 0 ∧ lo = 0)) (h2 : id = 0) :
    Calls Tryz.prog 38 #[.agg #[.int .u64 hi, .int .u64 lo, .int .u64 id, .int .u64 par, vL, .string sv, .string op, .int .i64 kd, .int .i64 st, .int .i64 s0, .int .i64 s1, vA, vE]] w (CheckPost w 41) := by
  by_cases hz : hi = 0
  · subst hz
    exact check_bq _ _ _ _ _ _ _ _ _ _ _ _ _ _ _ _ _ _ hS hO hL hA hE (fun h => h1 ⟨rfl, h⟩) h2
  · exact check_bp _ _ _ _ _ _ _ _ _ _ _ _ _ _ _ _ _ _ _ hS hO hL hA hE hz h2
set_option maxHeartbeats 1000000 in
set_option maxRecDepth 100000 in
theorem check_cp (hi lo id par : Int) (vL : Value) (sv op : ByteArray) (kd st s0 s1 : Int) (vA vE : Value) (ps po bl bc bt : Bool) (w : World)
    (hS : Ans 61 #[.string sv, .int .i64 60, .int .u8 33] ps w) (hO : Ans 61 #[.string op, .int .i64 100, .int .u8 32] po w)
    (hL : Ans 62 #[.agg #[.int .u64 hi, .int .u64 lo, .int .u64 id, .int .u64 par, vL, .string sv, .string op, .int .i64 kd, .int .i64 st, .int .i64 s0, .int .i64 s1, vA, vE]] bl w) (hA : Ans 63 #[vA] bc w) (hE : Ans 64 #[vE] bt w) (h1 : ¬ hi = 0) (h2 : id ≠ 0) (h3 : (s0 < 0 ∨ s1 < s0) ∨ 4611686018427387904 < s1) :
    Calls Tryz.prog 38 #[.agg #[.int .u64 hi, .int .u64 lo, .int .u64 id, .int .u64 par, vL, .string sv, .string op, .int .i64 kd, .int .i64 st, .int .i64 s0, .int .i64 s1, vA, vE]] w (CheckPost w 42) := by
  have HB0 := Lib.hid (box_below w #[.int .u64 hi, .int .u64 lo, .int .u64 id, .int .u64 par, vL, .string sv, .string op, .int .i64 kd, .int .i64 st, .int .i64 s0, .int .i64 s1, vA, vE] #[.int .u64 0, .int .u64 0] 41 33)
  have HS := Lib.hid hS
  have HO := Lib.hid hO
  have HL := Lib.hid hL
  have HA := Lib.hid hA
  have HE := Lib.hid hE
  clear hS hO hL hA hE
  have h2' : (id == 0) = false := by simpa using h2
  have H3 := Lib.hid h3
  clear h2 h3
  go_enter Tryz.func38, Tryz.ntmps38
  go_wp2_with fail
  try any_goals (exfalso; have := H3.out; omega)
  all_goals
    go_ret
    exact ⟨rfl, HB0.out⟩
set_option maxHeartbeats 1000000 in
set_option maxRecDepth 100000 in
theorem check_cq (lo id par : Int) (vL : Value) (sv op : ByteArray) (kd st s0 s1 : Int) (vA vE : Value) (ps po bl bc bt : Bool) (w : World)
    (hS : Ans 61 #[.string sv, .int .i64 60, .int .u8 33] ps w) (hO : Ans 61 #[.string op, .int .i64 100, .int .u8 32] po w)
    (hL : Ans 62 #[.agg #[.int .u64 0, .int .u64 lo, .int .u64 id, .int .u64 par, vL, .string sv, .string op, .int .i64 kd, .int .i64 st, .int .i64 s0, .int .i64 s1, vA, vE]] bl w) (hA : Ans 63 #[vA] bc w) (hE : Ans 64 #[vE] bt w) (h1 : ¬ lo = 0) (h2 : id ≠ 0) (h3 : (s0 < 0 ∨ s1 < s0) ∨ 4611686018427387904 < s1) :
    Calls Tryz.prog 38 #[.agg #[.int .u64 0, .int .u64 lo, .int .u64 id, .int .u64 par, vL, .string sv, .string op, .int .i64 kd, .int .i64 st, .int .i64 s0, .int .i64 s1, vA, vE]] w (CheckPost w 42) := by
  have HB0 := Lib.hid (box_below w #[.int .u64 0, .int .u64 lo, .int .u64 id, .int .u64 par, vL, .string sv, .string op, .int .i64 kd, .int .i64 st, .int .i64 s0, .int .i64 s1, vA, vE] #[.int .u64 0, .int .u64 0] 41 33)
  have HS := Lib.hid hS
  have HO := Lib.hid hO
  have HL := Lib.hid hL
  have HA := Lib.hid hA
  have HE := Lib.hid hE
  clear hS hO hL hA hE
  have h2' : (id == 0) = false := by simpa using h2
  have H3 := Lib.hid h3
  clear h2 h3
  go_enter Tryz.func38, Tryz.ntmps38
  go_wp2_with fail
  try any_goals (exfalso; have := H3.out; omega)
  all_goals
    go_ret
    exact ⟨rfl, HB0.out⟩
set_option maxHeartbeats 1000000 in
set_option maxRecDepth 100000 in
theorem check_c (hi lo id par : Int) (vL : Value) (sv op : ByteArray) (kd st s0 s1 : Int) (vA vE : Value) (ps po bl bc bt : Bool) (w : World)
    (hS : Ans 61 #[.string sv, .int .i64 60, .int .u8 33] ps w) (hO : Ans 61 #[.string op, .int .i64 100, .int .u8 32] po w)
    (hL : Ans 62 #[.agg #[.int .u64 hi, .int .u64 lo, .int .u64 id, .int .u64 par, vL, .string sv, .string op, .int .i64 kd, .int .i64 st, .int .i64 s0, .int .i64 s1, vA, vE]] bl w) (hA : Ans 63 #[vA] bc w) (hE : Ans 64 #[vE] bt w) (h1 : ¬ (hi = 0 ∧ lo = 0)) (h2 : id ≠ 0) (h3 : (s0 < 0 ∨ s1 < s0) ∨ 4611686018427387904 < s1) :
    Calls Tryz.prog 38 #[.agg #[.int .u64 hi, .int .u64 lo, .int .u64 id, .int .u64 par, vL, .string sv, .string op, .int .i64 kd, .int .i64 st, .int .i64 s0, .int .i64 s1, vA, vE]] w (CheckPost w 42) := by
  by_cases hz : hi = 0
  · subst hz
    exact check_cq _ _ _ _ _ _ _ _ _ _ _ _ _ _ _ _ _ _ hS hO hL hA hE (fun h => h1 ⟨rfl, h⟩) h2 h3
  · exact check_cp _ _ _ _ _ _ _ _ _ _ _ _ _ _ _ _ _ _ _ hS hO hL hA hE hz h2 h3
set_option maxHeartbeats 1000000 in
set_option maxRecDepth 100000 in
theorem check_dp (hi lo id par : Int) (vL : Value) (sv op : ByteArray) (kd st s0 s1 : Int) (vA vE : Value) (ps po bl bc bt : Bool) (w : World)
    (hS : Ans 61 #[.string sv, .int .i64 60, .int .u8 33] ps w) (hO : Ans 61 #[.string op, .int .i64 100, .int .u8 32] po w)
    (hL : Ans 62 #[.agg #[.int .u64 hi, .int .u64 lo, .int .u64 id, .int .u64 par, vL, .string sv, .string op, .int .i64 kd, .int .i64 st, .int .i64 s0, .int .i64 s1, vA, vE]] bl w) (hA : Ans 63 #[vA] bc w) (hE : Ans 64 #[vE] bt w) (h1 : ¬ hi = 0) (h2 : id ≠ 0) (h3 : ¬ ((s0 < 0 ∨ s1 < s0) ∨ 4611686018427387904 < s1)) (h4 : ps = false) :
    Calls Tryz.prog 38 #[.agg #[.int .u64 hi, .int .u64 lo, .int .u64 id, .int .u64 par, vL, .string sv, .string op, .int .i64 kd, .int .i64 st, .int .i64 s0, .int .i64 s1, vA, vE]] w (CheckPost w 43) := by
  have HB0 := Lib.hid (box_below w #[.int .u64 hi, .int .u64 lo, .int .u64 id, .int .u64 par, vL, .string sv, .string op, .int .i64 kd, .int .i64 st, .int .i64 s0, .int .i64 s1, vA, vE] #[.int .u64 0, .int .u64 0] 41 33)
  have HS := Lib.hid hS
  have HO := Lib.hid hO
  have HL := Lib.hid hL
  have HA := Lib.hid hA
  have HE := Lib.hid hE
  clear hS hO hL hA hE
  subst h4
  have h2' : (id == 0) = false := by simpa using h2
  have a1 : decide (s0 < 0) = false := decide_eq_false (by omega)
  have a2 : decide (s1 < s0) = false := decide_eq_false (by omega)
  have a3 : decide (4611686018427387904 < s1) = false := decide_eq_false (by omega)
  clear h2 h3
  go_enter Tryz.func38, Tryz.ntmps38
  go_wp2_with fail
  all_goals
    refine (HS.out _ HB0.out).mono ?_
    rintro e w1 ⟨rfl, hb1⟩
    obtain ⟨c1, f1⟩ := bcell hb1
    have HB1 := Lib.hid (HB0.out.trans (hb1.mono HB0.out.size))
    have z1 : w.heap.size + 1 < w1.heap.size := by have := hb1.size; simp at this; omega
    have y1 : w.heap.size < w1.heap.size := Nat.lt_of_succ_lt z1
    clear hb1
    go_wp2_with fail
    go_ret
    exact ⟨rfl, HB1.out⟩
set_option maxHeartbeats 1000000 in
set_option maxRecDepth 100000 in
theorem check_dq (lo id par : Int) (vL : Value) (sv op : ByteArray) (kd st s0 s1 : Int) (vA vE : Value) (ps po bl bc bt : Bool) (w : World)
    (hS : Ans 61 #[.string sv, .int .i64 60, .int .u8 33] ps w) (hO : Ans 61 #[.string op, .int .i64 100, .int .u8 32] po w)
    (hL : Ans 62 #[.agg #[.int .u64 0, .int .u64 lo, .int .u64 id, .int .u64 par, vL, .string sv, .string op, .int .i64 kd, .int .i64 st, .int .i64 s0, .int .i64 s1, vA, vE]] bl w) (hA : Ans 63 #[vA] bc w) (hE : Ans 64 #[vE] bt w) (h1 : ¬ lo = 0) (h2 : id ≠ 0) (h3 : ¬ ((s0 < 0 ∨ s1 < s0) ∨ 4611686018427387904 < s1)) (h4 : ps = false) :
    Calls Tryz.prog 38 #[.agg #[.int .u64 0, .int .u64 lo, .int .u64 id, .int .u64 par, vL, .string sv, .string op, .int .i64 kd, .int .i64 st, .int .i64 s0, .int .i64 s1, vA, vE]] w (CheckPost w 43) := by
  have HB0 := Lib.hid (box_below w #[.int .u64 0, .int .u64 lo, .int .u64 id, .int .u64 par, vL, .string sv, .string op, .int .i64 kd, .int .i64 st, .int .i64 s0, .int .i64 s1, vA, vE] #[.int .u64 0, .int .u64 0] 41 33)
  have HS := Lib.hid hS
  have HO := Lib.hid hO
  have HL := Lib.hid hL
  have HA := Lib.hid hA
  have HE := Lib.hid hE
  clear hS hO hL hA hE
  subst h4
  have h2' : (id == 0) = false := by simpa using h2
  have a1 : decide (s0 < 0) = false := decide_eq_false (by omega)
  have a2 : decide (s1 < s0) = false := decide_eq_false (by omega)
  have a3 : decide (4611686018427387904 < s1) = false := decide_eq_false (by omega)
  clear h2 h3
  go_enter Tryz.func38, Tryz.ntmps38
  go_wp2_with fail
  all_goals
    refine (HS.out _ HB0.out).mono ?_
    rintro e w1 ⟨rfl, hb1⟩
    obtain ⟨c1, f1⟩ := bcell hb1
    have HB1 := Lib.hid (HB0.out.trans (hb1.mono HB0.out.size))
    have z1 : w.heap.size + 1 < w1.heap.size := by have := hb1.size; simp at this; omega
    have y1 : w.heap.size < w1.heap.size := Nat.lt_of_succ_lt z1
    clear hb1
    go_wp2_with fail
    go_ret
    exact ⟨rfl, HB1.out⟩
set_option maxHeartbeats 1000000 in
set_option maxRecDepth 100000 in
theorem check_d (hi lo id par : Int) (vL : Value) (sv op : ByteArray) (kd st s0 s1 : Int) (vA vE : Value) (ps po bl bc bt : Bool) (w : World)
    (hS : Ans 61 #[.string sv, .int .i64 60, .int .u8 33] ps w) (hO : Ans 61 #[.string op, .int .i64 100, .int .u8 32] po w)
    (hL : Ans 62 #[.agg #[.int .u64 hi, .int .u64 lo, .int .u64 id, .int .u64 par, vL, .string sv, .string op, .int .i64 kd, .int .i64 st, .int .i64 s0, .int .i64 s1, vA, vE]] bl w) (hA : Ans 63 #[vA] bc w) (hE : Ans 64 #[vE] bt w) (h1 : ¬ (hi = 0 ∧ lo = 0)) (h2 : id ≠ 0) (h3 : ¬ ((s0 < 0 ∨ s1 < s0) ∨ 4611686018427387904 < s1)) (h4 : ps = false) :
    Calls Tryz.prog 38 #[.agg #[.int .u64 hi, .int .u64 lo, .int .u64 id, .int .u64 par, vL, .string sv, .string op, .int .i64 kd, .int .i64 st, .int .i64 s0, .int .i64 s1, vA, vE]] w (CheckPost w 43) := by
  by_cases hz : hi = 0
  · subst hz
    exact check_dq _ _ _ _ _ _ _ _ _ _ _ _ _ _ _ _ _ _ hS hO hL hA hE (fun h => h1 ⟨rfl, h⟩) h2 h3 h4
  · exact check_dp _ _ _ _ _ _ _ _ _ _ _ _ _ _ _ _ _ _ _ hS hO hL hA hE hz h2 h3 h4
set_option maxHeartbeats 1000000 in
set_option maxRecDepth 100000 in
theorem check_ep (hi lo id par : Int) (vL : Value) (sv op : ByteArray) (kd st s0 s1 : Int) (vA vE : Value) (ps po bl bc bt : Bool) (w : World)
    (hS : Ans 61 #[.string sv, .int .i64 60, .int .u8 33] ps w) (hO : Ans 61 #[.string op, .int .i64 100, .int .u8 32] po w)
    (hL : Ans 62 #[.agg #[.int .u64 hi, .int .u64 lo, .int .u64 id, .int .u64 par, vL, .string sv, .string op, .int .i64 kd, .int .i64 st, .int .i64 s0, .int .i64 s1, vA, vE]] bl w) (hA : Ans 63 #[vA] bc w) (hE : Ans 64 #[vE] bt w) (h1 : ¬ hi = 0) (h2 : id ≠ 0) (h3 : ¬ ((s0 < 0 ∨ s1 < s0) ∨ 4611686018427387904 < s1)) (h4 : ps = true) (h5 : po = false) :
    Calls Tryz.prog 38 #[.agg #[.int .u64 hi, .int .u64 lo, .int .u64 id, .int .u64 par, vL, .string sv, .string op, .int .i64 kd, .int .i64 st, .int .i64 s0, .int .i64 s1, vA, vE]] w (CheckPost w 43) := by
  have HB0 := Lib.hid (box_below w #[.int .u64 hi, .int .u64 lo, .int .u64 id, .int .u64 par, vL, .string sv, .string op, .int .i64 kd, .int .i64 st, .int .i64 s0, .int .i64 s1, vA, vE] #[.int .u64 0, .int .u64 0] 41 33)
  have HS := Lib.hid hS
  have HO := Lib.hid hO
  have HL := Lib.hid hL
  have HA := Lib.hid hA
  have HE := Lib.hid hE
  clear hS hO hL hA hE
  subst h4 h5
  have h2' : (id == 0) = false := by simpa using h2
  have a1 : decide (s0 < 0) = false := decide_eq_false (by omega)
  have a2 : decide (s1 < s0) = false := decide_eq_false (by omega)
  have a3 : decide (4611686018427387904 < s1) = false := decide_eq_false (by omega)
  clear h2 h3
  go_enter Tryz.func38, Tryz.ntmps38
  go_wp2_with fail
  all_goals
    refine (HS.out _ HB0.out).mono ?_
    rintro e w1 ⟨rfl, hb1⟩
    obtain ⟨c1, f1⟩ := bcell hb1
    have HB1 := Lib.hid (HB0.out.trans (hb1.mono HB0.out.size))
    have z1 : w.heap.size + 1 < w1.heap.size := by have := hb1.size; simp at this; omega
    have y1 : w.heap.size < w1.heap.size := Nat.lt_of_succ_lt z1
    clear hb1
    go_wp2_with fail
    refine (HO.out _ HB1.out).mono ?_
    rintro e w2 ⟨rfl, hb2⟩
    obtain ⟨c2, f2⟩ := bcell hb2
    have HB2 := Lib.hid (HB1.out.trans (hb2.mono HB1.out.size))
    have z2 : w.heap.size + 1 < w2.heap.size := Nat.lt_of_lt_of_le z1 hb2.size
    have y2 : w.heap.size < w2.heap.size := Nat.lt_of_succ_lt z2
    clear hb2
    go_wp2_with fail
    go_ret
    exact ⟨rfl, HB2.out⟩
set_option maxHeartbeats 1000000 in
set_option maxRecDepth 100000 in
theorem check_eq (lo id par : Int) (vL : Value) (sv op : ByteArray) (kd st s0 s1 : Int) (vA vE : Value) (ps po bl bc bt : Bool) (w : World)
    (hS : Ans 61 #[.string sv, .int .i64 60, .int .u8 33] ps w) (hO : Ans 61 #[.string op, .int .i64 100, .int .u8 32] po w)
    (hL : Ans 62 #[.agg #[.int .u64 0, .int .u64 lo, .int .u64 id, .int .u64 par, vL, .string sv, .string op, .int .i64 kd, .int .i64 st, .int .i64 s0, .int .i64 s1, vA, vE]] bl w) (hA : Ans 63 #[vA] bc w) (hE : Ans 64 #[vE] bt w) (h1 : ¬ lo = 0) (h2 : id ≠ 0) (h3 : ¬ ((s0 < 0 ∨ s1 < s0) ∨ 4611686018427387904 < s1)) (h4 : ps = true) (h5 : po = false) :
    Calls Tryz.prog 38 #[.agg #[.int .u64 0, .int .u64 lo, .int .u64 id, .int .u64 par, vL, .string sv, .string op, .int .i64 kd, .int .i64 st, .int .i64 s0, .int .i64 s1, vA, vE]] w (CheckPost w 43) := by
  have HB0 := Lib.hid (box_below w #[.int .u64 0, .int .u64 lo, .int .u64 id, .int .u64 par, vL, .string sv, .string op, .int .i64 kd, .int .i64 st, .int .i64 s0, .int .i64 s1, vA, vE] #[.int .u64 0, .int .u64 0] 41 33)
  have HS := Lib.hid hS
  have HO := Lib.hid hO
  have HL := Lib.hid hL
  have HA := Lib.hid hA
  have HE := Lib.hid hE
  clear hS hO hL hA hE
  subst h4 h5
  have h2' : (id == 0) = false := by simpa using h2
  have a1 : decide (s0 < 0) = false := decide_eq_false (by omega)
  have a2 : decide (s1 < s0) = false := decide_eq_false (by omega)
  have a3 : decide (4611686018427387904 < s1) = false := decide_eq_false (by omega)
  clear h2 h3
  go_enter Tryz.func38, Tryz.ntmps38
  go_wp2_with fail
  all_goals
    refine (HS.out _ HB0.out).mono ?_
    rintro e w1 ⟨rfl, hb1⟩
    obtain ⟨c1, f1⟩ := bcell hb1
    have HB1 := Lib.hid (HB0.out.trans (hb1.mono HB0.out.size))
    have z1 : w.heap.size + 1 < w1.heap.size := by have := hb1.size; simp at this; omega
    have y1 : w.heap.size < w1.heap.size := Nat.lt_of_succ_lt z1
    clear hb1
    go_wp2_with fail
    refine (HO.out _ HB1.out).mono ?_
    rintro e w2 ⟨rfl, hb2⟩
    obtain ⟨c2, f2⟩ := bcell hb2
    have HB2 := Lib.hid (HB1.out.trans (hb2.mono HB1.out.size))
    have z2 : w.heap.size + 1 < w2.heap.size := Nat.lt_of_lt_of_le z1 hb2.size
    have y2 : w.heap.size < w2.heap.size := Nat.lt_of_succ_lt z2
    clear hb2
    go_wp2_with fail
    go_ret
    exact ⟨rfl, HB2.out⟩
set_option maxHeartbeats 1000000 in
set_option maxRecDepth 100000 in
theorem check_e (hi lo id par : Int) (vL : Value) (sv op : ByteArray) (kd st s0 s1 : Int) (vA vE : Value) (ps po bl bc bt : Bool) (w : World)
    (hS : Ans 61 #[.string sv, .int .i64 60, .int .u8 33] ps w) (hO : Ans 61 #[.string op, .int .i64 100, .int .u8 32] po w)
    (hL : Ans 62 #[.agg #[.int .u64 hi, .int .u64 lo, .int .u64 id, .int .u64 par, vL, .string sv, .string op, .int .i64 kd, .int .i64 st, .int .i64 s0, .int .i64 s1, vA, vE]] bl w) (hA : Ans 63 #[vA] bc w) (hE : Ans 64 #[vE] bt w) (h1 : ¬ (hi = 0 ∧ lo = 0)) (h2 : id ≠ 0) (h3 : ¬ ((s0 < 0 ∨ s1 < s0) ∨ 4611686018427387904 < s1)) (h4 : ps = true) (h5 : po = false) :
    Calls Tryz.prog 38 #[.agg #[.int .u64 hi, .int .u64 lo, .int .u64 id, .int .u64 par, vL, .string sv, .string op, .int .i64 kd, .int .i64 st, .int .i64 s0, .int .i64 s1, vA, vE]] w (CheckPost w 43) := by
  by_cases hz : hi = 0
  · subst hz
    exact check_eq _ _ _ _ _ _ _ _ _ _ _ _ _ _ _ _ _ _ hS hO hL hA hE (fun h => h1 ⟨rfl, h⟩) h2 h3 h4 h5
  · exact check_ep _ _ _ _ _ _ _ _ _ _ _ _ _ _ _ _ _ _ _ hS hO hL hA hE hz h2 h3 h4 h5
set_option maxHeartbeats 1000000 in
set_option maxRecDepth 100000 in
theorem check_fp (hi lo id par : Int) (vL : Value) (sv op : ByteArray) (kd st s0 s1 : Int) (vA vE : Value) (ps po bl bc bt : Bool) (w : World)
    (hS : Ans 61 #[.string sv, .int .i64 60, .int .u8 33] ps w) (hO : Ans 61 #[.string op, .int .i64 100, .int .u8 32] po w)
    (hL : Ans 62 #[.agg #[.int .u64 hi, .int .u64 lo, .int .u64 id, .int .u64 par, vL, .string sv, .string op, .int .i64 kd, .int .i64 st, .int .i64 s0, .int .i64 s1, vA, vE]] bl w) (hA : Ans 63 #[vA] bc w) (hE : Ans 64 #[vE] bt w) (h1 : ¬ hi = 0) (h2 : id ≠ 0) (h3 : ¬ ((s0 < 0 ∨ s1 < s0) ∨ 4611686018427387904 < s1)) (h4 : ps = true) (h5 : po = true) (h6 : ((kd < 0 ∨ 4 < kd) ∨ st < 0) ∨ 2 < st) :
    Calls Tryz.prog 38 #[.agg #[.int .u64 hi, .int .u64 lo, .int .u64 id, .int .u64 par, vL, .string sv, .string op, .int .i64 kd, .int .i64 st, .int .i64 s0, .int .i64 s1, vA, vE]] w (CheckPost w 44) := by
  have HB0 := Lib.hid (box_below w #[.int .u64 hi, .int .u64 lo, .int .u64 id, .int .u64 par, vL, .string sv, .string op, .int .i64 kd, .int .i64 st, .int .i64 s0, .int .i64 s1, vA, vE] #[.int .u64 0, .int .u64 0] 41 33)
  have HS := Lib.hid hS
  have HO := Lib.hid hO
  have HL := Lib.hid hL
  have HA := Lib.hid hA
  have HE := Lib.hid hE
  clear hS hO hL hA hE
  subst h4 h5
  have h2' : (id == 0) = false := by simpa using h2
  have a1 : decide (s0 < 0) = false := decide_eq_false (by omega)
  have a2 : decide (s1 < s0) = false := decide_eq_false (by omega)
  have a3 : decide (4611686018427387904 < s1) = false := decide_eq_false (by omega)
  clear h2 h3
  have H6 := Lib.hid h6
  clear h6
  go_enter Tryz.func38, Tryz.ntmps38
  go_wp2_with fail
  all_goals
    refine (HS.out _ HB0.out).mono ?_
    rintro e w1 ⟨rfl, hb1⟩
    obtain ⟨c1, f1⟩ := bcell hb1
    have HB1 := Lib.hid (HB0.out.trans (hb1.mono HB0.out.size))
    have z1 : w.heap.size + 1 < w1.heap.size := by have := hb1.size; simp at this; omega
    have y1 : w.heap.size < w1.heap.size := Nat.lt_of_succ_lt z1
    clear hb1
    go_wp2_with fail
    refine (HO.out _ HB1.out).mono ?_
    rintro e w2 ⟨rfl, hb2⟩
    obtain ⟨c2, f2⟩ := bcell hb2
    have HB2 := Lib.hid (HB1.out.trans (hb2.mono HB1.out.size))
    have z2 : w.heap.size + 1 < w2.heap.size := Nat.lt_of_lt_of_le z1 hb2.size
    have y2 : w.heap.size < w2.heap.size := Nat.lt_of_succ_lt z2
    clear hb2
    go_wp2_with fail
    try any_goals (exfalso; have := H6.out; omega)
    all_goals
      go_ret
      exact ⟨rfl, HB2.out⟩
set_option maxHeartbeats 1000000 in
set_option maxRecDepth 100000 in
theorem check_fq (lo id par : Int) (vL : Value) (sv op : ByteArray) (kd st s0 s1 : Int) (vA vE : Value) (ps po bl bc bt : Bool) (w : World)
    (hS : Ans 61 #[.string sv, .int .i64 60, .int .u8 33] ps w) (hO : Ans 61 #[.string op, .int .i64 100, .int .u8 32] po w)
    (hL : Ans 62 #[.agg #[.int .u64 0, .int .u64 lo, .int .u64 id, .int .u64 par, vL, .string sv, .string op, .int .i64 kd, .int .i64 st, .int .i64 s0, .int .i64 s1, vA, vE]] bl w) (hA : Ans 63 #[vA] bc w) (hE : Ans 64 #[vE] bt w) (h1 : ¬ lo = 0) (h2 : id ≠ 0) (h3 : ¬ ((s0 < 0 ∨ s1 < s0) ∨ 4611686018427387904 < s1)) (h4 : ps = true) (h5 : po = true) (h6 : ((kd < 0 ∨ 4 < kd) ∨ st < 0) ∨ 2 < st) :
    Calls Tryz.prog 38 #[.agg #[.int .u64 0, .int .u64 lo, .int .u64 id, .int .u64 par, vL, .string sv, .string op, .int .i64 kd, .int .i64 st, .int .i64 s0, .int .i64 s1, vA, vE]] w (CheckPost w 44) := by
  have HB0 := Lib.hid (box_below w #[.int .u64 0, .int .u64 lo, .int .u64 id, .int .u64 par, vL, .string sv, .string op, .int .i64 kd, .int .i64 st, .int .i64 s0, .int .i64 s1, vA, vE] #[.int .u64 0, .int .u64 0] 41 33)
  have HS := Lib.hid hS
  have HO := Lib.hid hO
  have HL := Lib.hid hL
  have HA := Lib.hid hA
  have HE := Lib.hid hE
  clear hS hO hL hA hE
  subst h4 h5
  have h2' : (id == 0) = false := by simpa using h2
  have a1 : decide (s0 < 0) = false := decide_eq_false (by omega)
  have a2 : decide (s1 < s0) = false := decide_eq_false (by omega)
  have a3 : decide (4611686018427387904 < s1) = false := decide_eq_false (by omega)
  clear h2 h3
  have H6 := Lib.hid h6
  clear h6
  go_enter Tryz.func38, Tryz.ntmps38
  go_wp2_with fail
  all_goals
    refine (HS.out _ HB0.out).mono ?_
    rintro e w1 ⟨rfl, hb1⟩
    obtain ⟨c1, f1⟩ := bcell hb1
    have HB1 := Lib.hid (HB0.out.trans (hb1.mono HB0.out.size))
    have z1 : w.heap.size + 1 < w1.heap.size := by have := hb1.size; simp at this; omega
    have y1 : w.heap.size < w1.heap.size := Nat.lt_of_succ_lt z1
    clear hb1
    go_wp2_with fail
    refine (HO.out _ HB1.out).mono ?_
    rintro e w2 ⟨rfl, hb2⟩
    obtain ⟨c2, f2⟩ := bcell hb2
    have HB2 := Lib.hid (HB1.out.trans (hb2.mono HB1.out.size))
    have z2 : w.heap.size + 1 < w2.heap.size := Nat.lt_of_lt_of_le z1 hb2.size
    have y2 : w.heap.size < w2.heap.size := Nat.lt_of_succ_lt z2
    clear hb2
    go_wp2_with fail
    try any_goals (exfalso; have := H6.out; omega)
    all_goals
      go_ret
      exact ⟨rfl, HB2.out⟩
set_option maxHeartbeats 1000000 in
set_option maxRecDepth 100000 in
theorem check_f (hi lo id par : Int) (vL : Value) (sv op : ByteArray) (kd st s0 s1 : Int) (vA vE : Value) (ps po bl bc bt : Bool) (w : World)
    (hS : Ans 61 #[.string sv, .int .i64 60, .int .u8 33] ps w) (hO : Ans 61 #[.string op, .int .i64 100, .int .u8 32] po w)
    (hL : Ans 62 #[.agg #[.int .u64 hi, .int .u64 lo, .int .u64 id, .int .u64 par, vL, .string sv, .string op, .int .i64 kd, .int .i64 st, .int .i64 s0, .int .i64 s1, vA, vE]] bl w) (hA : Ans 63 #[vA] bc w) (hE : Ans 64 #[vE] bt w) (h1 : ¬ (hi = 0 ∧ lo = 0)) (h2 : id ≠ 0) (h3 : ¬ ((s0 < 0 ∨ s1 < s0) ∨ 4611686018427387904 < s1)) (h4 : ps = true) (h5 : po = true) (h6 : ((kd < 0 ∨ 4 < kd) ∨ st < 0) ∨ 2 < st) :
    Calls Tryz.prog 38 #[.agg #[.int .u64 hi, .int .u64 lo, .int .u64 id, .int .u64 par, vL, .string sv, .string op, .int .i64 kd, .int .i64 st, .int .i64 s0, .int .i64 s1, vA, vE]] w (CheckPost w 44) := by
  by_cases hz : hi = 0
  · subst hz
    exact check_fq _ _ _ _ _ _ _ _ _ _ _ _ _ _ _ _ _ _ hS hO hL hA hE (fun h => h1 ⟨rfl, h⟩) h2 h3 h4 h5 h6
  · exact check_fp _ _ _ _ _ _ _ _ _ _ _ _ _ _ _ _ _ _ _ hS hO hL hA hE hz h2 h3 h4 h5 h6
set_option maxHeartbeats 1000000 in
set_option maxRecDepth 100000 in
theorem check_gp (hi lo id par : Int) (vL : Value) (sv op : ByteArray) (kd st s0 s1 : Int) (vA vE : Value) (ps po bl bc bt : Bool) (w : World)
    (hS : Ans 61 #[.string sv, .int .i64 60, .int .u8 33] ps w) (hO : Ans 61 #[.string op, .int .i64 100, .int .u8 32] po w)
    (hL : Ans 62 #[.agg #[.int .u64 hi, .int .u64 lo, .int .u64 id, .int .u64 par, vL, .string sv, .string op, .int .i64 kd, .int .i64 st, .int .i64 s0, .int .i64 s1, vA, vE]] bl w) (hA : Ans 63 #[vA] bc w) (hE : Ans 64 #[vE] bt w) (h1 : ¬ hi = 0) (h2 : id ≠ 0) (h3 : ¬ ((s0 < 0 ∨ s1 < s0) ∨ 4611686018427387904 < s1)) (h4 : ps = true) (h5 : po = true) (h6 : ¬ (((kd < 0 ∨ 4 < kd) ∨ st < 0) ∨ 2 < st)) (h7 : bl = false) :
    Calls Tryz.prog 38 #[.agg #[.int .u64 hi, .int .u64 lo, .int .u64 id, .int .u64 par, vL, .string sv, .string op, .int .i64 kd, .int .i64 st, .int .i64 s0, .int .i64 s1, vA, vE]] w (CheckPost w 45) := by
  have HB0 := Lib.hid (box_below w #[.int .u64 hi, .int .u64 lo, .int .u64 id, .int .u64 par, vL, .string sv, .string op, .int .i64 kd, .int .i64 st, .int .i64 s0, .int .i64 s1, vA, vE] #[.int .u64 0, .int .u64 0] 41 33)
  have HS := Lib.hid hS
  have HO := Lib.hid hO
  have HL := Lib.hid hL
  have HA := Lib.hid hA
  have HE := Lib.hid hE
  clear hS hO hL hA hE
  subst h4 h5 h7
  have h2' : (id == 0) = false := by simpa using h2
  have a1 : decide (s0 < 0) = false := decide_eq_false (by omega)
  have a2 : decide (s1 < s0) = false := decide_eq_false (by omega)
  have a3 : decide (4611686018427387904 < s1) = false := decide_eq_false (by omega)
  clear h2 h3
  have b1 : decide (kd < 0) = false := decide_eq_false (by omega)
  have b2 : decide (4 < kd) = false := decide_eq_false (by omega)
  have b3 : decide (st < 0) = false := decide_eq_false (by omega)
  have b4 : decide (2 < st) = false := decide_eq_false (by omega)
  clear h6
  go_enter Tryz.func38, Tryz.ntmps38
  go_wp2_with fail
  all_goals
    refine (HS.out _ HB0.out).mono ?_
    rintro e w1 ⟨rfl, hb1⟩
    obtain ⟨c1, f1⟩ := bcell hb1
    have HB1 := Lib.hid (HB0.out.trans (hb1.mono HB0.out.size))
    have z1 : w.heap.size + 1 < w1.heap.size := by have := hb1.size; simp at this; omega
    have y1 : w.heap.size < w1.heap.size := Nat.lt_of_succ_lt z1
    clear hb1
    go_wp2_with fail
    refine (HO.out _ HB1.out).mono ?_
    rintro e w2 ⟨rfl, hb2⟩
    obtain ⟨c2, f2⟩ := bcell hb2
    have HB2 := Lib.hid (HB1.out.trans (hb2.mono HB1.out.size))
    have z2 : w.heap.size + 1 < w2.heap.size := Nat.lt_of_lt_of_le z1 hb2.size
    have y2 : w.heap.size < w2.heap.size := Nat.lt_of_succ_lt z2
    clear hb2
    go_wp2_with fail
    refine (HL.out _ HB2.out).mono ?_
    rintro e w3 ⟨rfl, hb3⟩
    obtain ⟨c3, f3⟩ := bcell hb3
    have HB3 := Lib.hid (HB2.out.trans (hb3.mono HB2.out.size))
    have z3 : w.heap.size + 1 < w3.heap.size := Nat.lt_of_lt_of_le z2 hb3.size
    have y3 : w.heap.size < w3.heap.size := Nat.lt_of_succ_lt z3
    clear hb3
    go_wp2_with fail
    go_ret
    exact ⟨rfl, HB3.out⟩
set_option maxHeartbeats 1000000 in
set_option maxRecDepth 100000 in
theorem check_gq (lo id par : Int) (vL : Value) (sv op : ByteArray) (kd st s0 s1 : Int) (vA vE : Value) (ps po bl bc bt : Bool) (w : World)
    (hS : Ans 61 #[.string sv, .int .i64 60, .int .u8 33] ps w) (hO : Ans 61 #[.string op, .int .i64 100, .int .u8 32] po w)
    (hL : Ans 62 #[.agg #[.int .u64 0, .int .u64 lo, .int .u64 id, .int .u64 par, vL, .string sv, .string op, .int .i64 kd, .int .i64 st, .int .i64 s0, .int .i64 s1, vA, vE]] bl w) (hA : Ans 63 #[vA] bc w) (hE : Ans 64 #[vE] bt w) (h1 : ¬ lo = 0) (h2 : id ≠ 0) (h3 : ¬ ((s0 < 0 ∨ s1 < s0) ∨ 4611686018427387904 < s1)) (h4 : ps = true) (h5 : po = true) (h6 : ¬ (((kd < 0 ∨ 4 < kd) ∨ st < 0) ∨ 2 < st)) (h7 : bl = false) :
    Calls Tryz.prog 38 #[.agg #[.int .u64 0, .int .u64 lo, .int .u64 id, .int .u64 par, vL, .string sv, .string op, .int .i64 kd, .int .i64 st, .int .i64 s0, .int .i64 s1, vA, vE]] w (CheckPost w 45) := by
  have HB0 := Lib.hid (box_below w #[.int .u64 0, .int .u64 lo, .int .u64 id, .int .u64 par, vL, .string sv, .string op, .int .i64 kd, .int .i64 st, .int .i64 s0, .int .i64 s1, vA, vE] #[.int .u64 0, .int .u64 0] 41 33)
  have HS := Lib.hid hS
  have HO := Lib.hid hO
  have HL := Lib.hid hL
  have HA := Lib.hid hA
  have HE := Lib.hid hE
  clear hS hO hL hA hE
  subst h4 h5 h7
  have h2' : (id == 0) = false := by simpa using h2
  have a1 : decide (s0 < 0) = false := decide_eq_false (by omega)
  have a2 : decide (s1 < s0) = false := decide_eq_false (by omega)
  have a3 : decide (4611686018427387904 < s1) = false := decide_eq_false (by omega)
  clear h2 h3
  have b1 : decide (kd < 0) = false := decide_eq_false (by omega)
  have b2 : decide (4 < kd) = false := decide_eq_false (by omega)
  have b3 : decide (st < 0) = false := decide_eq_false (by omega)
  have b4 : decide (2 < st) = false := decide_eq_false (by omega)
  clear h6
  go_enter Tryz.func38, Tryz.ntmps38
  go_wp2_with fail
  all_goals
    refine (HS.out _ HB0.out).mono ?_
    rintro e w1 ⟨rfl, hb1⟩
    obtain ⟨c1, f1⟩ := bcell hb1
    have HB1 := Lib.hid (HB0.out.trans (hb1.mono HB0.out.size))
    have z1 : w.heap.size + 1 < w1.heap.size := by have := hb1.size; simp at this; omega
    have y1 : w.heap.size < w1.heap.size := Nat.lt_of_succ_lt z1
    clear hb1
    go_wp2_with fail
    refine (HO.out _ HB1.out).mono ?_
    rintro e w2 ⟨rfl, hb2⟩
    obtain ⟨c2, f2⟩ := bcell hb2
    have HB2 := Lib.hid (HB1.out.trans (hb2.mono HB1.out.size))
    have z2 : w.heap.size + 1 < w2.heap.size := Nat.lt_of_lt_of_le z1 hb2.size
    have y2 : w.heap.size < w2.heap.size := Nat.lt_of_succ_lt z2
    clear hb2
    go_wp2_with fail
    refine (HL.out _ HB2.out).mono ?_
    rintro e w3 ⟨rfl, hb3⟩
    obtain ⟨c3, f3⟩ := bcell hb3
    have HB3 := Lib.hid (HB2.out.trans (hb3.mono HB2.out.size))
    have z3 : w.heap.size + 1 < w3.heap.size := Nat.lt_of_lt_of_le z2 hb3.size
    have y3 : w.heap.size < w3.heap.size := Nat.lt_of_succ_lt z3
    clear hb3
    go_wp2_with fail
    go_ret
    exact ⟨rfl, HB3.out⟩
set_option maxHeartbeats 1000000 in
set_option maxRecDepth 100000 in
theorem check_g (hi lo id par : Int) (vL : Value) (sv op : ByteArray) (kd st s0 s1 : Int) (vA vE : Value) (ps po bl bc bt : Bool) (w : World)
    (hS : Ans 61 #[.string sv, .int .i64 60, .int .u8 33] ps w) (hO : Ans 61 #[.string op, .int .i64 100, .int .u8 32] po w)
    (hL : Ans 62 #[.agg #[.int .u64 hi, .int .u64 lo, .int .u64 id, .int .u64 par, vL, .string sv, .string op, .int .i64 kd, .int .i64 st, .int .i64 s0, .int .i64 s1, vA, vE]] bl w) (hA : Ans 63 #[vA] bc w) (hE : Ans 64 #[vE] bt w) (h1 : ¬ (hi = 0 ∧ lo = 0)) (h2 : id ≠ 0) (h3 : ¬ ((s0 < 0 ∨ s1 < s0) ∨ 4611686018427387904 < s1)) (h4 : ps = true) (h5 : po = true) (h6 : ¬ (((kd < 0 ∨ 4 < kd) ∨ st < 0) ∨ 2 < st)) (h7 : bl = false) :
    Calls Tryz.prog 38 #[.agg #[.int .u64 hi, .int .u64 lo, .int .u64 id, .int .u64 par, vL, .string sv, .string op, .int .i64 kd, .int .i64 st, .int .i64 s0, .int .i64 s1, vA, vE]] w (CheckPost w 45) := by
  by_cases hz : hi = 0
  · subst hz
    exact check_gq _ _ _ _ _ _ _ _ _ _ _ _ _ _ _ _ _ _ hS hO hL hA hE (fun h => h1 ⟨rfl, h⟩) h2 h3 h4 h5 h6 h7
  · exact check_gp _ _ _ _ _ _ _ _ _ _ _ _ _ _ _ _ _ _ _ hS hO hL hA hE hz h2 h3 h4 h5 h6 h7
set_option maxHeartbeats 1000000 in
set_option maxRecDepth 100000 in
theorem check_hp (hi lo id par : Int) (vL : Value) (sv op : ByteArray) (kd st s0 s1 : Int) (vA vE : Value) (ps po bl bc bt : Bool) (w : World)
    (hS : Ans 61 #[.string sv, .int .i64 60, .int .u8 33] ps w) (hO : Ans 61 #[.string op, .int .i64 100, .int .u8 32] po w)
    (hL : Ans 62 #[.agg #[.int .u64 hi, .int .u64 lo, .int .u64 id, .int .u64 par, vL, .string sv, .string op, .int .i64 kd, .int .i64 st, .int .i64 s0, .int .i64 s1, vA, vE]] bl w) (hA : Ans 63 #[vA] bc w) (hE : Ans 64 #[vE] bt w) (h1 : ¬ hi = 0) (h2 : id ≠ 0) (h3 : ¬ ((s0 < 0 ∨ s1 < s0) ∨ 4611686018427387904 < s1)) (h4 : ps = true) (h5 : po = true) (h6 : ¬ (((kd < 0 ∨ 4 < kd) ∨ st < 0) ∨ 2 < st)) (h7 : bl = true) (h8 : bc = false) :
    Calls Tryz.prog 38 #[.agg #[.int .u64 hi, .int .u64 lo, .int .u64 id, .int .u64 par, vL, .string sv, .string op, .int .i64 kd, .int .i64 st, .int .i64 s0, .int .i64 s1, vA, vE]] w (CheckPost w 46) := by
  have HB0 := Lib.hid (box_below w #[.int .u64 hi, .int .u64 lo, .int .u64 id, .int .u64 par, vL, .string sv, .string op, .int .i64 kd, .int .i64 st, .int .i64 s0, .int .i64 s1, vA, vE] #[.int .u64 0, .int .u64 0] 41 33)
  have HS := Lib.hid hS
  have HO := Lib.hid hO
  have HL := Lib.hid hL
  have HA := Lib.hid hA
  have HE := Lib.hid hE
  clear hS hO hL hA hE
  subst h4 h5 h7 h8
  have h2' : (id == 0) = false := by simpa using h2
  have a1 : decide (s0 < 0) = false := decide_eq_false (by omega)
  have a2 : decide (s1 < s0) = false := decide_eq_false (by omega)
  have a3 : decide (4611686018427387904 < s1) = false := decide_eq_false (by omega)
  clear h2 h3
  have b1 : decide (kd < 0) = false := decide_eq_false (by omega)
  have b2 : decide (4 < kd) = false := decide_eq_false (by omega)
  have b3 : decide (st < 0) = false := decide_eq_false (by omega)
  have b4 : decide (2 < st) = false := decide_eq_false (by omega)
  clear h6
  go_enter Tryz.func38, Tryz.ntmps38
  go_wp2_with fail
  all_goals
    refine (HS.out _ HB0.out).mono ?_
    rintro e w1 ⟨rfl, hb1⟩
    obtain ⟨c1, f1⟩ := bcell hb1
    have HB1 := Lib.hid (HB0.out.trans (hb1.mono HB0.out.size))
    have z1 : w.heap.size + 1 < w1.heap.size := by have := hb1.size; simp at this; omega
    have y1 : w.heap.size < w1.heap.size := Nat.lt_of_succ_lt z1
    clear hb1
    go_wp2_with fail
    refine (HO.out _ HB1.out).mono ?_
    rintro e w2 ⟨rfl, hb2⟩
    obtain ⟨c2, f2⟩ := bcell hb2
    have HB2 := Lib.hid (HB1.out.trans (hb2.mono HB1.out.size))
    have z2 : w.heap.size + 1 < w2.heap.size := Nat.lt_of_lt_of_le z1 hb2.size
    have y2 : w.heap.size < w2.heap.size := Nat.lt_of_succ_lt z2
    clear hb2
    go_wp2_with fail
    refine (HL.out _ HB2.out).mono ?_
    rintro e w3 ⟨rfl, hb3⟩
    obtain ⟨c3, f3⟩ := bcell hb3
    have HB3 := Lib.hid (HB2.out.trans (hb3.mono HB2.out.size))
    have z3 : w.heap.size + 1 < w3.heap.size := Nat.lt_of_lt_of_le z2 hb3.size
    have y3 : w.heap.size < w3.heap.size := Nat.lt_of_succ_lt z3
    clear hb3
    go_wp2_with fail
    refine (HA.out _ HB3.out).mono ?_
    rintro e w4 ⟨rfl, hb4⟩
    obtain ⟨c4, f4⟩ := bcell hb4
    have HB4 := Lib.hid (HB3.out.trans (hb4.mono HB3.out.size))
    have z4 : w.heap.size + 1 < w4.heap.size := Nat.lt_of_lt_of_le z3 hb4.size
    have y4 : w.heap.size < w4.heap.size := Nat.lt_of_succ_lt z4
    clear hb4
    go_wp2_with fail
    go_ret
    exact ⟨rfl, HB4.out⟩
set_option maxHeartbeats 1000000 in
set_option maxRecDepth 100000 in
theorem check_hq (lo id par : Int) (vL : Value) (sv op : ByteArray) (kd st s0 s1 : Int) (vA vE : Value) (ps po bl bc bt : Bool) (w : World)
    (hS : Ans 61 #[.string sv, .int .i64 60, .int .u8 33] ps w) (hO : Ans 61 #[.string op, .int .i64 100, .int .u8 32] po w)
    (hL : Ans 62 #[.agg #[.int .u64 0, .int .u64 lo, .int .u64 id, .int .u64 par, vL, .string sv, .string op, .int .i64 kd, .int .i64 st, .int .i64 s0, .int .i64 s1, vA, vE]] bl w) (hA : Ans 63 #[vA] bc w) (hE : Ans 64 #[vE] bt w) (h1 : ¬ lo = 0) (h2 : id ≠ 0) (h3 : ¬ ((s0 < 0 ∨ s1 < s0) ∨ 4611686018427387904 < s1)) (h4 : ps = true) (h5 : po = true) (h6 : ¬ (((kd < 0 ∨ 4 < kd) ∨ st < 0) ∨ 2 < st)) (h7 : bl = true) (h8 : bc = false) :
    Calls Tryz.prog 38 #[.agg #[.int .u64 0, .int .u64 lo, .int .u64 id, .int .u64 par, vL, .string sv, .string op, .int .i64 kd, .int .i64 st, .int .i64 s0, .int .i64 s1, vA, vE]] w (CheckPost w 46) := by
  have HB0 := Lib.hid (box_below w #[.int .u64 0, .int .u64 lo, .int .u64 id, .int .u64 par, vL, .string sv, .string op, .int .i64 kd, .int .i64 st, .int .i64 s0, .int .i64 s1, vA, vE] #[.int .u64 0, .int .u64 0] 41 33)
  have HS := Lib.hid hS
  have HO := Lib.hid hO
  have HL := Lib.hid hL
  have HA := Lib.hid hA
  have HE := Lib.hid hE
  clear hS hO hL hA hE
  subst h4 h5 h7 h8
  have h2' : (id == 0) = false := by simpa using h2
  have a1 : decide (s0 < 0) = false := decide_eq_false (by omega)
  have a2 : decide (s1 < s0) = false := decide_eq_false (by omega)
  have a3 : decide (4611686018427387904 < s1) = false := decide_eq_false (by omega)
  clear h2 h3
  have b1 : decide (kd < 0) = false := decide_eq_false (by omega)
  have b2 : decide (4 < kd) = false := decide_eq_false (by omega)
  have b3 : decide (st < 0) = false := decide_eq_false (by omega)
  have b4 : decide (2 < st) = false := decide_eq_false (by omega)
  clear h6
  go_enter Tryz.func38, Tryz.ntmps38
  go_wp2_with fail
  all_goals
    refine (HS.out _ HB0.out).mono ?_
    rintro e w1 ⟨rfl, hb1⟩
    obtain ⟨c1, f1⟩ := bcell hb1
    have HB1 := Lib.hid (HB0.out.trans (hb1.mono HB0.out.size))
    have z1 : w.heap.size + 1 < w1.heap.size := by have := hb1.size; simp at this; omega
    have y1 : w.heap.size < w1.heap.size := Nat.lt_of_succ_lt z1
    clear hb1
    go_wp2_with fail
    refine (HO.out _ HB1.out).mono ?_
    rintro e w2 ⟨rfl, hb2⟩
    obtain ⟨c2, f2⟩ := bcell hb2
    have HB2 := Lib.hid (HB1.out.trans (hb2.mono HB1.out.size))
    have z2 : w.heap.size + 1 < w2.heap.size := Nat.lt_of_lt_of_le z1 hb2.size
    have y2 : w.heap.size < w2.heap.size := Nat.lt_of_succ_lt z2
    clear hb2
    go_wp2_with fail
    refine (HL.out _ HB2.out).mono ?_
    rintro e w3 ⟨rfl, hb3⟩
    obtain ⟨c3, f3⟩ := bcell hb3
    have HB3 := Lib.hid (HB2.out.trans (hb3.mono HB2.out.size))
    have z3 : w.heap.size + 1 < w3.heap.size := Nat.lt_of_lt_of_le z2 hb3.size
    have y3 : w.heap.size < w3.heap.size := Nat.lt_of_succ_lt z3
    clear hb3
    go_wp2_with fail
    refine (HA.out _ HB3.out).mono ?_
    rintro e w4 ⟨rfl, hb4⟩
    obtain ⟨c4, f4⟩ := bcell hb4
    have HB4 := Lib.hid (HB3.out.trans (hb4.mono HB3.out.size))
    have z4 : w.heap.size + 1 < w4.heap.size := Nat.lt_of_lt_of_le z3 hb4.size
    have y4 : w.heap.size < w4.heap.size := Nat.lt_of_succ_lt z4
    clear hb4
    go_wp2_with fail
    go_ret
    exact ⟨rfl, HB4.out⟩
set_option maxHeartbeats 1000000 in
set_option maxRecDepth 100000 in
theorem check_h (hi lo id par : Int) (vL : Value) (sv op : ByteArray) (kd st s0 s1 : Int) (vA vE : Value) (ps po bl bc bt : Bool) (w : World)
    (hS : Ans 61 #[.string sv, .int .i64 60, .int .u8 33] ps w) (hO : Ans 61 #[.string op, .int .i64 100, .int .u8 32] po w)
    (hL : Ans 62 #[.agg #[.int .u64 hi, .int .u64 lo, .int .u64 id, .int .u64 par, vL, .string sv, .string op, .int .i64 kd, .int .i64 st, .int .i64 s0, .int .i64 s1, vA, vE]] bl w) (hA : Ans 63 #[vA] bc w) (hE : Ans 64 #[vE] bt w) (h1 : ¬ (hi = 0 ∧ lo = 0)) (h2 : id ≠ 0) (h3 : ¬ ((s0 < 0 ∨ s1 < s0) ∨ 4611686018427387904 < s1)) (h4 : ps = true) (h5 : po = true) (h6 : ¬ (((kd < 0 ∨ 4 < kd) ∨ st < 0) ∨ 2 < st)) (h7 : bl = true) (h8 : bc = false) :
    Calls Tryz.prog 38 #[.agg #[.int .u64 hi, .int .u64 lo, .int .u64 id, .int .u64 par, vL, .string sv, .string op, .int .i64 kd, .int .i64 st, .int .i64 s0, .int .i64 s1, vA, vE]] w (CheckPost w 46) := by
  by_cases hz : hi = 0
  · subst hz
    exact check_hq _ _ _ _ _ _ _ _ _ _ _ _ _ _ _ _ _ _ hS hO hL hA hE (fun h => h1 ⟨rfl, h⟩) h2 h3 h4 h5 h6 h7 h8
  · exact check_hp _ _ _ _ _ _ _ _ _ _ _ _ _ _ _ _ _ _ _ hS hO hL hA hE hz h2 h3 h4 h5 h6 h7 h8
set_option maxHeartbeats 1000000 in
set_option maxRecDepth 100000 in
theorem check_ip (hi lo id par : Int) (vL : Value) (sv op : ByteArray) (kd st s0 s1 : Int) (vA vE : Value) (ps po bl bc bt : Bool) (w : World)
    (hS : Ans 61 #[.string sv, .int .i64 60, .int .u8 33] ps w) (hO : Ans 61 #[.string op, .int .i64 100, .int .u8 32] po w)
    (hL : Ans 62 #[.agg #[.int .u64 hi, .int .u64 lo, .int .u64 id, .int .u64 par, vL, .string sv, .string op, .int .i64 kd, .int .i64 st, .int .i64 s0, .int .i64 s1, vA, vE]] bl w) (hA : Ans 63 #[vA] bc w) (hE : Ans 64 #[vE] bt w) (h1 : ¬ hi = 0) (h2 : id ≠ 0) (h3 : ¬ ((s0 < 0 ∨ s1 < s0) ∨ 4611686018427387904 < s1)) (h4 : ps = true) (h5 : po = true) (h6 : ¬ (((kd < 0 ∨ 4 < kd) ∨ st < 0) ∨ 2 < st)) (h7 : bl = true) (h8 : bc = true) :
    Calls Tryz.prog 38 #[.agg #[.int .u64 hi, .int .u64 lo, .int .u64 id, .int .u64 par, vL, .string sv, .string op, .int .i64 kd, .int .i64 st, .int .i64 s0, .int .i64 s1, vA, vE]] w (CheckPost w (if bt = false then 47 else 0)) := by
  have HB0 := Lib.hid (box_below w #[.int .u64 hi, .int .u64 lo, .int .u64 id, .int .u64 par, vL, .string sv, .string op, .int .i64 kd, .int .i64 st, .int .i64 s0, .int .i64 s1, vA, vE] #[.int .u64 0, .int .u64 0] 41 33)
  have HS := Lib.hid hS
  have HO := Lib.hid hO
  have HL := Lib.hid hL
  have HA := Lib.hid hA
  have HE := Lib.hid hE
  clear hS hO hL hA hE
  subst h4 h5 h7 h8
  have h2' : (id == 0) = false := by simpa using h2
  have a1 : decide (s0 < 0) = false := decide_eq_false (by omega)
  have a2 : decide (s1 < s0) = false := decide_eq_false (by omega)
  have a3 : decide (4611686018427387904 < s1) = false := decide_eq_false (by omega)
  clear h2 h3
  have b1 : decide (kd < 0) = false := decide_eq_false (by omega)
  have b2 : decide (4 < kd) = false := decide_eq_false (by omega)
  have b3 : decide (st < 0) = false := decide_eq_false (by omega)
  have b4 : decide (2 < st) = false := decide_eq_false (by omega)
  clear h6
  cases bt
  all_goals
    go_enter Tryz.func38, Tryz.ntmps38
    go_wp2_with fail
    all_goals
      refine (HS.out _ HB0.out).mono ?_
      rintro e w1 ⟨rfl, hb1⟩
      obtain ⟨c1, f1⟩ := bcell hb1
      have HB1 := Lib.hid (HB0.out.trans (hb1.mono HB0.out.size))
      have z1 : w.heap.size + 1 < w1.heap.size := by have := hb1.size; simp at this; omega
      have y1 : w.heap.size < w1.heap.size := Nat.lt_of_succ_lt z1
      clear hb1
      go_wp2_with fail
      refine (HO.out _ HB1.out).mono ?_
      rintro e w2 ⟨rfl, hb2⟩
      obtain ⟨c2, f2⟩ := bcell hb2
      have HB2 := Lib.hid (HB1.out.trans (hb2.mono HB1.out.size))
      have z2 : w.heap.size + 1 < w2.heap.size := Nat.lt_of_lt_of_le z1 hb2.size
      have y2 : w.heap.size < w2.heap.size := Nat.lt_of_succ_lt z2
      clear hb2
      go_wp2_with fail
      refine (HL.out _ HB2.out).mono ?_
      rintro e w3 ⟨rfl, hb3⟩
      obtain ⟨c3, f3⟩ := bcell hb3
      have HB3 := Lib.hid (HB2.out.trans (hb3.mono HB2.out.size))
      have z3 : w.heap.size + 1 < w3.heap.size := Nat.lt_of_lt_of_le z2 hb3.size
      have y3 : w.heap.size < w3.heap.size := Nat.lt_of_succ_lt z3
      clear hb3
      go_wp2_with fail
      refine (HA.out _ HB3.out).mono ?_
      rintro e w4 ⟨rfl, hb4⟩
      obtain ⟨c4, f4⟩ := bcell hb4
      have HB4 := Lib.hid (HB3.out.trans (hb4.mono HB3.out.size))
      have z4 : w.heap.size + 1 < w4.heap.size := Nat.lt_of_lt_of_le z3 hb4.size
      have y4 : w.heap.size < w4.heap.size := Nat.lt_of_succ_lt z4
      clear hb4
      go_wp2_with fail
      refine (HE.out _ HB4.out).mono ?_
      rintro e w5 ⟨rfl, hb5⟩
      obtain ⟨c5, f5⟩ := bcell hb5
      have HB5 := Lib.hid (HB4.out.trans (hb5.mono HB4.out.size))
      have z5 : w.heap.size + 1 < w5.heap.size := Nat.lt_of_lt_of_le z4 hb5.size
      have y5 : w.heap.size < w5.heap.size := Nat.lt_of_succ_lt z5
      clear hb5
      go_wp2_with fail
      go_ret
      exact ⟨rfl, HB5.out⟩
set_option maxHeartbeats 1000000 in
set_option maxRecDepth 100000 in
theorem check_iq (lo id par : Int) (vL : Value) (sv op : ByteArray) (kd st s0 s1 : Int) (vA vE : Value) (ps po bl bc bt : Bool) (w : World)
    (hS : Ans 61 #[.string sv, .int .i64 60, .int .u8 33] ps w) (hO : Ans 61 #[.string op, .int .i64 100, .int .u8 32] po w)
    (hL : Ans 62 #[.agg #[.int .u64 0, .int .u64 lo, .int .u64 id, .int .u64 par, vL, .string sv, .string op, .int .i64 kd, .int .i64 st, .int .i64 s0, .int .i64 s1, vA, vE]] bl w) (hA : Ans 63 #[vA] bc w) (hE : Ans 64 #[vE] bt w) (h1 : ¬ lo = 0) (h2 : id ≠ 0) (h3 : ¬ ((s0 < 0 ∨ s1 < s0) ∨ 4611686018427387904 < s1)) (h4 : ps = true) (h5 : po = true) (h6 : ¬ (((kd < 0 ∨ 4 < kd) ∨ st < 0) ∨ 2 < st)) (h7 : bl = true) (h8 : bc = true) :
    Calls Tryz.prog 38 #[.agg #[.int .u64 0, .int .u64 lo, .int .u64 id, .int .u64 par, vL, .string sv, .string op, .int .i64 kd, .int .i64 st, .int .i64 s0, .int .i64 s1, vA, vE]] w (CheckPost w (if bt = false then 47 else 0)) := by
  have HB0 := Lib.hid (box_below w #[.int .u64 0, .int .u64 lo, .int .u64 id, .int .u64 par, vL, .string sv, .string op, .int .i64 kd, .int .i64 st, .int .i64 s0, .int .i64 s1, vA, vE] #[.int .u64 0, .int .u64 0] 41 33)
  have HS := Lib.hid hS
  have HO := Lib.hid hO
  have HL := Lib.hid hL
  have HA := Lib.hid hA
  have HE := Lib.hid hE
  clear hS hO hL hA hE
  subst h4 h5 h7 h8
  have h2' : (id == 0) = false := by simpa using h2
  have a1 : decide (s0 < 0) = false := decide_eq_false (by omega)
  have a2 : decide (s1 < s0) = false := decide_eq_false (by omega)
  have a3 : decide (4611686018427387904 < s1) = false := decide_eq_false (by omega)
  clear h2 h3
  have b1 : decide (kd < 0) = false := decide_eq_false (by omega)
  have b2 : decide (4 < kd) = false := decide_eq_false (by omega)
  have b3 : decide (st < 0) = false := decide_eq_false (by omega)
  have b4 : decide (2 < st) = false := decide_eq_false (by omega)
  clear h6
  cases bt
  all_goals
    go_enter Tryz.func38, Tryz.ntmps38
    go_wp2_with fail
    all_goals
      refine (HS.out _ HB0.out).mono ?_
      rintro e w1 ⟨rfl, hb1⟩
      obtain ⟨c1, f1⟩ := bcell hb1
      have HB1 := Lib.hid (HB0.out.trans (hb1.mono HB0.out.size))
      have z1 : w.heap.size + 1 < w1.heap.size := by have := hb1.size; simp at this; omega
      have y1 : w.heap.size < w1.heap.size := Nat.lt_of_succ_lt z1
      clear hb1
      go_wp2_with fail
      refine (HO.out _ HB1.out).mono ?_
      rintro e w2 ⟨rfl, hb2⟩
      obtain ⟨c2, f2⟩ := bcell hb2
      have HB2 := Lib.hid (HB1.out.trans (hb2.mono HB1.out.size))
      have z2 : w.heap.size + 1 < w2.heap.size := Nat.lt_of_lt_of_le z1 hb2.size
      have y2 : w.heap.size < w2.heap.size := Nat.lt_of_succ_lt z2
      clear hb2
      go_wp2_with fail
      refine (HL.out _ HB2.out).mono ?_
      rintro e w3 ⟨rfl, hb3⟩
      obtain ⟨c3, f3⟩ := bcell hb3
      have HB3 := Lib.hid (HB2.out.trans (hb3.mono HB2.out.size))
      have z3 : w.heap.size + 1 < w3.heap.size := Nat.lt_of_lt_of_le z2 hb3.size
      have y3 : w.heap.size < w3.heap.size := Nat.lt_of_succ_lt z3
      clear hb3
      go_wp2_with fail
      refine (HA.out _ HB3.out).mono ?_
      rintro e w4 ⟨rfl, hb4⟩
      obtain ⟨c4, f4⟩ := bcell hb4
      have HB4 := Lib.hid (HB3.out.trans (hb4.mono HB3.out.size))
      have z4 : w.heap.size + 1 < w4.heap.size := Nat.lt_of_lt_of_le z3 hb4.size
      have y4 : w.heap.size < w4.heap.size := Nat.lt_of_succ_lt z4
      clear hb4
      go_wp2_with fail
      refine (HE.out _ HB4.out).mono ?_
      rintro e w5 ⟨rfl, hb5⟩
      obtain ⟨c5, f5⟩ := bcell hb5
      have HB5 := Lib.hid (HB4.out.trans (hb5.mono HB4.out.size))
      have z5 : w.heap.size + 1 < w5.heap.size := Nat.lt_of_lt_of_le z4 hb5.size
      have y5 : w.heap.size < w5.heap.size := Nat.lt_of_succ_lt z5
      clear hb5
      go_wp2_with fail
      go_ret
      exact ⟨rfl, HB5.out⟩
set_option maxHeartbeats 1000000 in
set_option maxRecDepth 100000 in
theorem check_i (hi lo id par : Int) (vL : Value) (sv op : ByteArray) (kd st s0 s1 : Int) (vA vE : Value) (ps po bl bc bt : Bool) (w : World)
    (hS : Ans 61 #[.string sv, .int .i64 60, .int .u8 33] ps w) (hO : Ans 61 #[.string op, .int .i64 100, .int .u8 32] po w)
    (hL : Ans 62 #[.agg #[.int .u64 hi, .int .u64 lo, .int .u64 id, .int .u64 par, vL, .string sv, .string op, .int .i64 kd, .int .i64 st, .int .i64 s0, .int .i64 s1, vA, vE]] bl w) (hA : Ans 63 #[vA] bc w) (hE : Ans 64 #[vE] bt w) (h1 : ¬ (hi = 0 ∧ lo = 0)) (h2 : id ≠ 0) (h3 : ¬ ((s0 < 0 ∨ s1 < s0) ∨ 4611686018427387904 < s1)) (h4 : ps = true) (h5 : po = true) (h6 : ¬ (((kd < 0 ∨ 4 < kd) ∨ st < 0) ∨ 2 < st)) (h7 : bl = true) (h8 : bc = true) :
    Calls Tryz.prog 38 #[.agg #[.int .u64 hi, .int .u64 lo, .int .u64 id, .int .u64 par, vL, .string sv, .string op, .int .i64 kd, .int .i64 st, .int .i64 s0, .int .i64 s1, vA, vE]] w (CheckPost w (if bt = false then 47 else 0)) := by
  by_cases hz : hi = 0
  · subst hz
    exact check_iq _ _ _ _ _ _ _ _ _ _ _ _ _ _ _ _ _ _ hS hO hL hA hE (fun h => h1 ⟨rfl, h⟩) h2 h3 h4 h5 h6 h7 h8
  · exact check_ip _ _ _ _ _ _ _ _ _ _ _ _ _ _ _ _ _ _ _ hS hO hL hA hE hz h2 h3 h4 h5 h6 h7 h8
theorem check_run (hi lo id par : Int) (vL : Value) (sv op : ByteArray) (kd st s0 s1 : Int) (vA vE : Value) (ps po bl bc bt : Bool) (w : World)
    (hS : Ans 61 #[.string sv, .int .i64 60, .int .u8 33] ps w) (hO : Ans 61 #[.string op, .int .i64 100, .int .u8 32] po w)
    (hL : Ans 62 #[.agg #[.int .u64 hi, .int .u64 lo, .int .u64 id, .int .u64 par, vL, .string sv, .string op, .int .i64 kd, .int .i64 st, .int .i64 s0, .int .i64 s1, vA, vE]] bl w) (hA : Ans 63 #[vA] bc w) (hE : Ans 64 #[vE] bt w) :
    Calls Tryz.prog 38 #[.agg #[.int .u64 hi, .int .u64 lo, .int .u64 id, .int .u64 par, vL, .string sv, .string op, .int .i64 kd, .int .i64 st, .int .i64 s0, .int .i64 s1, vA, vE]] w (CheckPost w (checkF hi lo id ps po kd st s0 s1 bl bc bt)) := by
  unfold checkF
  by_cases h1 : hi = 0 ∧ lo = 0
  · rw [if_pos (.inl h1)]; exact check_a _ _ _ _ _ _ _ _ _ _ _ _ _ _ _ _ _ _ _ hS hO hL hA hE h1
  by_cases h2 : id = 0
  · rw [if_pos (.inr h2)]; exact check_b _ _ _ _ _ _ _ _ _ _ _ _ _ _ _ _ _ _ _ hS hO hL hA hE h1 h2
  rw [if_neg (by rintro (h | h); exact h1 h; exact h2 h)]
  by_cases h3 : (s0 < 0 ∨ s1 < s0) ∨ 4611686018427387904 < s1
  · rw [if_pos h3]; exact check_c _ _ _ _ _ _ _ _ _ _ _ _ _ _ _ _ _ _ _ hS hO hL hA hE h1 h2 h3
  rw [if_neg h3]
  by_cases h4 : ps = false
  · rw [if_pos (.inl h4)]; exact check_d _ _ _ _ _ _ _ _ _ _ _ _ _ _ _ _ _ _ _ hS hO hL hA hE h1 h2 h3 h4
  have h4' : ps = true := by cases ps <;> simp_all
  by_cases h5 : po = false
  · rw [if_pos (.inr h5)]; exact check_e _ _ _ _ _ _ _ _ _ _ _ _ _ _ _ _ _ _ _ hS hO hL hA hE h1 h2 h3 h4' h5
  rw [if_neg (by rintro (h | h); exact h4 h; exact h5 h)]
  have h5' : po = true := by cases po <;> simp_all
  by_cases h6 : ((kd < 0 ∨ 4 < kd) ∨ st < 0) ∨ 2 < st
  · rw [if_pos h6]; exact check_f _ _ _ _ _ _ _ _ _ _ _ _ _ _ _ _ _ _ _ hS hO hL hA hE h1 h2 h3 h4' h5' h6
  rw [if_neg h6]
  by_cases h7 : bl = false
  · rw [if_pos h7]; exact check_g _ _ _ _ _ _ _ _ _ _ _ _ _ _ _ _ _ _ _ hS hO hL hA hE h1 h2 h3 h4' h5' h6 h7
  rw [if_neg h7]
  have h7' : bl = true := by cases bl <;> simp_all
  by_cases h8 : bc = false
  · rw [if_pos h8]; exact check_h _ _ _ _ _ _ _ _ _ _ _ _ _ _ _ _ _ _ _ hS hO hL hA hE h1 h2 h3 h4' h5' h6 h7' h8
  rw [if_neg h8]
  exact check_i _ _ _ _ _ _ _ _ _ _ _ _ _ _ _ _ _ _ _ hS hO hL hA hE h1 h2 h3 h4' h5' h6 h7' (by cases bc <;> simp_all)
end Go.Proofs.YthdkgilpnkabmaaGreatDoor.Pr
