/- The contract of ival.Has, in the print's form. -/
import Derived.Test.YtafpmcmpkgbgaaaPr0
import Derived.Shelf.SlicesQ.IndexFunc
import Derived.Shelf.Lay
import Derived.Ground.SlgfProg
import Derived.Lib.SliceRun
import Derived.Lib.Hide
import Derived.Lib.LaidU8
import Derived.Outline
import Derived.IntWalk
namespace Go.Proofs.Ytafpmcmpkgbgaaa.Pr
open Go.RowKit Go.Proofs.YtafpmcmpkgbgaaaW.PrintWords Go.Proofs.YtafpmcmpkgbgaaaW.PrintLast Go.Proofs.YtafpmcmpkgbgaaaW.PrintMore
open Go.Shelf Go.Lib
set_option linter.unusedVariables false
set_option linter.unusedSimpArgs false
def hasL_ren : Go.Shelf.Ren := ⟨fun | 8 => 44 | 6 => 53 | n => n, fun | 22 => 29 | 23 => 23 | 25 => 44 | 4 => 4 | 3 => 3 | 0 => 0 | n => n, fun | n => n⟩
theorem hasL : Go.Proofs.SlLaysH0.n8 Try.prog hasL_ren := {
  mixed := by kernel_rfl
  f6 := ⟨Try.f53.name, by decide, Try.func53.trans (congrArg some (by kernel_rfl))⟩
  f8 := ⟨Try.f44.name, by decide, Try.func44.trans (congrArg some (by kernel_rfl))⟩
  t0 := Try.underlying0
  a0 := Try.isAgg0
  z0 := Try.sizeOf0
  v0 := Try.zeroValue0
  t3 := Try.underlying3
  a3 := Try.isAgg3
  z3 := Try.sizeOf3
  v3 := Try.zeroValue3
  t4 := Try.underlying4
  a4 := Try.isAgg4
  z4 := Try.sizeOf4
  v4 := Try.zeroValue4
  t22 := Try.underlying29
  a22 := Try.isAgg29
  z22 := Try.sizeOf29
  v22 := Try.zeroValue29
  t25 := Try.underlying44
  a25 := Try.isAgg44
  z25 := Try.sizeOf44
  v25 := Try.zeroValue44 }
instance : Inhabited S23 := ⟨z23⟩
def encI (x : S23) : List Value := [.int .i64 x.f0, .int .i64 x.f1]
def hasP (m : Int) (x : S23) : Bool := decide (x.f0 ≤ m) && decide (m < x.f1)
theorem pred45 (m : Int) (B : Nat) (w : World) (hB : B < w.heap.size) (hcell : w.cell? ⟨B, 0, none⟩ = some (.int .i64 m)) :
    PredBelow Try.prog 45 #[.pointer (some ⟨B, 0, none⟩)] (fun x => .agg (encI x).toArray) (hasP m) w := fun W x hb => by
  have hc : W.cell? ⟨B, 0, none⟩ = some (.int .i64 m) := (hb.cell (p := ⟨B, 0, none⟩) hB).trans hcell
  have hBW : B < W.heap.size := Nat.lt_of_lt_of_le hB hb.size
  have hne : B ≠ W.heap.size := by omega
  have HB := Lib.hid (below_alloc hb (.cells #[.int .i64 x.f0, .int .i64 x.f1] 23))
  show Calls Try.prog 45 #[.agg #[.int .i64 x.f0, .int .i64 x.f1], .pointer (some ⟨B, 0, none⟩)] W _
  unfold hasP
  by_cases h1 : x.f0 ≤ m <;> by_cases h2 : m < x.f1
  all_goals
    go_enter Try.func45, Try.ntmps45
    go_wp2
    go_ret
    exact ⟨by simp [h1, h2], by repeat (first | exact HB.out | apply pw_below_drewN | apply below_drew1)⟩
theorem index_empty (a : Option Addr) (c : Nat) (fv : Value) (w : World) : Calls Try.prog 53 #[.slice a 0 c, fv] w fun e w' => e = .returned (.int .i64 (-1)) ∧ w' = w := by
  go_enter Try.func53, Try.ntmps53
  go_wp2
  refine wp_loop_rounds 1 ?_; rw [rounds_succ]
  go_wp2
  go_ret
  exact ⟨rfl, rfl⟩
theorem contains_empty (a : Option Addr) (c : Nat) (fv : Value) (w : World) : Calls Try.prog 44 #[.slice a 0 c, fv] w fun e w' => e = .returned (.bool false) ∧ w' = w := by
  go_enter Try.func44, Try.ntmps44
  go_wp2_with (go_at_call 53; refine (index_empty a c fv _).mono ?_; rintro e w' ⟨rfl, rfl⟩)
  go_ret
  exact ⟨rfl, rfl⟩
theorem contains_run (A0 : Option Addr) (c0 : Nat) (l0 : List S23) (m : Int) (B : Nat) (w : World) (hr0 : Kd.C k23 w A0 l0.length l0) (hB : B < w.heap.size) (hcell : w.cell? ⟨B, 0, none⟩ = some (.int .i64 m)) :
    Calls Try.prog 44 #[.slice A0 l0.length c0, .func (.func 45) #[] #[.pointer (some ⟨B, 0, none⟩)]] w fun e w' => e = .returned (.bool (l0.any (hasP m))) ∧ Below w.heap.size w w' := by
  by_cases h0 : 0 < l0.length
  · obtain ⟨ad, hA, hx0, _⟩ := at_T23 hr0 0 (by omega) (by omega)
    subst hA
    obtain ⟨ab, ao, sp⟩ := ad
    obtain rfl : sp = none := Go.Proofs.cell_spot hx0
    have hlt : ab < w.heap.size := World.block_lt_of_cell? w _ hx0
    have eg : ∀ args w, (callFunc 45 args).run Try.prog w = .ok (.enter 45 args) w := enters_of Try.func45 (by kernel_rfl) rfl
    have hcon := AnyQ.slices_ContainsFunc hasL 2 (fun w => by first | exact Try.isAgg23 w | kernel_rfl) (fun w => by first | exact Try.sizeOf23 w | kernel_rfl) encI (fun _ => rfl) (hasP m) 45 #[.pointer (some ⟨B, 0, none⟩)] eg ab ao l0.length c0 l0 w (pred45 m B w hB hcell) (Nat.le_refl _) hr0.2.1 (by exact hlt) (fun j hj i v hi => by
      obtain ⟨ad', had, h1, h2⟩ := at_T23 hr0 (j : Int) (by omega) (by omega)
      cases had
      rw [Int.toNat_natCast, Addr.add_lit] at h1 h2
      have e : rd_T23 l0 (j : Int) = l0[j]! := by rw [getElem!_pos l0 j hj]; simp [rd_T23, List.getD, hj]
      rw [e] at h1 h2
      match i, hi with
      | 0, hi => simp [encI] at hi; rw [← hi]; simpa using h1
      | 1, hi => simp [encI] at hi; rw [← hi]; simpa using h2
      | i + 2, hi => simp [encI] at hi)
    rw [List.take_of_length_le (Nat.le_refl _)] at hcon
    exact hcon
  · have hx : l0 = [] := List.eq_nil_of_length_eq_zero (by omega)
    subst hx
    refine (contains_empty A0 c0 _ w).mono ?_
    rintro e w' ⟨rfl, rfl⟩
    exact ⟨rfl, Below.refl _ _⟩
def ival_Has.f (l0 : List S23) (a1 : Int) : Option Bool := some (l0.any (hasP a1))
theorem ival_Has.calls (A0 : Option Addr) (c0 : Nat) (l0 : List S23) (a1 : Int) (r : Bool) (w : World) (hr0 : Kd.C k23 w A0 l0.length l0) (hc0 : l0.length ≤ c0) (h : ival_Has.f l0 a1 = some r) :
    Calls Try.prog 31 #[.slice A0 l0.length c0, .int .i64 a1] w fun e w' => e = .returned (.bool r) ∧ Below w.heap.size w w' := by
  obtain rfl := Option.some.inj h
  have hb := below_alloc (Below.refl w.heap.size w) (.cells #[.int .i64 a1] 2)
  have H := Lib.hid (contains_run A0 c0 l0 a1 w.heap.size (w.alloc (.cells #[.int .i64 a1] 2)) (Kd.C_below hr0 hb) (by simp) (by simp))
  have HB := Lib.hid hb
  clear hr0 h hb
  generalize l0.any (hasP a1) = r at *
  go_enter Try.func31, Try.ntmps31
  go_wp2_with fail
  refine H.out.mono ?_
  rintro e w1 ⟨rfl, hB⟩
  have HB1 := Lib.hid (HB.out.trans (hB.mono HB.out.size))
  clear hB
  go_wp2_with fail
  go_ret
  exact ⟨rfl, HB1.out⟩
end Go.Proofs.Ytafpmcmpkgbgaaa.Pr
