/- Normal, Meet and Minus of package ival, in the print's contract form. -/
import Derived.Test.YtafpmcmpkgbgaaaXSx
import Derived.Test.YtafpmcmpkgbgaaaXSy
namespace Go.Proofs.Ytafpmcmpkgbgaaa.Pr
open Go.RowKit Go.Proofs.YtafpmcmpkgbgaaaW.PrintWords Go.Proofs.YtafpmcmpkgbgaaaW.PrintLast Go.Proofs.YtafpmcmpkgbgaaaW.PrintMore
open Go.Lib
set_option linter.unusedVariables false
set_option linter.unusedSimpArgs false
def ival_Normal.f (l0 : List S23) : Option (List S23) := if 2 * l0.length < 8796093022208 then some (normalL l0) else none
def ival_Meet.f (l0 l1 : List S23) : Option (List S23) := if 2 * (l0.length + l1.length) < 8796093022208 then some (meetL l0 l1) else none
def ival_Minus.f (l0 l1 : List S23) : Option (List S23) := if 2 * (l0.length + l1.length) < 8796093022208 then some (minusL l0 l1) else none
theorem C_nil23 (w : World) : Kd.C k23 w none ([] : List S23).length [] := Kd.C_nil _ _
set_option maxHeartbeats 1000000 in
theorem ival_Normal.calls (A0 : Option Addr) (c0 : Nat) (l0 : List S23) (r : List S23) (w : World) (hr0 : Kd.C k23 w A0 l0.length l0) (hc0 : l0.length ≤ c0) (h : ival_Normal.f l0 = some r) :
    Calls Try.prog 15 #[.slice A0 l0.length c0] w fun e w' => ∃ v0_ : Value, e = .returned (v0_) ∧ Kd.R k23 23 w' w.heap.size (fun _ => True) v0_ r ∧ Below w.heap.size w w' := by
  unfold ival_Normal.f at h
  split at h
  · rename_i hl
    obtain rfl := Option.some.inj h
    have H := Lib.hid (sweep39 A0 c0 l0 none 0 [] w hr0 hc0 (C_nil23 w) (Nat.le_refl _) (by simpa using hl))
    clear hr0 h
    show Calls Try.prog 15 _ w fun e w' => SweepPost pNormal l0 [] w e w'
    go_enter Try.func15, Try.ntmps15
    go_wp2_with fail
    refine H.out.mono ?_
    rintro e w1 ⟨v, rfl, hR, hB⟩
    have HR := Lib.hid hR
    have HB := Lib.hid hB
    clear hR hB
    go_wp2_with fail
    go_ret
    exact ⟨v, rfl, HR.out, HB.out⟩
  · cases h
set_option maxHeartbeats 1000000 in
theorem ival_Meet.calls (A0 : Option Addr) (c0 : Nat) (l0 : List S23) (A1 : Option Addr) (c1 : Nat) (l1 : List S23) (r : List S23) (w : World) (hr0 : Kd.C k23 w A0 l0.length l0) (hc0 : l0.length ≤ c0) (hr1 : Kd.C k23 w A1 l1.length l1) (hc1 : l1.length ≤ c1) (h : ival_Meet.f l0 l1 = some r) :
    Calls Try.prog 16 #[.slice A0 l0.length c0, .slice A1 l1.length c1] w fun e w' => ∃ v0_ : Value, e = .returned (v0_) ∧ Kd.R k23 23 w' w.heap.size (fun _ => True) v0_ r ∧ Below w.heap.size w w' := by
  unfold ival_Meet.f at h
  split at h
  · rename_i hl
    obtain rfl := Option.some.inj h
    have H := Lib.hid (sweep40 A0 c0 l0 A1 c1 l1 w hr0 hc0 hr1 hc1 hl)
    clear hr0 hr1 h
    show Calls Try.prog 16 _ w fun e w' => SweepPost pMeet l0 l1 w e w'
    go_enter Try.func16, Try.ntmps16
    go_wp2_with fail
    refine H.out.mono ?_
    rintro e w1 ⟨v, rfl, hR, hB⟩
    have HR := Lib.hid hR
    have HB := Lib.hid hB
    clear hR hB
    go_wp2_with fail
    go_ret
    exact ⟨v, rfl, HR.out, HB.out⟩
  · cases h
set_option maxHeartbeats 1000000 in
theorem ival_Minus.calls (A0 : Option Addr) (c0 : Nat) (l0 : List S23) (A1 : Option Addr) (c1 : Nat) (l1 : List S23) (r : List S23) (w : World) (hr0 : Kd.C k23 w A0 l0.length l0) (hc0 : l0.length ≤ c0) (hr1 : Kd.C k23 w A1 l1.length l1) (hc1 : l1.length ≤ c1) (h : ival_Minus.f l0 l1 = some r) :
    Calls Try.prog 17 #[.slice A0 l0.length c0, .slice A1 l1.length c1] w fun e w' => ∃ v0_ : Value, e = .returned (v0_) ∧ Kd.R k23 23 w' w.heap.size (fun _ => True) v0_ r ∧ Below w.heap.size w w' := by
  unfold ival_Minus.f at h
  split at h
  · rename_i hl
    obtain rfl := Option.some.inj h
    have H := Lib.hid (sweep41 A0 c0 l0 A1 c1 l1 w hr0 hc0 hr1 hc1 hl)
    clear hr0 hr1 h
    show Calls Try.prog 17 _ w fun e w' => SweepPost pMinus l0 l1 w e w'
    go_enter Try.func17, Try.ntmps17
    go_wp2_with fail
    refine H.out.mono ?_
    rintro e w1 ⟨v, rfl, hR, hB⟩
    have HR := Lib.hid hR
    have HB := Lib.hid hB
    clear hR hB
    go_wp2_with fail
    go_ret
    exact ⟨v, rfl, HR.out, HB.out⟩
  · cases h
end Go.Proofs.Ytafpmcmpkgbgaaa.Pr
