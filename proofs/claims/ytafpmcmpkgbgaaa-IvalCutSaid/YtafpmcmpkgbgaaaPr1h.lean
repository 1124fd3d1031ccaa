-- by xprint.py, a program of the session's own, over the kit's print. Not trusted: Lean checks it.
import Derived.Test.YtafpmcmpkgbgaaaPr0
import Derived.Test.YtafpmcmpkgbgaaaPrea
import Derived.Test.YtafpmcmpkgbgaaaPr0a
import Derived.Test.YtafpmcmpkgbgaaaPr0b
import Derived.Test.YtafpmcmpkgbgaaaPr1b
import Derived.Test.YtafpmcmpkgbgaaaPr1e
import Derived.Test.YtafpmcmpkgbgaaaXNo
import Derived.Test.YtafpmcmpkgbgaaaSh
namespace Go.Proofs.Ytafpmcmpkgbgaaa.Pr
open Go.RowKit Go.Proofs.YtafpmcmpkgbgaaaW.PrintWords Go.Proofs.YtafpmcmpkgbgaaaW.PrintLast Go.Proofs.YtafpmcmpkgbgaaaW.PrintMore
attribute [local go_sem] max2_int min2_int max_two min_two max_three min_three max_four min_four   -- for this text's walks alone
set_option linter.unusedVariables false
set_option linter.unusedSimpArgs false
def bz1h_0 : Array Bool := #[false, false, false, false, false, false, false, false, false, false, false, false, false, false, false, false, false, false, false, false, false, false, false, false, false, false, false, false, false]
def bz1h_1 : Array Bool := #[true, false, false, false, false, false, false, false, false, false, false, false, false, false, false, false, false, false, false, false, false, false, false, false, false, false, false, false, false]
def bz1h_2 : Array Bool := #[true, false, true, false, false, false, false, false, false, false, false, false, false, false, false, false, false, false, false, false, false, false, false, false, false, false, false, false, false]
def bz1h_3 : Array Bool := #[true, true, true, false, false, false, false, false, false, false, false, false, false, false, false, false, false, false, false, false, false, false, false, false, false, false, false, false, false]
def bz1h_4 : Array Bool := #[true, true, true, true, false, false, false, false, false, false, false, false, false, false, false, false, false, false, false, false, false, false, false, false, false, false, false, false, false]
def bz1h_5 : Array Bool := #[true, true, true, true, true, false, false, false, false, false, false, false, false, false, false, false, false, false, false, false, false, false, false, false, false, false, false, false, false]
def bz1h_6 : Array Bool := #[true, true, true, true, true, true, false, false, false, false, false, false, false, false, false, false, false, false, false, false, false, false, false, false, false, false, false, false, false]
def bz1h_7 : Array Bool := #[true, true, true, true, true, true, false, true, false, false, false, false, false, false, false, false, false, false, false, false, false, false, false, false, false, false, false, false, false]
def bz1h_8 : Array Bool := #[true, true, true, true, true, true, false, true, false, true, false, false, false, false, false, false, false, false, false, false, false, false, false, false, false, false, false, false, false]
def bz1h_9 : Array Bool := #[true, true, true, true, true, true, true, true, false, true, false, false, false, false, false, false, false, false, false, false, false, false, false, false, false, false, false, false, false]
def bz1h_10 : Array Bool := #[true, true, true, true, true, true, true, true, true, true, false, false, false, false, false, false, false, false, false, false, false, false, false, false, false, false, false, false, false]
def bz1h_11 : Array Bool := #[true, true, true, true, true, true, true, true, true, true, true, false, false, false, false, false, false, false, false, false, false, false, false, false, false, false, false, false, false]
def bz1h_12 : Array Bool := #[true, true, true, true, true, true, true, true, true, true, true, true, false, false, false, false, false, false, false, false, false, false, false, false, false, false, false, false, false]
def bz1h_13 : Array Bool := #[true, true, true, true, true, true, true, true, true, true, true, true, true, false, false, false, false, false, false, false, false, false, false, false, false, false, false, false, false]
def bz1h_14 : Array Bool := #[true, true, true, true, true, true, true, true, true, true, true, true, true, true, false, false, false, false, false, false, false, false, false, false, false, false, false, false, false]
def bz1h_15 : Array Bool := #[true, true, true, true, true, true, true, true, true, true, true, true, true, true, true, false, false, false, false, false, false, false, false, false, false, false, false, false, false]
def bz1h_16 : Array Bool := #[true, true, true, true, true, true, true, true, true, true, true, true, true, true, true, true, false, false, false, false, false, false, false, false, false, false, false, false, false]
def bz1h_17 : Array Bool := #[true, true, true, true, true, true, true, true, true, true, true, true, true, true, true, true, true, false, false, false, false, false, false, false, false, false, false, false, false]
def bz1h_18 : Array Bool := #[true, true, true, true, true, true, true, true, true, true, true, true, true, true, true, true, true, true, false, false, false, false, false, false, false, false, false, false, false]
def bz1h_19 : Array Bool := #[true, true, true, true, true, true, true, true, true, true, true, true, true, true, true, true, true, true, true, false, false, false, false, false, false, false, false, false, false]
def bz1h_20 : Array Bool := #[true, true, true, true, true, true, true, true, true, true, true, true, true, true, true, true, true, true, true, true, false, false, false, false, false, false, false, false, false]
def bz1h_21 : Array Bool := #[true, true, true, true, true, true, true, true, true, true, true, true, true, true, true, true, true, true, true, true, true, false, false, false, false, false, false, false, false]
def bz1h_22 : Array Bool := #[true, true, true, true, true, true, true, true, true, true, true, true, true, true, true, true, true, true, true, true, true, true, false, false, false, false, false, false, false]
def bz1h_23 : Array Bool := #[true, true, true, true, true, true, true, true, true, true, true, true, true, true, true, true, true, true, true, true, true, true, true, false, false, false, false, false, false]
def bz1h_24 : Array Bool := #[true, true, true, true, true, true, true, true, true, true, true, true, true, true, true, true, true, true, true, true, true, true, true, true, false, false, false, false, false]
def bz1h_25 : Array Bool := #[true, true, true, true, true, true, true, true, true, true, true, true, true, true, true, true, true, true, true, true, true, true, true, true, true, false, false, false, false]
def bz1h_26 : Array Bool := #[true, true, true, true, true, true, true, true, true, true, true, true, true, true, true, true, true, true, true, true, true, true, true, true, true, true, false, false, false]
def bz1h_27 : Array Bool := #[true, true, true, true, true, true, true, true, true, true, true, true, true, true, true, true, true, true, true, true, true, true, true, true, true, true, true, false, false]
def bz1h_28 : Array Bool := #[true, true, true, true, true, true, true, true, true, true, true, true, true, true, true, true, true, true, true, true, true, true, true, true, true, true, true, true, false]
def bz1h_29 : Array Bool := #[true, true, true, true, true, true, true, true, true, true, true, true, true, true, true, true, true, true, true, true, true, true, true, true, true, true, true, true, true]
def bz1h_30 : Array Bool := #[true, true, true, true, true, true, true, true, true, true, true, true, true, true, true, true, false, true, false, false, false, false, false, false, false, false, false, false, false]
def bz1h_31 : Array Bool := #[true, true, true, true, true, true, true, true, true, true, true, true, true, true, true, true, true, true, true, true, true, true, false, true, false, false, false, false, false]
def bz1h_32 : Array Bool := #[true, true, true, true, true, true, true, false, false, false, false, false, false, false, false, false, false, false, false, false, false, false, false, false, false, false, false, false, false]
def bz1h_33 : Array Bool := #[true, true, true, true, true, true, true, true, false, false, false, false, false, false, false, false, false, false, false, false, false, false, false, false, false, false, false, false, false]
def bz1h_34 : Array Bool := #[true, true, true, true, true, true, true, true, true, false, false, false, false, false, false, false, false, false, false, false, false, false, false, false, false, false, false, false, false]
def bz1h_35 : Array Bool := #[false, false, false, false, false, false, false, false, false, false, false, false, false, false, false, false, false, false, false, false, false, false, false, false, false]
def bz1h_36 : Array Bool := #[true, false, false, false, false, false, false, false, false, false, false, false, false, false, false, false, false, false, false, false, false, false, false, false, false]
def bz1h_37 : Array Bool := #[true, true, false, false, false, false, false, false, false, false, false, false, false, false, false, false, false, false, false, false, false, false, false, false, false]
def bz1h_38 : Array Bool := #[true, true, true, false, false, false, false, false, false, false, false, false, false, false, false, false, false, false, false, false, false, false, false, false, false]
def bz1h_39 : Array Bool := #[true, true, true, true, false, false, false, false, false, false, false, false, false, false, false, false, false, false, false, false, false, false, false, false, false]
def bz1h_40 : Array Bool := #[true, true, true, true, true, false, false, false, false, false, false, false, false, false, false, false, false, false, false, false, false, false, false, false, false]
def bz1h_41 : Array Bool := #[true, true, true, true, true, true, false, false, false, false, false, false, false, false, false, false, false, false, false, false, false, false, false, false, false]
def bz1h_42 : Array Bool := #[true, true, true, true, true, true, true, false, false, false, false, false, false, false, false, false, false, false, false, false, false, false, false, false, false]
def bz1h_43 : Array Bool := #[true, true, true, true, true, true, true, true, false, false, false, false, false, false, false, false, false, false, false, false, false, false, false, false, false]
def bz1h_44 : Array Bool := #[true, true, true, true, true, true, true, true, true, false, false, false, false, false, false, false, false, false, false, false, false, false, false, false, false]
def bz1h_45 : Array Bool := #[true, true, true, true, true, true, true, true, true, true, false, false, false, false, false, false, false, false, false, false, false, false, false, false, false]
def bz1h_46 : Array Bool := #[true, true, true, true, true, true, true, true, true, true, true, false, false, false, false, false, false, false, false, false, false, false, false, false, false]
def bz1h_47 : Array Bool := #[true, true, true, true, true, true, true, true, true, true, true, true, false, false, false, false, false, false, false, false, false, false, false, false, false]
def bz1h_48 : Array Bool := #[true, true, true, true, true, true, true, true, true, true, true, true, true, false, false, false, false, false, false, false, false, false, false, false, false]
def bz1h_49 : Array Bool := #[true, true, true, true, true, true, true, true, true, true, true, true, true, false, true, false, false, false, false, false, false, false, false, false, false]
def bz1h_50 : Array Bool := #[true, true, true, true, true, true, true, true, true, true, true, true, true, true, true, false, false, false, false, false, false, false, false, false, false]
def bz1h_51 : Array Bool := #[true, true, true, true, true, true, true, true, true, true, true, true, true, true, true, true, false, false, false, false, false, false, false, false, false]
def bz1h_52 : Array Bool := #[true, true, true, true, true, true, true, true, true, true, true, true, true, true, true, true, true, false, false, false, false, false, false, false, false]
def bz1h_53 : Array Bool := #[true, true, true, true, true, true, true, true, true, true, true, true, true, true, true, true, true, true, false, false, false, false, false, false, false]
def bz1h_54 : Array Bool := #[true, true, true, true, true, true, true, true, true, true, true, true, true, true, true, true, true, true, true, false, false, false, false, false, false]
def bz1h_55 : Array Bool := #[true, true, true, true, true, true, true, true, true, true, true, true, true, true, true, true, true, true, true, false, true, false, false, false, false]
def bz1h_56 : Array Bool := #[true, true, true, true, true, true, true, true, true, true, true, true, true, true, true, true, true, true, true, true, true, false, false, false, false]
def bz1h_57 : Array Bool := #[true, true, true, true, true, true, true, true, true, true, true, true, true, true, true, true, true, true, true, true, true, true, false, false, false]
def bz1h_58 : Array Bool := #[true, true, true, true, true, true, true, true, true, true, true, true, true, true, true, true, true, true, true, true, true, true, true, false, false]
def bz1h_59 : Array Bool := #[true, true, true, true, true, true, true, true, true, true, true, true, true, true, true, true, true, true, true, true, true, true, true, true, false]
def bz1h_60 : Array Bool := #[true, true, true, true, true, true, true, true, true, true, true, true, true, true, true, true, true, true, true, true, true, true, true, true, true]
def bz1h_61 : Array Bool := #[true, true, true, true, true, true, true, true, true, true, true, true, true, true, true, true, true, true, true, true, false, false, false, false, false]
def bz1h_62 : Array Bool := #[true, true, true, true, true, true, true, true, true, true, true, true, true, true, false, false, false, false, false, false, false, false, false, false, false]

attribute [local go_sem high] eqA23
/-! ### spoorlaw06_IvalCut: function 7 -/
mutual
def spoorlaw06_IvalCut.j0 : Nat → Bool → Bool → Int → Int → Int → Int → Int → Int → Option (Bool)
  | 0, _, _, _, _, _, _, _, _ => none
  | k + 1, x5, x7, x327000, x327001, x328000, x328001, x332000, x332001 => if x328001 ≤ x328000 then ((spoorlaw06_of.f x328000 x328000).bind fun bt332 => (if (x332000 == bt332.1 && (x332001 == bt332.2)) = true then (spoorlaw06_IvalCut.j1 k x5 x7 true x327000 x327001 x328000 x328001 x332000 x332001) else (if x328000 ≤ x332000 then (spoorlaw06_IvalCut.j1 k x5 x7 (decide (x332001 ≤ x328001)) x327000 x327001 x328000 x328001 x332000 x332001) else (spoorlaw06_IvalCut.j1 k x5 x7 false x327000 x327001 x328000 x328001 x332000 x332001)))) else (if x328000 ≤ x332000 then (spoorlaw06_IvalCut.j1 k x5 x7 (decide (x332001 ≤ x328001)) x327000 x327001 x328000 x328001 x332000 x332001) else (spoorlaw06_IvalCut.j1 k x5 x7 false x327000 x327001 x328000 x328001 x332000 x332001))
def spoorlaw06_IvalCut.j1 : Nat → Bool → Bool → Bool → Int → Int → Int → Int → Int → Int → Option (Bool)
  | 0, _, _, _, _, _, _, _, _, _ => none
  | k + 1, x5, x7, x8, x327000, x327001, x328000, x328001, x332000, x332001 => (ival_Meet.f (([(⟨x327000, x327001⟩ : S23)] : List (S23))) (([(⟨x328000, x328001⟩ : S23)] : List (S23)))).bind fun t340 => ((ival_Normal.f (([(⟨x332000, x332001⟩ : S23)] : List (S23)))).bind fun t346 => ((spoorref06_Same.f k t346 t340).bind fun t349 => (if x5 = true then (if x7 = true then (if x8 = true then (if t349 = true then ((ival_Clip.f x332000 x332001 x328000 x328001).bind fun bt350 => (if (bt350.1 == x332000 && (bt350.2 == x332001)) = true then ((ival_Measure.f k t340).bind fun t352 => ((ival_Length.f x332000 x332001).bind fun t353 => (some (t352 == t353)))) else (some false))) else (some false)) else (some false)) else (some false)) else (some false))))
end
def spoorlaw06_IvalCut.f (k : Nat) (a0_0 : Int) (a0_1 : Int) (a1_0 : Int) (a1_1 : Int) : Option (Bool) := (spoorlaw06_alive.f k).bind fun t328 => ((ival_Clip.f a0_0 a0_1 a1_0 a1_1).bind fun bt329 => (if bt329.2 = bt329.1 then (spoorlaw06_IvalCut.j0 k t328 true a0_0 a0_1 a1_0 a1_1 bt329.1 bt329.2) else (if a1_0 ≤ bt329.1 then (if bt329.1 < bt329.2 then (spoorlaw06_IvalCut.j0 k t328 (decide (bt329.2 ≤ a1_1)) a0_0 a0_1 a1_0 a1_1 bt329.1 bt329.2) else (spoorlaw06_IvalCut.j0 k t328 false a0_0 a0_1 a1_0 a1_1 bt329.1 bt329.2)) else (spoorlaw06_IvalCut.j0 k t328 false a0_0 a0_1 a1_0 a1_1 bt329.1 bt329.2))))
theorem spoorlaw06_IvalCut.mono_l : ∀ k, (∀ y0 y1 y2 y3 y4 y5 y6 y7, LeO (spoorlaw06_IvalCut.j0 k y0 y1 y2 y3 y4 y5 y6 y7) (spoorlaw06_IvalCut.j0 (k + 1) y0 y1 y2 y3 y4 y5 y6 y7)) ∧ (∀ y0 y1 y2 y3 y4 y5 y6 y7 y8, LeO (spoorlaw06_IvalCut.j1 k y0 y1 y2 y3 y4 y5 y6 y7 y8) (spoorlaw06_IvalCut.j1 (k + 1) y0 y1 y2 y3 y4 y5 y6 y7 y8))
  | 0 => ⟨fun _ _ _ _ _ _ _ _ r h => by simp [spoorlaw06_IvalCut.j0] at h, fun _ _ _ _ _ _ _ _ _ r h => by simp [spoorlaw06_IvalCut.j1] at h⟩
  | k + 1 => by
    obtain ⟨ih0, ih1⟩ := spoorlaw06_IvalCut.mono_l k
    refine ⟨?_, ?_⟩
    · intro y0 y1 y2 y3 y4 y5 y6 y7
      unfold spoorlaw06_IvalCut.j0
      repeat' first
      | (with_reducible exact ih0 _ _ _ _ _ _ _ _)
      | (with_reducible exact ih1 _ _ _ _ _ _ _ _ _)
      | (with_reducible exact ival_Measure.mono _ _)
      | (with_reducible exact spoorlaw06_alive.mono _)
      | (with_reducible exact spoorref06_Same.mono _ _ _)
      | (with_reducible exact LeO.refl _)
      | (with_reducible exact LeO.none _)
      | (with_reducible refine LeO.ite ?_ ?_)
      | (with_reducible refine LeO.bind ?_ (fun _ => ?_))
      | exact ih0 _ _ _ _ _ _ _ _
      | exact ih1 _ _ _ _ _ _ _ _ _
      | exact ival_Measure.mono _ _
      | exact spoorlaw06_alive.mono _
      | exact spoorref06_Same.mono _ _ _
      | exact LeO.none _
      | refine LeO.ite ?_ ?_
      | refine LeO.bind ?_ (fun _ => ?_)
    · intro y0 y1 y2 y3 y4 y5 y6 y7 y8
      unfold spoorlaw06_IvalCut.j1
      repeat' first
      | (with_reducible exact ih0 _ _ _ _ _ _ _ _)
      | (with_reducible exact ih1 _ _ _ _ _ _ _ _ _)
      | (with_reducible exact ival_Measure.mono _ _)
      | (with_reducible exact spoorlaw06_alive.mono _)
      | (with_reducible exact spoorref06_Same.mono _ _ _)
      | (with_reducible exact LeO.refl _)
      | (with_reducible exact LeO.none _)
      | (with_reducible refine LeO.ite ?_ ?_)
      | (with_reducible refine LeO.bind ?_ (fun _ => ?_))
      | exact ih0 _ _ _ _ _ _ _ _
      | exact ih1 _ _ _ _ _ _ _ _ _
      | exact ival_Measure.mono _ _
      | exact spoorlaw06_alive.mono _
      | exact spoorref06_Same.mono _ _ _
      | exact LeO.none _
      | refine LeO.ite ?_ ?_
      | refine LeO.bind ?_ (fun _ => ?_)
theorem spoorlaw06_IvalCut.mono : ∀ a0 a1 a2 a3 k, LeO (spoorlaw06_IvalCut.f k a0 a1 a2 a3) (spoorlaw06_IvalCut.f (k + 1) a0 a1 a2 a3) := by
  intro a0 a1 a2 a3 k
  obtain ⟨ih0, ih1⟩ := spoorlaw06_IvalCut.mono_l k
  unfold spoorlaw06_IvalCut.f
  repeat' first
      | (with_reducible exact ih0 _ _ _ _ _ _ _ _)
      | (with_reducible exact ih1 _ _ _ _ _ _ _ _ _)
      | (with_reducible exact ival_Measure.mono _ _)
      | (with_reducible exact spoorlaw06_alive.mono _)
      | (with_reducible exact spoorref06_Same.mono _ _ _)
      | (with_reducible exact LeO.refl _)
      | (with_reducible exact LeO.none _)
      | (with_reducible refine LeO.ite ?_ ?_)
      | (with_reducible refine LeO.bind ?_ (fun _ => ?_))
      | exact ih0 _ _ _ _ _ _ _ _
      | exact ih1 _ _ _ _ _ _ _ _ _
      | exact ival_Measure.mono _ _
      | exact spoorlaw06_alive.mono _
      | exact spoorref06_Same.mono _ _ _
      | exact LeO.none _
      | refine LeO.ite ?_ ?_
      | refine LeO.bind ?_ (fun _ => ?_)
def spoorlaw06_IvalCut.T4 : Bool × List (List Nat × List Nat) := (true, [([], []), ([0], [0]), ([], []), ([2], [2]), ([1, 3], [1, 3]), ([4], [4]), ([5], [5]), ([5], [5]), ([7, 5], [5, 7]), ([5], [5]), ([9, 5], [5, 9]), ([8, 10, 5, 5], [5, 8, 10]), ([6, 11, 5], [5, 6, 11]), ([5, 12], [5, 12]), ([13, 11], [13]), ([14], [14]), ([15, 14], [14, 15]), ([14], [14]), ([17, 14], [14, 17]), ([16, 18, 14], [14, 16, 18]), ([19, 14, 14], [14, 19]), ([20], [20]), ([21, 20], [20, 21]), ([20], [20]), ([23, 20], [20, 23]), ([22, 24, 20], [20, 22, 24]), ([20, 25, 14], [14, 20, 25]), ([14, 26], [14, 26]), ([27, 20, 0, 1, 2, 3, 4, 5, 6, 7, 8, 9, 10, 11, 12, 13, 14, 15, 16, 17, 18, 19, 20, 21, 22, 23, 24, 25, 26, 27], [27])])
def spoorlaw06_IvalCut.B4 : List Nat := [0, 1, 0, 4, 15, 31, 63, 63, 191, 63, 575, 1983, 4095, 8191, 16383, 32767, 65535, 32767, 163839, 524287, 1048575, 2097151, 4194303, 2097151, 10485759, 33554431, 67108863, 134217727, 268435455]
theorem spoorlaw06_IvalCut.tab4 : rtab .any (opsOf Try.f7 4) = spoorlaw06_IvalCut.T4 := by kernel_rfl
theorem spoorlaw06_IvalCut.bits4 : waitsOk spoorlaw06_IvalCut.T4.2 spoorlaw06_IvalCut.B4 = true := by kernel_rfl
def spoorlaw06_IvalCut.T7 : Bool × List (List Nat × List Nat) := (true, [([], []), ([0], [0]), ([1], [1]), ([1, 2], [1, 2]), ([3, 1], [3]), ([4], [4]), ([4, 5], [4, 5]), ([6, 4], [6]), ([7], [7]), ([7, 8], [7, 8]), ([9, 7], [9]), ([10], [10]), ([10], [10]), ([11, 12, 10, 10], [10, 11, 12]), ([10], [10]), ([13, 14, 10], [10, 13, 14]), ([10, 15], [10, 15]), ([16, 13], [16]), ([17], [17]), ([18, 17, 17], [17, 18]), ([17], [17]), ([20, 19, 17], [17, 20]), ([19, 21, 17], [17, 19, 21]), ([17, 22], [17, 22]), ([23, 21, 0, 1, 2, 3, 4, 5, 6, 7, 8, 9, 10, 11, 12, 13, 14, 15, 16, 17, 18, 19, 20, 21, 22, 23], [23])])
def spoorlaw06_IvalCut.B7 : List Nat := [0, 1, 3, 7, 15, 31, 63, 127, 255, 511, 1023, 2047, 2047, 8191, 2047, 32767, 65535, 131071, 262143, 524287, 262143, 2097151, 4194303, 8388607, 16777215]
theorem spoorlaw06_IvalCut.tab7 : rtab .any (opsOf Try.f7 7) = spoorlaw06_IvalCut.T7 := by kernel_rfl
theorem spoorlaw06_IvalCut.bits7 : waitsOk spoorlaw06_IvalCut.T7.2 spoorlaw06_IvalCut.B7 = true := by kernel_rfl
set_option maxHeartbeats 8000000 in
set_option maxRecDepth 100000 in
theorem spoorlaw06_IvalCut.calls (k : Nat) (a0_0 : Int) (a0_1 : Int) (a1_0 : Int) (a1_1 : Int) (r : Bool) (w : World) (h : spoorlaw06_IvalCut.f k a0_0 a0_1 a1_0 a1_1 = some r) :
    Calls Try.prog 7 #[.agg #[.int .i64 a0_0, .int .i64 a0_1], .agg #[.int .i64 a1_0, .int .i64 a1_1]] w fun e w' => e = .returned (.bool r) ∧ Below w.heap.size w w' := by
  have hu23 := Try.underlying23
  have HB := Aside0.mk (Below.refl w.heap.size w)
  have H : ((spoorlaw06_alive.f k).bind fun t328 => ((ival_Clip.f a0_0 a0_1 a1_0 a1_1).bind fun bt329 => (if bt329.2 = bt329.1 then (spoorlaw06_IvalCut.j0 k t328 true a0_0 a0_1 a1_0 a1_1 bt329.1 bt329.2) else (if a1_0 ≤ bt329.1 then (if bt329.1 < bt329.2 then (spoorlaw06_IvalCut.j0 k t328 (decide (bt329.2 ≤ a1_1)) a0_0 a0_1 a1_0 a1_1 bt329.1 bt329.2) else (spoorlaw06_IvalCut.j0 k t328 false a0_0 a0_1 a1_0 a1_1 bt329.1 bt329.2)) else (spoorlaw06_IvalCut.j0 k t328 false a0_0 a0_1 a1_0 a1_1 bt329.1 bt329.2))))) = some r := h
  clear h
  replace H := Option.bind_eq_some_iff.mp H
  obtain ⟨t328, A30, H⟩ := H
  replace H : ((ival_Clip.f a0_0 a0_1 a1_0 a1_1).bind fun bt329 => (if bt329.2 = bt329.1 then (spoorlaw06_IvalCut.j0 k t328 true a0_0 a0_1 a1_0 a1_1 bt329.1 bt329.2) else (if a1_0 ≤ bt329.1 then (if bt329.1 < bt329.2 then (spoorlaw06_IvalCut.j0 k t328 (decide (bt329.2 ≤ a1_1)) a0_0 a0_1 a1_0 a1_1 bt329.1 bt329.2) else (spoorlaw06_IvalCut.j0 k t328 false a0_0 a0_1 a1_0 a1_1 bt329.1 bt329.2)) else (spoorlaw06_IvalCut.j0 k t328 false a0_0 a0_1 a1_0 a1_1 bt329.1 bt329.2)))) = some r := H
  have A3 := Aside0.mk A30
  clear A30
  replace H := Option.bind_eq_some_iff.mp H
  obtain ⟨⟨t329, t330⟩, A40, H⟩ := H
  replace H : (if t330 = t329 then (spoorlaw06_IvalCut.j0 k t328 true a0_0 a0_1 a1_0 a1_1 t329 t330) else (if a1_0 ≤ t329 then (if t329 < t330 then (spoorlaw06_IvalCut.j0 k t328 (decide (t330 ≤ a1_1)) a0_0 a0_1 a1_0 a1_1 t329 t330) else (spoorlaw06_IvalCut.j0 k t328 false a0_0 a0_1 a1_0 a1_1 t329 t330)) else (spoorlaw06_IvalCut.j0 k t328 false a0_0 a0_1 a1_0 a1_1 t329 t330))) = some r := H
  have A4 := Aside0.mk A40
  clear A40
  have HC5 := Aside0.mk H
  clear H
  go_enter Try.func7, Try.ntmps7
  go_upto_region 3 with (first | ((with_reducible refine gate_dst (N := 2) rfl ?_); refine box_event ?hg (N := 2) ?hd (cs := #[.int .i64 a0_0, .int .i64 a0_1]) (t := 23) ?hr ?_; (case hd => rfl); (case hg => rfl); (case hr => first | (go_simp; done) | (go_simp; rfl)); intro gb326 hg w6 hbox hb; have n0_ := Aside0.mk (below_step xq0 hb); have n1_ := Aside0.mk (hbox); have n2_ := Aside0.mk ((by rw [hg]; exact (below_size xq0) : w.heap.size ≤ gb326)); have n3_ := Aside0.mk ((by rw [hg]; exact (below_size xq0) : w.heap.size ≤ gb326)); clear HB; have HB := n0_; have BK326 := n1_; have GW326 := n2_; have GE326 := n3_; clear n0_ n1_ n2_ n3_; clear hb hbox hg) | ((with_reducible refine gate_dst (N := 3) rfl ?_); refine box_event ?hg (N := 3) ?hd (cs := #[.int .i64 a1_0, .int .i64 a1_1]) (t := 23) ?hr ?_; (case hd => rfl); (case hg => rfl); (case hr => first | (go_simp; done) | (go_simp; rfl)); intro gb327 hg w7 hbox hb; have n0_ := Aside0.mk (blk_below (g := gb326) (o := .cells #[.int .i64 a0_0, .int .i64 a0_1] 23 (0, 0)) (xb BK326) hb); have n1_ := Aside0.mk (below_step xq1 hb); have n2_ := Aside0.mk (hbox); have n3_ := Aside0.mk ((by rw [hg]; exact (below_size xq1) : w.heap.size ≤ gb327)); have n4_ := Aside0.mk ((by rw [hg]; exact (below_size xq1) : w.heap.size ≤ gb327)); have n5_ := Aside0.mk ((by rw [hg]; exact Nat.ne_of_lt (blk_lt (g := gb326) (o := .cells #[.int .i64 a0_0, .int .i64 a0_1] 23 (0, 0)) (xb BK326)) : gb326 ≠ gb327)); have n6_ := Aside0.mk ((by rw [hg]; exact Nat.ne_of_gt (blk_lt (g := gb326) (o := .cells #[.int .i64 a0_0, .int .i64 a0_1] 23 (0, 0)) (xb BK326)) : gb327 ≠ gb326)); clear BK326; clear HB; have BK326 := n0_; have HB := n1_; have BK327 := n2_; have GW327 := n3_; have GE327 := n4_; have NB326_327 := n5_; have NB327_326 := n6_; clear n0_ n1_ n2_ n3_ n4_ n5_ n6_; clear hb hbox hg) | ((with_reducible refine gate_callee (f := 10) rfl ?_); refine goesL_ (some 11) rfl rfl Try.func10 (by kernel_rfl) rfl #[] rfl xa ?_; (with_reducible refine (spoorlaw06_alive.calls k  t328 _ A3.out).mono ?_); rintro e w8 ⟨rfl, hb⟩; refine ⟨_, rfl, ?_⟩; have n0_ := Aside0.mk (blk_below (g := gb326) (o := .cells #[.int .i64 a0_0, .int .i64 a0_1] 23 (0, 0)) (xb BK326) hb); have n1_ := Aside0.mk (blk_below (g := gb327) (o := .cells #[.int .i64 a1_0, .int .i64 a1_1] 23 (0, 0)) (xb BK327) hb); have n2_ := Aside0.mk (below_step xq1 hb); clear BK326; clear BK327; clear HB; have BK326 := n0_; have BK327 := n1_; have HB := n2_; clear n0_ n1_ n2_; (try clear hb); (try clear hb2); (try clear hk); (try clear hi); have hnb9 := NB326_327.out; have hnc9 := NB327_326.out; have hcz10_0 : w8.cell? ⟨gb326, 0, none⟩ = some (.int .i64 a0_0) := (blk_cell BK326.out 0).trans rfl; have hcz10_1 : w8.cell? ⟨gb326, 1, none⟩ = some (.int .i64 a0_1) := (blk_cell BK326.out 1).trans rfl; have hfz10_0 := blk_frozen BK326.out 0; have hfz10_1 := blk_frozen BK326.out 1; have hcz11_0 : w8.cell? ⟨gb327, 0, none⟩ = some (.int .i64 a1_0) := (blk_cell BK327.out 0).trans rfl; have hcz11_1 : w8.cell? ⟨gb327, 1, none⟩ = some (.int .i64 a1_1) := (blk_cell BK327.out 1).trans rfl; have hfz11_0 := blk_frozen BK327.out 0; have hfz11_1 := blk_frozen BK327.out 1) | ((with_reducible refine gate_callee (f := 11) rfl ?_); refine goesL_ (some 14) rfl rfl Try.func11 (by kernel_rfl) rfl #[.agg #[.int .i64 a0_0, .int .i64 a0_1], .agg #[.int .i64 a1_0, .int .i64 a1_1]] rfl xa ?_; (with_reducible refine (ival_Clip.calls a0_0 a0_1 a1_0 a1_1 t329 t330 _ A4.out).mono ?_); rintro e w12 ⟨rfl, hb⟩; refine ⟨_, rfl, ?_⟩; have n0_ := Aside0.mk (blk_below (g := gb326) (o := .cells #[.int .i64 a0_0, .int .i64 a0_1] 23 (0, 0)) (xb BK326) hb); have n1_ := Aside0.mk (blk_below (g := gb327) (o := .cells #[.int .i64 a1_0, .int .i64 a1_1] 23 (0, 0)) (xb BK327) hb); have n2_ := Aside0.mk (below_step xq1 hb); clear BK326; clear BK327; clear HB; have BK326 := n0_; have BK327 := n1_; have HB := n2_; clear n0_ n1_ n2_; (try clear hb); (try clear hb2); (try clear hk); (try clear hi)) | ((with_reducible refine gate_dst (N := 6) rfl ?_); refine box_event ?hg (N := 6) ?hd (cs := #[.int .i64 0, .int .i64 0]) (t := 23) ?hr ?_; (case hd => rfl); (case hg => rfl); (case hr => first | (go_simp; done) | (go_simp; rfl)); intro gb331 hg w13 hbox hb; have n0_ := Aside0.mk (blk_below (g := gb326) (o := .cells #[.int .i64 a0_0, .int .i64 a0_1] 23 (0, 0)) (xb BK326) hb); have n1_ := Aside0.mk (blk_below (g := gb327) (o := .cells #[.int .i64 a1_0, .int .i64 a1_1] 23 (0, 0)) (xb BK327) hb); have n2_ := Aside0.mk (below_step xq1 hb); have n3_ := Aside0.mk (hbox); have n4_ := Aside0.mk ((by rw [hg]; exact (below_size xq1) : w.heap.size ≤ gb331)); have n5_ := Aside0.mk ((by rw [hg]; exact (below_size xq1) : w.heap.size ≤ gb331)); have n6_ := Aside0.mk ((by rw [hg]; exact Nat.ne_of_lt (blk_lt (g := gb326) (o := .cells #[.int .i64 a0_0, .int .i64 a0_1] 23 (0, 0)) (xb BK326)) : gb326 ≠ gb331)); have n7_ := Aside0.mk ((by rw [hg]; exact Nat.ne_of_gt (blk_lt (g := gb326) (o := .cells #[.int .i64 a0_0, .int .i64 a0_1] 23 (0, 0)) (xb BK326)) : gb331 ≠ gb326)); have n8_ := Aside0.mk ((by rw [hg]; exact Nat.ne_of_lt (blk_lt (g := gb327) (o := .cells #[.int .i64 a1_0, .int .i64 a1_1] 23 (0, 0)) (xb BK327)) : gb327 ≠ gb331)); have n9_ := Aside0.mk ((by rw [hg]; exact Nat.ne_of_gt (blk_lt (g := gb327) (o := .cells #[.int .i64 a1_0, .int .i64 a1_1] 23 (0, 0)) (xb BK327)) : gb331 ≠ gb327)); clear BK326; clear BK327; clear HB; have BK326 := n0_; have BK327 := n1_; have HB := n2_; have BK331 := n3_; have GW331 := n4_; have GE331 := n5_; have NB326_331 := n6_; have NB331_326 := n7_; have NB327_331 := n8_; have NB331_327 := n9_; clear n0_ n1_ n2_ n3_ n4_ n5_ n6_ n7_ n8_ n9_; clear hb hbox hg; have hnb14 := NB331_326.out; have hnc14 := NB326_331.out; have hnb15 := NB331_327.out; have hnc15 := NB327_331.out; have hcz16_0 : w13.cell? ⟨gb331, 0, none⟩ = some (.int .i64 0) := (blk_cell BK331.out 0).trans rfl; have hcz16_1 : w13.cell? ⟨gb331, 1, none⟩ = some (.int .i64 0) := (blk_cell BK331.out 1).trans rfl; have hfz16_0 := blk_frozen BK331.out 0; have hfz16_1 := blk_frozen BK331.out 1))
  (try simp only [Act.put, List.setIfInBounds_toArray, List.set_cons_zero, List.set_cons_succ])
  go_cut [7] (fun v7 wc => ∃ (kq : Nat) (x7_4 : Bool), v7 = .bool x7_4 ∧ Aside0 (spoorlaw06_IvalCut.j0 kq t328 x7_4 a0_0 a0_1 a1_0 a1_1 t329 t330 = some r) ∧ Aside0 (kq ≤ k) ∧ Aside0 (wc.heap[gb326]? = some (.cells #[.int .i64 a0_0, .int .i64 a0_1] 23 (0, 0))) ∧ Aside0 (wc.heap[gb327]? = some (.cells #[.int .i64 a1_0, .int .i64 a1_1] 23 (0, 0))) ∧ Aside0 (wc.heap[gb331]? = some (.cells #[.int .i64 t329, .int .i64 t330] 23 (0, 0))) ∧ Aside0 (Below w.heap.size w wc))
  case first =>
    have H := HC5.out
    clear HC5
    by_cases c17 : t330 = t329
    · rw [if_pos c17] at H
      have c17b0 : (t330 == t329) = true := beq_iff_eq.mpr c17
      have c17b1 : (t330 != t329) = false := bne_eq_false_iff_eq.mpr c17
      clear c17
      (first | rw [c17b0] | (simp only [i64_w, i32_w]; rw [c17b0]) | skip)
      have H' := Aside0.mk H
      clear H
      have hnb18 := NB331_326.out
      have hnc18 := NB326_331.out
      have hnb19 := NB331_327.out
      have hnc19 := NB327_331.out
      have hcz20_0 : w13.cell? ⟨gb331, 0, none⟩ = some (.int .i64 0) := (blk_cell BK331.out 0).trans rfl
      have hcz20_1 : w13.cell? ⟨gb331, 1, none⟩ = some (.int .i64 0) := (blk_cell BK331.out 1).trans rfl
      have hfz20_0 := blk_frozen BK331.out 0
      have hfz20_1 := blk_frozen BK331.out 1
      go_wp2
      go_meet
      case rel => exact ⟨_, (true), (by first | rfl | (simp; done) | (simp [*]; done)), H', ⟨by first | omega | exact Nat.le_refl _⟩, ⟨by (with_reducible repeat (first | refine blk_drewN ?_ _ | refine blk_drew ?_ | refine blk_alloc ?_ _)); refine blk_far ?_ NB326_331.out _; (with_reducible repeat (first | refine blk_drewN ?_ _ | refine blk_drew ?_ | refine blk_alloc ?_ _)); refine blk_far ?_ NB326_331.out _; (with_reducible repeat (first | refine blk_drewN ?_ _ | refine blk_drew ?_ | refine blk_alloc ?_ _)); exact BK326.out⟩, ⟨by (with_reducible repeat (first | refine blk_drewN ?_ _ | refine blk_drew ?_ | refine blk_alloc ?_ _)); refine blk_far ?_ NB327_331.out _; (with_reducible repeat (first | refine blk_drewN ?_ _ | refine blk_drew ?_ | refine blk_alloc ?_ _)); refine blk_far ?_ NB327_331.out _; (with_reducible repeat (first | refine blk_drewN ?_ _ | refine blk_drew ?_ | refine blk_alloc ?_ _)); exact BK327.out⟩, ⟨by (with_reducible repeat (first | refine blk_drewN ?_ _ | refine blk_drew ?_ | refine blk_alloc ?_ _)); refine blk_put (cs := #[.int .i64 t329, .int .i64 0]) ?_ 1 _ rfl; (with_reducible repeat (first | refine blk_drewN ?_ _ | refine blk_drew ?_ | refine blk_alloc ?_ _)); refine blk_put (cs := #[.int .i64 0, .int .i64 0]) ?_ 0 _ rfl; (with_reducible repeat (first | refine blk_drewN ?_ _ | refine blk_drew ?_ | refine blk_alloc ?_ _)); exact BK331.out⟩, ⟨by repeat (first | (with_reducible first | exact HB.out | apply below_alloc | apply pw_below_drewN | apply below_drew1 | refine below_set ?_ GE326.out | refine below_set ?_ GE327.out | refine below_set ?_ GE331.out) | exact HB.out)⟩⟩
    · rw [if_neg c17] at H
      have c17b0 : (t330 == t329) = false := beq_eq_false_iff_ne.mpr c17
      have c17b1 : (t330 != t329) = true := bne_iff_ne.mpr c17
      (first | rw [c17b0] | (simp only [i64_w, i32_w]; rw [c17b0]) | skip)
      by_cases c21 : a1_0 ≤ t329
      · rw [if_pos c21] at H
        have c21b0 : decide (a1_0 ≤ t329) = true := decide_eq_true c21
        clear c21
        by_cases c22 : t329 < t330
        · rw [if_pos c22] at H
          have c22b0 : decide (t329 < t330) = true := decide_eq_true c22
          clear c22
          have H' := Aside0.mk H
          clear H
          have hnb23 := NB331_326.out
          have hnc23 := NB326_331.out
          have hnb24 := NB331_327.out
          have hnc24 := NB327_331.out
          have hcz25_0 : w13.cell? ⟨gb331, 0, none⟩ = some (.int .i64 0) := (blk_cell BK331.out 0).trans rfl
          have hcz25_1 : w13.cell? ⟨gb331, 1, none⟩ = some (.int .i64 0) := (blk_cell BK331.out 1).trans rfl
          have hfz25_0 := blk_frozen BK331.out 0
          have hfz25_1 := blk_frozen BK331.out 1
          have hnb26 := NB327_326.out
          have hnc26 := NB326_327.out
          have hcz27_0 : w13.cell? ⟨gb327, 0, none⟩ = some (.int .i64 a1_0) := (blk_cell BK327.out 0).trans rfl
          have hcz27_1 : w13.cell? ⟨gb327, 1, none⟩ = some (.int .i64 a1_1) := (blk_cell BK327.out 1).trans rfl
          have hfz27_0 := blk_frozen BK327.out 0
          have hfz27_1 := blk_frozen BK327.out 1
          go_wp2
          go_meet
          case rel => exact ⟨_, (decide (t330 ≤ a1_1)), (by first | rfl | (simp; done) | (simp [*]; done)), H', ⟨by first | omega | exact Nat.le_refl _⟩, ⟨by (with_reducible repeat (first | refine blk_drewN ?_ _ | refine blk_drew ?_ | refine blk_alloc ?_ _)); refine blk_far ?_ NB326_331.out _; (with_reducible repeat (first | refine blk_drewN ?_ _ | refine blk_drew ?_ | refine blk_alloc ?_ _)); refine blk_far ?_ NB326_331.out _; (with_reducible repeat (first | refine blk_drewN ?_ _ | refine blk_drew ?_ | refine blk_alloc ?_ _)); exact BK326.out⟩, ⟨by (with_reducible repeat (first | refine blk_drewN ?_ _ | refine blk_drew ?_ | refine blk_alloc ?_ _)); refine blk_far ?_ NB327_331.out _; (with_reducible repeat (first | refine blk_drewN ?_ _ | refine blk_drew ?_ | refine blk_alloc ?_ _)); refine blk_far ?_ NB327_331.out _; (with_reducible repeat (first | refine blk_drewN ?_ _ | refine blk_drew ?_ | refine blk_alloc ?_ _)); exact BK327.out⟩, ⟨by (with_reducible repeat (first | refine blk_drewN ?_ _ | refine blk_drew ?_ | refine blk_alloc ?_ _)); refine blk_put (cs := #[.int .i64 t329, .int .i64 0]) ?_ 1 _ rfl; (with_reducible repeat (first | refine blk_drewN ?_ _ | refine blk_drew ?_ | refine blk_alloc ?_ _)); refine blk_put (cs := #[.int .i64 0, .int .i64 0]) ?_ 0 _ rfl; (with_reducible repeat (first | refine blk_drewN ?_ _ | refine blk_drew ?_ | refine blk_alloc ?_ _)); exact BK331.out⟩, ⟨by repeat (first | (with_reducible first | exact HB.out | apply below_alloc | apply pw_below_drewN | apply below_drew1 | refine below_set ?_ GE326.out | refine below_set ?_ GE327.out | refine below_set ?_ GE331.out) | exact HB.out)⟩⟩
        · rw [if_neg c22] at H
          have c22b0 : decide (t329 < t330) = false := decide_eq_false c22
          clear c22
          have H' := Aside0.mk H
          clear H
          have hnb28 := NB331_326.out
          have hnc28 := NB326_331.out
          have hnb29 := NB331_327.out
          have hnc29 := NB327_331.out
          have hcz30_0 : w13.cell? ⟨gb331, 0, none⟩ = some (.int .i64 0) := (blk_cell BK331.out 0).trans rfl
          have hcz30_1 : w13.cell? ⟨gb331, 1, none⟩ = some (.int .i64 0) := (blk_cell BK331.out 1).trans rfl
          have hfz30_0 := blk_frozen BK331.out 0
          have hfz30_1 := blk_frozen BK331.out 1
          have hnb31 := NB327_326.out
          have hnc31 := NB326_327.out
          have hcz32_0 : w13.cell? ⟨gb327, 0, none⟩ = some (.int .i64 a1_0) := (blk_cell BK327.out 0).trans rfl
          have hcz32_1 : w13.cell? ⟨gb327, 1, none⟩ = some (.int .i64 a1_1) := (blk_cell BK327.out 1).trans rfl
          have hfz32_0 := blk_frozen BK327.out 0
          have hfz32_1 := blk_frozen BK327.out 1
          go_wp2
          go_meet
          case rel => exact ⟨_, (false), (by first | rfl | (simp; done) | (simp [*]; done)), H', ⟨by first | omega | exact Nat.le_refl _⟩, ⟨by (with_reducible repeat (first | refine blk_drewN ?_ _ | refine blk_drew ?_ | refine blk_alloc ?_ _)); refine blk_far ?_ NB326_331.out _; (with_reducible repeat (first | refine blk_drewN ?_ _ | refine blk_drew ?_ | refine blk_alloc ?_ _)); refine blk_far ?_ NB326_331.out _; (with_reducible repeat (first | refine blk_drewN ?_ _ | refine blk_drew ?_ | refine blk_alloc ?_ _)); exact BK326.out⟩, ⟨by (with_reducible repeat (first | refine blk_drewN ?_ _ | refine blk_drew ?_ | refine blk_alloc ?_ _)); refine blk_far ?_ NB327_331.out _; (with_reducible repeat (first | refine blk_drewN ?_ _ | refine blk_drew ?_ | refine blk_alloc ?_ _)); refine blk_far ?_ NB327_331.out _; (with_reducible repeat (first | refine blk_drewN ?_ _ | refine blk_drew ?_ | refine blk_alloc ?_ _)); exact BK327.out⟩, ⟨by (with_reducible repeat (first | refine blk_drewN ?_ _ | refine blk_drew ?_ | refine blk_alloc ?_ _)); refine blk_put (cs := #[.int .i64 t329, .int .i64 0]) ?_ 1 _ rfl; (with_reducible repeat (first | refine blk_drewN ?_ _ | refine blk_drew ?_ | refine blk_alloc ?_ _)); refine blk_put (cs := #[.int .i64 0, .int .i64 0]) ?_ 0 _ rfl; (with_reducible repeat (first | refine blk_drewN ?_ _ | refine blk_drew ?_ | refine blk_alloc ?_ _)); exact BK331.out⟩, ⟨by repeat (first | (with_reducible first | exact HB.out | apply below_alloc | apply pw_below_drewN | apply below_drew1 | refine below_set ?_ GE326.out | refine below_set ?_ GE327.out | refine below_set ?_ GE331.out) | exact HB.out)⟩⟩
      · rw [if_neg c21] at H
        have c21b0 : decide (a1_0 ≤ t329) = false := decide_eq_false c21
        clear c21
        have H' := Aside0.mk H
        clear H
        have hnb33 := NB331_326.out
        have hnc33 := NB326_331.out
        have hnb34 := NB331_327.out
        have hnc34 := NB327_331.out
        have hcz35_0 : w13.cell? ⟨gb331, 0, none⟩ = some (.int .i64 0) := (blk_cell BK331.out 0).trans rfl
        have hcz35_1 : w13.cell? ⟨gb331, 1, none⟩ = some (.int .i64 0) := (blk_cell BK331.out 1).trans rfl
        have hfz35_0 := blk_frozen BK331.out 0
        have hfz35_1 := blk_frozen BK331.out 1
        have hnb36 := NB327_326.out
        have hnc36 := NB326_327.out
        have hcz37_0 : w13.cell? ⟨gb327, 0, none⟩ = some (.int .i64 a1_0) := (blk_cell BK327.out 0).trans rfl
        have hcz37_1 : w13.cell? ⟨gb327, 1, none⟩ = some (.int .i64 a1_1) := (blk_cell BK327.out 1).trans rfl
        have hfz37_0 := blk_frozen BK327.out 0
        have hfz37_1 := blk_frozen BK327.out 1
        go_wp2
        go_meet
        case rel => exact ⟨_, (false), (by first | rfl | (simp; done) | (simp [*]; done)), H', ⟨by first | omega | exact Nat.le_refl _⟩, ⟨by (with_reducible repeat (first | refine blk_drewN ?_ _ | refine blk_drew ?_ | refine blk_alloc ?_ _)); refine blk_far ?_ NB326_331.out _; (with_reducible repeat (first | refine blk_drewN ?_ _ | refine blk_drew ?_ | refine blk_alloc ?_ _)); refine blk_far ?_ NB326_331.out _; (with_reducible repeat (first | refine blk_drewN ?_ _ | refine blk_drew ?_ | refine blk_alloc ?_ _)); exact BK326.out⟩, ⟨by (with_reducible repeat (first | refine blk_drewN ?_ _ | refine blk_drew ?_ | refine blk_alloc ?_ _)); refine blk_far ?_ NB327_331.out _; (with_reducible repeat (first | refine blk_drewN ?_ _ | refine blk_drew ?_ | refine blk_alloc ?_ _)); refine blk_far ?_ NB327_331.out _; (with_reducible repeat (first | refine blk_drewN ?_ _ | refine blk_drew ?_ | refine blk_alloc ?_ _)); exact BK327.out⟩, ⟨by (with_reducible repeat (first | refine blk_drewN ?_ _ | refine blk_drew ?_ | refine blk_alloc ?_ _)); refine blk_put (cs := #[.int .i64 t329, .int .i64 0]) ?_ 1 _ rfl; (with_reducible repeat (first | refine blk_drewN ?_ _ | refine blk_drew ?_ | refine blk_alloc ?_ _)); refine blk_put (cs := #[.int .i64 0, .int .i64 0]) ?_ 0 _ rfl; (with_reducible repeat (first | refine blk_drewN ?_ _ | refine blk_drew ?_ | refine blk_alloc ?_ _)); exact BK331.out⟩, ⟨by repeat (first | (with_reducible first | exact HB.out | apply below_alloc | apply pw_below_drewN | apply below_drew1 | refine below_set ?_ GE326.out | refine below_set ?_ GE327.out | refine below_set ?_ GE331.out) | exact HB.out)⟩⟩
  case rest =>
    clear HC5
    try clear c1
    try clear c2
    try clear p2
    try clear c3
    try clear c7
    try clear c9
    try clear c10
    try clear c11
    try clear c14
    try clear c15
    try clear c17
    try clear c17b0
    try clear c17b1
    try clear c18
    try clear c19
    try clear c21
    try clear c21b0
    try clear c22
    try clear c22b0
    try clear c23
    try clear c24
    try clear c26
    try clear c28
    try clear c29
    try clear c31
    try clear c33
    try clear c34
    try clear c36
    try clear hcz10_0
    try clear hcz10_1
    try clear hcz11_0
    try clear hcz11_1
    try clear hcz16_0
    try clear hcz16_1
    try clear hcz20_0
    try clear hcz20_1
    try clear hcz25_0
    try clear hcz25_1
    try clear hcz27_0
    try clear hcz27_1
    try clear hcz30_0
    try clear hcz30_1
    try clear hcz32_0
    try clear hcz32_1
    try clear hcz35_0
    try clear hcz35_1
    try clear hcz37_0
    try clear hcz37_1
    try clear hfz10_0
    try clear hfz10_1
    try clear hfz11_0
    try clear hfz11_1
    try clear hfz16_0
    try clear hfz16_1
    try clear hfz20_0
    try clear hfz20_1
    try clear hfz25_0
    try clear hfz25_1
    try clear hfz27_0
    try clear hfz27_1
    try clear hfz30_0
    try clear hfz30_1
    try clear hfz32_0
    try clear hfz32_1
    try clear hfz35_0
    try clear hfz35_1
    try clear hfz37_0
    try clear hfz37_1
    obtain ⟨kq, x7_4, rfl, HA, HJ4, BK326, BK327, BK331, HB⟩ := hcut
    cases kq with
    | zero => exact absurd HA.out (by simp [spoorlaw06_IvalCut.j0])
    | succ kj4 =>
      have H := HA.out
      clear HA
      simp only [spoorlaw06_IvalCut.j0] at H
      have HC38 := Aside0.mk H
      clear H
      go_upto_region 4 with (fail)
      go_cut [8] (fun v8 wc => ∃ (kq : Nat) (x8_37 : Bool), v8 = .bool x8_37 ∧ Aside0 (spoorlaw06_IvalCut.j1 kq t328 x7_4 x8_37 a0_0 a0_1 a1_0 a1_1 t329 t330 = some r) ∧ Aside0 (kq ≤ kj4) ∧ Aside0 (wc.heap[gb326]? = some (.cells #[.int .i64 a0_0, .int .i64 a0_1] 23 (0, 0))) ∧ Aside0 (wc.heap[gb327]? = some (.cells #[.int .i64 a1_0, .int .i64 a1_1] 23 (0, 0))) ∧ Aside0 (wc.heap[gb331]? = some (.cells #[.int .i64 t329, .int .i64 t330] 23 (0, 0))) ∧ Aside0 (Below w.heap.size w wc))
      case first =>
        have H := HC38.out
        clear HC38
        by_cases c39 : a1_1 ≤ a1_0
        · rw [if_pos c39] at H
          have c39b0 : decide (a1_1 ≤ a1_0) = true := decide_eq_true c39
          clear c39
          (first | rw [c39b0] | (simp only [i64_w, i32_w]; rw [c39b0]) | skip)
          replace H := Option.bind_eq_some_iff.mp H
          obtain ⟨⟨t332, t333⟩, A400, H⟩ := H
          replace H : (if (t329 == t332 && (t330 == t333)) = true then (spoorlaw06_IvalCut.j1 kj4 t328 x7_4 true a0_0 a0_1 a1_0 a1_1 t329 t330) else (if a1_0 ≤ t329 then (spoorlaw06_IvalCut.j1 kj4 t328 x7_4 (decide (t330 ≤ a1_1)) a0_0 a0_1 a1_0 a1_1 t329 t330) else (spoorlaw06_IvalCut.j1 kj4 t328 x7_4 false a0_0 a0_1 a1_0 a1_1 t329 t330))) = some r := H
          have A40 := Aside0.mk A400
          clear A400
          by_cases c41 : (t329 == t332 && (t330 == t333)) = true
          · rw [if_pos c41] at H
            have c41b0 : (t329 == t332 && (t330 == t333)) = true := c41
            (try (have c41b1 : decide (t329 = t332 && (t330 == t333)) = true := by simpa using c41))
            (try (have c41b2 : (t329 == t332 && (t330 == t333)) = true := by simpa using c41))
            clear c41
            have H' := Aside0.mk H
            clear H
            try go_wp2
            have n0_ := Aside0.mk (blk_drew BK326.out)
            have n1_ := Aside0.mk (blk_drew BK327.out)
            have n2_ := Aside0.mk (blk_drew BK331.out)
            have n3_ := Aside0.mk (below_drew1 HB.out)
            clear BK326
            clear BK327
            clear BK331
            clear HB
            have BK326 := n0_
            have BK327 := n1_
            have BK331 := n2_
            have HB := n3_
            clear n0_ n1_ n2_ n3_
            refine start_ (n := 29) (S := fun w' => w'.cell? ⟨gb327, 0, none⟩ = some (.int .i64 a1_0) ∧ w'.cell? ⟨gb327, 1, none⟩ = some (.int .i64 a1_1) ∧ w'.cell? ⟨gb331, 0, none⟩ = some (.int .i64 t329) ∧ w'.cell? ⟨gb331, 1, none⟩ = some (.int .i64 t330)) (ds := []) bz1h_0 (by kernel_rfl) rfl rfl ⟨(blk_cell BK327.out 0).trans rfl, (blk_cell BK327.out 1).trans rfl, (blk_cell BK331.out 0).trans rfl, (blk_cell BK331.out 1).trans rfl⟩ (fun hHeld => ?_); refine with_tabW spoorlaw06_IvalCut.tab4 spoorlaw06_IvalCut.bits4 (fun HT_ HW_ => ?_)
            generalize wc.drew = w42 at BK326 BK327 BK331 HB hHeld ⊢
            refine pz_ (i := 0) (N := some 41) bz1h_1 (any_of HT_.out (by kernel_rfl)) ?_
            refine pz_ (i := 2) (N := some 43) bz1h_2 (any_of HT_.out (by kernel_rfl)) ?_
            refine take_ (i := 1) (N := some 42) (v := ?_) (a' := ?_) bz1h_3 rfl rfl (take_ofW HT_.out HW_.out (by kernel_rfl)) (fun _ _ _ h => h) (Or.inl ⟨by rfl, ?_⟩) hHeld ?_ ?_
            rotate_left
            · rintro w' ⟨s0, s1, s2, s3⟩
              go_simp
              with_reducible rfl
            rotate_left
            · simp only [Act.put, List.setIfInBounds_toArray, List.set_cons_zero, List.set_cons_succ, i64_w, i32_w]
              rfl
            refine take_ (i := 3) (N := some 44) (v := ?_) (a' := ?_) bz1h_4 rfl rfl (take_ofW HT_.out HW_.out (by kernel_rfl)) (fun _ _ _ h => h) (Or.inl ⟨by rfl, ?_⟩) hHeld ?_ ?_
            rotate_left
            · rintro w' ⟨s0, s1, s2, s3⟩
              go_simp
              with_reducible rfl
            rotate_left
            · simp only [Act.put, List.setIfInBounds_toArray, List.set_cons_zero, List.set_cons_succ, i64_w, i32_w]
              rfl
            refine pz_ (i := 4) (N := some 45) bz1h_5 (any_of HT_.out (by kernel_rfl)) ?_
            refine pz_ (i := 5) (N := some 46) bz1h_6 (any_of HT_.out (by kernel_rfl)) ?_
            refine pz_ (i := 7) (N := some 48) bz1h_7 (any_of HT_.out (by kernel_rfl)) ?_
            refine pz_ (i := 9) (N := some 50) bz1h_8 (any_of HT_.out (by kernel_rfl)) ?_
            refine take_ (i := 6) (N := some 47) (v := ?_) (a' := ?_) bz1h_9 rfl rfl (take_ofW HT_.out HW_.out (by kernel_rfl)) (fun _ _ _ h => h) (Or.inl ⟨by rfl, ?_⟩) hHeld ?_ ?_
            rotate_left
            · rintro w' ⟨s0, s1, s2, s3⟩
              go_simp
              with_reducible rfl
            rotate_left
            · simp only [Act.put, List.setIfInBounds_toArray, List.set_cons_zero, List.set_cons_succ, i64_w, i32_w]
              rfl
            refine take_ (i := 8) (N := some 49) (v := ?_) (a' := ?_) bz1h_10 rfl rfl (take_ofW HT_.out HW_.out (by kernel_rfl)) (fun _ _ _ h => h) (Or.inl ⟨by rfl, ?_⟩) hHeld ?_ ?_
            rotate_left
            · rintro w' ⟨s0, s1, s2, s3⟩
              go_simp
              with_reducible rfl
            rotate_left
            · simp only [Act.put, List.setIfInBounds_toArray, List.set_cons_zero, List.set_cons_succ, i64_w, i32_w]
              rfl
            refine take_ (i := 10) (N := some 51) (v := ?_) (a' := ?_) bz1h_11 rfl rfl (take_ofW HT_.out HW_.out (by kernel_rfl)) (fun _ _ _ h => h) (Or.inl ⟨by rfl, ?_⟩) hHeld ?_ ?_
            rotate_left
            · rintro w' ⟨s0, s1, s2, s3⟩
              go_simp
              with_reducible rfl
            rotate_left
            · simp only [Act.put, List.setIfInBounds_toArray, List.set_cons_zero, List.set_cons_succ, i64_w, i32_w]
              rfl
            refine one_ (i := 11) (N := some 52) bz1h_12 rfl rfl (one_of HT_.out (by kernel_rfl)) (by decide) (fun K hK => ?_)
            refine goes_ Try.func18 (by kernel_rfl) rfl #[.int .i64 a1_0, .int .i64 a1_0] (by rfl) rfl rfl xa ?_
            with_reducible refine (spoorlaw06_of.calls a1_0 a1_0 t332 t333 _ A40.out).mono ?_
            rintro e w43 ⟨rfl, hb⟩
            refine ⟨_, rfl, ?_⟩
            have n0_ := Aside0.mk (blk_below (g := gb326) (o := .cells #[.int .i64 a0_0, .int .i64 a0_1] 23 (0, 0)) (xb BK326) hb)
            have n1_ := Aside0.mk (blk_below (g := gb327) (o := .cells #[.int .i64 a1_0, .int .i64 a1_1] 23 (0, 0)) (xb BK327) hb)
            have n2_ := Aside0.mk (blk_below (g := gb331) (o := .cells #[.int .i64 t329, .int .i64 t330] 23 (0, 0)) (xb BK331) hb)
            have n3_ := Aside0.mk (below_step xq1 hb)
            clear BK326
            clear BK327
            clear BK331
            clear HB
            have BK326 := n0_
            have BK327 := n1_
            have BK331 := n2_
            have HB := n3_
            clear n0_ n1_ n2_ n3_
            (try clear hb)
            (try clear hb2)
            (try clear hk)
            (try clear hi)
            refine hK.out _ _ ⟨(blk_cell BK327.out 0).trans rfl, (blk_cell BK327.out 1).trans rfl, (blk_cell BK331.out 0).trans rfl, (blk_cell BK331.out 1).trans rfl⟩ (fun hHeld => ?_)
            clear hK K
            refine norm_ (a' := ?_) ?_ ?_
            rotate_left
            · show Act.put _ (some 52) _ = _
              simp only [Act.put, List.setIfInBounds_toArray, List.set_cons_zero, List.set_cons_succ, i64_w, i32_w]
              rfl
            refine pz_ (i := 12) (N := some 53) bz1h_13 (any_of HT_.out (by kernel_rfl)) ?_
            refine pz_ (i := 13) (N := some 54) bz1h_14 (any_of HT_.out (by kernel_rfl)) ?_
            refine pz_ (i := 14) (N := some 55) bz1h_15 (any_of HT_.out (by kernel_rfl)) ?_
            refine pu_ (i := 15) (N := some 56) bz1h_16 (any_of HT_.out (by kernel_rfl)) ?_
            refine pu_ (i := 16) (N := some 57) bz1h_17 (any_of HT_.out (by kernel_rfl)) ?_
            refine pu_ (i := 17) (N := some 58) bz1h_18 (any_of HT_.out (by kernel_rfl)) ?_
            refine pu_ (i := 18) (N := some 59) bz1h_19 (any_of HT_.out (by kernel_rfl)) ?_
            refine pu_ (i := 19) (N := some 60) bz1h_20 (any_of HT_.out (by kernel_rfl)) ?_
            refine pu_ (i := 20) (N := some 61) bz1h_21 (any_of HT_.out (by kernel_rfl)) ?_
            refine pu_ (i := 21) (N := some 62) bz1h_22 (any_of HT_.out (by kernel_rfl)) ?_
            refine pu_ (i := 22) (N := some 63) bz1h_23 (any_of HT_.out (by kernel_rfl)) ?_
            refine pu_ (i := 23) (N := some 64) bz1h_24 (any_of HT_.out (by kernel_rfl)) ?_
            refine pu_ (i := 24) (N := some 65) bz1h_25 (any_of HT_.out (by kernel_rfl)) ?_
            refine pu_ (i := 25) (N := some 66) bz1h_26 (any_of HT_.out (by kernel_rfl)) ?_
            refine pu_ (i := 26) (N := some 67) bz1h_27 (any_of HT_.out (by kernel_rfl)) ?_
            refine pz_ (i := 27) (N := some 68) bz1h_28 (any_of HT_.out (by kernel_rfl)) ?_
            refine pz_ (i := 28) (N := some 8) bz1h_29 (any_of HT_.out (by kernel_rfl)) ?_
            refine done_ (done_of HT_.out (by kernel_rfl)) ?_
            try go_wp2
            go_meet
            case rel => exact ⟨_, (true), (by first | rfl | (simp; done) | (simp [*]; done)), H', ⟨by have := HJ4.out; first | omega | exact Nat.le_refl _⟩, ⟨by (with_reducible repeat (first | refine blk_drewN ?_ _ | refine blk_drew ?_ | refine blk_alloc ?_ _)); exact BK326.out⟩, ⟨by (with_reducible repeat (first | refine blk_drewN ?_ _ | refine blk_drew ?_ | refine blk_alloc ?_ _)); exact BK327.out⟩, ⟨by (with_reducible repeat (first | refine blk_drewN ?_ _ | refine blk_drew ?_ | refine blk_alloc ?_ _)); exact BK331.out⟩, ⟨by repeat (first | (with_reducible first | exact HB.out | apply below_alloc | apply pw_below_drewN | apply below_drew1 | refine below_set ?_ GE326.out | refine below_set ?_ GE327.out | refine below_set ?_ GE331.out) | exact HB.out)⟩⟩
          · rw [if_neg c41] at H
            have c41b0 : (t329 == t332 && (t330 == t333)) = false := by simpa using c41
            (try (have c41b1 : decide (t329 = t332 && (t330 == t333)) = false := by simpa using c41))
            (try (have c41b2 : (t329 == t332 && (t330 == t333)) = false := by simpa using c41))
            (try (have c41b3 : ¬ (t329 = t332 && (t330 == t333)) := by simpa using c41))
            clear c41
            by_cases c44 : a1_0 ≤ t329
            · rw [if_pos c44] at H
              have c44b0 : decide (a1_0 ≤ t329) = true := decide_eq_true c44
              clear c44
              have H' := Aside0.mk H
              clear H
              try go_wp2
              have n0_ := Aside0.mk (blk_drew BK326.out)
              have n1_ := Aside0.mk (blk_drew BK327.out)
              have n2_ := Aside0.mk (blk_drew BK331.out)
              have n3_ := Aside0.mk (below_drew1 HB.out)
              clear BK326
              clear BK327
              clear BK331
              clear HB
              have BK326 := n0_
              have BK327 := n1_
              have BK331 := n2_
              have HB := n3_
              clear n0_ n1_ n2_ n3_
              refine start_ (n := 29) (S := fun w' => w'.cell? ⟨gb327, 0, none⟩ = some (.int .i64 a1_0) ∧ w'.cell? ⟨gb327, 1, none⟩ = some (.int .i64 a1_1) ∧ w'.cell? ⟨gb331, 0, none⟩ = some (.int .i64 t329) ∧ w'.cell? ⟨gb331, 1, none⟩ = some (.int .i64 t330)) (ds := []) bz1h_0 (by kernel_rfl) rfl rfl ⟨(blk_cell BK327.out 0).trans rfl, (blk_cell BK327.out 1).trans rfl, (blk_cell BK331.out 0).trans rfl, (blk_cell BK331.out 1).trans rfl⟩ (fun hHeld => ?_); refine with_tabW spoorlaw06_IvalCut.tab4 spoorlaw06_IvalCut.bits4 (fun HT_ HW_ => ?_)
              generalize wc.drew = w45 at BK326 BK327 BK331 HB hHeld ⊢
              refine pz_ (i := 0) (N := some 41) bz1h_1 (any_of HT_.out (by kernel_rfl)) ?_
              refine pz_ (i := 2) (N := some 43) bz1h_2 (any_of HT_.out (by kernel_rfl)) ?_
              refine take_ (i := 1) (N := some 42) (v := ?_) (a' := ?_) bz1h_3 rfl rfl (take_ofW HT_.out HW_.out (by kernel_rfl)) (fun _ _ _ h => h) (Or.inl ⟨by rfl, ?_⟩) hHeld ?_ ?_
              rotate_left
              · rintro w' ⟨s0, s1, s2, s3⟩
                go_simp
                with_reducible rfl
              rotate_left
              · simp only [Act.put, List.setIfInBounds_toArray, List.set_cons_zero, List.set_cons_succ, i64_w, i32_w]
                rfl
              refine take_ (i := 3) (N := some 44) (v := ?_) (a' := ?_) bz1h_4 rfl rfl (take_ofW HT_.out HW_.out (by kernel_rfl)) (fun _ _ _ h => h) (Or.inl ⟨by rfl, ?_⟩) hHeld ?_ ?_
              rotate_left
              · rintro w' ⟨s0, s1, s2, s3⟩
                go_simp
                with_reducible rfl
              rotate_left
              · simp only [Act.put, List.setIfInBounds_toArray, List.set_cons_zero, List.set_cons_succ, i64_w, i32_w]
                rfl
              refine pz_ (i := 4) (N := some 45) bz1h_5 (any_of HT_.out (by kernel_rfl)) ?_
              refine pz_ (i := 5) (N := some 46) bz1h_6 (any_of HT_.out (by kernel_rfl)) ?_
              refine pz_ (i := 7) (N := some 48) bz1h_7 (any_of HT_.out (by kernel_rfl)) ?_
              refine pz_ (i := 9) (N := some 50) bz1h_8 (any_of HT_.out (by kernel_rfl)) ?_
              refine take_ (i := 6) (N := some 47) (v := ?_) (a' := ?_) bz1h_9 rfl rfl (take_ofW HT_.out HW_.out (by kernel_rfl)) (fun _ _ _ h => h) (Or.inl ⟨by rfl, ?_⟩) hHeld ?_ ?_
              rotate_left
              · rintro w' ⟨s0, s1, s2, s3⟩
                go_simp
                with_reducible rfl
              rotate_left
              · simp only [Act.put, List.setIfInBounds_toArray, List.set_cons_zero, List.set_cons_succ, i64_w, i32_w]
                rfl
              refine take_ (i := 8) (N := some 49) (v := ?_) (a' := ?_) bz1h_10 rfl rfl (take_ofW HT_.out HW_.out (by kernel_rfl)) (fun _ _ _ h => h) (Or.inl ⟨by rfl, ?_⟩) hHeld ?_ ?_
              rotate_left
              · rintro w' ⟨s0, s1, s2, s3⟩
                go_simp
                with_reducible rfl
              rotate_left
              · simp only [Act.put, List.setIfInBounds_toArray, List.set_cons_zero, List.set_cons_succ, i64_w, i32_w]
                rfl
              refine take_ (i := 10) (N := some 51) (v := ?_) (a' := ?_) bz1h_11 rfl rfl (take_ofW HT_.out HW_.out (by kernel_rfl)) (fun _ _ _ h => h) (Or.inl ⟨by rfl, ?_⟩) hHeld ?_ ?_
              rotate_left
              · rintro w' ⟨s0, s1, s2, s3⟩
                go_simp
                with_reducible rfl
              rotate_left
              · simp only [Act.put, List.setIfInBounds_toArray, List.set_cons_zero, List.set_cons_succ, i64_w, i32_w]
                rfl
              refine one_ (i := 11) (N := some 52) bz1h_12 rfl rfl (one_of HT_.out (by kernel_rfl)) (by decide) (fun K hK => ?_)
              refine goes_ Try.func18 (by kernel_rfl) rfl #[.int .i64 a1_0, .int .i64 a1_0] (by rfl) rfl rfl xa ?_
              with_reducible refine (spoorlaw06_of.calls a1_0 a1_0 t332 t333 _ A40.out).mono ?_
              rintro e w46 ⟨rfl, hb⟩
              refine ⟨_, rfl, ?_⟩
              have n0_ := Aside0.mk (blk_below (g := gb326) (o := .cells #[.int .i64 a0_0, .int .i64 a0_1] 23 (0, 0)) (xb BK326) hb)
              have n1_ := Aside0.mk (blk_below (g := gb327) (o := .cells #[.int .i64 a1_0, .int .i64 a1_1] 23 (0, 0)) (xb BK327) hb)
              have n2_ := Aside0.mk (blk_below (g := gb331) (o := .cells #[.int .i64 t329, .int .i64 t330] 23 (0, 0)) (xb BK331) hb)
              have n3_ := Aside0.mk (below_step xq1 hb)
              clear BK326
              clear BK327
              clear BK331
              clear HB
              have BK326 := n0_
              have BK327 := n1_
              have BK331 := n2_
              have HB := n3_
              clear n0_ n1_ n2_ n3_
              (try clear hb)
              (try clear hb2)
              (try clear hk)
              (try clear hi)
              refine hK.out _ _ ⟨(blk_cell BK327.out 0).trans rfl, (blk_cell BK327.out 1).trans rfl, (blk_cell BK331.out 0).trans rfl, (blk_cell BK331.out 1).trans rfl⟩ (fun hHeld => ?_)
              clear hK K
              refine norm_ (a' := ?_) ?_ ?_
              rotate_left
              · show Act.put _ (some 52) _ = _
                simp only [Act.put, List.setIfInBounds_toArray, List.set_cons_zero, List.set_cons_succ, i64_w, i32_w]
                rfl
              refine pz_ (i := 12) (N := some 53) bz1h_13 (any_of HT_.out (by kernel_rfl)) ?_
              refine pz_ (i := 13) (N := some 54) bz1h_14 (any_of HT_.out (by kernel_rfl)) ?_
              refine pz_ (i := 14) (N := some 55) bz1h_15 (any_of HT_.out (by kernel_rfl)) ?_
              refine pz_ (i := 15) (N := some 56) bz1h_16 (any_of HT_.out (by kernel_rfl)) ?_
              refine pz_ (i := 17) (N := some 58) bz1h_30 (any_of HT_.out (by kernel_rfl)) ?_
              refine take_ (i := 16) (N := some 57) (v := ?_) (a' := ?_) bz1h_18 rfl rfl (take_ofW HT_.out HW_.out (by kernel_rfl)) (fun _ _ _ h => h) (Or.inl ⟨by rfl, ?_⟩) hHeld ?_ ?_
              rotate_left
              · rintro w' ⟨s0, s1, s2, s3⟩
                go_simp
                with_reducible rfl
              rotate_left
              · simp only [Act.put, List.setIfInBounds_toArray, List.set_cons_zero, List.set_cons_succ, i64_w, i32_w]
                rfl
              refine take_ (i := 18) (N := some 59) (v := ?_) (a' := ?_) bz1h_19 rfl rfl (take_ofW HT_.out HW_.out (by kernel_rfl)) (fun _ _ _ h => h) (Or.inl ⟨by rfl, ?_⟩) hHeld ?_ ?_
              rotate_left
              · rintro w' ⟨s0, s1, s2, s3⟩
                go_simp
                with_reducible rfl
              rotate_left
              · simp only [Act.put, List.setIfInBounds_toArray, List.set_cons_zero, List.set_cons_succ, i64_w, i32_w]
                rfl
              refine pz_ (i := 19) (N := some 60) bz1h_20 (any_of HT_.out (by kernel_rfl)) ?_
              refine pz_ (i := 20) (N := some 61) bz1h_21 (any_of HT_.out (by kernel_rfl)) ?_
              refine pz_ (i := 21) (N := some 62) bz1h_22 (any_of HT_.out (by kernel_rfl)) ?_
              refine pz_ (i := 23) (N := some 64) bz1h_31 (any_of HT_.out (by kernel_rfl)) ?_
              refine take_ (i := 22) (N := some 63) (v := ?_) (a' := ?_) bz1h_24 rfl rfl (take_ofW HT_.out HW_.out (by kernel_rfl)) (fun _ _ _ h => h) (Or.inl ⟨by rfl, ?_⟩) hHeld ?_ ?_
              rotate_left
              · rintro w' ⟨s0, s1, s2, s3⟩
                go_simp
                with_reducible rfl
              rotate_left
              · simp only [Act.put, List.setIfInBounds_toArray, List.set_cons_zero, List.set_cons_succ, i64_w, i32_w]
                rfl
              refine take_ (i := 24) (N := some 65) (v := ?_) (a' := ?_) bz1h_25 rfl rfl (take_ofW HT_.out HW_.out (by kernel_rfl)) (fun _ _ _ h => h) (Or.inl ⟨by rfl, ?_⟩) hHeld ?_ ?_
              rotate_left
              · rintro w' ⟨s0, s1, s2, s3⟩
                go_simp
                with_reducible rfl
              rotate_left
              · simp only [Act.put, List.setIfInBounds_toArray, List.set_cons_zero, List.set_cons_succ, i64_w, i32_w]
                rfl
              refine pz_ (i := 25) (N := some 66) bz1h_26 (any_of HT_.out (by kernel_rfl)) ?_
              refine pz_ (i := 26) (N := some 67) bz1h_27 (any_of HT_.out (by kernel_rfl)) ?_
              refine pz_ (i := 27) (N := some 68) bz1h_28 (any_of HT_.out (by kernel_rfl)) ?_
              refine pz_ (i := 28) (N := some 8) bz1h_29 (any_of HT_.out (by kernel_rfl)) ?_
              refine done_ (done_of HT_.out (by kernel_rfl)) ?_
              try go_wp2
              go_meet
              case rel => exact ⟨_, (decide (t330 ≤ a1_1)), (by first | rfl | (simp; done) | (simp [*]; done)), H', ⟨by have := HJ4.out; first | omega | exact Nat.le_refl _⟩, ⟨by (with_reducible repeat (first | refine blk_drewN ?_ _ | refine blk_drew ?_ | refine blk_alloc ?_ _)); exact BK326.out⟩, ⟨by (with_reducible repeat (first | refine blk_drewN ?_ _ | refine blk_drew ?_ | refine blk_alloc ?_ _)); exact BK327.out⟩, ⟨by (with_reducible repeat (first | refine blk_drewN ?_ _ | refine blk_drew ?_ | refine blk_alloc ?_ _)); exact BK331.out⟩, ⟨by repeat (first | (with_reducible first | exact HB.out | apply below_alloc | apply pw_below_drewN | apply below_drew1 | refine below_set ?_ GE326.out | refine below_set ?_ GE327.out | refine below_set ?_ GE331.out) | exact HB.out)⟩⟩
            · rw [if_neg c44] at H
              have c44b0 : decide (a1_0 ≤ t329) = false := decide_eq_false c44
              clear c44
              have H' := Aside0.mk H
              clear H
              try go_wp2
              have n0_ := Aside0.mk (blk_drew BK326.out)
              have n1_ := Aside0.mk (blk_drew BK327.out)
              have n2_ := Aside0.mk (blk_drew BK331.out)
              have n3_ := Aside0.mk (below_drew1 HB.out)
              clear BK326
              clear BK327
              clear BK331
              clear HB
              have BK326 := n0_
              have BK327 := n1_
              have BK331 := n2_
              have HB := n3_
              clear n0_ n1_ n2_ n3_
              refine start_ (n := 29) (S := fun w' => w'.cell? ⟨gb327, 0, none⟩ = some (.int .i64 a1_0) ∧ w'.cell? ⟨gb327, 1, none⟩ = some (.int .i64 a1_1) ∧ w'.cell? ⟨gb331, 0, none⟩ = some (.int .i64 t329) ∧ w'.cell? ⟨gb331, 1, none⟩ = some (.int .i64 t330)) (ds := []) bz1h_0 (by kernel_rfl) rfl rfl ⟨(blk_cell BK327.out 0).trans rfl, (blk_cell BK327.out 1).trans rfl, (blk_cell BK331.out 0).trans rfl, (blk_cell BK331.out 1).trans rfl⟩ (fun hHeld => ?_); refine with_tabW spoorlaw06_IvalCut.tab4 spoorlaw06_IvalCut.bits4 (fun HT_ HW_ => ?_)
              generalize wc.drew = w47 at BK326 BK327 BK331 HB hHeld ⊢
              refine pz_ (i := 0) (N := some 41) bz1h_1 (any_of HT_.out (by kernel_rfl)) ?_
              refine pz_ (i := 2) (N := some 43) bz1h_2 (any_of HT_.out (by kernel_rfl)) ?_
              refine take_ (i := 1) (N := some 42) (v := ?_) (a' := ?_) bz1h_3 rfl rfl (take_ofW HT_.out HW_.out (by kernel_rfl)) (fun _ _ _ h => h) (Or.inl ⟨by rfl, ?_⟩) hHeld ?_ ?_
              rotate_left
              · rintro w' ⟨s0, s1, s2, s3⟩
                go_simp
                with_reducible rfl
              rotate_left
              · simp only [Act.put, List.setIfInBounds_toArray, List.set_cons_zero, List.set_cons_succ, i64_w, i32_w]
                rfl
              refine take_ (i := 3) (N := some 44) (v := ?_) (a' := ?_) bz1h_4 rfl rfl (take_ofW HT_.out HW_.out (by kernel_rfl)) (fun _ _ _ h => h) (Or.inl ⟨by rfl, ?_⟩) hHeld ?_ ?_
              rotate_left
              · rintro w' ⟨s0, s1, s2, s3⟩
                go_simp
                with_reducible rfl
              rotate_left
              · simp only [Act.put, List.setIfInBounds_toArray, List.set_cons_zero, List.set_cons_succ, i64_w, i32_w]
                rfl
              refine pz_ (i := 4) (N := some 45) bz1h_5 (any_of HT_.out (by kernel_rfl)) ?_
              refine pz_ (i := 5) (N := some 46) bz1h_6 (any_of HT_.out (by kernel_rfl)) ?_
              refine pz_ (i := 7) (N := some 48) bz1h_7 (any_of HT_.out (by kernel_rfl)) ?_
              refine pz_ (i := 9) (N := some 50) bz1h_8 (any_of HT_.out (by kernel_rfl)) ?_
              refine take_ (i := 6) (N := some 47) (v := ?_) (a' := ?_) bz1h_9 rfl rfl (take_ofW HT_.out HW_.out (by kernel_rfl)) (fun _ _ _ h => h) (Or.inl ⟨by rfl, ?_⟩) hHeld ?_ ?_
              rotate_left
              · rintro w' ⟨s0, s1, s2, s3⟩
                go_simp
                with_reducible rfl
              rotate_left
              · simp only [Act.put, List.setIfInBounds_toArray, List.set_cons_zero, List.set_cons_succ, i64_w, i32_w]
                rfl
              refine take_ (i := 8) (N := some 49) (v := ?_) (a' := ?_) bz1h_10 rfl rfl (take_ofW HT_.out HW_.out (by kernel_rfl)) (fun _ _ _ h => h) (Or.inl ⟨by rfl, ?_⟩) hHeld ?_ ?_
              rotate_left
              · rintro w' ⟨s0, s1, s2, s3⟩
                go_simp
                with_reducible rfl
              rotate_left
              · simp only [Act.put, List.setIfInBounds_toArray, List.set_cons_zero, List.set_cons_succ, i64_w, i32_w]
                rfl
              refine take_ (i := 10) (N := some 51) (v := ?_) (a' := ?_) bz1h_11 rfl rfl (take_ofW HT_.out HW_.out (by kernel_rfl)) (fun _ _ _ h => h) (Or.inl ⟨by rfl, ?_⟩) hHeld ?_ ?_
              rotate_left
              · rintro w' ⟨s0, s1, s2, s3⟩
                go_simp
                with_reducible rfl
              rotate_left
              · simp only [Act.put, List.setIfInBounds_toArray, List.set_cons_zero, List.set_cons_succ, i64_w, i32_w]
                rfl
              refine one_ (i := 11) (N := some 52) bz1h_12 rfl rfl (one_of HT_.out (by kernel_rfl)) (by decide) (fun K hK => ?_)
              refine goes_ Try.func18 (by kernel_rfl) rfl #[.int .i64 a1_0, .int .i64 a1_0] (by rfl) rfl rfl xa ?_
              with_reducible refine (spoorlaw06_of.calls a1_0 a1_0 t332 t333 _ A40.out).mono ?_
              rintro e w48 ⟨rfl, hb⟩
              refine ⟨_, rfl, ?_⟩
              have n0_ := Aside0.mk (blk_below (g := gb326) (o := .cells #[.int .i64 a0_0, .int .i64 a0_1] 23 (0, 0)) (xb BK326) hb)
              have n1_ := Aside0.mk (blk_below (g := gb327) (o := .cells #[.int .i64 a1_0, .int .i64 a1_1] 23 (0, 0)) (xb BK327) hb)
              have n2_ := Aside0.mk (blk_below (g := gb331) (o := .cells #[.int .i64 t329, .int .i64 t330] 23 (0, 0)) (xb BK331) hb)
              have n3_ := Aside0.mk (below_step xq1 hb)
              clear BK326
              clear BK327
              clear BK331
              clear HB
              have BK326 := n0_
              have BK327 := n1_
              have BK331 := n2_
              have HB := n3_
              clear n0_ n1_ n2_ n3_
              (try clear hb)
              (try clear hb2)
              (try clear hk)
              (try clear hi)
              refine hK.out _ _ ⟨(blk_cell BK327.out 0).trans rfl, (blk_cell BK327.out 1).trans rfl, (blk_cell BK331.out 0).trans rfl, (blk_cell BK331.out 1).trans rfl⟩ (fun hHeld => ?_)
              clear hK K
              refine norm_ (a' := ?_) ?_ ?_
              rotate_left
              · show Act.put _ (some 52) _ = _
                simp only [Act.put, List.setIfInBounds_toArray, List.set_cons_zero, List.set_cons_succ, i64_w, i32_w]
                rfl
              refine pz_ (i := 12) (N := some 53) bz1h_13 (any_of HT_.out (by kernel_rfl)) ?_
              refine pz_ (i := 13) (N := some 54) bz1h_14 (any_of HT_.out (by kernel_rfl)) ?_
              refine pz_ (i := 14) (N := some 55) bz1h_15 (any_of HT_.out (by kernel_rfl)) ?_
              refine pz_ (i := 15) (N := some 56) bz1h_16 (any_of HT_.out (by kernel_rfl)) ?_
              refine pz_ (i := 17) (N := some 58) bz1h_30 (any_of HT_.out (by kernel_rfl)) ?_
              refine take_ (i := 16) (N := some 57) (v := ?_) (a' := ?_) bz1h_18 rfl rfl (take_ofW HT_.out HW_.out (by kernel_rfl)) (fun _ _ _ h => h) (Or.inl ⟨by rfl, ?_⟩) hHeld ?_ ?_
              rotate_left
              · rintro w' ⟨s0, s1, s2, s3⟩
                go_simp
                with_reducible rfl
              rotate_left
              · simp only [Act.put, List.setIfInBounds_toArray, List.set_cons_zero, List.set_cons_succ, i64_w, i32_w]
                rfl
              refine take_ (i := 18) (N := some 59) (v := ?_) (a' := ?_) bz1h_19 rfl rfl (take_ofW HT_.out HW_.out (by kernel_rfl)) (fun _ _ _ h => h) (Or.inl ⟨by rfl, ?_⟩) hHeld ?_ ?_
              rotate_left
              · rintro w' ⟨s0, s1, s2, s3⟩
                go_simp
                with_reducible rfl
              rotate_left
              · simp only [Act.put, List.setIfInBounds_toArray, List.set_cons_zero, List.set_cons_succ, i64_w, i32_w]
                rfl
              refine pz_ (i := 19) (N := some 60) bz1h_20 (any_of HT_.out (by kernel_rfl)) ?_
              refine pz_ (i := 20) (N := some 61) bz1h_21 (any_of HT_.out (by kernel_rfl)) ?_
              refine pu_ (i := 21) (N := some 62) bz1h_22 (any_of HT_.out (by kernel_rfl)) ?_
              refine pu_ (i := 22) (N := some 63) bz1h_23 (any_of HT_.out (by kernel_rfl)) ?_
              refine pu_ (i := 23) (N := some 64) bz1h_24 (any_of HT_.out (by kernel_rfl)) ?_
              refine pu_ (i := 24) (N := some 65) bz1h_25 (any_of HT_.out (by kernel_rfl)) ?_
              refine pu_ (i := 25) (N := some 66) bz1h_26 (any_of HT_.out (by kernel_rfl)) ?_
              refine pz_ (i := 26) (N := some 67) bz1h_27 (any_of HT_.out (by kernel_rfl)) ?_
              refine pz_ (i := 27) (N := some 68) bz1h_28 (any_of HT_.out (by kernel_rfl)) ?_
              refine pz_ (i := 28) (N := some 8) bz1h_29 (any_of HT_.out (by kernel_rfl)) ?_
              refine done_ (done_of HT_.out (by kernel_rfl)) ?_
              try go_wp2
              go_meet
              case rel => exact ⟨_, (false), (by first | rfl | (simp; done) | (simp [*]; done)), H', ⟨by have := HJ4.out; first | omega | exact Nat.le_refl _⟩, ⟨by (with_reducible repeat (first | refine blk_drewN ?_ _ | refine blk_drew ?_ | refine blk_alloc ?_ _)); exact BK326.out⟩, ⟨by (with_reducible repeat (first | refine blk_drewN ?_ _ | refine blk_drew ?_ | refine blk_alloc ?_ _)); exact BK327.out⟩, ⟨by (with_reducible repeat (first | refine blk_drewN ?_ _ | refine blk_drew ?_ | refine blk_alloc ?_ _)); exact BK331.out⟩, ⟨by repeat (first | (with_reducible first | exact HB.out | apply below_alloc | apply pw_below_drewN | apply below_drew1 | refine below_set ?_ GE326.out | refine below_set ?_ GE327.out | refine below_set ?_ GE331.out) | exact HB.out)⟩⟩
        · rw [if_neg c39] at H
          have c39b0 : decide (a1_1 ≤ a1_0) = false := decide_eq_false c39
          clear c39
          (first | rw [c39b0] | (simp only [i64_w, i32_w]; rw [c39b0]) | skip)
          by_cases c49 : a1_0 ≤ t329
          · rw [if_pos c49] at H
            have c49b0 : decide (a1_0 ≤ t329) = true := decide_eq_true c49
            clear c49
            have H' := Aside0.mk H
            clear H
            try go_wp2
            have n0_ := Aside0.mk (blk_drew BK326.out)
            have n1_ := Aside0.mk (blk_drew BK327.out)
            have n2_ := Aside0.mk (blk_drew BK331.out)
            have n3_ := Aside0.mk (below_drew1 HB.out)
            clear BK326
            clear BK327
            clear BK331
            clear HB
            have BK326 := n0_
            have BK327 := n1_
            have BK331 := n2_
            have HB := n3_
            clear n0_ n1_ n2_ n3_
            refine start_ (n := 29) (S := fun w' => w'.cell? ⟨gb327, 0, none⟩ = some (.int .i64 a1_0) ∧ w'.cell? ⟨gb327, 1, none⟩ = some (.int .i64 a1_1) ∧ w'.cell? ⟨gb331, 0, none⟩ = some (.int .i64 t329) ∧ w'.cell? ⟨gb331, 1, none⟩ = some (.int .i64 t330)) (ds := []) bz1h_0 (by kernel_rfl) rfl rfl ⟨(blk_cell BK327.out 0).trans rfl, (blk_cell BK327.out 1).trans rfl, (blk_cell BK331.out 0).trans rfl, (blk_cell BK331.out 1).trans rfl⟩ (fun hHeld => ?_); refine with_tabW spoorlaw06_IvalCut.tab4 spoorlaw06_IvalCut.bits4 (fun HT_ HW_ => ?_)
            generalize wc.drew = w50 at BK326 BK327 BK331 HB hHeld ⊢
            refine pz_ (i := 0) (N := some 41) bz1h_1 (any_of HT_.out (by kernel_rfl)) ?_
            refine pz_ (i := 2) (N := some 43) bz1h_2 (any_of HT_.out (by kernel_rfl)) ?_
            refine take_ (i := 1) (N := some 42) (v := ?_) (a' := ?_) bz1h_3 rfl rfl (take_ofW HT_.out HW_.out (by kernel_rfl)) (fun _ _ _ h => h) (Or.inl ⟨by rfl, ?_⟩) hHeld ?_ ?_
            rotate_left
            · rintro w' ⟨s0, s1, s2, s3⟩
              go_simp
              with_reducible rfl
            rotate_left
            · simp only [Act.put, List.setIfInBounds_toArray, List.set_cons_zero, List.set_cons_succ, i64_w, i32_w]
              rfl
            refine take_ (i := 3) (N := some 44) (v := ?_) (a' := ?_) bz1h_4 rfl rfl (take_ofW HT_.out HW_.out (by kernel_rfl)) (fun _ _ _ h => h) (Or.inl ⟨by rfl, ?_⟩) hHeld ?_ ?_
            rotate_left
            · rintro w' ⟨s0, s1, s2, s3⟩
              go_simp
              with_reducible rfl
            rotate_left
            · simp only [Act.put, List.setIfInBounds_toArray, List.set_cons_zero, List.set_cons_succ, i64_w, i32_w]
              rfl
            refine pz_ (i := 4) (N := some 45) bz1h_5 (any_of HT_.out (by kernel_rfl)) ?_
            refine pz_ (i := 5) (N := some 46) bz1h_6 (any_of HT_.out (by kernel_rfl)) ?_
            refine pu_ (i := 6) (N := some 47) bz1h_32 (any_of HT_.out (by kernel_rfl)) ?_
            refine pu_ (i := 7) (N := some 48) bz1h_33 (any_of HT_.out (by kernel_rfl)) ?_
            refine pu_ (i := 8) (N := some 49) bz1h_34 (any_of HT_.out (by kernel_rfl)) ?_
            refine pu_ (i := 9) (N := some 50) bz1h_10 (any_of HT_.out (by kernel_rfl)) ?_
            refine pu_ (i := 10) (N := some 51) bz1h_11 (any_of HT_.out (by kernel_rfl)) ?_
            refine pu_ (i := 11) (N := some 52) bz1h_12 (any_of HT_.out (by kernel_rfl)) ?_
            refine pu_ (i := 12) (N := some 53) bz1h_13 (any_of HT_.out (by kernel_rfl)) ?_
            refine pz_ (i := 13) (N := some 54) bz1h_14 (any_of HT_.out (by kernel_rfl)) ?_
            refine pz_ (i := 14) (N := some 55) bz1h_15 (any_of HT_.out (by kernel_rfl)) ?_
            refine pz_ (i := 15) (N := some 56) bz1h_16 (any_of HT_.out (by kernel_rfl)) ?_
            refine pz_ (i := 17) (N := some 58) bz1h_30 (any_of HT_.out (by kernel_rfl)) ?_
            refine take_ (i := 16) (N := some 57) (v := ?_) (a' := ?_) bz1h_18 rfl rfl (take_ofW HT_.out HW_.out (by kernel_rfl)) (fun _ _ _ h => h) (Or.inl ⟨by rfl, ?_⟩) hHeld ?_ ?_
            rotate_left
            · rintro w' ⟨s0, s1, s2, s3⟩
              go_simp
              with_reducible rfl
            rotate_left
            · simp only [Act.put, List.setIfInBounds_toArray, List.set_cons_zero, List.set_cons_succ, i64_w, i32_w]
              rfl
            refine take_ (i := 18) (N := some 59) (v := ?_) (a' := ?_) bz1h_19 rfl rfl (take_ofW HT_.out HW_.out (by kernel_rfl)) (fun _ _ _ h => h) (Or.inl ⟨by rfl, ?_⟩) hHeld ?_ ?_
            rotate_left
            · rintro w' ⟨s0, s1, s2, s3⟩
              go_simp
              with_reducible rfl
            rotate_left
            · simp only [Act.put, List.setIfInBounds_toArray, List.set_cons_zero, List.set_cons_succ, i64_w, i32_w]
              rfl
            refine pz_ (i := 19) (N := some 60) bz1h_20 (any_of HT_.out (by kernel_rfl)) ?_
            refine pz_ (i := 20) (N := some 61) bz1h_21 (any_of HT_.out (by kernel_rfl)) ?_
            refine pz_ (i := 21) (N := some 62) bz1h_22 (any_of HT_.out (by kernel_rfl)) ?_
            refine pz_ (i := 23) (N := some 64) bz1h_31 (any_of HT_.out (by kernel_rfl)) ?_
            refine take_ (i := 22) (N := some 63) (v := ?_) (a' := ?_) bz1h_24 rfl rfl (take_ofW HT_.out HW_.out (by kernel_rfl)) (fun _ _ _ h => h) (Or.inl ⟨by rfl, ?_⟩) hHeld ?_ ?_
            rotate_left
            · rintro w' ⟨s0, s1, s2, s3⟩
              go_simp
              with_reducible rfl
            rotate_left
            · simp only [Act.put, List.setIfInBounds_toArray, List.set_cons_zero, List.set_cons_succ, i64_w, i32_w]
              rfl
            refine take_ (i := 24) (N := some 65) (v := ?_) (a' := ?_) bz1h_25 rfl rfl (take_ofW HT_.out HW_.out (by kernel_rfl)) (fun _ _ _ h => h) (Or.inl ⟨by rfl, ?_⟩) hHeld ?_ ?_
            rotate_left
            · rintro w' ⟨s0, s1, s2, s3⟩
              go_simp
              with_reducible rfl
            rotate_left
            · simp only [Act.put, List.setIfInBounds_toArray, List.set_cons_zero, List.set_cons_succ, i64_w, i32_w]
              rfl
            refine pz_ (i := 25) (N := some 66) bz1h_26 (any_of HT_.out (by kernel_rfl)) ?_
            refine pz_ (i := 26) (N := some 67) bz1h_27 (any_of HT_.out (by kernel_rfl)) ?_
            refine pz_ (i := 27) (N := some 68) bz1h_28 (any_of HT_.out (by kernel_rfl)) ?_
            refine pz_ (i := 28) (N := some 8) bz1h_29 (any_of HT_.out (by kernel_rfl)) ?_
            refine done_ (done_of HT_.out (by kernel_rfl)) ?_
            try go_wp2
            go_meet
            case rel => exact ⟨_, (decide (t330 ≤ a1_1)), (by first | rfl | (simp; done) | (simp [*]; done)), H', ⟨by have := HJ4.out; first | omega | exact Nat.le_refl _⟩, ⟨by (with_reducible repeat (first | refine blk_drewN ?_ _ | refine blk_drew ?_ | refine blk_alloc ?_ _)); exact BK326.out⟩, ⟨by (with_reducible repeat (first | refine blk_drewN ?_ _ | refine blk_drew ?_ | refine blk_alloc ?_ _)); exact BK327.out⟩, ⟨by (with_reducible repeat (first | refine blk_drewN ?_ _ | refine blk_drew ?_ | refine blk_alloc ?_ _)); exact BK331.out⟩, ⟨by repeat (first | (with_reducible first | exact HB.out | apply below_alloc | apply pw_below_drewN | apply below_drew1 | refine below_set ?_ GE326.out | refine below_set ?_ GE327.out | refine below_set ?_ GE331.out) | exact HB.out)⟩⟩
          · rw [if_neg c49] at H
            have c49b0 : decide (a1_0 ≤ t329) = false := decide_eq_false c49
            clear c49
            have H' := Aside0.mk H
            clear H
            try go_wp2
            have n0_ := Aside0.mk (blk_drew BK326.out)
            have n1_ := Aside0.mk (blk_drew BK327.out)
            have n2_ := Aside0.mk (blk_drew BK331.out)
            have n3_ := Aside0.mk (below_drew1 HB.out)
            clear BK326
            clear BK327
            clear BK331
            clear HB
            have BK326 := n0_
            have BK327 := n1_
            have BK331 := n2_
            have HB := n3_
            clear n0_ n1_ n2_ n3_
            refine start_ (n := 29) (S := fun w' => w'.cell? ⟨gb327, 0, none⟩ = some (.int .i64 a1_0) ∧ w'.cell? ⟨gb327, 1, none⟩ = some (.int .i64 a1_1) ∧ w'.cell? ⟨gb331, 0, none⟩ = some (.int .i64 t329) ∧ w'.cell? ⟨gb331, 1, none⟩ = some (.int .i64 t330)) (ds := []) bz1h_0 (by kernel_rfl) rfl rfl ⟨(blk_cell BK327.out 0).trans rfl, (blk_cell BK327.out 1).trans rfl, (blk_cell BK331.out 0).trans rfl, (blk_cell BK331.out 1).trans rfl⟩ (fun hHeld => ?_); refine with_tabW spoorlaw06_IvalCut.tab4 spoorlaw06_IvalCut.bits4 (fun HT_ HW_ => ?_)
            generalize wc.drew = w51 at BK326 BK327 BK331 HB hHeld ⊢
            refine pz_ (i := 0) (N := some 41) bz1h_1 (any_of HT_.out (by kernel_rfl)) ?_
            refine pz_ (i := 2) (N := some 43) bz1h_2 (any_of HT_.out (by kernel_rfl)) ?_
            refine take_ (i := 1) (N := some 42) (v := ?_) (a' := ?_) bz1h_3 rfl rfl (take_ofW HT_.out HW_.out (by kernel_rfl)) (fun _ _ _ h => h) (Or.inl ⟨by rfl, ?_⟩) hHeld ?_ ?_
            rotate_left
            · rintro w' ⟨s0, s1, s2, s3⟩
              go_simp
              with_reducible rfl
            rotate_left
            · simp only [Act.put, List.setIfInBounds_toArray, List.set_cons_zero, List.set_cons_succ, i64_w, i32_w]
              rfl
            refine take_ (i := 3) (N := some 44) (v := ?_) (a' := ?_) bz1h_4 rfl rfl (take_ofW HT_.out HW_.out (by kernel_rfl)) (fun _ _ _ h => h) (Or.inl ⟨by rfl, ?_⟩) hHeld ?_ ?_
            rotate_left
            · rintro w' ⟨s0, s1, s2, s3⟩
              go_simp
              with_reducible rfl
            rotate_left
            · simp only [Act.put, List.setIfInBounds_toArray, List.set_cons_zero, List.set_cons_succ, i64_w, i32_w]
              rfl
            refine pz_ (i := 4) (N := some 45) bz1h_5 (any_of HT_.out (by kernel_rfl)) ?_
            refine pz_ (i := 5) (N := some 46) bz1h_6 (any_of HT_.out (by kernel_rfl)) ?_
            refine pu_ (i := 6) (N := some 47) bz1h_32 (any_of HT_.out (by kernel_rfl)) ?_
            refine pu_ (i := 7) (N := some 48) bz1h_33 (any_of HT_.out (by kernel_rfl)) ?_
            refine pu_ (i := 8) (N := some 49) bz1h_34 (any_of HT_.out (by kernel_rfl)) ?_
            refine pu_ (i := 9) (N := some 50) bz1h_10 (any_of HT_.out (by kernel_rfl)) ?_
            refine pu_ (i := 10) (N := some 51) bz1h_11 (any_of HT_.out (by kernel_rfl)) ?_
            refine pu_ (i := 11) (N := some 52) bz1h_12 (any_of HT_.out (by kernel_rfl)) ?_
            refine pu_ (i := 12) (N := some 53) bz1h_13 (any_of HT_.out (by kernel_rfl)) ?_
            refine pz_ (i := 13) (N := some 54) bz1h_14 (any_of HT_.out (by kernel_rfl)) ?_
            refine pz_ (i := 14) (N := some 55) bz1h_15 (any_of HT_.out (by kernel_rfl)) ?_
            refine pz_ (i := 15) (N := some 56) bz1h_16 (any_of HT_.out (by kernel_rfl)) ?_
            refine pz_ (i := 17) (N := some 58) bz1h_30 (any_of HT_.out (by kernel_rfl)) ?_
            refine take_ (i := 16) (N := some 57) (v := ?_) (a' := ?_) bz1h_18 rfl rfl (take_ofW HT_.out HW_.out (by kernel_rfl)) (fun _ _ _ h => h) (Or.inl ⟨by rfl, ?_⟩) hHeld ?_ ?_
            rotate_left
            · rintro w' ⟨s0, s1, s2, s3⟩
              go_simp
              with_reducible rfl
            rotate_left
            · simp only [Act.put, List.setIfInBounds_toArray, List.set_cons_zero, List.set_cons_succ, i64_w, i32_w]
              rfl
            refine take_ (i := 18) (N := some 59) (v := ?_) (a' := ?_) bz1h_19 rfl rfl (take_ofW HT_.out HW_.out (by kernel_rfl)) (fun _ _ _ h => h) (Or.inl ⟨by rfl, ?_⟩) hHeld ?_ ?_
            rotate_left
            · rintro w' ⟨s0, s1, s2, s3⟩
              go_simp
              with_reducible rfl
            rotate_left
            · simp only [Act.put, List.setIfInBounds_toArray, List.set_cons_zero, List.set_cons_succ, i64_w, i32_w]
              rfl
            refine pz_ (i := 19) (N := some 60) bz1h_20 (any_of HT_.out (by kernel_rfl)) ?_
            refine pz_ (i := 20) (N := some 61) bz1h_21 (any_of HT_.out (by kernel_rfl)) ?_
            refine pu_ (i := 21) (N := some 62) bz1h_22 (any_of HT_.out (by kernel_rfl)) ?_
            refine pu_ (i := 22) (N := some 63) bz1h_23 (any_of HT_.out (by kernel_rfl)) ?_
            refine pu_ (i := 23) (N := some 64) bz1h_24 (any_of HT_.out (by kernel_rfl)) ?_
            refine pu_ (i := 24) (N := some 65) bz1h_25 (any_of HT_.out (by kernel_rfl)) ?_
            refine pu_ (i := 25) (N := some 66) bz1h_26 (any_of HT_.out (by kernel_rfl)) ?_
            refine pz_ (i := 26) (N := some 67) bz1h_27 (any_of HT_.out (by kernel_rfl)) ?_
            refine pz_ (i := 27) (N := some 68) bz1h_28 (any_of HT_.out (by kernel_rfl)) ?_
            refine pz_ (i := 28) (N := some 8) bz1h_29 (any_of HT_.out (by kernel_rfl)) ?_
            refine done_ (done_of HT_.out (by kernel_rfl)) ?_
            try go_wp2
            go_meet
            case rel => exact ⟨_, (false), (by first | rfl | (simp; done) | (simp [*]; done)), H', ⟨by have := HJ4.out; first | omega | exact Nat.le_refl _⟩, ⟨by (with_reducible repeat (first | refine blk_drewN ?_ _ | refine blk_drew ?_ | refine blk_alloc ?_ _)); exact BK326.out⟩, ⟨by (with_reducible repeat (first | refine blk_drewN ?_ _ | refine blk_drew ?_ | refine blk_alloc ?_ _)); exact BK327.out⟩, ⟨by (with_reducible repeat (first | refine blk_drewN ?_ _ | refine blk_drew ?_ | refine blk_alloc ?_ _)); exact BK331.out⟩, ⟨by repeat (first | (with_reducible first | exact HB.out | apply below_alloc | apply pw_below_drewN | apply below_drew1 | refine below_set ?_ GE326.out | refine below_set ?_ GE327.out | refine below_set ?_ GE331.out) | exact HB.out)⟩⟩
      case rest =>
        clear HC38
        try clear c1
        try clear p2
        try clear c3
        try clear c4
        try clear c18
        try clear c39
        try clear c39b0
        try clear c49
        try clear c49b0
        obtain ⟨kq, x8_37, rfl, HA, HJ37, BK326, BK327, BK331, HB⟩ := hcut
        cases kq with
        | zero => exact absurd HA.out (by simp [spoorlaw06_IvalCut.j1])
        | succ kj37 =>
          have H := HA.out
          clear HA
          simp only [spoorlaw06_IvalCut.j1] at H
          obtain ⟨y334, hy334⟩ : ∃ y_ : List (S23), y_ = (([(⟨a0_0, a0_1⟩ : S23)] : List (S23))) := ⟨_, rfl⟩
          replace H : ((ival_Meet.f y334 (([(⟨a1_0, a1_1⟩ : S23)] : List (S23)))).bind fun t340 => ((ival_Normal.f (([(⟨t329, t330⟩ : S23)] : List (S23)))).bind fun t346 => ((spoorref06_Same.f kj37 t346 t340).bind fun t349 => (if t328 = true then (if x7_4 = true then (if x8_37 = true then (if t349 = true then ((ival_Clip.f t329 t330 a1_0 a1_1).bind fun bt350 => (if (bt350.1 == t329 && (bt350.2 == t330)) = true then ((ival_Measure.f kj37 t340).bind fun t352 => ((ival_Length.f t329 t330).bind fun t353 => (some (t352 == t353)))) else (some false))) else (some false)) else (some false)) else (some false)) else (some false))))) = some r := by first | (rw [hy334]; with_reducible exact H) | (have H2_ := (Option.bind_some _ _).symm.trans H; rw [hy334]; with_reducible exact H2_) | (have H2_ := (Option.bind_some _ _).symm.trans H; with_reducible exact H2_) | with_reducible exact H | (rw [hy334]; exact H) | exact H
          have Ny334 := Aside0.mk hy334
          clear hy334
          obtain ⟨y337, hy337⟩ : ∃ y_ : List (S23), y_ = (([(⟨a1_0, a1_1⟩ : S23)] : List (S23))) := ⟨_, rfl⟩
          replace H : ((ival_Meet.f y334 y337).bind fun t340 => ((ival_Normal.f (([(⟨t329, t330⟩ : S23)] : List (S23)))).bind fun t346 => ((spoorref06_Same.f kj37 t346 t340).bind fun t349 => (if t328 = true then (if x7_4 = true then (if x8_37 = true then (if t349 = true then ((ival_Clip.f t329 t330 a1_0 a1_1).bind fun bt350 => (if (bt350.1 == t329 && (bt350.2 == t330)) = true then ((ival_Measure.f kj37 t340).bind fun t352 => ((ival_Length.f t329 t330).bind fun t353 => (some (t352 == t353)))) else (some false))) else (some false)) else (some false)) else (some false)) else (some false))))) = some r := by first | (rw [hy337]; with_reducible exact H) | (have H2_ := (Option.bind_some _ _).symm.trans H; rw [hy337]; with_reducible exact H2_) | (have H2_ := (Option.bind_some _ _).symm.trans H; with_reducible exact H2_) | with_reducible exact H | (rw [hy337]; exact H) | exact H
          have Ny337 := Aside0.mk hy337
          clear hy337
          replace H := Option.bind_eq_some_iff.mp H
          obtain ⟨t340, A520, H⟩ := H
          replace H : ((ival_Normal.f (([(⟨t329, t330⟩ : S23)] : List (S23)))).bind fun t346 => ((spoorref06_Same.f kj37 t346 t340).bind fun t349 => (if t328 = true then (if x7_4 = true then (if x8_37 = true then (if t349 = true then ((ival_Clip.f t329 t330 a1_0 a1_1).bind fun bt350 => (if (bt350.1 == t329 && (bt350.2 == t330)) = true then ((ival_Measure.f kj37 t340).bind fun t352 => ((ival_Length.f t329 t330).bind fun t353 => (some (t352 == t353)))) else (some false))) else (some false)) else (some false)) else (some false)) else (some false)))) = some r := H
          have A52 := Aside0.mk A520
          clear A520
          obtain ⟨y343, hy343⟩ : ∃ y_ : List (S23), y_ = (([(⟨t329, t330⟩ : S23)] : List (S23))) := ⟨_, rfl⟩
          replace H : ((ival_Normal.f y343).bind fun t346 => ((spoorref06_Same.f kj37 t346 t340).bind fun t349 => (if t328 = true then (if x7_4 = true then (if x8_37 = true then (if t349 = true then ((ival_Clip.f t329 t330 a1_0 a1_1).bind fun bt350 => (if (bt350.1 == t329 && (bt350.2 == t330)) = true then ((ival_Measure.f kj37 t340).bind fun t352 => ((ival_Length.f t329 t330).bind fun t353 => (some (t352 == t353)))) else (some false))) else (some false)) else (some false)) else (some false)) else (some false)))) = some r := by first | (rw [hy343]; with_reducible exact H) | (have H2_ := (Option.bind_some _ _).symm.trans H; rw [hy343]; with_reducible exact H2_) | (have H2_ := (Option.bind_some _ _).symm.trans H; with_reducible exact H2_) | with_reducible exact H | (rw [hy343]; exact H) | exact H
          have Ny343 := Aside0.mk hy343
          clear hy343
          replace H := Option.bind_eq_some_iff.mp H
          obtain ⟨t346, A530, H⟩ := H
          replace H : ((spoorref06_Same.f kj37 t346 t340).bind fun t349 => (if t328 = true then (if x7_4 = true then (if x8_37 = true then (if t349 = true then ((ival_Clip.f t329 t330 a1_0 a1_1).bind fun bt350 => (if (bt350.1 == t329 && (bt350.2 == t330)) = true then ((ival_Measure.f kj37 t340).bind fun t352 => ((ival_Length.f t329 t330).bind fun t353 => (some (t352 == t353)))) else (some false))) else (some false)) else (some false)) else (some false)) else (some false))) = some r := H
          have A53 := Aside0.mk A530
          clear A530
          replace H := Option.bind_eq_some_iff.mp H
          obtain ⟨t349, A540, H⟩ := H
          replace H : (if t328 = true then (if x7_4 = true then (if x8_37 = true then (if t349 = true then ((ival_Clip.f t329 t330 a1_0 a1_1).bind fun bt350 => (if (bt350.1 == t329 && (bt350.2 == t330)) = true then ((ival_Measure.f kj37 t340).bind fun t352 => ((ival_Length.f t329 t330).bind fun t353 => (some (t352 == t353)))) else (some false))) else (some false)) else (some false)) else (some false)) else (some false)) = some r := H
          have A54 := Aside0.mk A540
          clear A540
          by_cases c55 : t328 = true
          · subst c55
            have H1 : (if x7_4 = true then (if x8_37 = true then (if t349 = true then ((ival_Clip.f t329 t330 a1_0 a1_1).bind fun bt350 => (if (bt350.1 == t329 && (bt350.2 == t330)) = true then ((ival_Measure.f kj37 t340).bind fun t352 => ((ival_Length.f t329 t330).bind fun t353 => (some (t352 == t353)))) else (some false))) else (some false)) else (some false)) else (some false)) = some r := by rw [if_pos rfl] at H; exact H
            clear H
            have H := H1
            clear H1
            by_cases c56 : x7_4 = true
            · subst c56
              have H1 : (if x8_37 = true then (if t349 = true then ((ival_Clip.f t329 t330 a1_0 a1_1).bind fun bt350 => (if (bt350.1 == t329 && (bt350.2 == t330)) = true then ((ival_Measure.f kj37 t340).bind fun t352 => ((ival_Length.f t329 t330).bind fun t353 => (some (t352 == t353)))) else (some false))) else (some false)) else (some false)) = some r := by rw [if_pos rfl] at H; exact H
              clear H
              have H := H1
              clear H1
              by_cases c57 : x8_37 = true
              · subst c57
                have H1 : (if t349 = true then ((ival_Clip.f t329 t330 a1_0 a1_1).bind fun bt350 => (if (bt350.1 == t329 && (bt350.2 == t330)) = true then ((ival_Measure.f kj37 t340).bind fun t352 => ((ival_Length.f t329 t330).bind fun t353 => (some (t352 == t353)))) else (some false))) else (some false)) = some r := by rw [if_pos rfl] at H; exact H
                clear H
                have H := H1
                clear H1
                by_cases c58 : t349 = true
                · subst c58
                  have H1 : ((ival_Clip.f t329 t330 a1_0 a1_1).bind fun bt350 => (if (bt350.1 == t329 && (bt350.2 == t330)) = true then ((ival_Measure.f kj37 t340).bind fun t352 => ((ival_Length.f t329 t330).bind fun t353 => (some (t352 == t353)))) else (some false))) = some r := by rw [if_pos rfl] at H; exact H
                  clear H
                  have H := H1
                  clear H1
                  replace H := Option.bind_eq_some_iff.mp H
                  obtain ⟨⟨t350, t351⟩, A590, H⟩ := H
                  replace H : (if (t350 == t329 && (t351 == t330)) = true then ((ival_Measure.f kj37 t340).bind fun t352 => ((ival_Length.f t329 t330).bind fun t353 => (some (t352 == t353)))) else (some false)) = some r := H
                  have A59 := Aside0.mk A590
                  clear A590
                  by_cases c60 : (t350 == t329 && (t351 == t330)) = true
                  · rw [if_pos c60] at H
                    have c60b0 : (t350 == t329 && (t351 == t330)) = true := c60
                    (try (have c60b1 : decide (t350 = t329 && (t351 == t330)) = true := by simpa using c60))
                    (try (have c60b2 : (t350 == t329 && (t351 == t330)) = true := by simpa using c60))
                    clear c60
                    replace H := Option.bind_eq_some_iff.mp H
                    obtain ⟨t352, A610, H⟩ := H
                    replace H : ((ival_Length.f t329 t330).bind fun t353 => (some (t352 == t353))) = some r := H
                    have A61 := Aside0.mk A610
                    clear A610
                    replace H := Option.bind_eq_some_iff.mp H
                    obtain ⟨t353, A620, H⟩ := H
                    replace H : (some (t352 == t353)) = some r := H
                    have A62 := Aside0.mk A620
                    clear A620
                    obtain rfl := Option.some.inj H
                    have hnb63 := NB326_327.out
                    have hnc63 := NB327_326.out
                    have hnb64 := NB326_331.out
                    have hnc64 := NB331_326.out
                    have hcz65_0 : wc.cell? ⟨gb326, 0, none⟩ = some (.int .i64 a0_0) := (blk_cell BK326.out 0).trans rfl
                    have hcz65_1 : wc.cell? ⟨gb326, 1, none⟩ = some (.int .i64 a0_1) := (blk_cell BK326.out 1).trans rfl
                    have hfz65_0 := blk_frozen BK326.out 0
                    have hfz65_1 := blk_frozen BK326.out 1
                    try go_wp2_with (first | ((with_reducible refine gate_dst (N := 70) rfl ?_); refine Kd.R_lit k23 _ 23 ?hg (N := 70) ?hd (xs := ([(⟨a0_0, a0_1⟩ : S23)] : List (S23))) (inner := [.int .i64 a0_0, .int .i64 a0_1]) (ok := fun _ => True) (okp := fun _ => True) ?hr ?hp (fun _ hk => hk) trivial (Below.refl _ _) (Nat.le_refl _) (by simp) ?_; (case hd => rfl); (case hg => rfl); (case hr => first | (go_simp; done) | (go_simp; rfl)); (case hp => exact (Reps.c2 (show Kd.M k23 _ _ _ (⟨a0_0, a0_1⟩ : S23) [.int .i64 a0_0, .int .i64 a0_1] from (k23_mkM _ _ _ (⟨a0_0, a0_1⟩ : S23) )) (Reps.none _ _))); intro v335 w66 ho67 hb hg_ hnew_; clear hg_ hnew_; (first | rw [← Ny334.out] at ho67 | (simp only [Int.reduceToNat] at ho67; rw [← Ny334.out] at ho67)); have n0_ := Aside0.mk (Kd.R_lower (Kd.R_newB (Kd.R_newB (Kd.R_newB ho67 (g := gb326) (o := .cells #[.int .i64 a0_0, .int .i64 a0_1] 23 (0, 0)) (xb BK326)) (g := gb327) (o := .cells #[.int .i64 a1_0, .int .i64 a1_1] 23 (0, 0)) (xb BK327)) (g := gb331) (o := .cells #[.int .i64 t329, .int .i64 t330] 23 (0, 0)) (xb BK331)) (below_size xq1)); have n1_ := Aside0.mk (blk_below (g := gb326) (o := .cells #[.int .i64 a0_0, .int .i64 a0_1] 23 (0, 0)) (xb BK326) hb); have n2_ := Aside0.mk (blk_below (g := gb327) (o := .cells #[.int .i64 a1_0, .int .i64 a1_1] 23 (0, 0)) (xb BK327) hb); have n3_ := Aside0.mk (blk_below (g := gb331) (o := .cells #[.int .i64 t329, .int .i64 t330] 23 (0, 0)) (xb BK331) hb); have n4_ := Aside0.mk (below_step xq1 hb); clear BK326; clear BK327; clear BK331; clear HB; have HO336 := n0_; have BK326 := n1_; have BK327 := n2_; have BK331 := n3_; have HB := n4_; clear n0_ n1_ n2_ n3_ n4_; clear hb ho67; have hnb68 := NB327_331.out; have hnc68 := NB331_327.out; have hcz69_0 : w66.cell? ⟨gb327, 0, none⟩ = some (.int .i64 a1_0) := (blk_cell BK327.out 0).trans rfl; have hcz69_1 : w66.cell? ⟨gb327, 1, none⟩ = some (.int .i64 a1_1) := (blk_cell BK327.out 1).trans rfl; have hfz69_0 := blk_frozen BK327.out 0; have hfz69_1 := blk_frozen BK327.out 1) | ((with_reducible refine gate_dst (N := 72) rfl ?_); refine Kd.R_lit k23 _ 23 ?hg (N := 72) ?hd (xs := ([(⟨a1_0, a1_1⟩ : S23)] : List (S23))) (inner := [.int .i64 a1_0, .int .i64 a1_1]) (ok := fun _ => True) (okp := fun _ => True) ?hr ?hp (fun _ hk => hk) trivial (Below.refl _ _) (Nat.le_refl _) (by simp) ?_; (case hd => rfl); (case hg => rfl); (case hr => first | (go_simp; done) | (go_simp; rfl)); (case hp => exact (Reps.c2 (show Kd.M k23 _ _ _ (⟨a1_0, a1_1⟩ : S23) [.int .i64 a1_0, .int .i64 a1_1] from (k23_mkM _ _ _ (⟨a1_0, a1_1⟩ : S23) )) (Reps.none _ _))); intro v338 w70 ho71 hb hg_ hnew_; clear hg_ hnew_; (first | rw [← Ny337.out] at ho71 | (simp only [Int.reduceToNat] at ho71; rw [← Ny337.out] at ho71)); have n0_ := Aside0.mk (Kd.R_elder' (xr HO336) (Kd.R_base ho71) hb); have n1_ := Aside0.mk (Kd.R_lower (Kd.R_newB (Kd.R_newB (Kd.R_newB (Kd.R_new' ho71 (Kd.R_lt (xr HO336))) (g := gb326) (o := .cells #[.int .i64 a0_0, .int .i64 a0_1] 23 (0, 0)) (xb BK326)) (g := gb327) (o := .cells #[.int .i64 a1_0, .int .i64 a1_1] 23 (0, 0)) (xb BK327)) (g := gb331) (o := .cells #[.int .i64 t329, .int .i64 t330] 23 (0, 0)) (xb BK331)) (below_size xq1)); have n2_ := Aside0.mk (blk_below (g := gb326) (o := .cells #[.int .i64 a0_0, .int .i64 a0_1] 23 (0, 0)) (xb BK326) hb); have n3_ := Aside0.mk (blk_below (g := gb327) (o := .cells #[.int .i64 a1_0, .int .i64 a1_1] 23 (0, 0)) (xb BK327) hb); have n4_ := Aside0.mk (blk_below (g := gb331) (o := .cells #[.int .i64 t329, .int .i64 t330] 23 (0, 0)) (xb BK331) hb); have n5_ := Aside0.mk (below_step xq1 hb); clear HO336; clear BK326; clear BK327; clear BK331; clear HB; have HO336 := n0_; have HO339 := n1_; have BK326 := n2_; have BK327 := n3_; have BK331 := n4_; have HB := n5_; clear n0_ n1_ n2_ n3_ n4_ n5_; clear hb ho71; obtain ⟨Ao72, co72, eo72⟩ := Kd.R_slice HO336.out; subst eo72; obtain ⟨Ao73, co73, eo73⟩ := Kd.R_slice HO339.out; subst eo73) | ((with_reducible refine gate_callee (f := 16) rfl ?_); refine goesL_ (some 73) rfl rfl Try.func16 (by kernel_rfl) rfl #[.slice Ao72 y334.length co72, .slice Ao73 y337.length co73] rfl xa ?_; (with_reducible refine (ival_Meet.calls _ _ y334 _ _ y337 t340 _ ?side1 ?side2 ?side3 ?side4 A52.out).mono ?_); (case side1 => repeat (first | exact (Kd.R_reads' HO336.out).2.2 | (with_reducible refine Kd.C_alloc ?_ _) | (with_reducible refine Kd.C_drewN ?_ _) | (with_reducible refine Kd.C_drew ?_))); (case side2 => exact (Kd.R_reads' HO336.out).2.1); (case side3 => repeat (first | exact (Kd.R_reads' HO339.out).2.2 | (with_reducible refine Kd.C_alloc ?_ _) | (with_reducible refine Kd.C_drewN ?_ _) | (with_reducible refine Kd.C_drew ?_))); (case side4 => exact (Kd.R_reads' HO339.out).2.1); rintro e w74 ⟨v341, rfl, ho0, hb⟩; refine ⟨_, rfl, ?_⟩; have n0_ := Aside0.mk (Kd.R_elder' (xr HO336) (Kd.R_base ho0) hb); have n1_ := Aside0.mk (Kd.R_elder' (xr HO339) (Kd.R_base ho0) hb); have n2_ := Aside0.mk (Kd.R_lower (Kd.R_newB (Kd.R_newB (Kd.R_newB (Kd.R_new' (Kd.R_new' ho0 (Kd.R_lt (xr HO336))) (Kd.R_lt (xr HO339))) (g := gb326) (o := .cells #[.int .i64 a0_0, .int .i64 a0_1] 23 (0, 0)) (xb BK326)) (g := gb327) (o := .cells #[.int .i64 a1_0, .int .i64 a1_1] 23 (0, 0)) (xb BK327)) (g := gb331) (o := .cells #[.int .i64 t329, .int .i64 t330] 23 (0, 0)) (xb BK331)) (below_size xq1)); have n3_ := Aside0.mk (blk_below (g := gb326) (o := .cells #[.int .i64 a0_0, .int .i64 a0_1] 23 (0, 0)) (xb BK326) hb); have n4_ := Aside0.mk (blk_below (g := gb327) (o := .cells #[.int .i64 a1_0, .int .i64 a1_1] 23 (0, 0)) (xb BK327) hb); have n5_ := Aside0.mk (blk_below (g := gb331) (o := .cells #[.int .i64 t329, .int .i64 t330] 23 (0, 0)) (xb BK331) hb); have n6_ := Aside0.mk (below_step xq1 hb); clear HO336; clear HO339; clear BK326; clear BK327; clear BK331; clear HB; have HO336 := n0_; have HO339 := n1_; have HO342 := n2_; have BK326 := n3_; have BK327 := n4_; have BK331 := n5_; have HB := n6_; clear n0_ n1_ n2_ n3_ n4_ n5_ n6_; (try clear hb); (try clear hb2); (try clear hk); (try clear hi); (try clear ho0); have hcz75_0 : w74.cell? ⟨gb331, 0, none⟩ = some (.int .i64 t329) := (blk_cell BK331.out 0).trans rfl; have hcz75_1 : w74.cell? ⟨gb331, 1, none⟩ = some (.int .i64 t330) := (blk_cell BK331.out 1).trans rfl; have hfz75_0 := blk_frozen BK331.out 0; have hfz75_1 := blk_frozen BK331.out 1) | ((with_reducible refine gate_dst (N := 75) rfl ?_); refine Kd.R_lit k23 _ 23 ?hg (N := 75) ?hd (xs := ([(⟨t329, t330⟩ : S23)] : List (S23))) (inner := [.int .i64 t329, .int .i64 t330]) (ok := fun _ => True) (okp := fun _ => True) ?hr ?hp (fun _ hk => hk) trivial (Below.refl _ _) (Nat.le_refl _) (by simp) ?_; (case hd => rfl); (case hg => rfl); (case hr => first | (go_simp; done) | (go_simp; rfl)); (case hp => exact (Reps.c2 (show Kd.M k23 _ _ _ (⟨t329, t330⟩ : S23) [.int .i64 t329, .int .i64 t330] from (k23_mkM _ _ _ (⟨t329, t330⟩ : S23) )) (Reps.none _ _))); intro v344 w76 ho77 hb hg_ hnew_; clear hg_ hnew_; (first | rw [← Ny343.out] at ho77 | (simp only [Int.reduceToNat] at ho77; rw [← Ny343.out] at ho77)); have n0_ := Aside0.mk (Kd.R_elder' (xr HO336) (Kd.R_base ho77) hb); have n1_ := Aside0.mk (Kd.R_elder' (xr HO339) (Kd.R_base ho77) hb); have n2_ := Aside0.mk (Kd.R_elder' (xr HO342) (Kd.R_base ho77) hb); have n3_ := Aside0.mk (Kd.R_lower (Kd.R_newB (Kd.R_newB (Kd.R_newB (Kd.R_new' (Kd.R_new' (Kd.R_new' ho77 (Kd.R_lt (xr HO336))) (Kd.R_lt (xr HO339))) (Kd.R_lt (xr HO342))) (g := gb326) (o := .cells #[.int .i64 a0_0, .int .i64 a0_1] 23 (0, 0)) (xb BK326)) (g := gb327) (o := .cells #[.int .i64 a1_0, .int .i64 a1_1] 23 (0, 0)) (xb BK327)) (g := gb331) (o := .cells #[.int .i64 t329, .int .i64 t330] 23 (0, 0)) (xb BK331)) (below_size xq1)); have n4_ := Aside0.mk (blk_below (g := gb326) (o := .cells #[.int .i64 a0_0, .int .i64 a0_1] 23 (0, 0)) (xb BK326) hb); have n5_ := Aside0.mk (blk_below (g := gb327) (o := .cells #[.int .i64 a1_0, .int .i64 a1_1] 23 (0, 0)) (xb BK327) hb); have n6_ := Aside0.mk (blk_below (g := gb331) (o := .cells #[.int .i64 t329, .int .i64 t330] 23 (0, 0)) (xb BK331) hb); have n7_ := Aside0.mk (below_step xq1 hb); clear HO336; clear HO339; clear HO342; clear BK326; clear BK327; clear BK331; clear HB; have HO336 := n0_; have HO339 := n1_; have HO342 := n2_; have HO345 := n3_; have BK326 := n4_; have BK327 := n5_; have BK331 := n6_; have HB := n7_; clear n0_ n1_ n2_ n3_ n4_ n5_ n6_ n7_; clear hb ho77; obtain ⟨Ao78, co78, eo78⟩ := Kd.R_slice HO345.out; subst eo78) | ((with_reducible refine gate_callee (f := 15) rfl ?_); refine goesL_ (some 76) rfl rfl Try.func15 (by kernel_rfl) rfl #[.slice Ao78 y343.length co78] rfl xa ?_; (with_reducible refine (ival_Normal.calls _ _ y343 t346 _ ?side1 ?side2 A53.out).mono ?_); (case side1 => repeat (first | exact (Kd.R_reads' HO345.out).2.2 | (with_reducible refine Kd.C_alloc ?_ _) | (with_reducible refine Kd.C_drewN ?_ _) | (with_reducible refine Kd.C_drew ?_))); (case side2 => exact (Kd.R_reads' HO345.out).2.1); rintro e w79 ⟨v347, rfl, ho0, hb⟩; refine ⟨_, rfl, ?_⟩; have n0_ := Aside0.mk (Kd.R_elder' (xr HO336) (Kd.R_base ho0) hb); have n1_ := Aside0.mk (Kd.R_elder' (xr HO339) (Kd.R_base ho0) hb); have n2_ := Aside0.mk (Kd.R_elder' (xr HO342) (Kd.R_base ho0) hb); have n3_ := Aside0.mk (Kd.R_elder' (xr HO345) (Kd.R_base ho0) hb); have n4_ := Aside0.mk (Kd.R_lower (Kd.R_newB (Kd.R_newB (Kd.R_newB (Kd.R_new' (Kd.R_new' (Kd.R_new' (Kd.R_new' ho0 (Kd.R_lt (xr HO336))) (Kd.R_lt (xr HO339))) (Kd.R_lt (xr HO342))) (Kd.R_lt (xr HO345))) (g := gb326) (o := .cells #[.int .i64 a0_0, .int .i64 a0_1] 23 (0, 0)) (xb BK326)) (g := gb327) (o := .cells #[.int .i64 a1_0, .int .i64 a1_1] 23 (0, 0)) (xb BK327)) (g := gb331) (o := .cells #[.int .i64 t329, .int .i64 t330] 23 (0, 0)) (xb BK331)) (below_size xq1)); have n5_ := Aside0.mk (blk_below (g := gb326) (o := .cells #[.int .i64 a0_0, .int .i64 a0_1] 23 (0, 0)) (xb BK326) hb); have n6_ := Aside0.mk (blk_below (g := gb327) (o := .cells #[.int .i64 a1_0, .int .i64 a1_1] 23 (0, 0)) (xb BK327) hb); have n7_ := Aside0.mk (blk_below (g := gb331) (o := .cells #[.int .i64 t329, .int .i64 t330] 23 (0, 0)) (xb BK331) hb); have n8_ := Aside0.mk (below_step xq1 hb); clear HO336; clear HO339; clear HO342; clear HO345; clear BK326; clear BK327; clear BK331; clear HB; have HO336 := n0_; have HO339 := n1_; have HO342 := n2_; have HO345 := n3_; have HO348 := n4_; have BK326 := n5_; have BK327 := n6_; have BK331 := n7_; have HB := n8_; clear n0_ n1_ n2_ n3_ n4_ n5_ n6_ n7_ n8_; (try clear hb); (try clear hb2); (try clear hk); (try clear hi); (try clear ho0); obtain ⟨Ao80, co80, eo80⟩ := Kd.R_slice HO348.out; subst eo80; obtain ⟨Ao81, co81, eo81⟩ := Kd.R_slice HO342.out; subst eo81) | ((with_reducible refine gate_callee (f := 20) rfl ?_); refine goesL_ (some 78) rfl rfl Try.func20 (by kernel_rfl) rfl #[.slice Ao80 t346.length co80, .slice Ao81 t340.length co81] rfl xa ?_; (with_reducible refine (spoorref06_Same.calls kj37 _ _ t346 _ _ t340 true _ ?side1 ?side2 ?side3 ?side4 A54.out).mono ?_); (case side1 => repeat (first | exact (Kd.R_reads' HO348.out).2.2 | (with_reducible refine Kd.C_alloc ?_ _) | (with_reducible refine Kd.C_drewN ?_ _) | (with_reducible refine Kd.C_drew ?_))); (case side2 => exact (Kd.R_reads' HO348.out).2.1); (case side3 => repeat (first | exact (Kd.R_reads' HO342.out).2.2 | (with_reducible refine Kd.C_alloc ?_ _) | (with_reducible refine Kd.C_drewN ?_ _) | (with_reducible refine Kd.C_drew ?_))); (case side4 => exact (Kd.R_reads' HO342.out).2.1); rintro e w' ⟨rfl, ⟨nd, rfl⟩⟩; refine ⟨_, rfl, ?_⟩))
                    (try (rw [drewN_self w79]; generalize hq_ : World.drewN w79 _ = w79; have n0_ : Aside0 (Kd.R k23 23 w79 w.heap.size (fun k_ => some k_ ≠ (.slice Ao73 y337.length co73 : Value).ownBlock ∧ some k_ ≠ (.slice Ao81 t340.length co81 : Value).ownBlock ∧ some k_ ≠ (.slice Ao78 y343.length co78 : Value).ownBlock ∧ some k_ ≠ (.slice Ao80 t346.length co80 : Value).ownBlock ∧ k_ ≠ gb326 ∧ k_ ≠ gb327 ∧ k_ ≠ gb331) (.slice Ao72 y334.length co72) y334) := ⟨by rw [← hq_]; exact (by (with_reducible repeat (first | apply Kd.R_alloc | apply Kd.R_drewN | apply Kd.R_drew)); exact Kd.R_mono HO336.out (fun _ hk => ⟨hk.1.1.1.2, ⟨hk.1.1.2, ⟨hk.1.2, ⟨hk.2, ⟨hk.1.1.1.1.1.1.2, ⟨hk.1.1.1.1.1.2, hk.1.1.1.1.2⟩⟩⟩⟩⟩⟩))⟩; have n1_ : Aside0 (Kd.R k23 23 w79 w.heap.size (fun k_ => some k_ ≠ (.slice Ao72 y334.length co72 : Value).ownBlock ∧ some k_ ≠ (.slice Ao81 t340.length co81 : Value).ownBlock ∧ some k_ ≠ (.slice Ao78 y343.length co78 : Value).ownBlock ∧ some k_ ≠ (.slice Ao80 t346.length co80 : Value).ownBlock ∧ k_ ≠ gb326 ∧ k_ ≠ gb327 ∧ k_ ≠ gb331) (.slice Ao73 y337.length co73) y337) := ⟨by rw [← hq_]; exact (by (with_reducible repeat (first | apply Kd.R_alloc | apply Kd.R_drewN | apply Kd.R_drew)); exact Kd.R_mono HO339.out (fun _ hk => ⟨hk.1.1.1.1.1.1.2, ⟨hk.1.1.2, ⟨hk.1.2, ⟨hk.2, ⟨hk.1.1.1.1.1.2, ⟨hk.1.1.1.1.2, hk.1.1.1.2⟩⟩⟩⟩⟩⟩))⟩; have n2_ : Aside0 (Kd.R k23 23 w79 w.heap.size (fun k_ => some k_ ≠ (.slice Ao72 y334.length co72 : Value).ownBlock ∧ some k_ ≠ (.slice Ao73 y337.length co73 : Value).ownBlock ∧ some k_ ≠ (.slice Ao78 y343.length co78 : Value).ownBlock ∧ some k_ ≠ (.slice Ao80 t346.length co80 : Value).ownBlock ∧ k_ ≠ gb326 ∧ k_ ≠ gb327 ∧ k_ ≠ gb331) (.slice Ao81 t340.length co81) t340) := ⟨by rw [← hq_]; exact (by (with_reducible repeat (first | apply Kd.R_alloc | apply Kd.R_drewN | apply Kd.R_drew)); exact Kd.R_mono HO342.out (fun _ hk => ⟨hk.1.1.1.1.1.1.2, ⟨hk.1.1.1.1.1.2, ⟨hk.1.2, ⟨hk.2, ⟨hk.1.1.1.1.2, ⟨hk.1.1.1.2, hk.1.1.2⟩⟩⟩⟩⟩⟩))⟩; have n3_ : Aside0 (Kd.R k23 23 w79 w.heap.size (fun k_ => some k_ ≠ (.slice Ao72 y334.length co72 : Value).ownBlock ∧ some k_ ≠ (.slice Ao73 y337.length co73 : Value).ownBlock ∧ some k_ ≠ (.slice Ao81 t340.length co81 : Value).ownBlock ∧ some k_ ≠ (.slice Ao80 t346.length co80 : Value).ownBlock ∧ k_ ≠ gb326 ∧ k_ ≠ gb327 ∧ k_ ≠ gb331) (.slice Ao78 y343.length co78) y343) := ⟨by rw [← hq_]; exact (by (with_reducible repeat (first | apply Kd.R_alloc | apply Kd.R_drewN | apply Kd.R_drew)); exact Kd.R_mono HO345.out (fun _ hk => ⟨hk.1.1.1.1.1.1.2, ⟨hk.1.1.1.1.1.2, ⟨hk.1.1.1.1.2, ⟨hk.2, ⟨hk.1.1.1.2, ⟨hk.1.1.2, hk.1.2⟩⟩⟩⟩⟩⟩))⟩; have n4_ : Aside0 (Kd.R k23 23 w79 w.heap.size (fun k_ => some k_ ≠ (.slice Ao72 y334.length co72 : Value).ownBlock ∧ some k_ ≠ (.slice Ao73 y337.length co73 : Value).ownBlock ∧ some k_ ≠ (.slice Ao81 t340.length co81 : Value).ownBlock ∧ some k_ ≠ (.slice Ao78 y343.length co78 : Value).ownBlock ∧ k_ ≠ gb326 ∧ k_ ≠ gb327 ∧ k_ ≠ gb331) (.slice Ao80 t346.length co80) t346) := ⟨by rw [← hq_]; exact (by (with_reducible repeat (first | apply Kd.R_alloc | apply Kd.R_drewN | apply Kd.R_drew)); exact Kd.R_mono HO348.out (fun _ hk => ⟨hk.1.1.1.1.1.1.2, ⟨hk.1.1.1.1.1.2, ⟨hk.1.1.1.1.2, ⟨hk.1.1.1.2, ⟨hk.1.1.2, ⟨hk.1.2, hk.2⟩⟩⟩⟩⟩⟩))⟩; have n5_ : Aside0 (w79.heap[gb326]? = some (.cells #[.int .i64 a0_0, .int .i64 a0_1] 23 (0, 0))) := ⟨by rw [← hq_]; exact (xb BK326)⟩; have n6_ : Aside0 (w79.heap[gb327]? = some (.cells #[.int .i64 a1_0, .int .i64 a1_1] 23 (0, 0))) := ⟨by rw [← hq_]; exact (xb BK327)⟩; have n7_ : Aside0 (w79.heap[gb331]? = some (.cells #[.int .i64 t329, .int .i64 t330] 23 (0, 0))) := ⟨by rw [← hq_]; exact (xb BK331)⟩; have n8_ : Aside0 (Below w.heap.size w w79) := ⟨by rw [← hq_]; exact xq1⟩; clear HO336 HO339 HO342 HO345 HO348 BK326 BK327 BK331 HB hq_; have HO336 := n0_; have HO339 := n1_; have HO342 := n2_; have HO345 := n3_; have HO348 := n4_; have BK326 := n5_; have BK327 := n6_; have BK331 := n7_; have HB := n8_; clear n0_ n1_ n2_ n3_ n4_ n5_ n6_ n7_ n8_))
                    have n0_ := Aside0.mk (Kd.R_drew HO336.out)
                    have n1_ := Aside0.mk (Kd.R_drew HO339.out)
                    have n2_ := Aside0.mk (Kd.R_drew HO342.out)
                    have n3_ := Aside0.mk (Kd.R_drew HO345.out)
                    have n4_ := Aside0.mk (Kd.R_drew HO348.out)
                    have n5_ := Aside0.mk (blk_drew BK326.out)
                    have n6_ := Aside0.mk (blk_drew BK327.out)
                    have n7_ := Aside0.mk (blk_drew BK331.out)
                    have n8_ := Aside0.mk (below_drew1 HB.out)
                    clear HO336
                    clear HO339
                    clear HO342
                    clear HO345
                    clear HO348
                    clear BK326
                    clear BK327
                    clear BK331
                    clear HB
                    have HO336 := n0_
                    have HO339 := n1_
                    have HO342 := n2_
                    have HO345 := n3_
                    have HO348 := n4_
                    have BK326 := n5_
                    have BK327 := n6_
                    have BK331 := n7_
                    have HB := n8_
                    clear n0_ n1_ n2_ n3_ n4_ n5_ n6_ n7_ n8_
                    refine start_ (n := 25) (S := fun w' => w'.cell? ⟨gb331, 0, none⟩ = some (.int .i64 t329) ∧ w'.cell? ⟨gb331, 1, none⟩ = some (.int .i64 t330) ∧ w'.cell? ⟨gb327, 0, none⟩ = some (.int .i64 a1_0) ∧ w'.cell? ⟨gb327, 1, none⟩ = some (.int .i64 a1_1)) (ds := []) bz1h_35 (by kernel_rfl) rfl rfl ⟨(blk_cell BK331.out 0).trans rfl, (blk_cell BK331.out 1).trans rfl, (blk_cell BK327.out 0).trans rfl, (blk_cell BK327.out 1).trans rfl⟩ (fun hHeld => ?_); refine with_tabW spoorlaw06_IvalCut.tab7 spoorlaw06_IvalCut.bits7 (fun HT_ HW_ => ?_)
                    generalize w79.drew = w82 at HO336 HO339 HO342 HO345 HO348 BK326 BK327 BK331 HB hHeld ⊢
                    refine pz_ (i := 0) (N := some 79) bz1h_36 (any_of HT_.out (by kernel_rfl)) ?_
                    refine pz_ (i := 1) (N := some 80) bz1h_37 (any_of HT_.out (by kernel_rfl)) ?_
                    refine pz_ (i := 2) (N := some 81) bz1h_38 (any_of HT_.out (by kernel_rfl)) ?_
                    refine pz_ (i := 3) (N := some 82) bz1h_39 (any_of HT_.out (by kernel_rfl)) ?_
                    refine pz_ (i := 4) (N := some 83) bz1h_40 (any_of HT_.out (by kernel_rfl)) ?_
                    refine pz_ (i := 5) (N := some 84) bz1h_41 (any_of HT_.out (by kernel_rfl)) ?_
                    refine pz_ (i := 6) (N := some 85) bz1h_42 (any_of HT_.out (by kernel_rfl)) ?_
                    refine pz_ (i := 7) (N := some 86) bz1h_43 (any_of HT_.out (by kernel_rfl)) ?_
                    refine pz_ (i := 8) (N := some 87) bz1h_44 (any_of HT_.out (by kernel_rfl)) ?_
                    refine pz_ (i := 9) (N := some 88) bz1h_45 (any_of HT_.out (by kernel_rfl)) ?_
                    refine pz_ (i := 10) (N := some 89) bz1h_46 (any_of HT_.out (by kernel_rfl)) ?_
                    refine take_ (i := 11) (N := some 90) (v := ?_) (a' := ?_) bz1h_47 rfl rfl (take_ofW HT_.out HW_.out (by kernel_rfl)) (fun _ _ _ h => h) (Or.inl ⟨by rfl, ?_⟩) hHeld ?_ ?_
                    rotate_left
                    · rintro w' ⟨s0, s1, s2, s3⟩
                      go_simp
                      with_reducible rfl
                    rotate_left
                    · simp only [Act.put, List.setIfInBounds_toArray, List.set_cons_zero, List.set_cons_succ, i64_w, i32_w]
                      rfl
                    refine take_ (i := 12) (N := some 91) (v := ?_) (a' := ?_) bz1h_48 rfl rfl (take_ofW HT_.out HW_.out (by kernel_rfl)) (fun _ _ _ h => h) (Or.inl ⟨by rfl, ?_⟩) hHeld ?_ ?_
                    rotate_left
                    · rintro w' ⟨s0, s1, s2, s3⟩
                      go_simp
                      with_reducible rfl
                    rotate_left
                    · simp only [Act.put, List.setIfInBounds_toArray, List.set_cons_zero, List.set_cons_succ, i64_w, i32_w]
                      rfl
                    refine take_ (i := 14) (N := some 93) (v := ?_) (a' := ?_) bz1h_49 rfl rfl (take_ofW HT_.out HW_.out (by kernel_rfl)) (fun _ _ _ h => h) (Or.inl ⟨by rfl, ?_⟩) hHeld ?_ ?_
                    rotate_left
                    · rintro w' ⟨s0, s1, s2, s3⟩
                      go_simp
                      with_reducible rfl
                    rotate_left
                    · simp only [Act.put, List.setIfInBounds_toArray, List.set_cons_zero, List.set_cons_succ, i64_w, i32_w]
                      rfl
                    refine one_ (i := 13) (N := some 92) bz1h_50 rfl rfl (one_of HT_.out (by kernel_rfl)) (by decide) (fun K hK => ?_)
                    refine goes_ Try.func11 (by kernel_rfl) rfl #[.agg #[.int .i64 t329, .int .i64 t330], .agg #[.int .i64 a1_0, .int .i64 a1_1]] (by rfl) rfl rfl xa ?_
                    with_reducible refine (ival_Clip.calls t329 t330 a1_0 a1_1 t350 t351 _ A59.out).mono ?_
                    rintro e w83 ⟨rfl, hb⟩
                    refine ⟨_, rfl, ?_⟩
                    have n0_ := Aside0.mk (Kd.R_below (xr HO336) hb)
                    have n1_ := Aside0.mk (Kd.R_below (xr HO339) hb)
                    have n2_ := Aside0.mk (Kd.R_below (xr HO342) hb)
                    have n3_ := Aside0.mk (Kd.R_below (xr HO345) hb)
                    have n4_ := Aside0.mk (Kd.R_below (xr HO348) hb)
                    have n5_ := Aside0.mk (blk_below (g := gb326) (o := .cells #[.int .i64 a0_0, .int .i64 a0_1] 23 (0, 0)) (xb BK326) hb)
                    have n6_ := Aside0.mk (blk_below (g := gb327) (o := .cells #[.int .i64 a1_0, .int .i64 a1_1] 23 (0, 0)) (xb BK327) hb)
                    have n7_ := Aside0.mk (blk_below (g := gb331) (o := .cells #[.int .i64 t329, .int .i64 t330] 23 (0, 0)) (xb BK331) hb)
                    have n8_ := Aside0.mk (below_step xq1 hb)
                    clear HO336
                    clear HO339
                    clear HO342
                    clear HO345
                    clear HO348
                    clear BK326
                    clear BK327
                    clear BK331
                    clear HB
                    have HO336 := n0_
                    have HO339 := n1_
                    have HO342 := n2_
                    have HO345 := n3_
                    have HO348 := n4_
                    have BK326 := n5_
                    have BK327 := n6_
                    have BK331 := n7_
                    have HB := n8_
                    clear n0_ n1_ n2_ n3_ n4_ n5_ n6_ n7_ n8_
                    (try clear hb)
                    (try clear hb2)
                    (try clear hk)
                    (try clear hi)
                    refine hK.out _ _ ⟨(blk_cell BK331.out 0).trans rfl, (blk_cell BK331.out 1).trans rfl, (blk_cell BK327.out 0).trans rfl, (blk_cell BK327.out 1).trans rfl⟩ (fun hHeld => ?_)
                    clear hK K
                    refine norm_ (a' := ?_) ?_ ?_
                    rotate_left
                    · show Act.put _ (some 92) _ = _
                      simp only [Act.put, List.setIfInBounds_toArray, List.set_cons_zero, List.set_cons_succ, i64_w, i32_w]
                      rfl
                    refine pz_ (i := 15) (N := some 94) bz1h_51 (any_of HT_.out (by kernel_rfl)) ?_
                    refine pz_ (i := 16) (N := some 95) bz1h_52 (any_of HT_.out (by kernel_rfl)) ?_
                    refine pz_ (i := 17) (N := some 96) bz1h_53 (any_of HT_.out (by kernel_rfl)) ?_
                    refine pz_ (i := 18) (N := some 97) bz1h_54 (any_of HT_.out (by kernel_rfl)) ?_
                    refine take_ (i := 20) (N := some 99) (v := ?_) (a' := ?_) bz1h_55 rfl rfl (take_ofW HT_.out HW_.out (by kernel_rfl)) (fun _ _ _ h => h) (Or.inl ⟨by rfl, ?_⟩) hHeld ?_ ?_
                    rotate_left
                    · rintro w' ⟨s0, s1, s2, s3⟩
                      go_simp
                      with_reducible rfl
                    rotate_left
                    · simp only [Act.put, List.setIfInBounds_toArray, List.set_cons_zero, List.set_cons_succ, i64_w, i32_w]
                      rfl
                    refine one_ (i := 19) (N := some 98) bz1h_56 rfl rfl (one_of HT_.out (by kernel_rfl)) (by decide) (fun K hK => ?_)
                    refine goes_ Try.func27 (by kernel_rfl) rfl #[.slice Ao81 t340.length co81] (by rfl) rfl rfl xa ?_
                    with_reducible refine (ival_Measure.calls kj37 _ _ t340 t352 _ ?side1 ?side2 A61.out).mono ?_
                    (case side1 => repeat (first | exact (Kd.R_reads' HO342.out).2.2 | (with_reducible refine Kd.C_alloc ?_ _) | (with_reducible refine Kd.C_drewN ?_ _) | (with_reducible refine Kd.C_drew ?_)))
                    (case side2 => exact (Kd.R_reads' HO342.out).2.1)
                    rintro e w84 ⟨rfl, hb⟩
                    refine ⟨_, rfl, ?_⟩
                    have n0_ := Aside0.mk (Kd.R_below (xr HO336) hb)
                    have n1_ := Aside0.mk (Kd.R_below (xr HO339) hb)
                    have n2_ := Aside0.mk (Kd.R_below (xr HO342) hb)
                    have n3_ := Aside0.mk (Kd.R_below (xr HO345) hb)
                    have n4_ := Aside0.mk (Kd.R_below (xr HO348) hb)
                    have n5_ := Aside0.mk (blk_below (g := gb326) (o := .cells #[.int .i64 a0_0, .int .i64 a0_1] 23 (0, 0)) (xb BK326) hb)
                    have n6_ := Aside0.mk (blk_below (g := gb327) (o := .cells #[.int .i64 a1_0, .int .i64 a1_1] 23 (0, 0)) (xb BK327) hb)
                    have n7_ := Aside0.mk (blk_below (g := gb331) (o := .cells #[.int .i64 t329, .int .i64 t330] 23 (0, 0)) (xb BK331) hb)
                    have n8_ := Aside0.mk (below_step xq1 hb)
                    clear HO336
                    clear HO339
                    clear HO342
                    clear HO345
                    clear HO348
                    clear BK326
                    clear BK327
                    clear BK331
                    clear HB
                    have HO336 := n0_
                    have HO339 := n1_
                    have HO342 := n2_
                    have HO345 := n3_
                    have HO348 := n4_
                    have BK326 := n5_
                    have BK327 := n6_
                    have BK331 := n7_
                    have HB := n8_
                    clear n0_ n1_ n2_ n3_ n4_ n5_ n6_ n7_ n8_
                    (try clear hb)
                    (try clear hb2)
                    (try clear hk)
                    (try clear hi)
                    refine hK.out _ _ ⟨(blk_cell BK331.out 0).trans rfl, (blk_cell BK331.out 1).trans rfl, (blk_cell BK327.out 0).trans rfl, (blk_cell BK327.out 1).trans rfl⟩ (fun hHeld => ?_)
                    clear hK K
                    refine norm_ (a' := ?_) ?_ ?_
                    rotate_left
                    · show Act.put _ (some 98) _ = _
                      simp only [Act.put, List.setIfInBounds_toArray, List.set_cons_zero, List.set_cons_succ, i64_w, i32_w]
                      rfl
                    refine one_ (i := 21) (N := some 100) bz1h_57 rfl rfl (one_of HT_.out (by kernel_rfl)) (by decide) (fun K hK => ?_)
                    refine goes_ Try.func13 (by kernel_rfl) rfl #[.agg #[.int .i64 t329, .int .i64 t330]] (by rfl) rfl rfl xa ?_
                    with_reducible refine (ival_Length.calls t329 t330 t353 _ A62.out).mono ?_
                    rintro e w85 ⟨rfl, hb⟩
                    refine ⟨_, rfl, ?_⟩
                    have n0_ := Aside0.mk (Kd.R_below (xr HO336) hb)
                    have n1_ := Aside0.mk (Kd.R_below (xr HO339) hb)
                    have n2_ := Aside0.mk (Kd.R_below (xr HO342) hb)
                    have n3_ := Aside0.mk (Kd.R_below (xr HO345) hb)
                    have n4_ := Aside0.mk (Kd.R_below (xr HO348) hb)
                    have n5_ := Aside0.mk (blk_below (g := gb326) (o := .cells #[.int .i64 a0_0, .int .i64 a0_1] 23 (0, 0)) (xb BK326) hb)
                    have n6_ := Aside0.mk (blk_below (g := gb327) (o := .cells #[.int .i64 a1_0, .int .i64 a1_1] 23 (0, 0)) (xb BK327) hb)
                    have n7_ := Aside0.mk (blk_below (g := gb331) (o := .cells #[.int .i64 t329, .int .i64 t330] 23 (0, 0)) (xb BK331) hb)
                    have n8_ := Aside0.mk (below_step xq1 hb)
                    clear HO336
                    clear HO339
                    clear HO342
                    clear HO345
                    clear HO348
                    clear BK326
                    clear BK327
                    clear BK331
                    clear HB
                    have HO336 := n0_
                    have HO339 := n1_
                    have HO342 := n2_
                    have HO345 := n3_
                    have HO348 := n4_
                    have BK326 := n5_
                    have BK327 := n6_
                    have BK331 := n7_
                    have HB := n8_
                    clear n0_ n1_ n2_ n3_ n4_ n5_ n6_ n7_ n8_
                    (try clear hb)
                    (try clear hb2)
                    (try clear hk)
                    (try clear hi)
                    refine hK.out _ _ ⟨(blk_cell BK331.out 0).trans rfl, (blk_cell BK331.out 1).trans rfl, (blk_cell BK327.out 0).trans rfl, (blk_cell BK327.out 1).trans rfl⟩ (fun hHeld => ?_)
                    clear hK K
                    refine norm_ (a' := ?_) ?_ ?_
                    rotate_left
                    · show Act.put _ (some 100) _ = _
                      simp only [Act.put, List.setIfInBounds_toArray, List.set_cons_zero, List.set_cons_succ, i64_w, i32_w]
                      rfl
                    refine pz_ (i := 22) (N := some 101) bz1h_58 (any_of HT_.out (by kernel_rfl)) ?_
                    refine pz_ (i := 23) (N := some 102) bz1h_59 (any_of HT_.out (by kernel_rfl)) ?_
                    refine pz_ (i := 24) (N := some 4) bz1h_60 (any_of HT_.out (by kernel_rfl)) ?_
                    refine done_ (done_of HT_.out (by kernel_rfl)) ?_
                    try go_wp2
                    go_ret
                    exact ⟨by first | rfl | (simp [errW_none, errW_some] <;> rfl) | (simp [*, errW_none, errW_some] <;> rfl), by repeat (first | (with_reducible first | exact HB.out | apply below_alloc | apply pw_below_drewN | apply below_drew1 | refine below_set ?_ GE326.out | refine below_set ?_ GE327.out | refine below_set ?_ GE331.out) | exact HB.out)⟩
                  · rw [if_neg c60] at H
                    have c60b0 : (t350 == t329 && (t351 == t330)) = false := by simpa using c60
                    (try (have c60b1 : decide (t350 = t329 && (t351 == t330)) = false := by simpa using c60))
                    (try (have c60b2 : (t350 == t329 && (t351 == t330)) = false := by simpa using c60))
                    (try (have c60b3 : ¬ (t350 = t329 && (t351 == t330)) := by simpa using c60))
                    clear c60
                    obtain rfl := Option.some.inj H
                    have hnb86 := NB326_327.out
                    have hnc86 := NB327_326.out
                    have hnb87 := NB326_331.out
                    have hnc87 := NB331_326.out
                    have hcz88_0 : wc.cell? ⟨gb326, 0, none⟩ = some (.int .i64 a0_0) := (blk_cell BK326.out 0).trans rfl
                    have hcz88_1 : wc.cell? ⟨gb326, 1, none⟩ = some (.int .i64 a0_1) := (blk_cell BK326.out 1).trans rfl
                    have hfz88_0 := blk_frozen BK326.out 0
                    have hfz88_1 := blk_frozen BK326.out 1
                    try go_wp2_with (first | ((with_reducible refine gate_dst (N := 70) rfl ?_); refine Kd.R_lit k23 _ 23 ?hg (N := 70) ?hd (xs := ([(⟨a0_0, a0_1⟩ : S23)] : List (S23))) (inner := [.int .i64 a0_0, .int .i64 a0_1]) (ok := fun _ => True) (okp := fun _ => True) ?hr ?hp (fun _ hk => hk) trivial (Below.refl _ _) (Nat.le_refl _) (by simp) ?_; (case hd => rfl); (case hg => rfl); (case hr => first | (go_simp; done) | (go_simp; rfl)); (case hp => exact (Reps.c2 (show Kd.M k23 _ _ _ (⟨a0_0, a0_1⟩ : S23) [.int .i64 a0_0, .int .i64 a0_1] from (k23_mkM _ _ _ (⟨a0_0, a0_1⟩ : S23) )) (Reps.none _ _))); intro v335 w89 ho90 hb hg_ hnew_; clear hg_ hnew_; (first | rw [← Ny334.out] at ho90 | (simp only [Int.reduceToNat] at ho90; rw [← Ny334.out] at ho90)); have n0_ := Aside0.mk (Kd.R_lower (Kd.R_newB (Kd.R_newB (Kd.R_newB ho90 (g := gb326) (o := .cells #[.int .i64 a0_0, .int .i64 a0_1] 23 (0, 0)) (xb BK326)) (g := gb327) (o := .cells #[.int .i64 a1_0, .int .i64 a1_1] 23 (0, 0)) (xb BK327)) (g := gb331) (o := .cells #[.int .i64 t329, .int .i64 t330] 23 (0, 0)) (xb BK331)) (below_size xq1)); have n1_ := Aside0.mk (blk_below (g := gb326) (o := .cells #[.int .i64 a0_0, .int .i64 a0_1] 23 (0, 0)) (xb BK326) hb); have n2_ := Aside0.mk (blk_below (g := gb327) (o := .cells #[.int .i64 a1_0, .int .i64 a1_1] 23 (0, 0)) (xb BK327) hb); have n3_ := Aside0.mk (blk_below (g := gb331) (o := .cells #[.int .i64 t329, .int .i64 t330] 23 (0, 0)) (xb BK331) hb); have n4_ := Aside0.mk (below_step xq1 hb); clear BK326; clear BK327; clear BK331; clear HB; have HO336 := n0_; have BK326 := n1_; have BK327 := n2_; have BK331 := n3_; have HB := n4_; clear n0_ n1_ n2_ n3_ n4_; clear hb ho90; have hnb91 := NB327_331.out; have hnc91 := NB331_327.out; have hcz92_0 : w89.cell? ⟨gb327, 0, none⟩ = some (.int .i64 a1_0) := (blk_cell BK327.out 0).trans rfl; have hcz92_1 : w89.cell? ⟨gb327, 1, none⟩ = some (.int .i64 a1_1) := (blk_cell BK327.out 1).trans rfl; have hfz92_0 := blk_frozen BK327.out 0; have hfz92_1 := blk_frozen BK327.out 1) | ((with_reducible refine gate_dst (N := 72) rfl ?_); refine Kd.R_lit k23 _ 23 ?hg (N := 72) ?hd (xs := ([(⟨a1_0, a1_1⟩ : S23)] : List (S23))) (inner := [.int .i64 a1_0, .int .i64 a1_1]) (ok := fun _ => True) (okp := fun _ => True) ?hr ?hp (fun _ hk => hk) trivial (Below.refl _ _) (Nat.le_refl _) (by simp) ?_; (case hd => rfl); (case hg => rfl); (case hr => first | (go_simp; done) | (go_simp; rfl)); (case hp => exact (Reps.c2 (show Kd.M k23 _ _ _ (⟨a1_0, a1_1⟩ : S23) [.int .i64 a1_0, .int .i64 a1_1] from (k23_mkM _ _ _ (⟨a1_0, a1_1⟩ : S23) )) (Reps.none _ _))); intro v338 w93 ho94 hb hg_ hnew_; clear hg_ hnew_; (first | rw [← Ny337.out] at ho94 | (simp only [Int.reduceToNat] at ho94; rw [← Ny337.out] at ho94)); have n0_ := Aside0.mk (Kd.R_elder' (xr HO336) (Kd.R_base ho94) hb); have n1_ := Aside0.mk (Kd.R_lower (Kd.R_newB (Kd.R_newB (Kd.R_newB (Kd.R_new' ho94 (Kd.R_lt (xr HO336))) (g := gb326) (o := .cells #[.int .i64 a0_0, .int .i64 a0_1] 23 (0, 0)) (xb BK326)) (g := gb327) (o := .cells #[.int .i64 a1_0, .int .i64 a1_1] 23 (0, 0)) (xb BK327)) (g := gb331) (o := .cells #[.int .i64 t329, .int .i64 t330] 23 (0, 0)) (xb BK331)) (below_size xq1)); have n2_ := Aside0.mk (blk_below (g := gb326) (o := .cells #[.int .i64 a0_0, .int .i64 a0_1] 23 (0, 0)) (xb BK326) hb); have n3_ := Aside0.mk (blk_below (g := gb327) (o := .cells #[.int .i64 a1_0, .int .i64 a1_1] 23 (0, 0)) (xb BK327) hb); have n4_ := Aside0.mk (blk_below (g := gb331) (o := .cells #[.int .i64 t329, .int .i64 t330] 23 (0, 0)) (xb BK331) hb); have n5_ := Aside0.mk (below_step xq1 hb); clear HO336; clear BK326; clear BK327; clear BK331; clear HB; have HO336 := n0_; have HO339 := n1_; have BK326 := n2_; have BK327 := n3_; have BK331 := n4_; have HB := n5_; clear n0_ n1_ n2_ n3_ n4_ n5_; clear hb ho94; obtain ⟨Ao95, co95, eo95⟩ := Kd.R_slice HO336.out; subst eo95; obtain ⟨Ao96, co96, eo96⟩ := Kd.R_slice HO339.out; subst eo96) | ((with_reducible refine gate_callee (f := 16) rfl ?_); refine goesL_ (some 73) rfl rfl Try.func16 (by kernel_rfl) rfl #[.slice Ao95 y334.length co95, .slice Ao96 y337.length co96] rfl xa ?_; (with_reducible refine (ival_Meet.calls _ _ y334 _ _ y337 t340 _ ?side1 ?side2 ?side3 ?side4 A52.out).mono ?_); (case side1 => repeat (first | exact (Kd.R_reads' HO336.out).2.2 | (with_reducible refine Kd.C_alloc ?_ _) | (with_reducible refine Kd.C_drewN ?_ _) | (with_reducible refine Kd.C_drew ?_))); (case side2 => exact (Kd.R_reads' HO336.out).2.1); (case side3 => repeat (first | exact (Kd.R_reads' HO339.out).2.2 | (with_reducible refine Kd.C_alloc ?_ _) | (with_reducible refine Kd.C_drewN ?_ _) | (with_reducible refine Kd.C_drew ?_))); (case side4 => exact (Kd.R_reads' HO339.out).2.1); rintro e w97 ⟨v341, rfl, ho0, hb⟩; refine ⟨_, rfl, ?_⟩; have n0_ := Aside0.mk (Kd.R_elder' (xr HO336) (Kd.R_base ho0) hb); have n1_ := Aside0.mk (Kd.R_elder' (xr HO339) (Kd.R_base ho0) hb); have n2_ := Aside0.mk (Kd.R_lower (Kd.R_newB (Kd.R_newB (Kd.R_newB (Kd.R_new' (Kd.R_new' ho0 (Kd.R_lt (xr HO336))) (Kd.R_lt (xr HO339))) (g := gb326) (o := .cells #[.int .i64 a0_0, .int .i64 a0_1] 23 (0, 0)) (xb BK326)) (g := gb327) (o := .cells #[.int .i64 a1_0, .int .i64 a1_1] 23 (0, 0)) (xb BK327)) (g := gb331) (o := .cells #[.int .i64 t329, .int .i64 t330] 23 (0, 0)) (xb BK331)) (below_size xq1)); have n3_ := Aside0.mk (blk_below (g := gb326) (o := .cells #[.int .i64 a0_0, .int .i64 a0_1] 23 (0, 0)) (xb BK326) hb); have n4_ := Aside0.mk (blk_below (g := gb327) (o := .cells #[.int .i64 a1_0, .int .i64 a1_1] 23 (0, 0)) (xb BK327) hb); have n5_ := Aside0.mk (blk_below (g := gb331) (o := .cells #[.int .i64 t329, .int .i64 t330] 23 (0, 0)) (xb BK331) hb); have n6_ := Aside0.mk (below_step xq1 hb); clear HO336; clear HO339; clear BK326; clear BK327; clear BK331; clear HB; have HO336 := n0_; have HO339 := n1_; have HO342 := n2_; have BK326 := n3_; have BK327 := n4_; have BK331 := n5_; have HB := n6_; clear n0_ n1_ n2_ n3_ n4_ n5_ n6_; (try clear hb); (try clear hb2); (try clear hk); (try clear hi); (try clear ho0); have hcz98_0 : w97.cell? ⟨gb331, 0, none⟩ = some (.int .i64 t329) := (blk_cell BK331.out 0).trans rfl; have hcz98_1 : w97.cell? ⟨gb331, 1, none⟩ = some (.int .i64 t330) := (blk_cell BK331.out 1).trans rfl; have hfz98_0 := blk_frozen BK331.out 0; have hfz98_1 := blk_frozen BK331.out 1) | ((with_reducible refine gate_dst (N := 75) rfl ?_); refine Kd.R_lit k23 _ 23 ?hg (N := 75) ?hd (xs := ([(⟨t329, t330⟩ : S23)] : List (S23))) (inner := [.int .i64 t329, .int .i64 t330]) (ok := fun _ => True) (okp := fun _ => True) ?hr ?hp (fun _ hk => hk) trivial (Below.refl _ _) (Nat.le_refl _) (by simp) ?_; (case hd => rfl); (case hg => rfl); (case hr => first | (go_simp; done) | (go_simp; rfl)); (case hp => exact (Reps.c2 (show Kd.M k23 _ _ _ (⟨t329, t330⟩ : S23) [.int .i64 t329, .int .i64 t330] from (k23_mkM _ _ _ (⟨t329, t330⟩ : S23) )) (Reps.none _ _))); intro v344 w99 ho100 hb hg_ hnew_; clear hg_ hnew_; (first | rw [← Ny343.out] at ho100 | (simp only [Int.reduceToNat] at ho100; rw [← Ny343.out] at ho100)); have n0_ := Aside0.mk (Kd.R_elder' (xr HO336) (Kd.R_base ho100) hb); have n1_ := Aside0.mk (Kd.R_elder' (xr HO339) (Kd.R_base ho100) hb); have n2_ := Aside0.mk (Kd.R_elder' (xr HO342) (Kd.R_base ho100) hb); have n3_ := Aside0.mk (Kd.R_lower (Kd.R_newB (Kd.R_newB (Kd.R_newB (Kd.R_new' (Kd.R_new' (Kd.R_new' ho100 (Kd.R_lt (xr HO336))) (Kd.R_lt (xr HO339))) (Kd.R_lt (xr HO342))) (g := gb326) (o := .cells #[.int .i64 a0_0, .int .i64 a0_1] 23 (0, 0)) (xb BK326)) (g := gb327) (o := .cells #[.int .i64 a1_0, .int .i64 a1_1] 23 (0, 0)) (xb BK327)) (g := gb331) (o := .cells #[.int .i64 t329, .int .i64 t330] 23 (0, 0)) (xb BK331)) (below_size xq1)); have n4_ := Aside0.mk (blk_below (g := gb326) (o := .cells #[.int .i64 a0_0, .int .i64 a0_1] 23 (0, 0)) (xb BK326) hb); have n5_ := Aside0.mk (blk_below (g := gb327) (o := .cells #[.int .i64 a1_0, .int .i64 a1_1] 23 (0, 0)) (xb BK327) hb); have n6_ := Aside0.mk (blk_below (g := gb331) (o := .cells #[.int .i64 t329, .int .i64 t330] 23 (0, 0)) (xb BK331) hb); have n7_ := Aside0.mk (below_step xq1 hb); clear HO336; clear HO339; clear HO342; clear BK326; clear BK327; clear BK331; clear HB; have HO336 := n0_; have HO339 := n1_; have HO342 := n2_; have HO345 := n3_; have BK326 := n4_; have BK327 := n5_; have BK331 := n6_; have HB := n7_; clear n0_ n1_ n2_ n3_ n4_ n5_ n6_ n7_; clear hb ho100; obtain ⟨Ao101, co101, eo101⟩ := Kd.R_slice HO345.out; subst eo101) | ((with_reducible refine gate_callee (f := 15) rfl ?_); refine goesL_ (some 76) rfl rfl Try.func15 (by kernel_rfl) rfl #[.slice Ao101 y343.length co101] rfl xa ?_; (with_reducible refine (ival_Normal.calls _ _ y343 t346 _ ?side1 ?side2 A53.out).mono ?_); (case side1 => repeat (first | exact (Kd.R_reads' HO345.out).2.2 | (with_reducible refine Kd.C_alloc ?_ _) | (with_reducible refine Kd.C_drewN ?_ _) | (with_reducible refine Kd.C_drew ?_))); (case side2 => exact (Kd.R_reads' HO345.out).2.1); rintro e w102 ⟨v347, rfl, ho0, hb⟩; refine ⟨_, rfl, ?_⟩; have n0_ := Aside0.mk (Kd.R_elder' (xr HO336) (Kd.R_base ho0) hb); have n1_ := Aside0.mk (Kd.R_elder' (xr HO339) (Kd.R_base ho0) hb); have n2_ := Aside0.mk (Kd.R_elder' (xr HO342) (Kd.R_base ho0) hb); have n3_ := Aside0.mk (Kd.R_elder' (xr HO345) (Kd.R_base ho0) hb); have n4_ := Aside0.mk (Kd.R_lower (Kd.R_newB (Kd.R_newB (Kd.R_newB (Kd.R_new' (Kd.R_new' (Kd.R_new' (Kd.R_new' ho0 (Kd.R_lt (xr HO336))) (Kd.R_lt (xr HO339))) (Kd.R_lt (xr HO342))) (Kd.R_lt (xr HO345))) (g := gb326) (o := .cells #[.int .i64 a0_0, .int .i64 a0_1] 23 (0, 0)) (xb BK326)) (g := gb327) (o := .cells #[.int .i64 a1_0, .int .i64 a1_1] 23 (0, 0)) (xb BK327)) (g := gb331) (o := .cells #[.int .i64 t329, .int .i64 t330] 23 (0, 0)) (xb BK331)) (below_size xq1)); have n5_ := Aside0.mk (blk_below (g := gb326) (o := .cells #[.int .i64 a0_0, .int .i64 a0_1] 23 (0, 0)) (xb BK326) hb); have n6_ := Aside0.mk (blk_below (g := gb327) (o := .cells #[.int .i64 a1_0, .int .i64 a1_1] 23 (0, 0)) (xb BK327) hb); have n7_ := Aside0.mk (blk_below (g := gb331) (o := .cells #[.int .i64 t329, .int .i64 t330] 23 (0, 0)) (xb BK331) hb); have n8_ := Aside0.mk (below_step xq1 hb); clear HO336; clear HO339; clear HO342; clear HO345; clear BK326; clear BK327; clear BK331; clear HB; have HO336 := n0_; have HO339 := n1_; have HO342 := n2_; have HO345 := n3_; have HO348 := n4_; have BK326 := n5_; have BK327 := n6_; have BK331 := n7_; have HB := n8_; clear n0_ n1_ n2_ n3_ n4_ n5_ n6_ n7_ n8_; (try clear hb); (try clear hb2); (try clear hk); (try clear hi); (try clear ho0); obtain ⟨Ao103, co103, eo103⟩ := Kd.R_slice HO348.out; subst eo103; obtain ⟨Ao104, co104, eo104⟩ := Kd.R_slice HO342.out; subst eo104) | ((with_reducible refine gate_callee (f := 20) rfl ?_); refine goesL_ (some 78) rfl rfl Try.func20 (by kernel_rfl) rfl #[.slice Ao103 t346.length co103, .slice Ao104 t340.length co104] rfl xa ?_; (with_reducible refine (spoorref06_Same.calls kj37 _ _ t346 _ _ t340 true _ ?side1 ?side2 ?side3 ?side4 A54.out).mono ?_); (case side1 => repeat (first | exact (Kd.R_reads' HO348.out).2.2 | (with_reducible refine Kd.C_alloc ?_ _) | (with_reducible refine Kd.C_drewN ?_ _) | (with_reducible refine Kd.C_drew ?_))); (case side2 => exact (Kd.R_reads' HO348.out).2.1); (case side3 => repeat (first | exact (Kd.R_reads' HO342.out).2.2 | (with_reducible refine Kd.C_alloc ?_ _) | (with_reducible refine Kd.C_drewN ?_ _) | (with_reducible refine Kd.C_drew ?_))); (case side4 => exact (Kd.R_reads' HO342.out).2.1); rintro e w' ⟨rfl, ⟨nd, rfl⟩⟩; refine ⟨_, rfl, ?_⟩))
                    (try (rw [drewN_self w102]; generalize hq_ : World.drewN w102 _ = w102; have n0_ : Aside0 (Kd.R k23 23 w102 w.heap.size (fun k_ => some k_ ≠ (.slice Ao96 y337.length co96 : Value).ownBlock ∧ some k_ ≠ (.slice Ao104 t340.length co104 : Value).ownBlock ∧ some k_ ≠ (.slice Ao101 y343.length co101 : Value).ownBlock ∧ some k_ ≠ (.slice Ao103 t346.length co103 : Value).ownBlock ∧ k_ ≠ gb326 ∧ k_ ≠ gb327 ∧ k_ ≠ gb331) (.slice Ao95 y334.length co95) y334) := ⟨by rw [← hq_]; exact (by (with_reducible repeat (first | apply Kd.R_alloc | apply Kd.R_drewN | apply Kd.R_drew)); exact Kd.R_mono HO336.out (fun _ hk => ⟨hk.1.1.1.2, ⟨hk.1.1.2, ⟨hk.1.2, ⟨hk.2, ⟨hk.1.1.1.1.1.1.2, ⟨hk.1.1.1.1.1.2, hk.1.1.1.1.2⟩⟩⟩⟩⟩⟩))⟩; have n1_ : Aside0 (Kd.R k23 23 w102 w.heap.size (fun k_ => some k_ ≠ (.slice Ao95 y334.length co95 : Value).ownBlock ∧ some k_ ≠ (.slice Ao104 t340.length co104 : Value).ownBlock ∧ some k_ ≠ (.slice Ao101 y343.length co101 : Value).ownBlock ∧ some k_ ≠ (.slice Ao103 t346.length co103 : Value).ownBlock ∧ k_ ≠ gb326 ∧ k_ ≠ gb327 ∧ k_ ≠ gb331) (.slice Ao96 y337.length co96) y337) := ⟨by rw [← hq_]; exact (by (with_reducible repeat (first | apply Kd.R_alloc | apply Kd.R_drewN | apply Kd.R_drew)); exact Kd.R_mono HO339.out (fun _ hk => ⟨hk.1.1.1.1.1.1.2, ⟨hk.1.1.2, ⟨hk.1.2, ⟨hk.2, ⟨hk.1.1.1.1.1.2, ⟨hk.1.1.1.1.2, hk.1.1.1.2⟩⟩⟩⟩⟩⟩))⟩; have n2_ : Aside0 (Kd.R k23 23 w102 w.heap.size (fun k_ => some k_ ≠ (.slice Ao95 y334.length co95 : Value).ownBlock ∧ some k_ ≠ (.slice Ao96 y337.length co96 : Value).ownBlock ∧ some k_ ≠ (.slice Ao101 y343.length co101 : Value).ownBlock ∧ some k_ ≠ (.slice Ao103 t346.length co103 : Value).ownBlock ∧ k_ ≠ gb326 ∧ k_ ≠ gb327 ∧ k_ ≠ gb331) (.slice Ao104 t340.length co104) t340) := ⟨by rw [← hq_]; exact (by (with_reducible repeat (first | apply Kd.R_alloc | apply Kd.R_drewN | apply Kd.R_drew)); exact Kd.R_mono HO342.out (fun _ hk => ⟨hk.1.1.1.1.1.1.2, ⟨hk.1.1.1.1.1.2, ⟨hk.1.2, ⟨hk.2, ⟨hk.1.1.1.1.2, ⟨hk.1.1.1.2, hk.1.1.2⟩⟩⟩⟩⟩⟩))⟩; have n3_ : Aside0 (Kd.R k23 23 w102 w.heap.size (fun k_ => some k_ ≠ (.slice Ao95 y334.length co95 : Value).ownBlock ∧ some k_ ≠ (.slice Ao96 y337.length co96 : Value).ownBlock ∧ some k_ ≠ (.slice Ao104 t340.length co104 : Value).ownBlock ∧ some k_ ≠ (.slice Ao103 t346.length co103 : Value).ownBlock ∧ k_ ≠ gb326 ∧ k_ ≠ gb327 ∧ k_ ≠ gb331) (.slice Ao101 y343.length co101) y343) := ⟨by rw [← hq_]; exact (by (with_reducible repeat (first | apply Kd.R_alloc | apply Kd.R_drewN | apply Kd.R_drew)); exact Kd.R_mono HO345.out (fun _ hk => ⟨hk.1.1.1.1.1.1.2, ⟨hk.1.1.1.1.1.2, ⟨hk.1.1.1.1.2, ⟨hk.2, ⟨hk.1.1.1.2, ⟨hk.1.1.2, hk.1.2⟩⟩⟩⟩⟩⟩))⟩; have n4_ : Aside0 (Kd.R k23 23 w102 w.heap.size (fun k_ => some k_ ≠ (.slice Ao95 y334.length co95 : Value).ownBlock ∧ some k_ ≠ (.slice Ao96 y337.length co96 : Value).ownBlock ∧ some k_ ≠ (.slice Ao104 t340.length co104 : Value).ownBlock ∧ some k_ ≠ (.slice Ao101 y343.length co101 : Value).ownBlock ∧ k_ ≠ gb326 ∧ k_ ≠ gb327 ∧ k_ ≠ gb331) (.slice Ao103 t346.length co103) t346) := ⟨by rw [← hq_]; exact (by (with_reducible repeat (first | apply Kd.R_alloc | apply Kd.R_drewN | apply Kd.R_drew)); exact Kd.R_mono HO348.out (fun _ hk => ⟨hk.1.1.1.1.1.1.2, ⟨hk.1.1.1.1.1.2, ⟨hk.1.1.1.1.2, ⟨hk.1.1.1.2, ⟨hk.1.1.2, ⟨hk.1.2, hk.2⟩⟩⟩⟩⟩⟩))⟩; have n5_ : Aside0 (w102.heap[gb326]? = some (.cells #[.int .i64 a0_0, .int .i64 a0_1] 23 (0, 0))) := ⟨by rw [← hq_]; exact (xb BK326)⟩; have n6_ : Aside0 (w102.heap[gb327]? = some (.cells #[.int .i64 a1_0, .int .i64 a1_1] 23 (0, 0))) := ⟨by rw [← hq_]; exact (xb BK327)⟩; have n7_ : Aside0 (w102.heap[gb331]? = some (.cells #[.int .i64 t329, .int .i64 t330] 23 (0, 0))) := ⟨by rw [← hq_]; exact (xb BK331)⟩; have n8_ : Aside0 (Below w.heap.size w w102) := ⟨by rw [← hq_]; exact xq1⟩; clear HO336 HO339 HO342 HO345 HO348 BK326 BK327 BK331 HB hq_; have HO336 := n0_; have HO339 := n1_; have HO342 := n2_; have HO345 := n3_; have HO348 := n4_; have BK326 := n5_; have BK327 := n6_; have BK331 := n7_; have HB := n8_; clear n0_ n1_ n2_ n3_ n4_ n5_ n6_ n7_ n8_))
                    have n0_ := Aside0.mk (Kd.R_drew HO336.out)
                    have n1_ := Aside0.mk (Kd.R_drew HO339.out)
                    have n2_ := Aside0.mk (Kd.R_drew HO342.out)
                    have n3_ := Aside0.mk (Kd.R_drew HO345.out)
                    have n4_ := Aside0.mk (Kd.R_drew HO348.out)
                    have n5_ := Aside0.mk (blk_drew BK326.out)
                    have n6_ := Aside0.mk (blk_drew BK327.out)
                    have n7_ := Aside0.mk (blk_drew BK331.out)
                    have n8_ := Aside0.mk (below_drew1 HB.out)
                    clear HO336
                    clear HO339
                    clear HO342
                    clear HO345
                    clear HO348
                    clear BK326
                    clear BK327
                    clear BK331
                    clear HB
                    have HO336 := n0_
                    have HO339 := n1_
                    have HO342 := n2_
                    have HO345 := n3_
                    have HO348 := n4_
                    have BK326 := n5_
                    have BK327 := n6_
                    have BK331 := n7_
                    have HB := n8_
                    clear n0_ n1_ n2_ n3_ n4_ n5_ n6_ n7_ n8_
                    refine start_ (n := 25) (S := fun w' => w'.cell? ⟨gb331, 0, none⟩ = some (.int .i64 t329) ∧ w'.cell? ⟨gb331, 1, none⟩ = some (.int .i64 t330) ∧ w'.cell? ⟨gb327, 0, none⟩ = some (.int .i64 a1_0) ∧ w'.cell? ⟨gb327, 1, none⟩ = some (.int .i64 a1_1)) (ds := []) bz1h_35 (by kernel_rfl) rfl rfl ⟨(blk_cell BK331.out 0).trans rfl, (blk_cell BK331.out 1).trans rfl, (blk_cell BK327.out 0).trans rfl, (blk_cell BK327.out 1).trans rfl⟩ (fun hHeld => ?_); refine with_tabW spoorlaw06_IvalCut.tab7 spoorlaw06_IvalCut.bits7 (fun HT_ HW_ => ?_)
                    generalize w102.drew = w105 at HO336 HO339 HO342 HO345 HO348 BK326 BK327 BK331 HB hHeld ⊢
                    refine pz_ (i := 0) (N := some 79) bz1h_36 (any_of HT_.out (by kernel_rfl)) ?_
                    refine pz_ (i := 1) (N := some 80) bz1h_37 (any_of HT_.out (by kernel_rfl)) ?_
                    refine pz_ (i := 2) (N := some 81) bz1h_38 (any_of HT_.out (by kernel_rfl)) ?_
                    refine pz_ (i := 3) (N := some 82) bz1h_39 (any_of HT_.out (by kernel_rfl)) ?_
                    refine pz_ (i := 4) (N := some 83) bz1h_40 (any_of HT_.out (by kernel_rfl)) ?_
                    refine pz_ (i := 5) (N := some 84) bz1h_41 (any_of HT_.out (by kernel_rfl)) ?_
                    refine pz_ (i := 6) (N := some 85) bz1h_42 (any_of HT_.out (by kernel_rfl)) ?_
                    refine pz_ (i := 7) (N := some 86) bz1h_43 (any_of HT_.out (by kernel_rfl)) ?_
                    refine pz_ (i := 8) (N := some 87) bz1h_44 (any_of HT_.out (by kernel_rfl)) ?_
                    refine pz_ (i := 9) (N := some 88) bz1h_45 (any_of HT_.out (by kernel_rfl)) ?_
                    refine pz_ (i := 10) (N := some 89) bz1h_46 (any_of HT_.out (by kernel_rfl)) ?_
                    refine take_ (i := 11) (N := some 90) (v := ?_) (a' := ?_) bz1h_47 rfl rfl (take_ofW HT_.out HW_.out (by kernel_rfl)) (fun _ _ _ h => h) (Or.inl ⟨by rfl, ?_⟩) hHeld ?_ ?_
                    rotate_left
                    · rintro w' ⟨s0, s1, s2, s3⟩
                      go_simp
                      with_reducible rfl
                    rotate_left
                    · simp only [Act.put, List.setIfInBounds_toArray, List.set_cons_zero, List.set_cons_succ, i64_w, i32_w]
                      rfl
                    refine take_ (i := 12) (N := some 91) (v := ?_) (a' := ?_) bz1h_48 rfl rfl (take_ofW HT_.out HW_.out (by kernel_rfl)) (fun _ _ _ h => h) (Or.inl ⟨by rfl, ?_⟩) hHeld ?_ ?_
                    rotate_left
                    · rintro w' ⟨s0, s1, s2, s3⟩
                      go_simp
                      with_reducible rfl
                    rotate_left
                    · simp only [Act.put, List.setIfInBounds_toArray, List.set_cons_zero, List.set_cons_succ, i64_w, i32_w]
                      rfl
                    refine take_ (i := 14) (N := some 93) (v := ?_) (a' := ?_) bz1h_49 rfl rfl (take_ofW HT_.out HW_.out (by kernel_rfl)) (fun _ _ _ h => h) (Or.inl ⟨by rfl, ?_⟩) hHeld ?_ ?_
                    rotate_left
                    · rintro w' ⟨s0, s1, s2, s3⟩
                      go_simp
                      with_reducible rfl
                    rotate_left
                    · simp only [Act.put, List.setIfInBounds_toArray, List.set_cons_zero, List.set_cons_succ, i64_w, i32_w]
                      rfl
                    refine one_ (i := 13) (N := some 92) bz1h_50 rfl rfl (one_of HT_.out (by kernel_rfl)) (by decide) (fun K hK => ?_)
                    refine goes_ Try.func11 (by kernel_rfl) rfl #[.agg #[.int .i64 t329, .int .i64 t330], .agg #[.int .i64 a1_0, .int .i64 a1_1]] (by rfl) rfl rfl xa ?_
                    with_reducible refine (ival_Clip.calls t329 t330 a1_0 a1_1 t350 t351 _ A59.out).mono ?_
                    rintro e w106 ⟨rfl, hb⟩
                    refine ⟨_, rfl, ?_⟩
                    have n0_ := Aside0.mk (Kd.R_below (xr HO336) hb)
                    have n1_ := Aside0.mk (Kd.R_below (xr HO339) hb)
                    have n2_ := Aside0.mk (Kd.R_below (xr HO342) hb)
                    have n3_ := Aside0.mk (Kd.R_below (xr HO345) hb)
                    have n4_ := Aside0.mk (Kd.R_below (xr HO348) hb)
                    have n5_ := Aside0.mk (blk_below (g := gb326) (o := .cells #[.int .i64 a0_0, .int .i64 a0_1] 23 (0, 0)) (xb BK326) hb)
                    have n6_ := Aside0.mk (blk_below (g := gb327) (o := .cells #[.int .i64 a1_0, .int .i64 a1_1] 23 (0, 0)) (xb BK327) hb)
                    have n7_ := Aside0.mk (blk_below (g := gb331) (o := .cells #[.int .i64 t329, .int .i64 t330] 23 (0, 0)) (xb BK331) hb)
                    have n8_ := Aside0.mk (below_step xq1 hb)
                    clear HO336
                    clear HO339
                    clear HO342
                    clear HO345
                    clear HO348
                    clear BK326
                    clear BK327
                    clear BK331
                    clear HB
                    have HO336 := n0_
                    have HO339 := n1_
                    have HO342 := n2_
                    have HO345 := n3_
                    have HO348 := n4_
                    have BK326 := n5_
                    have BK327 := n6_
                    have BK331 := n7_
                    have HB := n8_
                    clear n0_ n1_ n2_ n3_ n4_ n5_ n6_ n7_ n8_
                    (try clear hb)
                    (try clear hb2)
                    (try clear hk)
                    (try clear hi)
                    refine hK.out _ _ ⟨(blk_cell BK331.out 0).trans rfl, (blk_cell BK331.out 1).trans rfl, (blk_cell BK327.out 0).trans rfl, (blk_cell BK327.out 1).trans rfl⟩ (fun hHeld => ?_)
                    clear hK K
                    refine norm_ (a' := ?_) ?_ ?_
                    rotate_left
                    · show Act.put _ (some 92) _ = _
                      simp only [Act.put, List.setIfInBounds_toArray, List.set_cons_zero, List.set_cons_succ, i64_w, i32_w]
                      rfl
                    refine pz_ (i := 15) (N := some 94) bz1h_51 (any_of HT_.out (by kernel_rfl)) ?_
                    refine pz_ (i := 16) (N := some 95) bz1h_52 (any_of HT_.out (by kernel_rfl)) ?_
                    refine pz_ (i := 17) (N := some 96) bz1h_53 (any_of HT_.out (by kernel_rfl)) ?_
                    refine pu_ (i := 18) (N := some 97) bz1h_54 (any_of HT_.out (by kernel_rfl)) ?_
                    refine pu_ (i := 19) (N := some 98) bz1h_61 (any_of HT_.out (by kernel_rfl)) ?_
                    refine pu_ (i := 20) (N := some 99) bz1h_56 (any_of HT_.out (by kernel_rfl)) ?_
                    refine pu_ (i := 21) (N := some 100) bz1h_57 (any_of HT_.out (by kernel_rfl)) ?_
                    refine pu_ (i := 22) (N := some 101) bz1h_58 (any_of HT_.out (by kernel_rfl)) ?_
                    refine pz_ (i := 23) (N := some 102) bz1h_59 (any_of HT_.out (by kernel_rfl)) ?_
                    refine pz_ (i := 24) (N := some 4) bz1h_60 (any_of HT_.out (by kernel_rfl)) ?_
                    refine done_ (done_of HT_.out (by kernel_rfl)) ?_
                    try go_wp2
                    go_ret
                    exact ⟨by first | rfl | (simp [errW_none, errW_some] <;> rfl) | (simp [*, errW_none, errW_some] <;> rfl), by repeat (first | (with_reducible first | exact HB.out | apply below_alloc | apply pw_below_drewN | apply below_drew1 | refine below_set ?_ GE326.out | refine below_set ?_ GE327.out | refine below_set ?_ GE331.out) | exact HB.out)⟩
                · replace c58 := Bool.eq_false_iff.mpr c58
                  subst c58
                  have H1 : (some false) = some r := by rw [if_neg (show ¬ (false = true) by decide)] at H; exact H
                  clear H
                  have H := H1
                  clear H1
                  obtain rfl := Option.some.inj H
                  have hnb107 := NB326_327.out
                  have hnc107 := NB327_326.out
                  have hnb108 := NB326_331.out
                  have hnc108 := NB331_326.out
                  have hcz109_0 : wc.cell? ⟨gb326, 0, none⟩ = some (.int .i64 a0_0) := (blk_cell BK326.out 0).trans rfl
                  have hcz109_1 : wc.cell? ⟨gb326, 1, none⟩ = some (.int .i64 a0_1) := (blk_cell BK326.out 1).trans rfl
                  have hfz109_0 := blk_frozen BK326.out 0
                  have hfz109_1 := blk_frozen BK326.out 1
                  try go_wp2_with (first | ((with_reducible refine gate_dst (N := 70) rfl ?_); refine Kd.R_lit k23 _ 23 ?hg (N := 70) ?hd (xs := ([(⟨a0_0, a0_1⟩ : S23)] : List (S23))) (inner := [.int .i64 a0_0, .int .i64 a0_1]) (ok := fun _ => True) (okp := fun _ => True) ?hr ?hp (fun _ hk => hk) trivial (Below.refl _ _) (Nat.le_refl _) (by simp) ?_; (case hd => rfl); (case hg => rfl); (case hr => first | (go_simp; done) | (go_simp; rfl)); (case hp => exact (Reps.c2 (show Kd.M k23 _ _ _ (⟨a0_0, a0_1⟩ : S23) [.int .i64 a0_0, .int .i64 a0_1] from (k23_mkM _ _ _ (⟨a0_0, a0_1⟩ : S23) )) (Reps.none _ _))); intro v335 w110 ho111 hb hg_ hnew_; clear hg_ hnew_; (first | rw [← Ny334.out] at ho111 | (simp only [Int.reduceToNat] at ho111; rw [← Ny334.out] at ho111)); have n0_ := Aside0.mk (Kd.R_lower (Kd.R_newB (Kd.R_newB (Kd.R_newB ho111 (g := gb326) (o := .cells #[.int .i64 a0_0, .int .i64 a0_1] 23 (0, 0)) (xb BK326)) (g := gb327) (o := .cells #[.int .i64 a1_0, .int .i64 a1_1] 23 (0, 0)) (xb BK327)) (g := gb331) (o := .cells #[.int .i64 t329, .int .i64 t330] 23 (0, 0)) (xb BK331)) (below_size xq1)); have n1_ := Aside0.mk (blk_below (g := gb326) (o := .cells #[.int .i64 a0_0, .int .i64 a0_1] 23 (0, 0)) (xb BK326) hb); have n2_ := Aside0.mk (blk_below (g := gb327) (o := .cells #[.int .i64 a1_0, .int .i64 a1_1] 23 (0, 0)) (xb BK327) hb); have n3_ := Aside0.mk (blk_below (g := gb331) (o := .cells #[.int .i64 t329, .int .i64 t330] 23 (0, 0)) (xb BK331) hb); have n4_ := Aside0.mk (below_step xq1 hb); clear BK326; clear BK327; clear BK331; clear HB; have HO336 := n0_; have BK326 := n1_; have BK327 := n2_; have BK331 := n3_; have HB := n4_; clear n0_ n1_ n2_ n3_ n4_; clear hb ho111; have hnb112 := NB327_331.out; have hnc112 := NB331_327.out; have hcz113_0 : w110.cell? ⟨gb327, 0, none⟩ = some (.int .i64 a1_0) := (blk_cell BK327.out 0).trans rfl; have hcz113_1 : w110.cell? ⟨gb327, 1, none⟩ = some (.int .i64 a1_1) := (blk_cell BK327.out 1).trans rfl; have hfz113_0 := blk_frozen BK327.out 0; have hfz113_1 := blk_frozen BK327.out 1) | ((with_reducible refine gate_dst (N := 72) rfl ?_); refine Kd.R_lit k23 _ 23 ?hg (N := 72) ?hd (xs := ([(⟨a1_0, a1_1⟩ : S23)] : List (S23))) (inner := [.int .i64 a1_0, .int .i64 a1_1]) (ok := fun _ => True) (okp := fun _ => True) ?hr ?hp (fun _ hk => hk) trivial (Below.refl _ _) (Nat.le_refl _) (by simp) ?_; (case hd => rfl); (case hg => rfl); (case hr => first | (go_simp; done) | (go_simp; rfl)); (case hp => exact (Reps.c2 (show Kd.M k23 _ _ _ (⟨a1_0, a1_1⟩ : S23) [.int .i64 a1_0, .int .i64 a1_1] from (k23_mkM _ _ _ (⟨a1_0, a1_1⟩ : S23) )) (Reps.none _ _))); intro v338 w114 ho115 hb hg_ hnew_; clear hg_ hnew_; (first | rw [← Ny337.out] at ho115 | (simp only [Int.reduceToNat] at ho115; rw [← Ny337.out] at ho115)); have n0_ := Aside0.mk (Kd.R_elder' (xr HO336) (Kd.R_base ho115) hb); have n1_ := Aside0.mk (Kd.R_lower (Kd.R_newB (Kd.R_newB (Kd.R_newB (Kd.R_new' ho115 (Kd.R_lt (xr HO336))) (g := gb326) (o := .cells #[.int .i64 a0_0, .int .i64 a0_1] 23 (0, 0)) (xb BK326)) (g := gb327) (o := .cells #[.int .i64 a1_0, .int .i64 a1_1] 23 (0, 0)) (xb BK327)) (g := gb331) (o := .cells #[.int .i64 t329, .int .i64 t330] 23 (0, 0)) (xb BK331)) (below_size xq1)); have n2_ := Aside0.mk (blk_below (g := gb326) (o := .cells #[.int .i64 a0_0, .int .i64 a0_1] 23 (0, 0)) (xb BK326) hb); have n3_ := Aside0.mk (blk_below (g := gb327) (o := .cells #[.int .i64 a1_0, .int .i64 a1_1] 23 (0, 0)) (xb BK327) hb); have n4_ := Aside0.mk (blk_below (g := gb331) (o := .cells #[.int .i64 t329, .int .i64 t330] 23 (0, 0)) (xb BK331) hb); have n5_ := Aside0.mk (below_step xq1 hb); clear HO336; clear BK326; clear BK327; clear BK331; clear HB; have HO336 := n0_; have HO339 := n1_; have BK326 := n2_; have BK327 := n3_; have BK331 := n4_; have HB := n5_; clear n0_ n1_ n2_ n3_ n4_ n5_; clear hb ho115; obtain ⟨Ao116, co116, eo116⟩ := Kd.R_slice HO336.out; subst eo116; obtain ⟨Ao117, co117, eo117⟩ := Kd.R_slice HO339.out; subst eo117) | ((with_reducible refine gate_callee (f := 16) rfl ?_); refine goesL_ (some 73) rfl rfl Try.func16 (by kernel_rfl) rfl #[.slice Ao116 y334.length co116, .slice Ao117 y337.length co117] rfl xa ?_; (with_reducible refine (ival_Meet.calls _ _ y334 _ _ y337 t340 _ ?side1 ?side2 ?side3 ?side4 A52.out).mono ?_); (case side1 => repeat (first | exact (Kd.R_reads' HO336.out).2.2 | (with_reducible refine Kd.C_alloc ?_ _) | (with_reducible refine Kd.C_drewN ?_ _) | (with_reducible refine Kd.C_drew ?_))); (case side2 => exact (Kd.R_reads' HO336.out).2.1); (case side3 => repeat (first | exact (Kd.R_reads' HO339.out).2.2 | (with_reducible refine Kd.C_alloc ?_ _) | (with_reducible refine Kd.C_drewN ?_ _) | (with_reducible refine Kd.C_drew ?_))); (case side4 => exact (Kd.R_reads' HO339.out).2.1); rintro e w118 ⟨v341, rfl, ho0, hb⟩; refine ⟨_, rfl, ?_⟩; have n0_ := Aside0.mk (Kd.R_elder' (xr HO336) (Kd.R_base ho0) hb); have n1_ := Aside0.mk (Kd.R_elder' (xr HO339) (Kd.R_base ho0) hb); have n2_ := Aside0.mk (Kd.R_lower (Kd.R_newB (Kd.R_newB (Kd.R_newB (Kd.R_new' (Kd.R_new' ho0 (Kd.R_lt (xr HO336))) (Kd.R_lt (xr HO339))) (g := gb326) (o := .cells #[.int .i64 a0_0, .int .i64 a0_1] 23 (0, 0)) (xb BK326)) (g := gb327) (o := .cells #[.int .i64 a1_0, .int .i64 a1_1] 23 (0, 0)) (xb BK327)) (g := gb331) (o := .cells #[.int .i64 t329, .int .i64 t330] 23 (0, 0)) (xb BK331)) (below_size xq1)); have n3_ := Aside0.mk (blk_below (g := gb326) (o := .cells #[.int .i64 a0_0, .int .i64 a0_1] 23 (0, 0)) (xb BK326) hb); have n4_ := Aside0.mk (blk_below (g := gb327) (o := .cells #[.int .i64 a1_0, .int .i64 a1_1] 23 (0, 0)) (xb BK327) hb); have n5_ := Aside0.mk (blk_below (g := gb331) (o := .cells #[.int .i64 t329, .int .i64 t330] 23 (0, 0)) (xb BK331) hb); have n6_ := Aside0.mk (below_step xq1 hb); clear HO336; clear HO339; clear BK326; clear BK327; clear BK331; clear HB; have HO336 := n0_; have HO339 := n1_; have HO342 := n2_; have BK326 := n3_; have BK327 := n4_; have BK331 := n5_; have HB := n6_; clear n0_ n1_ n2_ n3_ n4_ n5_ n6_; (try clear hb); (try clear hb2); (try clear hk); (try clear hi); (try clear ho0); have hcz119_0 : w118.cell? ⟨gb331, 0, none⟩ = some (.int .i64 t329) := (blk_cell BK331.out 0).trans rfl; have hcz119_1 : w118.cell? ⟨gb331, 1, none⟩ = some (.int .i64 t330) := (blk_cell BK331.out 1).trans rfl; have hfz119_0 := blk_frozen BK331.out 0; have hfz119_1 := blk_frozen BK331.out 1) | ((with_reducible refine gate_dst (N := 75) rfl ?_); refine Kd.R_lit k23 _ 23 ?hg (N := 75) ?hd (xs := ([(⟨t329, t330⟩ : S23)] : List (S23))) (inner := [.int .i64 t329, .int .i64 t330]) (ok := fun _ => True) (okp := fun _ => True) ?hr ?hp (fun _ hk => hk) trivial (Below.refl _ _) (Nat.le_refl _) (by simp) ?_; (case hd => rfl); (case hg => rfl); (case hr => first | (go_simp; done) | (go_simp; rfl)); (case hp => exact (Reps.c2 (show Kd.M k23 _ _ _ (⟨t329, t330⟩ : S23) [.int .i64 t329, .int .i64 t330] from (k23_mkM _ _ _ (⟨t329, t330⟩ : S23) )) (Reps.none _ _))); intro v344 w120 ho121 hb hg_ hnew_; clear hg_ hnew_; (first | rw [← Ny343.out] at ho121 | (simp only [Int.reduceToNat] at ho121; rw [← Ny343.out] at ho121)); have n0_ := Aside0.mk (Kd.R_elder' (xr HO336) (Kd.R_base ho121) hb); have n1_ := Aside0.mk (Kd.R_elder' (xr HO339) (Kd.R_base ho121) hb); have n2_ := Aside0.mk (Kd.R_elder' (xr HO342) (Kd.R_base ho121) hb); have n3_ := Aside0.mk (Kd.R_lower (Kd.R_newB (Kd.R_newB (Kd.R_newB (Kd.R_new' (Kd.R_new' (Kd.R_new' ho121 (Kd.R_lt (xr HO336))) (Kd.R_lt (xr HO339))) (Kd.R_lt (xr HO342))) (g := gb326) (o := .cells #[.int .i64 a0_0, .int .i64 a0_1] 23 (0, 0)) (xb BK326)) (g := gb327) (o := .cells #[.int .i64 a1_0, .int .i64 a1_1] 23 (0, 0)) (xb BK327)) (g := gb331) (o := .cells #[.int .i64 t329, .int .i64 t330] 23 (0, 0)) (xb BK331)) (below_size xq1)); have n4_ := Aside0.mk (blk_below (g := gb326) (o := .cells #[.int .i64 a0_0, .int .i64 a0_1] 23 (0, 0)) (xb BK326) hb); have n5_ := Aside0.mk (blk_below (g := gb327) (o := .cells #[.int .i64 a1_0, .int .i64 a1_1] 23 (0, 0)) (xb BK327) hb); have n6_ := Aside0.mk (blk_below (g := gb331) (o := .cells #[.int .i64 t329, .int .i64 t330] 23 (0, 0)) (xb BK331) hb); have n7_ := Aside0.mk (below_step xq1 hb); clear HO336; clear HO339; clear HO342; clear BK326; clear BK327; clear BK331; clear HB; have HO336 := n0_; have HO339 := n1_; have HO342 := n2_; have HO345 := n3_; have BK326 := n4_; have BK327 := n5_; have BK331 := n6_; have HB := n7_; clear n0_ n1_ n2_ n3_ n4_ n5_ n6_ n7_; clear hb ho121; obtain ⟨Ao122, co122, eo122⟩ := Kd.R_slice HO345.out; subst eo122) | ((with_reducible refine gate_callee (f := 15) rfl ?_); refine goesL_ (some 76) rfl rfl Try.func15 (by kernel_rfl) rfl #[.slice Ao122 y343.length co122] rfl xa ?_; (with_reducible refine (ival_Normal.calls _ _ y343 t346 _ ?side1 ?side2 A53.out).mono ?_); (case side1 => repeat (first | exact (Kd.R_reads' HO345.out).2.2 | (with_reducible refine Kd.C_alloc ?_ _) | (with_reducible refine Kd.C_drewN ?_ _) | (with_reducible refine Kd.C_drew ?_))); (case side2 => exact (Kd.R_reads' HO345.out).2.1); rintro e w123 ⟨v347, rfl, ho0, hb⟩; refine ⟨_, rfl, ?_⟩; have n0_ := Aside0.mk (Kd.R_elder' (xr HO336) (Kd.R_base ho0) hb); have n1_ := Aside0.mk (Kd.R_elder' (xr HO339) (Kd.R_base ho0) hb); have n2_ := Aside0.mk (Kd.R_elder' (xr HO342) (Kd.R_base ho0) hb); have n3_ := Aside0.mk (Kd.R_elder' (xr HO345) (Kd.R_base ho0) hb); have n4_ := Aside0.mk (Kd.R_lower (Kd.R_newB (Kd.R_newB (Kd.R_newB (Kd.R_new' (Kd.R_new' (Kd.R_new' (Kd.R_new' ho0 (Kd.R_lt (xr HO336))) (Kd.R_lt (xr HO339))) (Kd.R_lt (xr HO342))) (Kd.R_lt (xr HO345))) (g := gb326) (o := .cells #[.int .i64 a0_0, .int .i64 a0_1] 23 (0, 0)) (xb BK326)) (g := gb327) (o := .cells #[.int .i64 a1_0, .int .i64 a1_1] 23 (0, 0)) (xb BK327)) (g := gb331) (o := .cells #[.int .i64 t329, .int .i64 t330] 23 (0, 0)) (xb BK331)) (below_size xq1)); have n5_ := Aside0.mk (blk_below (g := gb326) (o := .cells #[.int .i64 a0_0, .int .i64 a0_1] 23 (0, 0)) (xb BK326) hb); have n6_ := Aside0.mk (blk_below (g := gb327) (o := .cells #[.int .i64 a1_0, .int .i64 a1_1] 23 (0, 0)) (xb BK327) hb); have n7_ := Aside0.mk (blk_below (g := gb331) (o := .cells #[.int .i64 t329, .int .i64 t330] 23 (0, 0)) (xb BK331) hb); have n8_ := Aside0.mk (below_step xq1 hb); clear HO336; clear HO339; clear HO342; clear HO345; clear BK326; clear BK327; clear BK331; clear HB; have HO336 := n0_; have HO339 := n1_; have HO342 := n2_; have HO345 := n3_; have HO348 := n4_; have BK326 := n5_; have BK327 := n6_; have BK331 := n7_; have HB := n8_; clear n0_ n1_ n2_ n3_ n4_ n5_ n6_ n7_ n8_; (try clear hb); (try clear hb2); (try clear hk); (try clear hi); (try clear ho0); obtain ⟨Ao124, co124, eo124⟩ := Kd.R_slice HO348.out; subst eo124; obtain ⟨Ao125, co125, eo125⟩ := Kd.R_slice HO342.out; subst eo125) | ((with_reducible refine gate_callee (f := 20) rfl ?_); refine goesL_ (some 78) rfl rfl Try.func20 (by kernel_rfl) rfl #[.slice Ao124 t346.length co124, .slice Ao125 t340.length co125] rfl xa ?_; (with_reducible refine (spoorref06_Same.calls kj37 _ _ t346 _ _ t340 false _ ?side1 ?side2 ?side3 ?side4 A54.out).mono ?_); (case side1 => repeat (first | exact (Kd.R_reads' HO348.out).2.2 | (with_reducible refine Kd.C_alloc ?_ _) | (with_reducible refine Kd.C_drewN ?_ _) | (with_reducible refine Kd.C_drew ?_))); (case side2 => exact (Kd.R_reads' HO348.out).2.1); (case side3 => repeat (first | exact (Kd.R_reads' HO342.out).2.2 | (with_reducible refine Kd.C_alloc ?_ _) | (with_reducible refine Kd.C_drewN ?_ _) | (with_reducible refine Kd.C_drew ?_))); (case side4 => exact (Kd.R_reads' HO342.out).2.1); rintro e w' ⟨rfl, ⟨nd, rfl⟩⟩; refine ⟨_, rfl, ?_⟩))
                  (try (rw [drewN_self w123]; generalize hq_ : World.drewN w123 _ = w123; have n0_ : Aside0 (Kd.R k23 23 w123 w.heap.size (fun k_ => some k_ ≠ (.slice Ao117 y337.length co117 : Value).ownBlock ∧ some k_ ≠ (.slice Ao125 t340.length co125 : Value).ownBlock ∧ some k_ ≠ (.slice Ao122 y343.length co122 : Value).ownBlock ∧ some k_ ≠ (.slice Ao124 t346.length co124 : Value).ownBlock ∧ k_ ≠ gb326 ∧ k_ ≠ gb327 ∧ k_ ≠ gb331) (.slice Ao116 y334.length co116) y334) := ⟨by rw [← hq_]; exact (by (with_reducible repeat (first | apply Kd.R_alloc | apply Kd.R_drewN | apply Kd.R_drew)); exact Kd.R_mono HO336.out (fun _ hk => ⟨hk.1.1.1.2, ⟨hk.1.1.2, ⟨hk.1.2, ⟨hk.2, ⟨hk.1.1.1.1.1.1.2, ⟨hk.1.1.1.1.1.2, hk.1.1.1.1.2⟩⟩⟩⟩⟩⟩))⟩; have n1_ : Aside0 (Kd.R k23 23 w123 w.heap.size (fun k_ => some k_ ≠ (.slice Ao116 y334.length co116 : Value).ownBlock ∧ some k_ ≠ (.slice Ao125 t340.length co125 : Value).ownBlock ∧ some k_ ≠ (.slice Ao122 y343.length co122 : Value).ownBlock ∧ some k_ ≠ (.slice Ao124 t346.length co124 : Value).ownBlock ∧ k_ ≠ gb326 ∧ k_ ≠ gb327 ∧ k_ ≠ gb331) (.slice Ao117 y337.length co117) y337) := ⟨by rw [← hq_]; exact (by (with_reducible repeat (first | apply Kd.R_alloc | apply Kd.R_drewN | apply Kd.R_drew)); exact Kd.R_mono HO339.out (fun _ hk => ⟨hk.1.1.1.1.1.1.2, ⟨hk.1.1.2, ⟨hk.1.2, ⟨hk.2, ⟨hk.1.1.1.1.1.2, ⟨hk.1.1.1.1.2, hk.1.1.1.2⟩⟩⟩⟩⟩⟩))⟩; have n2_ : Aside0 (Kd.R k23 23 w123 w.heap.size (fun k_ => some k_ ≠ (.slice Ao116 y334.length co116 : Value).ownBlock ∧ some k_ ≠ (.slice Ao117 y337.length co117 : Value).ownBlock ∧ some k_ ≠ (.slice Ao122 y343.length co122 : Value).ownBlock ∧ some k_ ≠ (.slice Ao124 t346.length co124 : Value).ownBlock ∧ k_ ≠ gb326 ∧ k_ ≠ gb327 ∧ k_ ≠ gb331) (.slice Ao125 t340.length co125) t340) := ⟨by rw [← hq_]; exact (by (with_reducible repeat (first | apply Kd.R_alloc | apply Kd.R_drewN | apply Kd.R_drew)); exact Kd.R_mono HO342.out (fun _ hk => ⟨hk.1.1.1.1.1.1.2, ⟨hk.1.1.1.1.1.2, ⟨hk.1.2, ⟨hk.2, ⟨hk.1.1.1.1.2, ⟨hk.1.1.1.2, hk.1.1.2⟩⟩⟩⟩⟩⟩))⟩; have n3_ : Aside0 (Kd.R k23 23 w123 w.heap.size (fun k_ => some k_ ≠ (.slice Ao116 y334.length co116 : Value).ownBlock ∧ some k_ ≠ (.slice Ao117 y337.length co117 : Value).ownBlock ∧ some k_ ≠ (.slice Ao125 t340.length co125 : Value).ownBlock ∧ some k_ ≠ (.slice Ao124 t346.length co124 : Value).ownBlock ∧ k_ ≠ gb326 ∧ k_ ≠ gb327 ∧ k_ ≠ gb331) (.slice Ao122 y343.length co122) y343) := ⟨by rw [← hq_]; exact (by (with_reducible repeat (first | apply Kd.R_alloc | apply Kd.R_drewN | apply Kd.R_drew)); exact Kd.R_mono HO345.out (fun _ hk => ⟨hk.1.1.1.1.1.1.2, ⟨hk.1.1.1.1.1.2, ⟨hk.1.1.1.1.2, ⟨hk.2, ⟨hk.1.1.1.2, ⟨hk.1.1.2, hk.1.2⟩⟩⟩⟩⟩⟩))⟩; have n4_ : Aside0 (Kd.R k23 23 w123 w.heap.size (fun k_ => some k_ ≠ (.slice Ao116 y334.length co116 : Value).ownBlock ∧ some k_ ≠ (.slice Ao117 y337.length co117 : Value).ownBlock ∧ some k_ ≠ (.slice Ao125 t340.length co125 : Value).ownBlock ∧ some k_ ≠ (.slice Ao122 y343.length co122 : Value).ownBlock ∧ k_ ≠ gb326 ∧ k_ ≠ gb327 ∧ k_ ≠ gb331) (.slice Ao124 t346.length co124) t346) := ⟨by rw [← hq_]; exact (by (with_reducible repeat (first | apply Kd.R_alloc | apply Kd.R_drewN | apply Kd.R_drew)); exact Kd.R_mono HO348.out (fun _ hk => ⟨hk.1.1.1.1.1.1.2, ⟨hk.1.1.1.1.1.2, ⟨hk.1.1.1.1.2, ⟨hk.1.1.1.2, ⟨hk.1.1.2, ⟨hk.1.2, hk.2⟩⟩⟩⟩⟩⟩))⟩; have n5_ : Aside0 (w123.heap[gb326]? = some (.cells #[.int .i64 a0_0, .int .i64 a0_1] 23 (0, 0))) := ⟨by rw [← hq_]; exact (xb BK326)⟩; have n6_ : Aside0 (w123.heap[gb327]? = some (.cells #[.int .i64 a1_0, .int .i64 a1_1] 23 (0, 0))) := ⟨by rw [← hq_]; exact (xb BK327)⟩; have n7_ : Aside0 (w123.heap[gb331]? = some (.cells #[.int .i64 t329, .int .i64 t330] 23 (0, 0))) := ⟨by rw [← hq_]; exact (xb BK331)⟩; have n8_ : Aside0 (Below w.heap.size w w123) := ⟨by rw [← hq_]; exact xq1⟩; clear HO336 HO339 HO342 HO345 HO348 BK326 BK327 BK331 HB hq_; have HO336 := n0_; have HO339 := n1_; have HO342 := n2_; have HO345 := n3_; have HO348 := n4_; have BK326 := n5_; have BK327 := n6_; have BK331 := n7_; have HB := n8_; clear n0_ n1_ n2_ n3_ n4_ n5_ n6_ n7_ n8_))
                  have n0_ := Aside0.mk (Kd.R_drew HO336.out)
                  have n1_ := Aside0.mk (Kd.R_drew HO339.out)
                  have n2_ := Aside0.mk (Kd.R_drew HO342.out)
                  have n3_ := Aside0.mk (Kd.R_drew HO345.out)
                  have n4_ := Aside0.mk (Kd.R_drew HO348.out)
                  have n5_ := Aside0.mk (blk_drew BK326.out)
                  have n6_ := Aside0.mk (blk_drew BK327.out)
                  have n7_ := Aside0.mk (blk_drew BK331.out)
                  have n8_ := Aside0.mk (below_drew1 HB.out)
                  clear HO336
                  clear HO339
                  clear HO342
                  clear HO345
                  clear HO348
                  clear BK326
                  clear BK327
                  clear BK331
                  clear HB
                  have HO336 := n0_
                  have HO339 := n1_
                  have HO342 := n2_
                  have HO345 := n3_
                  have HO348 := n4_
                  have BK326 := n5_
                  have BK327 := n6_
                  have BK331 := n7_
                  have HB := n8_
                  clear n0_ n1_ n2_ n3_ n4_ n5_ n6_ n7_ n8_
                  refine start_ (n := 25) (S := fun w' => True) (ds := []) bz1h_35 (by kernel_rfl) rfl rfl trivial (fun hHeld => ?_); refine with_tabW spoorlaw06_IvalCut.tab7 spoorlaw06_IvalCut.bits7 (fun HT_ HW_ => ?_)
                  generalize w123.drew = w126 at HO336 HO339 HO342 HO345 HO348 BK326 BK327 BK331 HB hHeld ⊢
                  refine pz_ (i := 0) (N := some 79) bz1h_36 (any_of HT_.out (by kernel_rfl)) ?_
                  refine pz_ (i := 1) (N := some 80) bz1h_37 (any_of HT_.out (by kernel_rfl)) ?_
                  refine pz_ (i := 2) (N := some 81) bz1h_38 (any_of HT_.out (by kernel_rfl)) ?_
                  refine pz_ (i := 3) (N := some 82) bz1h_39 (any_of HT_.out (by kernel_rfl)) ?_
                  refine pz_ (i := 4) (N := some 83) bz1h_40 (any_of HT_.out (by kernel_rfl)) ?_
                  refine pz_ (i := 5) (N := some 84) bz1h_41 (any_of HT_.out (by kernel_rfl)) ?_
                  refine pz_ (i := 6) (N := some 85) bz1h_42 (any_of HT_.out (by kernel_rfl)) ?_
                  refine pz_ (i := 7) (N := some 86) bz1h_43 (any_of HT_.out (by kernel_rfl)) ?_
                  refine pz_ (i := 8) (N := some 87) bz1h_44 (any_of HT_.out (by kernel_rfl)) ?_
                  refine pz_ (i := 9) (N := some 88) bz1h_45 (any_of HT_.out (by kernel_rfl)) ?_
                  refine pz_ (i := 10) (N := some 89) bz1h_46 (any_of HT_.out (by kernel_rfl)) ?_
                  refine pu_ (i := 11) (N := some 90) bz1h_47 (any_of HT_.out (by kernel_rfl)) ?_
                  refine pu_ (i := 12) (N := some 91) bz1h_48 (any_of HT_.out (by kernel_rfl)) ?_
                  refine pu_ (i := 13) (N := some 92) bz1h_62 (any_of HT_.out (by kernel_rfl)) ?_
                  refine pu_ (i := 14) (N := some 93) bz1h_50 (any_of HT_.out (by kernel_rfl)) ?_
                  refine pu_ (i := 15) (N := some 94) bz1h_51 (any_of HT_.out (by kernel_rfl)) ?_
                  refine pz_ (i := 16) (N := some 95) bz1h_52 (any_of HT_.out (by kernel_rfl)) ?_
                  refine pz_ (i := 17) (N := some 96) bz1h_53 (any_of HT_.out (by kernel_rfl)) ?_
                  refine pu_ (i := 18) (N := some 97) bz1h_54 (any_of HT_.out (by kernel_rfl)) ?_
                  refine pu_ (i := 19) (N := some 98) bz1h_61 (any_of HT_.out (by kernel_rfl)) ?_
                  refine pu_ (i := 20) (N := some 99) bz1h_56 (any_of HT_.out (by kernel_rfl)) ?_
                  refine pu_ (i := 21) (N := some 100) bz1h_57 (any_of HT_.out (by kernel_rfl)) ?_
                  refine pu_ (i := 22) (N := some 101) bz1h_58 (any_of HT_.out (by kernel_rfl)) ?_
                  refine pz_ (i := 23) (N := some 102) bz1h_59 (any_of HT_.out (by kernel_rfl)) ?_
                  refine pz_ (i := 24) (N := some 4) bz1h_60 (any_of HT_.out (by kernel_rfl)) ?_
                  refine done_ (done_of HT_.out (by kernel_rfl)) ?_
                  try go_wp2
                  go_ret
                  exact ⟨by first | rfl | (simp [errW_none, errW_some] <;> rfl) | (simp [*, errW_none, errW_some] <;> rfl), by repeat (first | (with_reducible first | exact HB.out | apply below_alloc | apply pw_below_drewN | apply below_drew1 | refine below_set ?_ GE326.out | refine below_set ?_ GE327.out | refine below_set ?_ GE331.out) | exact HB.out)⟩
              · replace c57 := Bool.eq_false_iff.mpr c57
                subst c57
                have H1 : (some false) = some r := by rw [if_neg (show ¬ (false = true) by decide)] at H; exact H
                clear H
                have H := H1
                clear H1
                obtain rfl := Option.some.inj H
                have hnb127 := NB326_327.out
                have hnc127 := NB327_326.out
                have hnb128 := NB326_331.out
                have hnc128 := NB331_326.out
                have hcz129_0 : wc.cell? ⟨gb326, 0, none⟩ = some (.int .i64 a0_0) := (blk_cell BK326.out 0).trans rfl
                have hcz129_1 : wc.cell? ⟨gb326, 1, none⟩ = some (.int .i64 a0_1) := (blk_cell BK326.out 1).trans rfl
                have hfz129_0 := blk_frozen BK326.out 0
                have hfz129_1 := blk_frozen BK326.out 1
                try go_wp2_with (first | ((with_reducible refine gate_dst (N := 70) rfl ?_); refine Kd.R_lit k23 _ 23 ?hg (N := 70) ?hd (xs := ([(⟨a0_0, a0_1⟩ : S23)] : List (S23))) (inner := [.int .i64 a0_0, .int .i64 a0_1]) (ok := fun _ => True) (okp := fun _ => True) ?hr ?hp (fun _ hk => hk) trivial (Below.refl _ _) (Nat.le_refl _) (by simp) ?_; (case hd => rfl); (case hg => rfl); (case hr => first | (go_simp; done) | (go_simp; rfl)); (case hp => exact (Reps.c2 (show Kd.M k23 _ _ _ (⟨a0_0, a0_1⟩ : S23) [.int .i64 a0_0, .int .i64 a0_1] from (k23_mkM _ _ _ (⟨a0_0, a0_1⟩ : S23) )) (Reps.none _ _))); intro v335 w130 ho131 hb hg_ hnew_; clear hg_ hnew_; (first | rw [← Ny334.out] at ho131 | (simp only [Int.reduceToNat] at ho131; rw [← Ny334.out] at ho131)); have n0_ := Aside0.mk (Kd.R_lower (Kd.R_newB (Kd.R_newB (Kd.R_newB ho131 (g := gb326) (o := .cells #[.int .i64 a0_0, .int .i64 a0_1] 23 (0, 0)) (xb BK326)) (g := gb327) (o := .cells #[.int .i64 a1_0, .int .i64 a1_1] 23 (0, 0)) (xb BK327)) (g := gb331) (o := .cells #[.int .i64 t329, .int .i64 t330] 23 (0, 0)) (xb BK331)) (below_size xq1)); have n1_ := Aside0.mk (blk_below (g := gb326) (o := .cells #[.int .i64 a0_0, .int .i64 a0_1] 23 (0, 0)) (xb BK326) hb); have n2_ := Aside0.mk (blk_below (g := gb327) (o := .cells #[.int .i64 a1_0, .int .i64 a1_1] 23 (0, 0)) (xb BK327) hb); have n3_ := Aside0.mk (blk_below (g := gb331) (o := .cells #[.int .i64 t329, .int .i64 t330] 23 (0, 0)) (xb BK331) hb); have n4_ := Aside0.mk (below_step xq1 hb); clear BK326; clear BK327; clear BK331; clear HB; have HO336 := n0_; have BK326 := n1_; have BK327 := n2_; have BK331 := n3_; have HB := n4_; clear n0_ n1_ n2_ n3_ n4_; clear hb ho131; have hnb132 := NB327_331.out; have hnc132 := NB331_327.out; have hcz133_0 : w130.cell? ⟨gb327, 0, none⟩ = some (.int .i64 a1_0) := (blk_cell BK327.out 0).trans rfl; have hcz133_1 : w130.cell? ⟨gb327, 1, none⟩ = some (.int .i64 a1_1) := (blk_cell BK327.out 1).trans rfl; have hfz133_0 := blk_frozen BK327.out 0; have hfz133_1 := blk_frozen BK327.out 1) | ((with_reducible refine gate_dst (N := 72) rfl ?_); refine Kd.R_lit k23 _ 23 ?hg (N := 72) ?hd (xs := ([(⟨a1_0, a1_1⟩ : S23)] : List (S23))) (inner := [.int .i64 a1_0, .int .i64 a1_1]) (ok := fun _ => True) (okp := fun _ => True) ?hr ?hp (fun _ hk => hk) trivial (Below.refl _ _) (Nat.le_refl _) (by simp) ?_; (case hd => rfl); (case hg => rfl); (case hr => first | (go_simp; done) | (go_simp; rfl)); (case hp => exact (Reps.c2 (show Kd.M k23 _ _ _ (⟨a1_0, a1_1⟩ : S23) [.int .i64 a1_0, .int .i64 a1_1] from (k23_mkM _ _ _ (⟨a1_0, a1_1⟩ : S23) )) (Reps.none _ _))); intro v338 w134 ho135 hb hg_ hnew_; clear hg_ hnew_; (first | rw [← Ny337.out] at ho135 | (simp only [Int.reduceToNat] at ho135; rw [← Ny337.out] at ho135)); have n0_ := Aside0.mk (Kd.R_elder' (xr HO336) (Kd.R_base ho135) hb); have n1_ := Aside0.mk (Kd.R_lower (Kd.R_newB (Kd.R_newB (Kd.R_newB (Kd.R_new' ho135 (Kd.R_lt (xr HO336))) (g := gb326) (o := .cells #[.int .i64 a0_0, .int .i64 a0_1] 23 (0, 0)) (xb BK326)) (g := gb327) (o := .cells #[.int .i64 a1_0, .int .i64 a1_1] 23 (0, 0)) (xb BK327)) (g := gb331) (o := .cells #[.int .i64 t329, .int .i64 t330] 23 (0, 0)) (xb BK331)) (below_size xq1)); have n2_ := Aside0.mk (blk_below (g := gb326) (o := .cells #[.int .i64 a0_0, .int .i64 a0_1] 23 (0, 0)) (xb BK326) hb); have n3_ := Aside0.mk (blk_below (g := gb327) (o := .cells #[.int .i64 a1_0, .int .i64 a1_1] 23 (0, 0)) (xb BK327) hb); have n4_ := Aside0.mk (blk_below (g := gb331) (o := .cells #[.int .i64 t329, .int .i64 t330] 23 (0, 0)) (xb BK331) hb); have n5_ := Aside0.mk (below_step xq1 hb); clear HO336; clear BK326; clear BK327; clear BK331; clear HB; have HO336 := n0_; have HO339 := n1_; have BK326 := n2_; have BK327 := n3_; have BK331 := n4_; have HB := n5_; clear n0_ n1_ n2_ n3_ n4_ n5_; clear hb ho135; obtain ⟨Ao136, co136, eo136⟩ := Kd.R_slice HO336.out; subst eo136; obtain ⟨Ao137, co137, eo137⟩ := Kd.R_slice HO339.out; subst eo137) | ((with_reducible refine gate_callee (f := 16) rfl ?_); refine goesL_ (some 73) rfl rfl Try.func16 (by kernel_rfl) rfl #[.slice Ao136 y334.length co136, .slice Ao137 y337.length co137] rfl xa ?_; (with_reducible refine (ival_Meet.calls _ _ y334 _ _ y337 t340 _ ?side1 ?side2 ?side3 ?side4 A52.out).mono ?_); (case side1 => repeat (first | exact (Kd.R_reads' HO336.out).2.2 | (with_reducible refine Kd.C_alloc ?_ _) | (with_reducible refine Kd.C_drewN ?_ _) | (with_reducible refine Kd.C_drew ?_))); (case side2 => exact (Kd.R_reads' HO336.out).2.1); (case side3 => repeat (first | exact (Kd.R_reads' HO339.out).2.2 | (with_reducible refine Kd.C_alloc ?_ _) | (with_reducible refine Kd.C_drewN ?_ _) | (with_reducible refine Kd.C_drew ?_))); (case side4 => exact (Kd.R_reads' HO339.out).2.1); rintro e w138 ⟨v341, rfl, ho0, hb⟩; refine ⟨_, rfl, ?_⟩; have n0_ := Aside0.mk (Kd.R_elder' (xr HO336) (Kd.R_base ho0) hb); have n1_ := Aside0.mk (Kd.R_elder' (xr HO339) (Kd.R_base ho0) hb); have n2_ := Aside0.mk (Kd.R_lower (Kd.R_newB (Kd.R_newB (Kd.R_newB (Kd.R_new' (Kd.R_new' ho0 (Kd.R_lt (xr HO336))) (Kd.R_lt (xr HO339))) (g := gb326) (o := .cells #[.int .i64 a0_0, .int .i64 a0_1] 23 (0, 0)) (xb BK326)) (g := gb327) (o := .cells #[.int .i64 a1_0, .int .i64 a1_1] 23 (0, 0)) (xb BK327)) (g := gb331) (o := .cells #[.int .i64 t329, .int .i64 t330] 23 (0, 0)) (xb BK331)) (below_size xq1)); have n3_ := Aside0.mk (blk_below (g := gb326) (o := .cells #[.int .i64 a0_0, .int .i64 a0_1] 23 (0, 0)) (xb BK326) hb); have n4_ := Aside0.mk (blk_below (g := gb327) (o := .cells #[.int .i64 a1_0, .int .i64 a1_1] 23 (0, 0)) (xb BK327) hb); have n5_ := Aside0.mk (blk_below (g := gb331) (o := .cells #[.int .i64 t329, .int .i64 t330] 23 (0, 0)) (xb BK331) hb); have n6_ := Aside0.mk (below_step xq1 hb); clear HO336; clear HO339; clear BK326; clear BK327; clear BK331; clear HB; have HO336 := n0_; have HO339 := n1_; have HO342 := n2_; have BK326 := n3_; have BK327 := n4_; have BK331 := n5_; have HB := n6_; clear n0_ n1_ n2_ n3_ n4_ n5_ n6_; (try clear hb); (try clear hb2); (try clear hk); (try clear hi); (try clear ho0); have hcz139_0 : w138.cell? ⟨gb331, 0, none⟩ = some (.int .i64 t329) := (blk_cell BK331.out 0).trans rfl; have hcz139_1 : w138.cell? ⟨gb331, 1, none⟩ = some (.int .i64 t330) := (blk_cell BK331.out 1).trans rfl; have hfz139_0 := blk_frozen BK331.out 0; have hfz139_1 := blk_frozen BK331.out 1) | ((with_reducible refine gate_dst (N := 75) rfl ?_); refine Kd.R_lit k23 _ 23 ?hg (N := 75) ?hd (xs := ([(⟨t329, t330⟩ : S23)] : List (S23))) (inner := [.int .i64 t329, .int .i64 t330]) (ok := fun _ => True) (okp := fun _ => True) ?hr ?hp (fun _ hk => hk) trivial (Below.refl _ _) (Nat.le_refl _) (by simp) ?_; (case hd => rfl); (case hg => rfl); (case hr => first | (go_simp; done) | (go_simp; rfl)); (case hp => exact (Reps.c2 (show Kd.M k23 _ _ _ (⟨t329, t330⟩ : S23) [.int .i64 t329, .int .i64 t330] from (k23_mkM _ _ _ (⟨t329, t330⟩ : S23) )) (Reps.none _ _))); intro v344 w140 ho141 hb hg_ hnew_; clear hg_ hnew_; (first | rw [← Ny343.out] at ho141 | (simp only [Int.reduceToNat] at ho141; rw [← Ny343.out] at ho141)); have n0_ := Aside0.mk (Kd.R_elder' (xr HO336) (Kd.R_base ho141) hb); have n1_ := Aside0.mk (Kd.R_elder' (xr HO339) (Kd.R_base ho141) hb); have n2_ := Aside0.mk (Kd.R_elder' (xr HO342) (Kd.R_base ho141) hb); have n3_ := Aside0.mk (Kd.R_lower (Kd.R_newB (Kd.R_newB (Kd.R_newB (Kd.R_new' (Kd.R_new' (Kd.R_new' ho141 (Kd.R_lt (xr HO336))) (Kd.R_lt (xr HO339))) (Kd.R_lt (xr HO342))) (g := gb326) (o := .cells #[.int .i64 a0_0, .int .i64 a0_1] 23 (0, 0)) (xb BK326)) (g := gb327) (o := .cells #[.int .i64 a1_0, .int .i64 a1_1] 23 (0, 0)) (xb BK327)) (g := gb331) (o := .cells #[.int .i64 t329, .int .i64 t330] 23 (0, 0)) (xb BK331)) (below_size xq1)); have n4_ := Aside0.mk (blk_below (g := gb326) (o := .cells #[.int .i64 a0_0, .int .i64 a0_1] 23 (0, 0)) (xb BK326) hb); have n5_ := Aside0.mk (blk_below (g := gb327) (o := .cells #[.int .i64 a1_0, .int .i64 a1_1] 23 (0, 0)) (xb BK327) hb); have n6_ := Aside0.mk (blk_below (g := gb331) (o := .cells #[.int .i64 t329, .int .i64 t330] 23 (0, 0)) (xb BK331) hb); have n7_ := Aside0.mk (below_step xq1 hb); clear HO336; clear HO339; clear HO342; clear BK326; clear BK327; clear BK331; clear HB; have HO336 := n0_; have HO339 := n1_; have HO342 := n2_; have HO345 := n3_; have BK326 := n4_; have BK327 := n5_; have BK331 := n6_; have HB := n7_; clear n0_ n1_ n2_ n3_ n4_ n5_ n6_ n7_; clear hb ho141; obtain ⟨Ao142, co142, eo142⟩ := Kd.R_slice HO345.out; subst eo142) | ((with_reducible refine gate_callee (f := 15) rfl ?_); refine goesL_ (some 76) rfl rfl Try.func15 (by kernel_rfl) rfl #[.slice Ao142 y343.length co142] rfl xa ?_; (with_reducible refine (ival_Normal.calls _ _ y343 t346 _ ?side1 ?side2 A53.out).mono ?_); (case side1 => repeat (first | exact (Kd.R_reads' HO345.out).2.2 | (with_reducible refine Kd.C_alloc ?_ _) | (with_reducible refine Kd.C_drewN ?_ _) | (with_reducible refine Kd.C_drew ?_))); (case side2 => exact (Kd.R_reads' HO345.out).2.1); rintro e w143 ⟨v347, rfl, ho0, hb⟩; refine ⟨_, rfl, ?_⟩; have n0_ := Aside0.mk (Kd.R_elder' (xr HO336) (Kd.R_base ho0) hb); have n1_ := Aside0.mk (Kd.R_elder' (xr HO339) (Kd.R_base ho0) hb); have n2_ := Aside0.mk (Kd.R_elder' (xr HO342) (Kd.R_base ho0) hb); have n3_ := Aside0.mk (Kd.R_elder' (xr HO345) (Kd.R_base ho0) hb); have n4_ := Aside0.mk (Kd.R_lower (Kd.R_newB (Kd.R_newB (Kd.R_newB (Kd.R_new' (Kd.R_new' (Kd.R_new' (Kd.R_new' ho0 (Kd.R_lt (xr HO336))) (Kd.R_lt (xr HO339))) (Kd.R_lt (xr HO342))) (Kd.R_lt (xr HO345))) (g := gb326) (o := .cells #[.int .i64 a0_0, .int .i64 a0_1] 23 (0, 0)) (xb BK326)) (g := gb327) (o := .cells #[.int .i64 a1_0, .int .i64 a1_1] 23 (0, 0)) (xb BK327)) (g := gb331) (o := .cells #[.int .i64 t329, .int .i64 t330] 23 (0, 0)) (xb BK331)) (below_size xq1)); have n5_ := Aside0.mk (blk_below (g := gb326) (o := .cells #[.int .i64 a0_0, .int .i64 a0_1] 23 (0, 0)) (xb BK326) hb); have n6_ := Aside0.mk (blk_below (g := gb327) (o := .cells #[.int .i64 a1_0, .int .i64 a1_1] 23 (0, 0)) (xb BK327) hb); have n7_ := Aside0.mk (blk_below (g := gb331) (o := .cells #[.int .i64 t329, .int .i64 t330] 23 (0, 0)) (xb BK331) hb); have n8_ := Aside0.mk (below_step xq1 hb); clear HO336; clear HO339; clear HO342; clear HO345; clear BK326; clear BK327; clear BK331; clear HB; have HO336 := n0_; have HO339 := n1_; have HO342 := n2_; have HO345 := n3_; have HO348 := n4_; have BK326 := n5_; have BK327 := n6_; have BK331 := n7_; have HB := n8_; clear n0_ n1_ n2_ n3_ n4_ n5_ n6_ n7_ n8_; (try clear hb); (try clear hb2); (try clear hk); (try clear hi); (try clear ho0); obtain ⟨Ao144, co144, eo144⟩ := Kd.R_slice HO348.out; subst eo144; obtain ⟨Ao145, co145, eo145⟩ := Kd.R_slice HO342.out; subst eo145) | ((with_reducible refine gate_callee (f := 20) rfl ?_); refine goesL_ (some 78) rfl rfl Try.func20 (by kernel_rfl) rfl #[.slice Ao144 t346.length co144, .slice Ao145 t340.length co145] rfl xa ?_; (with_reducible refine (spoorref06_Same.calls kj37 _ _ t346 _ _ t340 t349 _ ?side1 ?side2 ?side3 ?side4 A54.out).mono ?_); (case side1 => repeat (first | exact (Kd.R_reads' HO348.out).2.2 | (with_reducible refine Kd.C_alloc ?_ _) | (with_reducible refine Kd.C_drewN ?_ _) | (with_reducible refine Kd.C_drew ?_))); (case side2 => exact (Kd.R_reads' HO348.out).2.1); (case side3 => repeat (first | exact (Kd.R_reads' HO342.out).2.2 | (with_reducible refine Kd.C_alloc ?_ _) | (with_reducible refine Kd.C_drewN ?_ _) | (with_reducible refine Kd.C_drew ?_))); (case side4 => exact (Kd.R_reads' HO342.out).2.1); rintro e w' ⟨rfl, ⟨nd, rfl⟩⟩; refine ⟨_, rfl, ?_⟩))
                (try (rw [drewN_self w143]; generalize hq_ : World.drewN w143 _ = w143; have n0_ : Aside0 (Kd.R k23 23 w143 w.heap.size (fun k_ => some k_ ≠ (.slice Ao137 y337.length co137 : Value).ownBlock ∧ some k_ ≠ (.slice Ao145 t340.length co145 : Value).ownBlock ∧ some k_ ≠ (.slice Ao142 y343.length co142 : Value).ownBlock ∧ some k_ ≠ (.slice Ao144 t346.length co144 : Value).ownBlock ∧ k_ ≠ gb326 ∧ k_ ≠ gb327 ∧ k_ ≠ gb331) (.slice Ao136 y334.length co136) y334) := ⟨by rw [← hq_]; exact (by (with_reducible repeat (first | apply Kd.R_alloc | apply Kd.R_drewN | apply Kd.R_drew)); exact Kd.R_mono HO336.out (fun _ hk => ⟨hk.1.1.1.2, ⟨hk.1.1.2, ⟨hk.1.2, ⟨hk.2, ⟨hk.1.1.1.1.1.1.2, ⟨hk.1.1.1.1.1.2, hk.1.1.1.1.2⟩⟩⟩⟩⟩⟩))⟩; have n1_ : Aside0 (Kd.R k23 23 w143 w.heap.size (fun k_ => some k_ ≠ (.slice Ao136 y334.length co136 : Value).ownBlock ∧ some k_ ≠ (.slice Ao145 t340.length co145 : Value).ownBlock ∧ some k_ ≠ (.slice Ao142 y343.length co142 : Value).ownBlock ∧ some k_ ≠ (.slice Ao144 t346.length co144 : Value).ownBlock ∧ k_ ≠ gb326 ∧ k_ ≠ gb327 ∧ k_ ≠ gb331) (.slice Ao137 y337.length co137) y337) := ⟨by rw [← hq_]; exact (by (with_reducible repeat (first | apply Kd.R_alloc | apply Kd.R_drewN | apply Kd.R_drew)); exact Kd.R_mono HO339.out (fun _ hk => ⟨hk.1.1.1.1.1.1.2, ⟨hk.1.1.2, ⟨hk.1.2, ⟨hk.2, ⟨hk.1.1.1.1.1.2, ⟨hk.1.1.1.1.2, hk.1.1.1.2⟩⟩⟩⟩⟩⟩))⟩; have n2_ : Aside0 (Kd.R k23 23 w143 w.heap.size (fun k_ => some k_ ≠ (.slice Ao136 y334.length co136 : Value).ownBlock ∧ some k_ ≠ (.slice Ao137 y337.length co137 : Value).ownBlock ∧ some k_ ≠ (.slice Ao142 y343.length co142 : Value).ownBlock ∧ some k_ ≠ (.slice Ao144 t346.length co144 : Value).ownBlock ∧ k_ ≠ gb326 ∧ k_ ≠ gb327 ∧ k_ ≠ gb331) (.slice Ao145 t340.length co145) t340) := ⟨by rw [← hq_]; exact (by (with_reducible repeat (first | apply Kd.R_alloc | apply Kd.R_drewN | apply Kd.R_drew)); exact Kd.R_mono HO342.out (fun _ hk => ⟨hk.1.1.1.1.1.1.2, ⟨hk.1.1.1.1.1.2, ⟨hk.1.2, ⟨hk.2, ⟨hk.1.1.1.1.2, ⟨hk.1.1.1.2, hk.1.1.2⟩⟩⟩⟩⟩⟩))⟩; have n3_ : Aside0 (Kd.R k23 23 w143 w.heap.size (fun k_ => some k_ ≠ (.slice Ao136 y334.length co136 : Value).ownBlock ∧ some k_ ≠ (.slice Ao137 y337.length co137 : Value).ownBlock ∧ some k_ ≠ (.slice Ao145 t340.length co145 : Value).ownBlock ∧ some k_ ≠ (.slice Ao144 t346.length co144 : Value).ownBlock ∧ k_ ≠ gb326 ∧ k_ ≠ gb327 ∧ k_ ≠ gb331) (.slice Ao142 y343.length co142) y343) := ⟨by rw [← hq_]; exact (by (with_reducible repeat (first | apply Kd.R_alloc | apply Kd.R_drewN | apply Kd.R_drew)); exact Kd.R_mono HO345.out (fun _ hk => ⟨hk.1.1.1.1.1.1.2, ⟨hk.1.1.1.1.1.2, ⟨hk.1.1.1.1.2, ⟨hk.2, ⟨hk.1.1.1.2, ⟨hk.1.1.2, hk.1.2⟩⟩⟩⟩⟩⟩))⟩; have n4_ : Aside0 (Kd.R k23 23 w143 w.heap.size (fun k_ => some k_ ≠ (.slice Ao136 y334.length co136 : Value).ownBlock ∧ some k_ ≠ (.slice Ao137 y337.length co137 : Value).ownBlock ∧ some k_ ≠ (.slice Ao145 t340.length co145 : Value).ownBlock ∧ some k_ ≠ (.slice Ao142 y343.length co142 : Value).ownBlock ∧ k_ ≠ gb326 ∧ k_ ≠ gb327 ∧ k_ ≠ gb331) (.slice Ao144 t346.length co144) t346) := ⟨by rw [← hq_]; exact (by (with_reducible repeat (first | apply Kd.R_alloc | apply Kd.R_drewN | apply Kd.R_drew)); exact Kd.R_mono HO348.out (fun _ hk => ⟨hk.1.1.1.1.1.1.2, ⟨hk.1.1.1.1.1.2, ⟨hk.1.1.1.1.2, ⟨hk.1.1.1.2, ⟨hk.1.1.2, ⟨hk.1.2, hk.2⟩⟩⟩⟩⟩⟩))⟩; have n5_ : Aside0 (w143.heap[gb326]? = some (.cells #[.int .i64 a0_0, .int .i64 a0_1] 23 (0, 0))) := ⟨by rw [← hq_]; exact (xb BK326)⟩; have n6_ : Aside0 (w143.heap[gb327]? = some (.cells #[.int .i64 a1_0, .int .i64 a1_1] 23 (0, 0))) := ⟨by rw [← hq_]; exact (xb BK327)⟩; have n7_ : Aside0 (w143.heap[gb331]? = some (.cells #[.int .i64 t329, .int .i64 t330] 23 (0, 0))) := ⟨by rw [← hq_]; exact (xb BK331)⟩; have n8_ : Aside0 (Below w.heap.size w w143) := ⟨by rw [← hq_]; exact xq1⟩; clear HO336 HO339 HO342 HO345 HO348 BK326 BK327 BK331 HB hq_; have HO336 := n0_; have HO339 := n1_; have HO342 := n2_; have HO345 := n3_; have HO348 := n4_; have BK326 := n5_; have BK327 := n6_; have BK331 := n7_; have HB := n8_; clear n0_ n1_ n2_ n3_ n4_ n5_ n6_ n7_ n8_))
                have n0_ := Aside0.mk (Kd.R_drew HO336.out)
                have n1_ := Aside0.mk (Kd.R_drew HO339.out)
                have n2_ := Aside0.mk (Kd.R_drew HO342.out)
                have n3_ := Aside0.mk (Kd.R_drew HO345.out)
                have n4_ := Aside0.mk (Kd.R_drew HO348.out)
                have n5_ := Aside0.mk (blk_drew BK326.out)
                have n6_ := Aside0.mk (blk_drew BK327.out)
                have n7_ := Aside0.mk (blk_drew BK331.out)
                have n8_ := Aside0.mk (below_drew1 HB.out)
                clear HO336
                clear HO339
                clear HO342
                clear HO345
                clear HO348
                clear BK326
                clear BK327
                clear BK331
                clear HB
                have HO336 := n0_
                have HO339 := n1_
                have HO342 := n2_
                have HO345 := n3_
                have HO348 := n4_
                have BK326 := n5_
                have BK327 := n6_
                have BK331 := n7_
                have HB := n8_
                clear n0_ n1_ n2_ n3_ n4_ n5_ n6_ n7_ n8_
                refine start_ (n := 25) (S := fun w' => True) (ds := []) bz1h_35 (by kernel_rfl) rfl rfl trivial (fun hHeld => ?_); refine with_tabW spoorlaw06_IvalCut.tab7 spoorlaw06_IvalCut.bits7 (fun HT_ HW_ => ?_)
                generalize w143.drew = w146 at HO336 HO339 HO342 HO345 HO348 BK326 BK327 BK331 HB hHeld ⊢
                refine pz_ (i := 0) (N := some 79) bz1h_36 (any_of HT_.out (by kernel_rfl)) ?_
                refine pz_ (i := 1) (N := some 80) bz1h_37 (any_of HT_.out (by kernel_rfl)) ?_
                refine pz_ (i := 2) (N := some 81) bz1h_38 (any_of HT_.out (by kernel_rfl)) ?_
                refine pz_ (i := 3) (N := some 82) bz1h_39 (any_of HT_.out (by kernel_rfl)) ?_
                refine pz_ (i := 4) (N := some 83) bz1h_40 (any_of HT_.out (by kernel_rfl)) ?_
                refine pz_ (i := 5) (N := some 84) bz1h_41 (any_of HT_.out (by kernel_rfl)) ?_
                refine pz_ (i := 6) (N := some 85) bz1h_42 (any_of HT_.out (by kernel_rfl)) ?_
                refine pz_ (i := 7) (N := some 86) bz1h_43 (any_of HT_.out (by kernel_rfl)) ?_
                refine pu_ (i := 8) (N := some 87) bz1h_44 (any_of HT_.out (by kernel_rfl)) ?_
                refine pz_ (i := 9) (N := some 88) bz1h_45 (any_of HT_.out (by kernel_rfl)) ?_
                refine pz_ (i := 10) (N := some 89) bz1h_46 (any_of HT_.out (by kernel_rfl)) ?_
                refine pu_ (i := 11) (N := some 90) bz1h_47 (any_of HT_.out (by kernel_rfl)) ?_
                refine pu_ (i := 12) (N := some 91) bz1h_48 (any_of HT_.out (by kernel_rfl)) ?_
                refine pu_ (i := 13) (N := some 92) bz1h_62 (any_of HT_.out (by kernel_rfl)) ?_
                refine pu_ (i := 14) (N := some 93) bz1h_50 (any_of HT_.out (by kernel_rfl)) ?_
                refine pu_ (i := 15) (N := some 94) bz1h_51 (any_of HT_.out (by kernel_rfl)) ?_
                refine pz_ (i := 16) (N := some 95) bz1h_52 (any_of HT_.out (by kernel_rfl)) ?_
                refine pz_ (i := 17) (N := some 96) bz1h_53 (any_of HT_.out (by kernel_rfl)) ?_
                refine pu_ (i := 18) (N := some 97) bz1h_54 (any_of HT_.out (by kernel_rfl)) ?_
                refine pu_ (i := 19) (N := some 98) bz1h_61 (any_of HT_.out (by kernel_rfl)) ?_
                refine pu_ (i := 20) (N := some 99) bz1h_56 (any_of HT_.out (by kernel_rfl)) ?_
                refine pu_ (i := 21) (N := some 100) bz1h_57 (any_of HT_.out (by kernel_rfl)) ?_
                refine pu_ (i := 22) (N := some 101) bz1h_58 (any_of HT_.out (by kernel_rfl)) ?_
                refine pz_ (i := 23) (N := some 102) bz1h_59 (any_of HT_.out (by kernel_rfl)) ?_
                refine pz_ (i := 24) (N := some 4) bz1h_60 (any_of HT_.out (by kernel_rfl)) ?_
                refine done_ (done_of HT_.out (by kernel_rfl)) ?_
                try go_wp2
                go_ret
                exact ⟨by first | rfl | (simp [errW_none, errW_some] <;> rfl) | (simp [*, errW_none, errW_some] <;> rfl), by repeat (first | (with_reducible first | exact HB.out | apply below_alloc | apply pw_below_drewN | apply below_drew1 | refine below_set ?_ GE326.out | refine below_set ?_ GE327.out | refine below_set ?_ GE331.out) | exact HB.out)⟩
            · replace c56 := Bool.eq_false_iff.mpr c56
              subst c56
              have H1 : (some false) = some r := by rw [if_neg (show ¬ (false = true) by decide)] at H; exact H
              clear H
              have H := H1
              clear H1
              obtain rfl := Option.some.inj H
              have hnb147 := NB326_327.out
              have hnc147 := NB327_326.out
              have hnb148 := NB326_331.out
              have hnc148 := NB331_326.out
              have hcz149_0 : wc.cell? ⟨gb326, 0, none⟩ = some (.int .i64 a0_0) := (blk_cell BK326.out 0).trans rfl
              have hcz149_1 : wc.cell? ⟨gb326, 1, none⟩ = some (.int .i64 a0_1) := (blk_cell BK326.out 1).trans rfl
              have hfz149_0 := blk_frozen BK326.out 0
              have hfz149_1 := blk_frozen BK326.out 1
              try go_wp2_with (first | ((with_reducible refine gate_dst (N := 70) rfl ?_); refine Kd.R_lit k23 _ 23 ?hg (N := 70) ?hd (xs := ([(⟨a0_0, a0_1⟩ : S23)] : List (S23))) (inner := [.int .i64 a0_0, .int .i64 a0_1]) (ok := fun _ => True) (okp := fun _ => True) ?hr ?hp (fun _ hk => hk) trivial (Below.refl _ _) (Nat.le_refl _) (by simp) ?_; (case hd => rfl); (case hg => rfl); (case hr => first | (go_simp; done) | (go_simp; rfl)); (case hp => exact (Reps.c2 (show Kd.M k23 _ _ _ (⟨a0_0, a0_1⟩ : S23) [.int .i64 a0_0, .int .i64 a0_1] from (k23_mkM _ _ _ (⟨a0_0, a0_1⟩ : S23) )) (Reps.none _ _))); intro v335 w150 ho151 hb hg_ hnew_; clear hg_ hnew_; (first | rw [← Ny334.out] at ho151 | (simp only [Int.reduceToNat] at ho151; rw [← Ny334.out] at ho151)); have n0_ := Aside0.mk (Kd.R_lower (Kd.R_newB (Kd.R_newB (Kd.R_newB ho151 (g := gb326) (o := .cells #[.int .i64 a0_0, .int .i64 a0_1] 23 (0, 0)) (xb BK326)) (g := gb327) (o := .cells #[.int .i64 a1_0, .int .i64 a1_1] 23 (0, 0)) (xb BK327)) (g := gb331) (o := .cells #[.int .i64 t329, .int .i64 t330] 23 (0, 0)) (xb BK331)) (below_size xq1)); have n1_ := Aside0.mk (blk_below (g := gb326) (o := .cells #[.int .i64 a0_0, .int .i64 a0_1] 23 (0, 0)) (xb BK326) hb); have n2_ := Aside0.mk (blk_below (g := gb327) (o := .cells #[.int .i64 a1_0, .int .i64 a1_1] 23 (0, 0)) (xb BK327) hb); have n3_ := Aside0.mk (blk_below (g := gb331) (o := .cells #[.int .i64 t329, .int .i64 t330] 23 (0, 0)) (xb BK331) hb); have n4_ := Aside0.mk (below_step xq1 hb); clear BK326; clear BK327; clear BK331; clear HB; have HO336 := n0_; have BK326 := n1_; have BK327 := n2_; have BK331 := n3_; have HB := n4_; clear n0_ n1_ n2_ n3_ n4_; clear hb ho151; have hnb152 := NB327_331.out; have hnc152 := NB331_327.out; have hcz153_0 : w150.cell? ⟨gb327, 0, none⟩ = some (.int .i64 a1_0) := (blk_cell BK327.out 0).trans rfl; have hcz153_1 : w150.cell? ⟨gb327, 1, none⟩ = some (.int .i64 a1_1) := (blk_cell BK327.out 1).trans rfl; have hfz153_0 := blk_frozen BK327.out 0; have hfz153_1 := blk_frozen BK327.out 1) | ((with_reducible refine gate_dst (N := 72) rfl ?_); refine Kd.R_lit k23 _ 23 ?hg (N := 72) ?hd (xs := ([(⟨a1_0, a1_1⟩ : S23)] : List (S23))) (inner := [.int .i64 a1_0, .int .i64 a1_1]) (ok := fun _ => True) (okp := fun _ => True) ?hr ?hp (fun _ hk => hk) trivial (Below.refl _ _) (Nat.le_refl _) (by simp) ?_; (case hd => rfl); (case hg => rfl); (case hr => first | (go_simp; done) | (go_simp; rfl)); (case hp => exact (Reps.c2 (show Kd.M k23 _ _ _ (⟨a1_0, a1_1⟩ : S23) [.int .i64 a1_0, .int .i64 a1_1] from (k23_mkM _ _ _ (⟨a1_0, a1_1⟩ : S23) )) (Reps.none _ _))); intro v338 w154 ho155 hb hg_ hnew_; clear hg_ hnew_; (first | rw [← Ny337.out] at ho155 | (simp only [Int.reduceToNat] at ho155; rw [← Ny337.out] at ho155)); have n0_ := Aside0.mk (Kd.R_elder' (xr HO336) (Kd.R_base ho155) hb); have n1_ := Aside0.mk (Kd.R_lower (Kd.R_newB (Kd.R_newB (Kd.R_newB (Kd.R_new' ho155 (Kd.R_lt (xr HO336))) (g := gb326) (o := .cells #[.int .i64 a0_0, .int .i64 a0_1] 23 (0, 0)) (xb BK326)) (g := gb327) (o := .cells #[.int .i64 a1_0, .int .i64 a1_1] 23 (0, 0)) (xb BK327)) (g := gb331) (o := .cells #[.int .i64 t329, .int .i64 t330] 23 (0, 0)) (xb BK331)) (below_size xq1)); have n2_ := Aside0.mk (blk_below (g := gb326) (o := .cells #[.int .i64 a0_0, .int .i64 a0_1] 23 (0, 0)) (xb BK326) hb); have n3_ := Aside0.mk (blk_below (g := gb327) (o := .cells #[.int .i64 a1_0, .int .i64 a1_1] 23 (0, 0)) (xb BK327) hb); have n4_ := Aside0.mk (blk_below (g := gb331) (o := .cells #[.int .i64 t329, .int .i64 t330] 23 (0, 0)) (xb BK331) hb); have n5_ := Aside0.mk (below_step xq1 hb); clear HO336; clear BK326; clear BK327; clear BK331; clear HB; have HO336 := n0_; have HO339 := n1_; have BK326 := n2_; have BK327 := n3_; have BK331 := n4_; have HB := n5_; clear n0_ n1_ n2_ n3_ n4_ n5_; clear hb ho155; obtain ⟨Ao156, co156, eo156⟩ := Kd.R_slice HO336.out; subst eo156; obtain ⟨Ao157, co157, eo157⟩ := Kd.R_slice HO339.out; subst eo157) | ((with_reducible refine gate_callee (f := 16) rfl ?_); refine goesL_ (some 73) rfl rfl Try.func16 (by kernel_rfl) rfl #[.slice Ao156 y334.length co156, .slice Ao157 y337.length co157] rfl xa ?_; (with_reducible refine (ival_Meet.calls _ _ y334 _ _ y337 t340 _ ?side1 ?side2 ?side3 ?side4 A52.out).mono ?_); (case side1 => repeat (first | exact (Kd.R_reads' HO336.out).2.2 | (with_reducible refine Kd.C_alloc ?_ _) | (with_reducible refine Kd.C_drewN ?_ _) | (with_reducible refine Kd.C_drew ?_))); (case side2 => exact (Kd.R_reads' HO336.out).2.1); (case side3 => repeat (first | exact (Kd.R_reads' HO339.out).2.2 | (with_reducible refine Kd.C_alloc ?_ _) | (with_reducible refine Kd.C_drewN ?_ _) | (with_reducible refine Kd.C_drew ?_))); (case side4 => exact (Kd.R_reads' HO339.out).2.1); rintro e w158 ⟨v341, rfl, ho0, hb⟩; refine ⟨_, rfl, ?_⟩; have n0_ := Aside0.mk (Kd.R_elder' (xr HO336) (Kd.R_base ho0) hb); have n1_ := Aside0.mk (Kd.R_elder' (xr HO339) (Kd.R_base ho0) hb); have n2_ := Aside0.mk (Kd.R_lower (Kd.R_newB (Kd.R_newB (Kd.R_newB (Kd.R_new' (Kd.R_new' ho0 (Kd.R_lt (xr HO336))) (Kd.R_lt (xr HO339))) (g := gb326) (o := .cells #[.int .i64 a0_0, .int .i64 a0_1] 23 (0, 0)) (xb BK326)) (g := gb327) (o := .cells #[.int .i64 a1_0, .int .i64 a1_1] 23 (0, 0)) (xb BK327)) (g := gb331) (o := .cells #[.int .i64 t329, .int .i64 t330] 23 (0, 0)) (xb BK331)) (below_size xq1)); have n3_ := Aside0.mk (blk_below (g := gb326) (o := .cells #[.int .i64 a0_0, .int .i64 a0_1] 23 (0, 0)) (xb BK326) hb); have n4_ := Aside0.mk (blk_below (g := gb327) (o := .cells #[.int .i64 a1_0, .int .i64 a1_1] 23 (0, 0)) (xb BK327) hb); have n5_ := Aside0.mk (blk_below (g := gb331) (o := .cells #[.int .i64 t329, .int .i64 t330] 23 (0, 0)) (xb BK331) hb); have n6_ := Aside0.mk (below_step xq1 hb); clear HO336; clear HO339; clear BK326; clear BK327; clear BK331; clear HB; have HO336 := n0_; have HO339 := n1_; have HO342 := n2_; have BK326 := n3_; have BK327 := n4_; have BK331 := n5_; have HB := n6_; clear n0_ n1_ n2_ n3_ n4_ n5_ n6_; (try clear hb); (try clear hb2); (try clear hk); (try clear hi); (try clear ho0); have hcz159_0 : w158.cell? ⟨gb331, 0, none⟩ = some (.int .i64 t329) := (blk_cell BK331.out 0).trans rfl; have hcz159_1 : w158.cell? ⟨gb331, 1, none⟩ = some (.int .i64 t330) := (blk_cell BK331.out 1).trans rfl; have hfz159_0 := blk_frozen BK331.out 0; have hfz159_1 := blk_frozen BK331.out 1) | ((with_reducible refine gate_dst (N := 75) rfl ?_); refine Kd.R_lit k23 _ 23 ?hg (N := 75) ?hd (xs := ([(⟨t329, t330⟩ : S23)] : List (S23))) (inner := [.int .i64 t329, .int .i64 t330]) (ok := fun _ => True) (okp := fun _ => True) ?hr ?hp (fun _ hk => hk) trivial (Below.refl _ _) (Nat.le_refl _) (by simp) ?_; (case hd => rfl); (case hg => rfl); (case hr => first | (go_simp; done) | (go_simp; rfl)); (case hp => exact (Reps.c2 (show Kd.M k23 _ _ _ (⟨t329, t330⟩ : S23) [.int .i64 t329, .int .i64 t330] from (k23_mkM _ _ _ (⟨t329, t330⟩ : S23) )) (Reps.none _ _))); intro v344 w160 ho161 hb hg_ hnew_; clear hg_ hnew_; (first | rw [← Ny343.out] at ho161 | (simp only [Int.reduceToNat] at ho161; rw [← Ny343.out] at ho161)); have n0_ := Aside0.mk (Kd.R_elder' (xr HO336) (Kd.R_base ho161) hb); have n1_ := Aside0.mk (Kd.R_elder' (xr HO339) (Kd.R_base ho161) hb); have n2_ := Aside0.mk (Kd.R_elder' (xr HO342) (Kd.R_base ho161) hb); have n3_ := Aside0.mk (Kd.R_lower (Kd.R_newB (Kd.R_newB (Kd.R_newB (Kd.R_new' (Kd.R_new' (Kd.R_new' ho161 (Kd.R_lt (xr HO336))) (Kd.R_lt (xr HO339))) (Kd.R_lt (xr HO342))) (g := gb326) (o := .cells #[.int .i64 a0_0, .int .i64 a0_1] 23 (0, 0)) (xb BK326)) (g := gb327) (o := .cells #[.int .i64 a1_0, .int .i64 a1_1] 23 (0, 0)) (xb BK327)) (g := gb331) (o := .cells #[.int .i64 t329, .int .i64 t330] 23 (0, 0)) (xb BK331)) (below_size xq1)); have n4_ := Aside0.mk (blk_below (g := gb326) (o := .cells #[.int .i64 a0_0, .int .i64 a0_1] 23 (0, 0)) (xb BK326) hb); have n5_ := Aside0.mk (blk_below (g := gb327) (o := .cells #[.int .i64 a1_0, .int .i64 a1_1] 23 (0, 0)) (xb BK327) hb); have n6_ := Aside0.mk (blk_below (g := gb331) (o := .cells #[.int .i64 t329, .int .i64 t330] 23 (0, 0)) (xb BK331) hb); have n7_ := Aside0.mk (below_step xq1 hb); clear HO336; clear HO339; clear HO342; clear BK326; clear BK327; clear BK331; clear HB; have HO336 := n0_; have HO339 := n1_; have HO342 := n2_; have HO345 := n3_; have BK326 := n4_; have BK327 := n5_; have BK331 := n6_; have HB := n7_; clear n0_ n1_ n2_ n3_ n4_ n5_ n6_ n7_; clear hb ho161; obtain ⟨Ao162, co162, eo162⟩ := Kd.R_slice HO345.out; subst eo162) | ((with_reducible refine gate_callee (f := 15) rfl ?_); refine goesL_ (some 76) rfl rfl Try.func15 (by kernel_rfl) rfl #[.slice Ao162 y343.length co162] rfl xa ?_; (with_reducible refine (ival_Normal.calls _ _ y343 t346 _ ?side1 ?side2 A53.out).mono ?_); (case side1 => repeat (first | exact (Kd.R_reads' HO345.out).2.2 | (with_reducible refine Kd.C_alloc ?_ _) | (with_reducible refine Kd.C_drewN ?_ _) | (with_reducible refine Kd.C_drew ?_))); (case side2 => exact (Kd.R_reads' HO345.out).2.1); rintro e w163 ⟨v347, rfl, ho0, hb⟩; refine ⟨_, rfl, ?_⟩; have n0_ := Aside0.mk (Kd.R_elder' (xr HO336) (Kd.R_base ho0) hb); have n1_ := Aside0.mk (Kd.R_elder' (xr HO339) (Kd.R_base ho0) hb); have n2_ := Aside0.mk (Kd.R_elder' (xr HO342) (Kd.R_base ho0) hb); have n3_ := Aside0.mk (Kd.R_elder' (xr HO345) (Kd.R_base ho0) hb); have n4_ := Aside0.mk (Kd.R_lower (Kd.R_newB (Kd.R_newB (Kd.R_newB (Kd.R_new' (Kd.R_new' (Kd.R_new' (Kd.R_new' ho0 (Kd.R_lt (xr HO336))) (Kd.R_lt (xr HO339))) (Kd.R_lt (xr HO342))) (Kd.R_lt (xr HO345))) (g := gb326) (o := .cells #[.int .i64 a0_0, .int .i64 a0_1] 23 (0, 0)) (xb BK326)) (g := gb327) (o := .cells #[.int .i64 a1_0, .int .i64 a1_1] 23 (0, 0)) (xb BK327)) (g := gb331) (o := .cells #[.int .i64 t329, .int .i64 t330] 23 (0, 0)) (xb BK331)) (below_size xq1)); have n5_ := Aside0.mk (blk_below (g := gb326) (o := .cells #[.int .i64 a0_0, .int .i64 a0_1] 23 (0, 0)) (xb BK326) hb); have n6_ := Aside0.mk (blk_below (g := gb327) (o := .cells #[.int .i64 a1_0, .int .i64 a1_1] 23 (0, 0)) (xb BK327) hb); have n7_ := Aside0.mk (blk_below (g := gb331) (o := .cells #[.int .i64 t329, .int .i64 t330] 23 (0, 0)) (xb BK331) hb); have n8_ := Aside0.mk (below_step xq1 hb); clear HO336; clear HO339; clear HO342; clear HO345; clear BK326; clear BK327; clear BK331; clear HB; have HO336 := n0_; have HO339 := n1_; have HO342 := n2_; have HO345 := n3_; have HO348 := n4_; have BK326 := n5_; have BK327 := n6_; have BK331 := n7_; have HB := n8_; clear n0_ n1_ n2_ n3_ n4_ n5_ n6_ n7_ n8_; (try clear hb); (try clear hb2); (try clear hk); (try clear hi); (try clear ho0); obtain ⟨Ao164, co164, eo164⟩ := Kd.R_slice HO348.out; subst eo164; obtain ⟨Ao165, co165, eo165⟩ := Kd.R_slice HO342.out; subst eo165) | ((with_reducible refine gate_callee (f := 20) rfl ?_); refine goesL_ (some 78) rfl rfl Try.func20 (by kernel_rfl) rfl #[.slice Ao164 t346.length co164, .slice Ao165 t340.length co165] rfl xa ?_; (with_reducible refine (spoorref06_Same.calls kj37 _ _ t346 _ _ t340 t349 _ ?side1 ?side2 ?side3 ?side4 A54.out).mono ?_); (case side1 => repeat (first | exact (Kd.R_reads' HO348.out).2.2 | (with_reducible refine Kd.C_alloc ?_ _) | (with_reducible refine Kd.C_drewN ?_ _) | (with_reducible refine Kd.C_drew ?_))); (case side2 => exact (Kd.R_reads' HO348.out).2.1); (case side3 => repeat (first | exact (Kd.R_reads' HO342.out).2.2 | (with_reducible refine Kd.C_alloc ?_ _) | (with_reducible refine Kd.C_drewN ?_ _) | (with_reducible refine Kd.C_drew ?_))); (case side4 => exact (Kd.R_reads' HO342.out).2.1); rintro e w' ⟨rfl, ⟨nd, rfl⟩⟩; refine ⟨_, rfl, ?_⟩))
              (try (rw [drewN_self w163]; generalize hq_ : World.drewN w163 _ = w163; have n0_ : Aside0 (Kd.R k23 23 w163 w.heap.size (fun k_ => some k_ ≠ (.slice Ao157 y337.length co157 : Value).ownBlock ∧ some k_ ≠ (.slice Ao165 t340.length co165 : Value).ownBlock ∧ some k_ ≠ (.slice Ao162 y343.length co162 : Value).ownBlock ∧ some k_ ≠ (.slice Ao164 t346.length co164 : Value).ownBlock ∧ k_ ≠ gb326 ∧ k_ ≠ gb327 ∧ k_ ≠ gb331) (.slice Ao156 y334.length co156) y334) := ⟨by rw [← hq_]; exact (by (with_reducible repeat (first | apply Kd.R_alloc | apply Kd.R_drewN | apply Kd.R_drew)); exact Kd.R_mono HO336.out (fun _ hk => ⟨hk.1.1.1.2, ⟨hk.1.1.2, ⟨hk.1.2, ⟨hk.2, ⟨hk.1.1.1.1.1.1.2, ⟨hk.1.1.1.1.1.2, hk.1.1.1.1.2⟩⟩⟩⟩⟩⟩))⟩; have n1_ : Aside0 (Kd.R k23 23 w163 w.heap.size (fun k_ => some k_ ≠ (.slice Ao156 y334.length co156 : Value).ownBlock ∧ some k_ ≠ (.slice Ao165 t340.length co165 : Value).ownBlock ∧ some k_ ≠ (.slice Ao162 y343.length co162 : Value).ownBlock ∧ some k_ ≠ (.slice Ao164 t346.length co164 : Value).ownBlock ∧ k_ ≠ gb326 ∧ k_ ≠ gb327 ∧ k_ ≠ gb331) (.slice Ao157 y337.length co157) y337) := ⟨by rw [← hq_]; exact (by (with_reducible repeat (first | apply Kd.R_alloc | apply Kd.R_drewN | apply Kd.R_drew)); exact Kd.R_mono HO339.out (fun _ hk => ⟨hk.1.1.1.1.1.1.2, ⟨hk.1.1.2, ⟨hk.1.2, ⟨hk.2, ⟨hk.1.1.1.1.1.2, ⟨hk.1.1.1.1.2, hk.1.1.1.2⟩⟩⟩⟩⟩⟩))⟩; have n2_ : Aside0 (Kd.R k23 23 w163 w.heap.size (fun k_ => some k_ ≠ (.slice Ao156 y334.length co156 : Value).ownBlock ∧ some k_ ≠ (.slice Ao157 y337.length co157 : Value).ownBlock ∧ some k_ ≠ (.slice Ao162 y343.length co162 : Value).ownBlock ∧ some k_ ≠ (.slice Ao164 t346.length co164 : Value).ownBlock ∧ k_ ≠ gb326 ∧ k_ ≠ gb327 ∧ k_ ≠ gb331) (.slice Ao165 t340.length co165) t340) := ⟨by rw [← hq_]; exact (by (with_reducible repeat (first | apply Kd.R_alloc | apply Kd.R_drewN | apply Kd.R_drew)); exact Kd.R_mono HO342.out (fun _ hk => ⟨hk.1.1.1.1.1.1.2, ⟨hk.1.1.1.1.1.2, ⟨hk.1.2, ⟨hk.2, ⟨hk.1.1.1.1.2, ⟨hk.1.1.1.2, hk.1.1.2⟩⟩⟩⟩⟩⟩))⟩; have n3_ : Aside0 (Kd.R k23 23 w163 w.heap.size (fun k_ => some k_ ≠ (.slice Ao156 y334.length co156 : Value).ownBlock ∧ some k_ ≠ (.slice Ao157 y337.length co157 : Value).ownBlock ∧ some k_ ≠ (.slice Ao165 t340.length co165 : Value).ownBlock ∧ some k_ ≠ (.slice Ao164 t346.length co164 : Value).ownBlock ∧ k_ ≠ gb326 ∧ k_ ≠ gb327 ∧ k_ ≠ gb331) (.slice Ao162 y343.length co162) y343) := ⟨by rw [← hq_]; exact (by (with_reducible repeat (first | apply Kd.R_alloc | apply Kd.R_drewN | apply Kd.R_drew)); exact Kd.R_mono HO345.out (fun _ hk => ⟨hk.1.1.1.1.1.1.2, ⟨hk.1.1.1.1.1.2, ⟨hk.1.1.1.1.2, ⟨hk.2, ⟨hk.1.1.1.2, ⟨hk.1.1.2, hk.1.2⟩⟩⟩⟩⟩⟩))⟩; have n4_ : Aside0 (Kd.R k23 23 w163 w.heap.size (fun k_ => some k_ ≠ (.slice Ao156 y334.length co156 : Value).ownBlock ∧ some k_ ≠ (.slice Ao157 y337.length co157 : Value).ownBlock ∧ some k_ ≠ (.slice Ao165 t340.length co165 : Value).ownBlock ∧ some k_ ≠ (.slice Ao162 y343.length co162 : Value).ownBlock ∧ k_ ≠ gb326 ∧ k_ ≠ gb327 ∧ k_ ≠ gb331) (.slice Ao164 t346.length co164) t346) := ⟨by rw [← hq_]; exact (by (with_reducible repeat (first | apply Kd.R_alloc | apply Kd.R_drewN | apply Kd.R_drew)); exact Kd.R_mono HO348.out (fun _ hk => ⟨hk.1.1.1.1.1.1.2, ⟨hk.1.1.1.1.1.2, ⟨hk.1.1.1.1.2, ⟨hk.1.1.1.2, ⟨hk.1.1.2, ⟨hk.1.2, hk.2⟩⟩⟩⟩⟩⟩))⟩; have n5_ : Aside0 (w163.heap[gb326]? = some (.cells #[.int .i64 a0_0, .int .i64 a0_1] 23 (0, 0))) := ⟨by rw [← hq_]; exact (xb BK326)⟩; have n6_ : Aside0 (w163.heap[gb327]? = some (.cells #[.int .i64 a1_0, .int .i64 a1_1] 23 (0, 0))) := ⟨by rw [← hq_]; exact (xb BK327)⟩; have n7_ : Aside0 (w163.heap[gb331]? = some (.cells #[.int .i64 t329, .int .i64 t330] 23 (0, 0))) := ⟨by rw [← hq_]; exact (xb BK331)⟩; have n8_ : Aside0 (Below w.heap.size w w163) := ⟨by rw [← hq_]; exact xq1⟩; clear HO336 HO339 HO342 HO345 HO348 BK326 BK327 BK331 HB hq_; have HO336 := n0_; have HO339 := n1_; have HO342 := n2_; have HO345 := n3_; have HO348 := n4_; have BK326 := n5_; have BK327 := n6_; have BK331 := n7_; have HB := n8_; clear n0_ n1_ n2_ n3_ n4_ n5_ n6_ n7_ n8_))
              have n0_ := Aside0.mk (Kd.R_drew HO336.out)
              have n1_ := Aside0.mk (Kd.R_drew HO339.out)
              have n2_ := Aside0.mk (Kd.R_drew HO342.out)
              have n3_ := Aside0.mk (Kd.R_drew HO345.out)
              have n4_ := Aside0.mk (Kd.R_drew HO348.out)
              have n5_ := Aside0.mk (blk_drew BK326.out)
              have n6_ := Aside0.mk (blk_drew BK327.out)
              have n7_ := Aside0.mk (blk_drew BK331.out)
              have n8_ := Aside0.mk (below_drew1 HB.out)
              clear HO336
              clear HO339
              clear HO342
              clear HO345
              clear HO348
              clear BK326
              clear BK327
              clear BK331
              clear HB
              have HO336 := n0_
              have HO339 := n1_
              have HO342 := n2_
              have HO345 := n3_
              have HO348 := n4_
              have BK326 := n5_
              have BK327 := n6_
              have BK331 := n7_
              have HB := n8_
              clear n0_ n1_ n2_ n3_ n4_ n5_ n6_ n7_ n8_
              refine start_ (n := 25) (S := fun w' => True) (ds := []) bz1h_35 (by kernel_rfl) rfl rfl trivial (fun hHeld => ?_); refine with_tabW spoorlaw06_IvalCut.tab7 spoorlaw06_IvalCut.bits7 (fun HT_ HW_ => ?_)
              generalize w163.drew = w166 at HO336 HO339 HO342 HO345 HO348 BK326 BK327 BK331 HB hHeld ⊢
              refine pz_ (i := 0) (N := some 79) bz1h_36 (any_of HT_.out (by kernel_rfl)) ?_
              refine pz_ (i := 1) (N := some 80) bz1h_37 (any_of HT_.out (by kernel_rfl)) ?_
              refine pz_ (i := 2) (N := some 81) bz1h_38 (any_of HT_.out (by kernel_rfl)) ?_
              refine pz_ (i := 3) (N := some 82) bz1h_39 (any_of HT_.out (by kernel_rfl)) ?_
              refine pz_ (i := 4) (N := some 83) bz1h_40 (any_of HT_.out (by kernel_rfl)) ?_
              refine pu_ (i := 5) (N := some 84) bz1h_41 (any_of HT_.out (by kernel_rfl)) ?_
              refine pz_ (i := 6) (N := some 85) bz1h_42 (any_of HT_.out (by kernel_rfl)) ?_
              refine pz_ (i := 7) (N := some 86) bz1h_43 (any_of HT_.out (by kernel_rfl)) ?_
              refine pu_ (i := 8) (N := some 87) bz1h_44 (any_of HT_.out (by kernel_rfl)) ?_
              refine pz_ (i := 9) (N := some 88) bz1h_45 (any_of HT_.out (by kernel_rfl)) ?_
              refine pz_ (i := 10) (N := some 89) bz1h_46 (any_of HT_.out (by kernel_rfl)) ?_
              refine pu_ (i := 11) (N := some 90) bz1h_47 (any_of HT_.out (by kernel_rfl)) ?_
              refine pu_ (i := 12) (N := some 91) bz1h_48 (any_of HT_.out (by kernel_rfl)) ?_
              refine pu_ (i := 13) (N := some 92) bz1h_62 (any_of HT_.out (by kernel_rfl)) ?_
              refine pu_ (i := 14) (N := some 93) bz1h_50 (any_of HT_.out (by kernel_rfl)) ?_
              refine pu_ (i := 15) (N := some 94) bz1h_51 (any_of HT_.out (by kernel_rfl)) ?_
              refine pz_ (i := 16) (N := some 95) bz1h_52 (any_of HT_.out (by kernel_rfl)) ?_
              refine pz_ (i := 17) (N := some 96) bz1h_53 (any_of HT_.out (by kernel_rfl)) ?_
              refine pu_ (i := 18) (N := some 97) bz1h_54 (any_of HT_.out (by kernel_rfl)) ?_
              refine pu_ (i := 19) (N := some 98) bz1h_61 (any_of HT_.out (by kernel_rfl)) ?_
              refine pu_ (i := 20) (N := some 99) bz1h_56 (any_of HT_.out (by kernel_rfl)) ?_
              refine pu_ (i := 21) (N := some 100) bz1h_57 (any_of HT_.out (by kernel_rfl)) ?_
              refine pu_ (i := 22) (N := some 101) bz1h_58 (any_of HT_.out (by kernel_rfl)) ?_
              refine pz_ (i := 23) (N := some 102) bz1h_59 (any_of HT_.out (by kernel_rfl)) ?_
              refine pz_ (i := 24) (N := some 4) bz1h_60 (any_of HT_.out (by kernel_rfl)) ?_
              refine done_ (done_of HT_.out (by kernel_rfl)) ?_
              try go_wp2
              go_ret
              exact ⟨by first | rfl | (simp [errW_none, errW_some] <;> rfl) | (simp [*, errW_none, errW_some] <;> rfl), by repeat (first | (with_reducible first | exact HB.out | apply below_alloc | apply pw_below_drewN | apply below_drew1 | refine below_set ?_ GE326.out | refine below_set ?_ GE327.out | refine below_set ?_ GE331.out) | exact HB.out)⟩
          · replace c55 := Bool.eq_false_iff.mpr c55
            subst c55
            have H1 : (some false) = some r := by rw [if_neg (show ¬ (false = true) by decide)] at H; exact H
            clear H
            have H := H1
            clear H1
            obtain rfl := Option.some.inj H
            have hnb167 := NB326_327.out
            have hnc167 := NB327_326.out
            have hnb168 := NB326_331.out
            have hnc168 := NB331_326.out
            have hcz169_0 : wc.cell? ⟨gb326, 0, none⟩ = some (.int .i64 a0_0) := (blk_cell BK326.out 0).trans rfl
            have hcz169_1 : wc.cell? ⟨gb326, 1, none⟩ = some (.int .i64 a0_1) := (blk_cell BK326.out 1).trans rfl
            have hfz169_0 := blk_frozen BK326.out 0
            have hfz169_1 := blk_frozen BK326.out 1
            try go_wp2_with (first | ((with_reducible refine gate_dst (N := 70) rfl ?_); refine Kd.R_lit k23 _ 23 ?hg (N := 70) ?hd (xs := ([(⟨a0_0, a0_1⟩ : S23)] : List (S23))) (inner := [.int .i64 a0_0, .int .i64 a0_1]) (ok := fun _ => True) (okp := fun _ => True) ?hr ?hp (fun _ hk => hk) trivial (Below.refl _ _) (Nat.le_refl _) (by simp) ?_; (case hd => rfl); (case hg => rfl); (case hr => first | (go_simp; done) | (go_simp; rfl)); (case hp => exact (Reps.c2 (show Kd.M k23 _ _ _ (⟨a0_0, a0_1⟩ : S23) [.int .i64 a0_0, .int .i64 a0_1] from (k23_mkM _ _ _ (⟨a0_0, a0_1⟩ : S23) )) (Reps.none _ _))); intro v335 w170 ho171 hb hg_ hnew_; clear hg_ hnew_; (first | rw [← Ny334.out] at ho171 | (simp only [Int.reduceToNat] at ho171; rw [← Ny334.out] at ho171)); have n0_ := Aside0.mk (Kd.R_lower (Kd.R_newB (Kd.R_newB (Kd.R_newB ho171 (g := gb326) (o := .cells #[.int .i64 a0_0, .int .i64 a0_1] 23 (0, 0)) (xb BK326)) (g := gb327) (o := .cells #[.int .i64 a1_0, .int .i64 a1_1] 23 (0, 0)) (xb BK327)) (g := gb331) (o := .cells #[.int .i64 t329, .int .i64 t330] 23 (0, 0)) (xb BK331)) (below_size xq1)); have n1_ := Aside0.mk (blk_below (g := gb326) (o := .cells #[.int .i64 a0_0, .int .i64 a0_1] 23 (0, 0)) (xb BK326) hb); have n2_ := Aside0.mk (blk_below (g := gb327) (o := .cells #[.int .i64 a1_0, .int .i64 a1_1] 23 (0, 0)) (xb BK327) hb); have n3_ := Aside0.mk (blk_below (g := gb331) (o := .cells #[.int .i64 t329, .int .i64 t330] 23 (0, 0)) (xb BK331) hb); have n4_ := Aside0.mk (below_step xq1 hb); clear BK326; clear BK327; clear BK331; clear HB; have HO336 := n0_; have BK326 := n1_; have BK327 := n2_; have BK331 := n3_; have HB := n4_; clear n0_ n1_ n2_ n3_ n4_; clear hb ho171; have hnb172 := NB327_331.out; have hnc172 := NB331_327.out; have hcz173_0 : w170.cell? ⟨gb327, 0, none⟩ = some (.int .i64 a1_0) := (blk_cell BK327.out 0).trans rfl; have hcz173_1 : w170.cell? ⟨gb327, 1, none⟩ = some (.int .i64 a1_1) := (blk_cell BK327.out 1).trans rfl; have hfz173_0 := blk_frozen BK327.out 0; have hfz173_1 := blk_frozen BK327.out 1) | ((with_reducible refine gate_dst (N := 72) rfl ?_); refine Kd.R_lit k23 _ 23 ?hg (N := 72) ?hd (xs := ([(⟨a1_0, a1_1⟩ : S23)] : List (S23))) (inner := [.int .i64 a1_0, .int .i64 a1_1]) (ok := fun _ => True) (okp := fun _ => True) ?hr ?hp (fun _ hk => hk) trivial (Below.refl _ _) (Nat.le_refl _) (by simp) ?_; (case hd => rfl); (case hg => rfl); (case hr => first | (go_simp; done) | (go_simp; rfl)); (case hp => exact (Reps.c2 (show Kd.M k23 _ _ _ (⟨a1_0, a1_1⟩ : S23) [.int .i64 a1_0, .int .i64 a1_1] from (k23_mkM _ _ _ (⟨a1_0, a1_1⟩ : S23) )) (Reps.none _ _))); intro v338 w174 ho175 hb hg_ hnew_; clear hg_ hnew_; (first | rw [← Ny337.out] at ho175 | (simp only [Int.reduceToNat] at ho175; rw [← Ny337.out] at ho175)); have n0_ := Aside0.mk (Kd.R_elder' (xr HO336) (Kd.R_base ho175) hb); have n1_ := Aside0.mk (Kd.R_lower (Kd.R_newB (Kd.R_newB (Kd.R_newB (Kd.R_new' ho175 (Kd.R_lt (xr HO336))) (g := gb326) (o := .cells #[.int .i64 a0_0, .int .i64 a0_1] 23 (0, 0)) (xb BK326)) (g := gb327) (o := .cells #[.int .i64 a1_0, .int .i64 a1_1] 23 (0, 0)) (xb BK327)) (g := gb331) (o := .cells #[.int .i64 t329, .int .i64 t330] 23 (0, 0)) (xb BK331)) (below_size xq1)); have n2_ := Aside0.mk (blk_below (g := gb326) (o := .cells #[.int .i64 a0_0, .int .i64 a0_1] 23 (0, 0)) (xb BK326) hb); have n3_ := Aside0.mk (blk_below (g := gb327) (o := .cells #[.int .i64 a1_0, .int .i64 a1_1] 23 (0, 0)) (xb BK327) hb); have n4_ := Aside0.mk (blk_below (g := gb331) (o := .cells #[.int .i64 t329, .int .i64 t330] 23 (0, 0)) (xb BK331) hb); have n5_ := Aside0.mk (below_step xq1 hb); clear HO336; clear BK326; clear BK327; clear BK331; clear HB; have HO336 := n0_; have HO339 := n1_; have BK326 := n2_; have BK327 := n3_; have BK331 := n4_; have HB := n5_; clear n0_ n1_ n2_ n3_ n4_ n5_; clear hb ho175; obtain ⟨Ao176, co176, eo176⟩ := Kd.R_slice HO336.out; subst eo176; obtain ⟨Ao177, co177, eo177⟩ := Kd.R_slice HO339.out; subst eo177) | ((with_reducible refine gate_callee (f := 16) rfl ?_); refine goesL_ (some 73) rfl rfl Try.func16 (by kernel_rfl) rfl #[.slice Ao176 y334.length co176, .slice Ao177 y337.length co177] rfl xa ?_; (with_reducible refine (ival_Meet.calls _ _ y334 _ _ y337 t340 _ ?side1 ?side2 ?side3 ?side4 A52.out).mono ?_); (case side1 => repeat (first | exact (Kd.R_reads' HO336.out).2.2 | (with_reducible refine Kd.C_alloc ?_ _) | (with_reducible refine Kd.C_drewN ?_ _) | (with_reducible refine Kd.C_drew ?_))); (case side2 => exact (Kd.R_reads' HO336.out).2.1); (case side3 => repeat (first | exact (Kd.R_reads' HO339.out).2.2 | (with_reducible refine Kd.C_alloc ?_ _) | (with_reducible refine Kd.C_drewN ?_ _) | (with_reducible refine Kd.C_drew ?_))); (case side4 => exact (Kd.R_reads' HO339.out).2.1); rintro e w178 ⟨v341, rfl, ho0, hb⟩; refine ⟨_, rfl, ?_⟩; have n0_ := Aside0.mk (Kd.R_elder' (xr HO336) (Kd.R_base ho0) hb); have n1_ := Aside0.mk (Kd.R_elder' (xr HO339) (Kd.R_base ho0) hb); have n2_ := Aside0.mk (Kd.R_lower (Kd.R_newB (Kd.R_newB (Kd.R_newB (Kd.R_new' (Kd.R_new' ho0 (Kd.R_lt (xr HO336))) (Kd.R_lt (xr HO339))) (g := gb326) (o := .cells #[.int .i64 a0_0, .int .i64 a0_1] 23 (0, 0)) (xb BK326)) (g := gb327) (o := .cells #[.int .i64 a1_0, .int .i64 a1_1] 23 (0, 0)) (xb BK327)) (g := gb331) (o := .cells #[.int .i64 t329, .int .i64 t330] 23 (0, 0)) (xb BK331)) (below_size xq1)); have n3_ := Aside0.mk (blk_below (g := gb326) (o := .cells #[.int .i64 a0_0, .int .i64 a0_1] 23 (0, 0)) (xb BK326) hb); have n4_ := Aside0.mk (blk_below (g := gb327) (o := .cells #[.int .i64 a1_0, .int .i64 a1_1] 23 (0, 0)) (xb BK327) hb); have n5_ := Aside0.mk (blk_below (g := gb331) (o := .cells #[.int .i64 t329, .int .i64 t330] 23 (0, 0)) (xb BK331) hb); have n6_ := Aside0.mk (below_step xq1 hb); clear HO336; clear HO339; clear BK326; clear BK327; clear BK331; clear HB; have HO336 := n0_; have HO339 := n1_; have HO342 := n2_; have BK326 := n3_; have BK327 := n4_; have BK331 := n5_; have HB := n6_; clear n0_ n1_ n2_ n3_ n4_ n5_ n6_; (try clear hb); (try clear hb2); (try clear hk); (try clear hi); (try clear ho0); have hcz179_0 : w178.cell? ⟨gb331, 0, none⟩ = some (.int .i64 t329) := (blk_cell BK331.out 0).trans rfl; have hcz179_1 : w178.cell? ⟨gb331, 1, none⟩ = some (.int .i64 t330) := (blk_cell BK331.out 1).trans rfl; have hfz179_0 := blk_frozen BK331.out 0; have hfz179_1 := blk_frozen BK331.out 1) | ((with_reducible refine gate_dst (N := 75) rfl ?_); refine Kd.R_lit k23 _ 23 ?hg (N := 75) ?hd (xs := ([(⟨t329, t330⟩ : S23)] : List (S23))) (inner := [.int .i64 t329, .int .i64 t330]) (ok := fun _ => True) (okp := fun _ => True) ?hr ?hp (fun _ hk => hk) trivial (Below.refl _ _) (Nat.le_refl _) (by simp) ?_; (case hd => rfl); (case hg => rfl); (case hr => first | (go_simp; done) | (go_simp; rfl)); (case hp => exact (Reps.c2 (show Kd.M k23 _ _ _ (⟨t329, t330⟩ : S23) [.int .i64 t329, .int .i64 t330] from (k23_mkM _ _ _ (⟨t329, t330⟩ : S23) )) (Reps.none _ _))); intro v344 w180 ho181 hb hg_ hnew_; clear hg_ hnew_; (first | rw [← Ny343.out] at ho181 | (simp only [Int.reduceToNat] at ho181; rw [← Ny343.out] at ho181)); have n0_ := Aside0.mk (Kd.R_elder' (xr HO336) (Kd.R_base ho181) hb); have n1_ := Aside0.mk (Kd.R_elder' (xr HO339) (Kd.R_base ho181) hb); have n2_ := Aside0.mk (Kd.R_elder' (xr HO342) (Kd.R_base ho181) hb); have n3_ := Aside0.mk (Kd.R_lower (Kd.R_newB (Kd.R_newB (Kd.R_newB (Kd.R_new' (Kd.R_new' (Kd.R_new' ho181 (Kd.R_lt (xr HO336))) (Kd.R_lt (xr HO339))) (Kd.R_lt (xr HO342))) (g := gb326) (o := .cells #[.int .i64 a0_0, .int .i64 a0_1] 23 (0, 0)) (xb BK326)) (g := gb327) (o := .cells #[.int .i64 a1_0, .int .i64 a1_1] 23 (0, 0)) (xb BK327)) (g := gb331) (o := .cells #[.int .i64 t329, .int .i64 t330] 23 (0, 0)) (xb BK331)) (below_size xq1)); have n4_ := Aside0.mk (blk_below (g := gb326) (o := .cells #[.int .i64 a0_0, .int .i64 a0_1] 23 (0, 0)) (xb BK326) hb); have n5_ := Aside0.mk (blk_below (g := gb327) (o := .cells #[.int .i64 a1_0, .int .i64 a1_1] 23 (0, 0)) (xb BK327) hb); have n6_ := Aside0.mk (blk_below (g := gb331) (o := .cells #[.int .i64 t329, .int .i64 t330] 23 (0, 0)) (xb BK331) hb); have n7_ := Aside0.mk (below_step xq1 hb); clear HO336; clear HO339; clear HO342; clear BK326; clear BK327; clear BK331; clear HB; have HO336 := n0_; have HO339 := n1_; have HO342 := n2_; have HO345 := n3_; have BK326 := n4_; have BK327 := n5_; have BK331 := n6_; have HB := n7_; clear n0_ n1_ n2_ n3_ n4_ n5_ n6_ n7_; clear hb ho181; obtain ⟨Ao182, co182, eo182⟩ := Kd.R_slice HO345.out; subst eo182) | ((with_reducible refine gate_callee (f := 15) rfl ?_); refine goesL_ (some 76) rfl rfl Try.func15 (by kernel_rfl) rfl #[.slice Ao182 y343.length co182] rfl xa ?_; (with_reducible refine (ival_Normal.calls _ _ y343 t346 _ ?side1 ?side2 A53.out).mono ?_); (case side1 => repeat (first | exact (Kd.R_reads' HO345.out).2.2 | (with_reducible refine Kd.C_alloc ?_ _) | (with_reducible refine Kd.C_drewN ?_ _) | (with_reducible refine Kd.C_drew ?_))); (case side2 => exact (Kd.R_reads' HO345.out).2.1); rintro e w183 ⟨v347, rfl, ho0, hb⟩; refine ⟨_, rfl, ?_⟩; have n0_ := Aside0.mk (Kd.R_elder' (xr HO336) (Kd.R_base ho0) hb); have n1_ := Aside0.mk (Kd.R_elder' (xr HO339) (Kd.R_base ho0) hb); have n2_ := Aside0.mk (Kd.R_elder' (xr HO342) (Kd.R_base ho0) hb); have n3_ := Aside0.mk (Kd.R_elder' (xr HO345) (Kd.R_base ho0) hb); have n4_ := Aside0.mk (Kd.R_lower (Kd.R_newB (Kd.R_newB (Kd.R_newB (Kd.R_new' (Kd.R_new' (Kd.R_new' (Kd.R_new' ho0 (Kd.R_lt (xr HO336))) (Kd.R_lt (xr HO339))) (Kd.R_lt (xr HO342))) (Kd.R_lt (xr HO345))) (g := gb326) (o := .cells #[.int .i64 a0_0, .int .i64 a0_1] 23 (0, 0)) (xb BK326)) (g := gb327) (o := .cells #[.int .i64 a1_0, .int .i64 a1_1] 23 (0, 0)) (xb BK327)) (g := gb331) (o := .cells #[.int .i64 t329, .int .i64 t330] 23 (0, 0)) (xb BK331)) (below_size xq1)); have n5_ := Aside0.mk (blk_below (g := gb326) (o := .cells #[.int .i64 a0_0, .int .i64 a0_1] 23 (0, 0)) (xb BK326) hb); have n6_ := Aside0.mk (blk_below (g := gb327) (o := .cells #[.int .i64 a1_0, .int .i64 a1_1] 23 (0, 0)) (xb BK327) hb); have n7_ := Aside0.mk (blk_below (g := gb331) (o := .cells #[.int .i64 t329, .int .i64 t330] 23 (0, 0)) (xb BK331) hb); have n8_ := Aside0.mk (below_step xq1 hb); clear HO336; clear HO339; clear HO342; clear HO345; clear BK326; clear BK327; clear BK331; clear HB; have HO336 := n0_; have HO339 := n1_; have HO342 := n2_; have HO345 := n3_; have HO348 := n4_; have BK326 := n5_; have BK327 := n6_; have BK331 := n7_; have HB := n8_; clear n0_ n1_ n2_ n3_ n4_ n5_ n6_ n7_ n8_; (try clear hb); (try clear hb2); (try clear hk); (try clear hi); (try clear ho0); obtain ⟨Ao184, co184, eo184⟩ := Kd.R_slice HO348.out; subst eo184; obtain ⟨Ao185, co185, eo185⟩ := Kd.R_slice HO342.out; subst eo185) | ((with_reducible refine gate_callee (f := 20) rfl ?_); refine goesL_ (some 78) rfl rfl Try.func20 (by kernel_rfl) rfl #[.slice Ao184 t346.length co184, .slice Ao185 t340.length co185] rfl xa ?_; (with_reducible refine (spoorref06_Same.calls kj37 _ _ t346 _ _ t340 t349 _ ?side1 ?side2 ?side3 ?side4 A54.out).mono ?_); (case side1 => repeat (first | exact (Kd.R_reads' HO348.out).2.2 | (with_reducible refine Kd.C_alloc ?_ _) | (with_reducible refine Kd.C_drewN ?_ _) | (with_reducible refine Kd.C_drew ?_))); (case side2 => exact (Kd.R_reads' HO348.out).2.1); (case side3 => repeat (first | exact (Kd.R_reads' HO342.out).2.2 | (with_reducible refine Kd.C_alloc ?_ _) | (with_reducible refine Kd.C_drewN ?_ _) | (with_reducible refine Kd.C_drew ?_))); (case side4 => exact (Kd.R_reads' HO342.out).2.1); rintro e w' ⟨rfl, ⟨nd, rfl⟩⟩; refine ⟨_, rfl, ?_⟩))
            (try (rw [drewN_self w183]; generalize hq_ : World.drewN w183 _ = w183; have n0_ : Aside0 (Kd.R k23 23 w183 w.heap.size (fun k_ => some k_ ≠ (.slice Ao177 y337.length co177 : Value).ownBlock ∧ some k_ ≠ (.slice Ao185 t340.length co185 : Value).ownBlock ∧ some k_ ≠ (.slice Ao182 y343.length co182 : Value).ownBlock ∧ some k_ ≠ (.slice Ao184 t346.length co184 : Value).ownBlock ∧ k_ ≠ gb326 ∧ k_ ≠ gb327 ∧ k_ ≠ gb331) (.slice Ao176 y334.length co176) y334) := ⟨by rw [← hq_]; exact (by (with_reducible repeat (first | apply Kd.R_alloc | apply Kd.R_drewN | apply Kd.R_drew)); exact Kd.R_mono HO336.out (fun _ hk => ⟨hk.1.1.1.2, ⟨hk.1.1.2, ⟨hk.1.2, ⟨hk.2, ⟨hk.1.1.1.1.1.1.2, ⟨hk.1.1.1.1.1.2, hk.1.1.1.1.2⟩⟩⟩⟩⟩⟩))⟩; have n1_ : Aside0 (Kd.R k23 23 w183 w.heap.size (fun k_ => some k_ ≠ (.slice Ao176 y334.length co176 : Value).ownBlock ∧ some k_ ≠ (.slice Ao185 t340.length co185 : Value).ownBlock ∧ some k_ ≠ (.slice Ao182 y343.length co182 : Value).ownBlock ∧ some k_ ≠ (.slice Ao184 t346.length co184 : Value).ownBlock ∧ k_ ≠ gb326 ∧ k_ ≠ gb327 ∧ k_ ≠ gb331) (.slice Ao177 y337.length co177) y337) := ⟨by rw [← hq_]; exact (by (with_reducible repeat (first | apply Kd.R_alloc | apply Kd.R_drewN | apply Kd.R_drew)); exact Kd.R_mono HO339.out (fun _ hk => ⟨hk.1.1.1.1.1.1.2, ⟨hk.1.1.2, ⟨hk.1.2, ⟨hk.2, ⟨hk.1.1.1.1.1.2, ⟨hk.1.1.1.1.2, hk.1.1.1.2⟩⟩⟩⟩⟩⟩))⟩; have n2_ : Aside0 (Kd.R k23 23 w183 w.heap.size (fun k_ => some k_ ≠ (.slice Ao176 y334.length co176 : Value).ownBlock ∧ some k_ ≠ (.slice Ao177 y337.length co177 : Value).ownBlock ∧ some k_ ≠ (.slice Ao182 y343.length co182 : Value).ownBlock ∧ some k_ ≠ (.slice Ao184 t346.length co184 : Value).ownBlock ∧ k_ ≠ gb326 ∧ k_ ≠ gb327 ∧ k_ ≠ gb331) (.slice Ao185 t340.length co185) t340) := ⟨by rw [← hq_]; exact (by (with_reducible repeat (first | apply Kd.R_alloc | apply Kd.R_drewN | apply Kd.R_drew)); exact Kd.R_mono HO342.out (fun _ hk => ⟨hk.1.1.1.1.1.1.2, ⟨hk.1.1.1.1.1.2, ⟨hk.1.2, ⟨hk.2, ⟨hk.1.1.1.1.2, ⟨hk.1.1.1.2, hk.1.1.2⟩⟩⟩⟩⟩⟩))⟩; have n3_ : Aside0 (Kd.R k23 23 w183 w.heap.size (fun k_ => some k_ ≠ (.slice Ao176 y334.length co176 : Value).ownBlock ∧ some k_ ≠ (.slice Ao177 y337.length co177 : Value).ownBlock ∧ some k_ ≠ (.slice Ao185 t340.length co185 : Value).ownBlock ∧ some k_ ≠ (.slice Ao184 t346.length co184 : Value).ownBlock ∧ k_ ≠ gb326 ∧ k_ ≠ gb327 ∧ k_ ≠ gb331) (.slice Ao182 y343.length co182) y343) := ⟨by rw [← hq_]; exact (by (with_reducible repeat (first | apply Kd.R_alloc | apply Kd.R_drewN | apply Kd.R_drew)); exact Kd.R_mono HO345.out (fun _ hk => ⟨hk.1.1.1.1.1.1.2, ⟨hk.1.1.1.1.1.2, ⟨hk.1.1.1.1.2, ⟨hk.2, ⟨hk.1.1.1.2, ⟨hk.1.1.2, hk.1.2⟩⟩⟩⟩⟩⟩))⟩; have n4_ : Aside0 (Kd.R k23 23 w183 w.heap.size (fun k_ => some k_ ≠ (.slice Ao176 y334.length co176 : Value).ownBlock ∧ some k_ ≠ (.slice Ao177 y337.length co177 : Value).ownBlock ∧ some k_ ≠ (.slice Ao185 t340.length co185 : Value).ownBlock ∧ some k_ ≠ (.slice Ao182 y343.length co182 : Value).ownBlock ∧ k_ ≠ gb326 ∧ k_ ≠ gb327 ∧ k_ ≠ gb331) (.slice Ao184 t346.length co184) t346) := ⟨by rw [← hq_]; exact (by (with_reducible repeat (first | apply Kd.R_alloc | apply Kd.R_drewN | apply Kd.R_drew)); exact Kd.R_mono HO348.out (fun _ hk => ⟨hk.1.1.1.1.1.1.2, ⟨hk.1.1.1.1.1.2, ⟨hk.1.1.1.1.2, ⟨hk.1.1.1.2, ⟨hk.1.1.2, ⟨hk.1.2, hk.2⟩⟩⟩⟩⟩⟩))⟩; have n5_ : Aside0 (w183.heap[gb326]? = some (.cells #[.int .i64 a0_0, .int .i64 a0_1] 23 (0, 0))) := ⟨by rw [← hq_]; exact (xb BK326)⟩; have n6_ : Aside0 (w183.heap[gb327]? = some (.cells #[.int .i64 a1_0, .int .i64 a1_1] 23 (0, 0))) := ⟨by rw [← hq_]; exact (xb BK327)⟩; have n7_ : Aside0 (w183.heap[gb331]? = some (.cells #[.int .i64 t329, .int .i64 t330] 23 (0, 0))) := ⟨by rw [← hq_]; exact (xb BK331)⟩; have n8_ : Aside0 (Below w.heap.size w w183) := ⟨by rw [← hq_]; exact xq1⟩; clear HO336 HO339 HO342 HO345 HO348 BK326 BK327 BK331 HB hq_; have HO336 := n0_; have HO339 := n1_; have HO342 := n2_; have HO345 := n3_; have HO348 := n4_; have BK326 := n5_; have BK327 := n6_; have BK331 := n7_; have HB := n8_; clear n0_ n1_ n2_ n3_ n4_ n5_ n6_ n7_ n8_))
            have n0_ := Aside0.mk (Kd.R_drew HO336.out)
            have n1_ := Aside0.mk (Kd.R_drew HO339.out)
            have n2_ := Aside0.mk (Kd.R_drew HO342.out)
            have n3_ := Aside0.mk (Kd.R_drew HO345.out)
            have n4_ := Aside0.mk (Kd.R_drew HO348.out)
            have n5_ := Aside0.mk (blk_drew BK326.out)
            have n6_ := Aside0.mk (blk_drew BK327.out)
            have n7_ := Aside0.mk (blk_drew BK331.out)
            have n8_ := Aside0.mk (below_drew1 HB.out)
            clear HO336
            clear HO339
            clear HO342
            clear HO345
            clear HO348
            clear BK326
            clear BK327
            clear BK331
            clear HB
            have HO336 := n0_
            have HO339 := n1_
            have HO342 := n2_
            have HO345 := n3_
            have HO348 := n4_
            have BK326 := n5_
            have BK327 := n6_
            have BK331 := n7_
            have HB := n8_
            clear n0_ n1_ n2_ n3_ n4_ n5_ n6_ n7_ n8_
            refine start_ (n := 25) (S := fun w' => True) (ds := []) bz1h_35 (by kernel_rfl) rfl rfl trivial (fun hHeld => ?_); refine with_tabW spoorlaw06_IvalCut.tab7 spoorlaw06_IvalCut.bits7 (fun HT_ HW_ => ?_)
            generalize w183.drew = w186 at HO336 HO339 HO342 HO345 HO348 BK326 BK327 BK331 HB hHeld ⊢
            refine pz_ (i := 0) (N := some 79) bz1h_36 (any_of HT_.out (by kernel_rfl)) ?_
            refine pz_ (i := 1) (N := some 80) bz1h_37 (any_of HT_.out (by kernel_rfl)) ?_
            refine pu_ (i := 2) (N := some 81) bz1h_38 (any_of HT_.out (by kernel_rfl)) ?_
            refine pz_ (i := 3) (N := some 82) bz1h_39 (any_of HT_.out (by kernel_rfl)) ?_
            refine pz_ (i := 4) (N := some 83) bz1h_40 (any_of HT_.out (by kernel_rfl)) ?_
            refine pu_ (i := 5) (N := some 84) bz1h_41 (any_of HT_.out (by kernel_rfl)) ?_
            refine pz_ (i := 6) (N := some 85) bz1h_42 (any_of HT_.out (by kernel_rfl)) ?_
            refine pz_ (i := 7) (N := some 86) bz1h_43 (any_of HT_.out (by kernel_rfl)) ?_
            refine pu_ (i := 8) (N := some 87) bz1h_44 (any_of HT_.out (by kernel_rfl)) ?_
            refine pz_ (i := 9) (N := some 88) bz1h_45 (any_of HT_.out (by kernel_rfl)) ?_
            refine pz_ (i := 10) (N := some 89) bz1h_46 (any_of HT_.out (by kernel_rfl)) ?_
            refine pu_ (i := 11) (N := some 90) bz1h_47 (any_of HT_.out (by kernel_rfl)) ?_
            refine pu_ (i := 12) (N := some 91) bz1h_48 (any_of HT_.out (by kernel_rfl)) ?_
            refine pu_ (i := 13) (N := some 92) bz1h_62 (any_of HT_.out (by kernel_rfl)) ?_
            refine pu_ (i := 14) (N := some 93) bz1h_50 (any_of HT_.out (by kernel_rfl)) ?_
            refine pu_ (i := 15) (N := some 94) bz1h_51 (any_of HT_.out (by kernel_rfl)) ?_
            refine pz_ (i := 16) (N := some 95) bz1h_52 (any_of HT_.out (by kernel_rfl)) ?_
            refine pz_ (i := 17) (N := some 96) bz1h_53 (any_of HT_.out (by kernel_rfl)) ?_
            refine pu_ (i := 18) (N := some 97) bz1h_54 (any_of HT_.out (by kernel_rfl)) ?_
            refine pu_ (i := 19) (N := some 98) bz1h_61 (any_of HT_.out (by kernel_rfl)) ?_
            refine pu_ (i := 20) (N := some 99) bz1h_56 (any_of HT_.out (by kernel_rfl)) ?_
            refine pu_ (i := 21) (N := some 100) bz1h_57 (any_of HT_.out (by kernel_rfl)) ?_
            refine pu_ (i := 22) (N := some 101) bz1h_58 (any_of HT_.out (by kernel_rfl)) ?_
            refine pz_ (i := 23) (N := some 102) bz1h_59 (any_of HT_.out (by kernel_rfl)) ?_
            refine pz_ (i := 24) (N := some 4) bz1h_60 (any_of HT_.out (by kernel_rfl)) ?_
            refine done_ (done_of HT_.out (by kernel_rfl)) ?_
            try go_wp2
            go_ret
            exact ⟨by first | rfl | (simp [errW_none, errW_some] <;> rfl) | (simp [*, errW_none, errW_some] <;> rfl), by repeat (first | (with_reducible first | exact HB.out | apply below_alloc | apply pw_below_drewN | apply below_drew1 | refine below_set ?_ GE326.out | refine below_set ?_ GE327.out | refine below_set ?_ GE331.out) | exact HB.out)⟩

end Go.Proofs.Ytafpmcmpkgbgaaa.Pr
