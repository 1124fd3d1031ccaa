-- by xprint.py, a program of the session's own, over the kit's print. Not trusted: Lean checks it.
import Derived.Test.YtdlnfmakfnggpaaDoorPr0
import Derived.Test.YtdlnfmakfnggpaaDoorPrea
import Derived.Test.YtdlnfmakfnggpaaDoorPr0d
import Derived.Test.YtdlnfmakfnggpaaDoorPr0h
import Derived.Test.YtdlnfmakfnggpaaDoorPr0t
import Derived.Test.YtdlnfmakfnggpaaDoorXAm
import Derived.Test.YtdlnfmakfnggpaaDoorXSv
import Derived.Test.YtdlnfmakfnggpaaDoorSh
namespace Go.Proofs.YtdlnfmakfnggpaaDoor.Pr
open Go.RowKit Go.Proofs.YtdlnfmakfnggpaaDoorW.PrintWords Go.Proofs.YtdlnfmakfnggpaaDoorW.PrintLast Go.Proofs.YtdlnfmakfnggpaaDoorW.PrintMore
attribute [local go_sem] max2_int min2_int max_two min_two max_three min_three max_four min_four   -- for this text's walks alone
set_option linter.unusedVariables false
set_option linter.unusedSimpArgs false

attribute [local go_sem high] eqA26
/-! ### spoorlaw21_SampleWeighs: function 7 -/
mutual
def spoorlaw21_SampleWeighs.j0 : Nat → List (S30) → List (S43) → Int → List Int → Bool → Bool → Option (Bool)
  | 0, _, _, _, _, _, _ => none
  | k + 1, x0, x1, x2, x3, x9, x41 => if x41 = true then (some x9) else (spoorlaw21_SampleWeighs.l0 k x0 x1 x2 x3 0 ([] : List (S30)) 0)
def spoorlaw21_SampleWeighs.l0 : Nat → List (S30) → List (S43) → Int → List Int → Int → List (S30) → Int → Option (Bool)
  | 0, _, _, _, _, _, _, _ => none
  | k + 1, x0, x1, x2, x3, x10, x11, x12 => if x12 < (x0.length : Int) then (if 0 ≤ x12 then (if ((rd_T30 x0 x12).f0) = 4 then (spoorlaw21_SampleWeighs.l0 k x0 x1 x2 x3 (mx x10 (IntKind.u64.wrap ((rd_T30 x0 x12).f3))) x11 (wrap64 (x12 + 1))) else (if x11.length < 3518437208883 then (spoorlaw21_SampleWeighs.l0 k x0 x1 x2 x3 x10 (x11 ++ [(⟨(rd_T30 x0 x12).f0, (rd_T30 x0 x12).f1, (rd_T30 x0 x12).f2, (rd_T30 x0 x12).f3⟩ : S30)]) (wrap64 (x12 + 1))) else (none))) else (none)) else (spoorlaw21_SampleWeighs.l1 k x0 x1 x2 x3 x10 x11 (([0, 65535, IntKind.u64.wrap ((mx x10 1) - 1), mn x10 65535] : List Int)) 0)
def spoorlaw21_SampleWeighs.j3 : Nat → List (S30) → List (S43) → Int → Int → List (S30) → List Int → Option (Bool)
  | 0, _, _, _, _, _, _ => none
  | k + 1, x0, x1, x2, x10, x11, x13 => spoorlaw21_SampleWeighs.l2 k x0 x1 x2 x10 x11 x13 0
def spoorlaw21_SampleWeighs.l2 : Nat → List (S30) → List (S43) → Int → Int → List (S30) → List Int → Int → Option (Bool)
  | 0, _, _, _, _, _, _, _ => none
  | k + 1, x0, x1, x2, x10, x11, x13, x15 => if x15 < (x13.length : Int) then (spoorlaw21_SampleWeighs.l3 k x0 x1 x2 x10 x11 x13 x15 0) else (some true)
def spoorlaw21_SampleWeighs.l3 : Nat → List (S30) → List (S43) → Int → Int → List (S30) → List Int → Int → Int → Option (Bool)
  | 0, _, _, _, _, _, _, _, _ => none
  | k + 1, x0, x1, x2, x10, x11, x13, x15, x16 => if x16 < 2 then (if 0 ≤ x15 then (if x15 < (x13.length : Int) then ((spoorlaw21_named.f k (IntKind.u64.wrap ((IntKind.u64.wrap ((rd x13 x15) * 281474976710656)) + (IntKind.u64.wrap (x16 * 281474976710655)))) (IntKind.u64.wrap (x2 + (IntKind.u64.wrap (x15))))).bind fun bt477 => (if (bt477.1 == 0 && (bt477.2 == 0)) = true then (spoorlaw21_SampleWeighs.l3 k x0 x1 x2 x10 x11 x13 x15 (IntKind.u64.wrap (x16 + 1))) else ((spoorlaw21_renamed.f k x1 bt477.1 bt477.2).bind fun t480 => ((sample_Decide.f k x0 t480).bind fun bt483 => ((sample_Decide.f k x11 t480).bind fun bt489 => (if bt483.2.2.2.2 = bt489.2.2.2.2 then (if bt483.2.2.2.2 = 0 then (if bt489.1 = true then (if bt483.1 = true then (spoorlaw21_SampleWeighs.j6 k x0 x1 x2 x10 x11 x13 x15 x16 bt483.2.2.2.1 (bt483.2.2.2.1 != 65536) bt483.1 bt483.2.1 bt483.2.2.1 bt483.2.2.2.1 bt489.1 bt489.2.1 bt489.2.2.1 bt489.2.2.2.1) else (spoorlaw21_SampleWeighs.j6 k x0 x1 x2 x10 x11 x13 x15 x16 bt483.2.2.2.1 true bt483.1 bt483.2.1 bt483.2.2.1 bt483.2.2.2.1 bt489.1 bt489.2.1 bt489.2.2.1 bt489.2.2.2.1)) else (spoorlaw21_SampleWeighs.j6 k x0 x1 x2 x10 x11 x13 x15 x16 bt483.2.2.2.1 false bt483.1 bt483.2.1 bt483.2.2.1 bt483.2.2.2.1 bt489.1 bt489.2.1 bt489.2.2.1 bt489.2.2.2.1)) else (spoorlaw21_SampleWeighs.l3 k x0 x1 x2 x10 x11 x13 x15 (IntKind.u64.wrap (x16 + 1)))) else (some false))))))) else (none)) else (none)) else (spoorlaw21_SampleWeighs.l2 k x0 x1 x2 x10 x11 x13 (wrap64 (x15 + 1)))
def spoorlaw21_SampleWeighs.j6 : Nat → List (S30) → List (S43) → Int → Int → List (S30) → List Int → Int → Int → Int → Bool → Bool → Int → Int → Int → Bool → Int → Int → Int → Option (Bool)
  | 0, _, _, _, _, _, _, _, _, _, _, _, _, _, _, _, _, _, _ => none
  | k + 1, x0, x1, x2, x10, x11, x13, x15, x16, x23, x144, x489000, x489001, x489002, x489003, x495000, x495001, x495002, x495003 => if x144 = true then (some false) else (if x495000 = true then (spoorlaw21_SampleWeighs.j7 k x0 x1 x2 x10 x11 x13 x15 x16 x23 false x489000 x489001 x489002 x489003 x495000 x495001 x495002 x495003) else (if 0 ≤ x15 then (if x15 < (x13.length : Int) then (spoorlaw21_SampleWeighs.j7 k x0 x1 x2 x10 x11 x13 x15 x16 x23 (x489000 != (decide ((rd x13 x15) < x10))) x489000 x489001 x489002 x489003 x495000 x495001 x495002 x495003) else (none)) else (none)))
def spoorlaw21_SampleWeighs.j7 : Nat → List (S30) → List (S43) → Int → Int → List (S30) → List Int → Int → Int → Int → Bool → Bool → Int → Int → Int → Bool → Int → Int → Int → Option (Bool)
  | 0, _, _, _, _, _, _, _, _, _, _, _, _, _, _, _, _, _, _ => none
  | k + 1, x0, x1, x2, x10, x11, x13, x15, x16, x23, x156, x489000, x489001, x489002, x489003, x495000, x495001, x495002, x495003 => if x156 = true then (some false) else (if x495000 = true then (spoorlaw21_SampleWeighs.j8 k x0 x1 x2 x10 x11 x13 x15 x16 x23 false x489000 x489001 x489002 x489003) else (if x489000 = true then (if (IntKind.u64.wrap (x10 * x23)) > 4294967296 then (spoorlaw21_SampleWeighs.j8 k x0 x1 x2 x10 x11 x13 x15 x16 x23 true x489000 x489001 x489002 x489003) else (spoorlaw21_SampleWeighs.j8 k x0 x1 x2 x10 x11 x13 x15 x16 x23 (decide ((IntKind.u64.wrap (x10 * (IntKind.u64.wrap (x23 + 1)))) ≤ 4294967296)) x489000 x489001 x489002 x489003)) else (spoorlaw21_SampleWeighs.j8 k x0 x1 x2 x10 x11 x13 x15 x16 x23 false x489000 x489001 x489002 x489003)))
def spoorlaw21_SampleWeighs.j8 : Nat → List (S30) → List (S43) → Int → Int → List (S30) → List Int → Int → Int → Int → Bool → Bool → Int → Int → Int → Option (Bool)
  | 0, _, _, _, _, _, _, _, _, _, _, _, _, _, _ => none
  | k + 1, x0, x1, x2, x10, x11, x13, x15, x16, x23, x171, x489000, x489001, x489002, x489003 => if x171 = true then (some false) else (if x489002 = 0 then (if x489000 = true then (spoorlaw21_SampleWeighs.l3 k x0 x1 x2 x10 x11 x13 x15 (IntKind.u64.wrap (x16 + 1))) else (if x23 = 0 then (if x489001 = (-1) then (spoorlaw21_SampleWeighs.l3 k x0 x1 x2 x10 x11 x13 x15 (IntKind.u64.wrap (x16 + 1))) else (some false)) else (some false))) else (some false))
def spoorlaw21_SampleWeighs.l1 : Nat → List (S30) → List (S43) → Int → List Int → Int → List (S30) → List Int → Int → Option (Bool)
  | 0, _, _, _, _, _, _, _, _ => none
  | k + 1, x0, x1, x2, x3, x10, x11, x13, x14 => if x14 < (x3.length : Int) then (if x14 < 4 then (if 0 ≤ x14 then (if x13.length < 17592186044416 then (spoorlaw21_SampleWeighs.l1 k x0 x1 x2 x3 x10 x11 (x13 ++ [Int.tmod (IntKind.u64.wrap (rd x3 x14)) 65536]) (wrap64 (x14 + 1))) else (none)) else (none)) else (spoorlaw21_SampleWeighs.j3 k x0 x1 x2 x10 x11 x13)) else (spoorlaw21_SampleWeighs.j3 k x0 x1 x2 x10 x11 x13)
end
def spoorlaw21_SampleWeighs.f (k : Nat) (l0 : List (S30)) (l1 : List (S43)) (a2 : Int) (l3 : List Int) : Option (Bool) := (spoorlaw21_alive.f).bind fun t460 => (if t460 = true then ((sample_Check.f l0).bind fun t461 => (if t461 = 0 then (if (l1.length : Int) = 0 then (spoorlaw21_SampleWeighs.j0 k l0 l1 a2 l3 t460 true) else ((spoorlaw21_weight.f k l1).bind fun t462 => (spoorlaw21_SampleWeighs.j0 k l0 l1 a2 l3 t460 (decide (t462 > 2147483647))))) else (spoorlaw21_SampleWeighs.j0 k l0 l1 a2 l3 t460 true))) else (spoorlaw21_SampleWeighs.j0 k l0 l1 a2 l3 t460 true))
theorem spoorlaw21_SampleWeighs.mono_l : ∀ k, (∀ y0 y1 y2 y3 y4 y5, LeO (spoorlaw21_SampleWeighs.j0 k y0 y1 y2 y3 y4 y5) (spoorlaw21_SampleWeighs.j0 (k + 1) y0 y1 y2 y3 y4 y5)) ∧ (∀ y0 y1 y2 y3 y4 y5 y6, LeO (spoorlaw21_SampleWeighs.l0 k y0 y1 y2 y3 y4 y5 y6) (spoorlaw21_SampleWeighs.l0 (k + 1) y0 y1 y2 y3 y4 y5 y6)) ∧ (∀ y0 y1 y2 y3 y4 y5, LeO (spoorlaw21_SampleWeighs.j3 k y0 y1 y2 y3 y4 y5) (spoorlaw21_SampleWeighs.j3 (k + 1) y0 y1 y2 y3 y4 y5)) ∧ (∀ y0 y1 y2 y3 y4 y5 y6, LeO (spoorlaw21_SampleWeighs.l2 k y0 y1 y2 y3 y4 y5 y6) (spoorlaw21_SampleWeighs.l2 (k + 1) y0 y1 y2 y3 y4 y5 y6)) ∧ (∀ y0 y1 y2 y3 y4 y5 y6 y7, LeO (spoorlaw21_SampleWeighs.l3 k y0 y1 y2 y3 y4 y5 y6 y7) (spoorlaw21_SampleWeighs.l3 (k + 1) y0 y1 y2 y3 y4 y5 y6 y7)) ∧ (∀ y0 y1 y2 y3 y4 y5 y6 y7 y8 y9 y10 y11 y12 y13 y14 y15 y16 y17, LeO (spoorlaw21_SampleWeighs.j6 k y0 y1 y2 y3 y4 y5 y6 y7 y8 y9 y10 y11 y12 y13 y14 y15 y16 y17) (spoorlaw21_SampleWeighs.j6 (k + 1) y0 y1 y2 y3 y4 y5 y6 y7 y8 y9 y10 y11 y12 y13 y14 y15 y16 y17)) ∧ (∀ y0 y1 y2 y3 y4 y5 y6 y7 y8 y9 y10 y11 y12 y13 y14 y15 y16 y17, LeO (spoorlaw21_SampleWeighs.j7 k y0 y1 y2 y3 y4 y5 y6 y7 y8 y9 y10 y11 y12 y13 y14 y15 y16 y17) (spoorlaw21_SampleWeighs.j7 (k + 1) y0 y1 y2 y3 y4 y5 y6 y7 y8 y9 y10 y11 y12 y13 y14 y15 y16 y17)) ∧ (∀ y0 y1 y2 y3 y4 y5 y6 y7 y8 y9 y10 y11 y12 y13, LeO (spoorlaw21_SampleWeighs.j8 k y0 y1 y2 y3 y4 y5 y6 y7 y8 y9 y10 y11 y12 y13) (spoorlaw21_SampleWeighs.j8 (k + 1) y0 y1 y2 y3 y4 y5 y6 y7 y8 y9 y10 y11 y12 y13)) ∧ (∀ y0 y1 y2 y3 y4 y5 y6 y7, LeO (spoorlaw21_SampleWeighs.l1 k y0 y1 y2 y3 y4 y5 y6 y7) (spoorlaw21_SampleWeighs.l1 (k + 1) y0 y1 y2 y3 y4 y5 y6 y7))
  | 0 => ⟨fun _ _ _ _ _ _ r h => by simp [spoorlaw21_SampleWeighs.j0] at h, fun _ _ _ _ _ _ _ r h => by simp [spoorlaw21_SampleWeighs.l0] at h, fun _ _ _ _ _ _ r h => by simp [spoorlaw21_SampleWeighs.j3] at h, fun _ _ _ _ _ _ _ r h => by simp [spoorlaw21_SampleWeighs.l2] at h, fun _ _ _ _ _ _ _ _ r h => by simp [spoorlaw21_SampleWeighs.l3] at h, fun _ _ _ _ _ _ _ _ _ _ _ _ _ _ _ _ _ _ r h => by simp [spoorlaw21_SampleWeighs.j6] at h, fun _ _ _ _ _ _ _ _ _ _ _ _ _ _ _ _ _ _ r h => by simp [spoorlaw21_SampleWeighs.j7] at h, fun _ _ _ _ _ _ _ _ _ _ _ _ _ _ r h => by simp [spoorlaw21_SampleWeighs.j8] at h, fun _ _ _ _ _ _ _ _ r h => by simp [spoorlaw21_SampleWeighs.l1] at h⟩
  | k + 1 => by
    obtain ⟨ih0, ih1, ih2, ih3, ih4, ih5, ih6, ih7, ih8⟩ := spoorlaw21_SampleWeighs.mono_l k
    refine ⟨?_, ?_, ?_, ?_, ?_, ?_, ?_, ?_, ?_⟩
    · intro y0 y1 y2 y3 y4 y5
      unfold spoorlaw21_SampleWeighs.j0
      repeat' first
      | (with_reducible exact ih0 _ _ _ _ _ _)
      | (with_reducible exact ih1 _ _ _ _ _ _ _)
      | (with_reducible exact ih2 _ _ _ _ _ _)
      | (with_reducible exact ih3 _ _ _ _ _ _ _)
      | (with_reducible exact ih4 _ _ _ _ _ _ _ _)
      | (with_reducible exact ih5 _ _ _ _ _ _ _ _ _ _ _ _ _ _ _ _ _ _)
      | (with_reducible exact ih6 _ _ _ _ _ _ _ _ _ _ _ _ _ _ _ _ _ _)
      | (with_reducible exact ih7 _ _ _ _ _ _ _ _ _ _ _ _ _ _)
      | (with_reducible exact ih8 _ _ _ _ _ _ _ _)
      | (with_reducible exact sample_Decide.mono _ _ _)
      | (with_reducible exact spoorlaw21_named.mono _ _ _)
      | (with_reducible exact spoorlaw21_renamed.mono _ _ _ _)
      | (with_reducible exact spoorlaw21_weight.mono _ _)
      | (with_reducible exact LeO.refl _)
      | (with_reducible exact LeO.none _)
      | (with_reducible refine LeO.ite ?_ ?_)
      | (with_reducible refine LeO.bind ?_ (fun _ => ?_))
      | exact ih0 _ _ _ _ _ _
      | exact ih1 _ _ _ _ _ _ _
      | exact ih2 _ _ _ _ _ _
      | exact ih3 _ _ _ _ _ _ _
      | exact ih4 _ _ _ _ _ _ _ _
      | exact ih5 _ _ _ _ _ _ _ _ _ _ _ _ _ _ _ _ _ _
      | exact ih6 _ _ _ _ _ _ _ _ _ _ _ _ _ _ _ _ _ _
      | exact ih7 _ _ _ _ _ _ _ _ _ _ _ _ _ _
      | exact ih8 _ _ _ _ _ _ _ _
      | exact sample_Decide.mono _ _ _
      | exact spoorlaw21_named.mono _ _ _
      | exact spoorlaw21_renamed.mono _ _ _ _
      | exact spoorlaw21_weight.mono _ _
      | exact LeO.none _
      | refine LeO.ite ?_ ?_
      | refine LeO.bind ?_ (fun _ => ?_)
    · intro y0 y1 y2 y3 y4 y5 y6
      unfold spoorlaw21_SampleWeighs.l0
      repeat' first
      | (with_reducible exact ih0 _ _ _ _ _ _)
      | (with_reducible exact ih1 _ _ _ _ _ _ _)
      | (with_reducible exact ih2 _ _ _ _ _ _)
      | (with_reducible exact ih3 _ _ _ _ _ _ _)
      | (with_reducible exact ih4 _ _ _ _ _ _ _ _)
      | (with_reducible exact ih5 _ _ _ _ _ _ _ _ _ _ _ _ _ _ _ _ _ _)
      | (with_reducible exact ih6 _ _ _ _ _ _ _ _ _ _ _ _ _ _ _ _ _ _)
      | (with_reducible exact ih7 _ _ _ _ _ _ _ _ _ _ _ _ _ _)
      | (with_reducible exact ih8 _ _ _ _ _ _ _ _)
      | (with_reducible exact sample_Decide.mono _ _ _)
      | (with_reducible exact spoorlaw21_named.mono _ _ _)
      | (with_reducible exact spoorlaw21_renamed.mono _ _ _ _)
      | (with_reducible exact spoorlaw21_weight.mono _ _)
      | (with_reducible exact LeO.refl _)
      | (with_reducible exact LeO.none _)
      | (with_reducible refine LeO.ite ?_ ?_)
      | (with_reducible refine LeO.bind ?_ (fun _ => ?_))
      | exact ih0 _ _ _ _ _ _
      | exact ih1 _ _ _ _ _ _ _
      | exact ih2 _ _ _ _ _ _
      | exact ih3 _ _ _ _ _ _ _
      | exact ih4 _ _ _ _ _ _ _ _
      | exact ih5 _ _ _ _ _ _ _ _ _ _ _ _ _ _ _ _ _ _
      | exact ih6 _ _ _ _ _ _ _ _ _ _ _ _ _ _ _ _ _ _
      | exact ih7 _ _ _ _ _ _ _ _ _ _ _ _ _ _
      | exact ih8 _ _ _ _ _ _ _ _
      | exact sample_Decide.mono _ _ _
      | exact spoorlaw21_named.mono _ _ _
      | exact spoorlaw21_renamed.mono _ _ _ _
      | exact spoorlaw21_weight.mono _ _
      | exact LeO.none _
      | refine LeO.ite ?_ ?_
      | refine LeO.bind ?_ (fun _ => ?_)
    · intro y0 y1 y2 y3 y4 y5
      unfold spoorlaw21_SampleWeighs.j3
      repeat' first
      | (with_reducible exact ih0 _ _ _ _ _ _)
      | (with_reducible exact ih1 _ _ _ _ _ _ _)
      | (with_reducible exact ih2 _ _ _ _ _ _)
      | (with_reducible exact ih3 _ _ _ _ _ _ _)
      | (with_reducible exact ih4 _ _ _ _ _ _ _ _)
      | (with_reducible exact ih5 _ _ _ _ _ _ _ _ _ _ _ _ _ _ _ _ _ _)
      | (with_reducible exact ih6 _ _ _ _ _ _ _ _ _ _ _ _ _ _ _ _ _ _)
      | (with_reducible exact ih7 _ _ _ _ _ _ _ _ _ _ _ _ _ _)
      | (with_reducible exact ih8 _ _ _ _ _ _ _ _)
      | (with_reducible exact sample_Decide.mono _ _ _)
      | (with_reducible exact spoorlaw21_named.mono _ _ _)
      | (with_reducible exact spoorlaw21_renamed.mono _ _ _ _)
      | (with_reducible exact spoorlaw21_weight.mono _ _)
      | (with_reducible exact LeO.refl _)
      | (with_reducible exact LeO.none _)
      | (with_reducible refine LeO.ite ?_ ?_)
      | (with_reducible refine LeO.bind ?_ (fun _ => ?_))
      | exact ih0 _ _ _ _ _ _
      | exact ih1 _ _ _ _ _ _ _
      | exact ih2 _ _ _ _ _ _
      | exact ih3 _ _ _ _ _ _ _
      | exact ih4 _ _ _ _ _ _ _ _
      | exact ih5 _ _ _ _ _ _ _ _ _ _ _ _ _ _ _ _ _ _
      | exact ih6 _ _ _ _ _ _ _ _ _ _ _ _ _ _ _ _ _ _
      | exact ih7 _ _ _ _ _ _ _ _ _ _ _ _ _ _
      | exact ih8 _ _ _ _ _ _ _ _
      | exact sample_Decide.mono _ _ _
      | exact spoorlaw21_named.mono _ _ _
      | exact spoorlaw21_renamed.mono _ _ _ _
      | exact spoorlaw21_weight.mono _ _
      | exact LeO.none _
      | refine LeO.ite ?_ ?_
      | refine LeO.bind ?_ (fun _ => ?_)
    · intro y0 y1 y2 y3 y4 y5 y6
      unfold spoorlaw21_SampleWeighs.l2
      repeat' first
      | (with_reducible exact ih0 _ _ _ _ _ _)
      | (with_reducible exact ih1 _ _ _ _ _ _ _)
      | (with_reducible exact ih2 _ _ _ _ _ _)
      | (with_reducible exact ih3 _ _ _ _ _ _ _)
      | (with_reducible exact ih4 _ _ _ _ _ _ _ _)
      | (with_reducible exact ih5 _ _ _ _ _ _ _ _ _ _ _ _ _ _ _ _ _ _)
      | (with_reducible exact ih6 _ _ _ _ _ _ _ _ _ _ _ _ _ _ _ _ _ _)
      | (with_reducible exact ih7 _ _ _ _ _ _ _ _ _ _ _ _ _ _)
      | (with_reducible exact ih8 _ _ _ _ _ _ _ _)
      | (with_reducible exact sample_Decide.mono _ _ _)
      | (with_reducible exact spoorlaw21_named.mono _ _ _)
      | (with_reducible exact spoorlaw21_renamed.mono _ _ _ _)
      | (with_reducible exact spoorlaw21_weight.mono _ _)
      | (with_reducible exact LeO.refl _)
      | (with_reducible exact LeO.none _)
      | (with_reducible refine LeO.ite ?_ ?_)
      | (with_reducible refine LeO.bind ?_ (fun _ => ?_))
      | exact ih0 _ _ _ _ _ _
      | exact ih1 _ _ _ _ _ _ _
      | exact ih2 _ _ _ _ _ _
      | exact ih3 _ _ _ _ _ _ _
      | exact ih4 _ _ _ _ _ _ _ _
      | exact ih5 _ _ _ _ _ _ _ _ _ _ _ _ _ _ _ _ _ _
      | exact ih6 _ _ _ _ _ _ _ _ _ _ _ _ _ _ _ _ _ _
      | exact ih7 _ _ _ _ _ _ _ _ _ _ _ _ _ _
      | exact ih8 _ _ _ _ _ _ _ _
      | exact sample_Decide.mono _ _ _
      | exact spoorlaw21_named.mono _ _ _
      | exact spoorlaw21_renamed.mono _ _ _ _
      | exact spoorlaw21_weight.mono _ _
      | exact LeO.none _
      | refine LeO.ite ?_ ?_
      | refine LeO.bind ?_ (fun _ => ?_)
    · intro y0 y1 y2 y3 y4 y5 y6 y7
      unfold spoorlaw21_SampleWeighs.l3
      repeat' first
      | (with_reducible exact ih0 _ _ _ _ _ _)
      | (with_reducible exact ih1 _ _ _ _ _ _ _)
      | (with_reducible exact ih2 _ _ _ _ _ _)
      | (with_reducible exact ih3 _ _ _ _ _ _ _)
      | (with_reducible exact ih4 _ _ _ _ _ _ _ _)
      | (with_reducible exact ih5 _ _ _ _ _ _ _ _ _ _ _ _ _ _ _ _ _ _)
      | (with_reducible exact ih6 _ _ _ _ _ _ _ _ _ _ _ _ _ _ _ _ _ _)
      | (with_reducible exact ih7 _ _ _ _ _ _ _ _ _ _ _ _ _ _)
      | (with_reducible exact ih8 _ _ _ _ _ _ _ _)
      | (with_reducible exact sample_Decide.mono _ _ _)
      | (with_reducible exact spoorlaw21_named.mono _ _ _)
      | (with_reducible exact spoorlaw21_renamed.mono _ _ _ _)
      | (with_reducible exact spoorlaw21_weight.mono _ _)
      | (with_reducible exact LeO.refl _)
      | (with_reducible exact LeO.none _)
      | (with_reducible refine LeO.ite ?_ ?_)
      | (with_reducible refine LeO.bind ?_ (fun _ => ?_))
      | exact ih0 _ _ _ _ _ _
      | exact ih1 _ _ _ _ _ _ _
      | exact ih2 _ _ _ _ _ _
      | exact ih3 _ _ _ _ _ _ _
      | exact ih4 _ _ _ _ _ _ _ _
      | exact ih5 _ _ _ _ _ _ _ _ _ _ _ _ _ _ _ _ _ _
      | exact ih6 _ _ _ _ _ _ _ _ _ _ _ _ _ _ _ _ _ _
      | exact ih7 _ _ _ _ _ _ _ _ _ _ _ _ _ _
      | exact ih8 _ _ _ _ _ _ _ _
      | exact sample_Decide.mono _ _ _
      | exact spoorlaw21_named.mono _ _ _
      | exact spoorlaw21_renamed.mono _ _ _ _
      | exact spoorlaw21_weight.mono _ _
      | exact LeO.none _
      | refine LeO.ite ?_ ?_
      | refine LeO.bind ?_ (fun _ => ?_)
    · intro y0 y1 y2 y3 y4 y5 y6 y7 y8 y9 y10 y11 y12 y13 y14 y15 y16 y17
      unfold spoorlaw21_SampleWeighs.j6
      repeat' first
      | (with_reducible exact ih0 _ _ _ _ _ _)
      | (with_reducible exact ih1 _ _ _ _ _ _ _)
      | (with_reducible exact ih2 _ _ _ _ _ _)
      | (with_reducible exact ih3 _ _ _ _ _ _ _)
      | (with_reducible exact ih4 _ _ _ _ _ _ _ _)
      | (with_reducible exact ih5 _ _ _ _ _ _ _ _ _ _ _ _ _ _ _ _ _ _)
      | (with_reducible exact ih6 _ _ _ _ _ _ _ _ _ _ _ _ _ _ _ _ _ _)
      | (with_reducible exact ih7 _ _ _ _ _ _ _ _ _ _ _ _ _ _)
      | (with_reducible exact ih8 _ _ _ _ _ _ _ _)
      | (with_reducible exact sample_Decide.mono _ _ _)
      | (with_reducible exact spoorlaw21_named.mono _ _ _)
      | (with_reducible exact spoorlaw21_renamed.mono _ _ _ _)
      | (with_reducible exact spoorlaw21_weight.mono _ _)
      | (with_reducible exact LeO.refl _)
      | (with_reducible exact LeO.none _)
      | (with_reducible refine LeO.ite ?_ ?_)
      | (with_reducible refine LeO.bind ?_ (fun _ => ?_))
      | exact ih0 _ _ _ _ _ _
      | exact ih1 _ _ _ _ _ _ _
      | exact ih2 _ _ _ _ _ _
      | exact ih3 _ _ _ _ _ _ _
      | exact ih4 _ _ _ _ _ _ _ _
      | exact ih5 _ _ _ _ _ _ _ _ _ _ _ _ _ _ _ _ _ _
      | exact ih6 _ _ _ _ _ _ _ _ _ _ _ _ _ _ _ _ _ _
      | exact ih7 _ _ _ _ _ _ _ _ _ _ _ _ _ _
      | exact ih8 _ _ _ _ _ _ _ _
      | exact sample_Decide.mono _ _ _
      | exact spoorlaw21_named.mono _ _ _
      | exact spoorlaw21_renamed.mono _ _ _ _
      | exact spoorlaw21_weight.mono _ _
      | exact LeO.none _
      | refine LeO.ite ?_ ?_
      | refine LeO.bind ?_ (fun _ => ?_)
    · intro y0 y1 y2 y3 y4 y5 y6 y7 y8 y9 y10 y11 y12 y13 y14 y15 y16 y17
      unfold spoorlaw21_SampleWeighs.j7
      repeat' first
      | (with_reducible exact ih0 _ _ _ _ _ _)
      | (with_reducible exact ih1 _ _ _ _ _ _ _)
      | (with_reducible exact ih2 _ _ _ _ _ _)
      | (with_reducible exact ih3 _ _ _ _ _ _ _)
      | (with_reducible exact ih4 _ _ _ _ _ _ _ _)
      | (with_reducible exact ih5 _ _ _ _ _ _ _ _ _ _ _ _ _ _ _ _ _ _)
      | (with_reducible exact ih6 _ _ _ _ _ _ _ _ _ _ _ _ _ _ _ _ _ _)
      | (with_reducible exact ih7 _ _ _ _ _ _ _ _ _ _ _ _ _ _)
      | (with_reducible exact ih8 _ _ _ _ _ _ _ _)
      | (with_reducible exact sample_Decide.mono _ _ _)
      | (with_reducible exact spoorlaw21_named.mono _ _ _)
      | (with_reducible exact spoorlaw21_renamed.mono _ _ _ _)
      | (with_reducible exact spoorlaw21_weight.mono _ _)
      | (with_reducible exact LeO.refl _)
      | (with_reducible exact LeO.none _)
      | (with_reducible refine LeO.ite ?_ ?_)
      | (with_reducible refine LeO.bind ?_ (fun _ => ?_))
      | exact ih0 _ _ _ _ _ _
      | exact ih1 _ _ _ _ _ _ _
      | exact ih2 _ _ _ _ _ _
      | exact ih3 _ _ _ _ _ _ _
      | exact ih4 _ _ _ _ _ _ _ _
      | exact ih5 _ _ _ _ _ _ _ _ _ _ _ _ _ _ _ _ _ _
      | exact ih6 _ _ _ _ _ _ _ _ _ _ _ _ _ _ _ _ _ _
      | exact ih7 _ _ _ _ _ _ _ _ _ _ _ _ _ _
      | exact ih8 _ _ _ _ _ _ _ _
      | exact sample_Decide.mono _ _ _
      | exact spoorlaw21_named.mono _ _ _
      | exact spoorlaw21_renamed.mono _ _ _ _
      | exact spoorlaw21_weight.mono _ _
      | exact LeO.none _
      | refine LeO.ite ?_ ?_
      | refine LeO.bind ?_ (fun _ => ?_)
    · intro y0 y1 y2 y3 y4 y5 y6 y7 y8 y9 y10 y11 y12 y13
      unfold spoorlaw21_SampleWeighs.j8
      repeat' first
      | (with_reducible exact ih0 _ _ _ _ _ _)
      | (with_reducible exact ih1 _ _ _ _ _ _ _)
      | (with_reducible exact ih2 _ _ _ _ _ _)
      | (with_reducible exact ih3 _ _ _ _ _ _ _)
      | (with_reducible exact ih4 _ _ _ _ _ _ _ _)
      | (with_reducible exact ih5 _ _ _ _ _ _ _ _ _ _ _ _ _ _ _ _ _ _)
      | (with_reducible exact ih6 _ _ _ _ _ _ _ _ _ _ _ _ _ _ _ _ _ _)
      | (with_reducible exact ih7 _ _ _ _ _ _ _ _ _ _ _ _ _ _)
      | (with_reducible exact ih8 _ _ _ _ _ _ _ _)
      | (with_reducible exact sample_Decide.mono _ _ _)
      | (with_reducible exact spoorlaw21_named.mono _ _ _)
      | (with_reducible exact spoorlaw21_renamed.mono _ _ _ _)
      | (with_reducible exact spoorlaw21_weight.mono _ _)
      | (with_reducible exact LeO.refl _)
      | (with_reducible exact LeO.none _)
      | (with_reducible refine LeO.ite ?_ ?_)
      | (with_reducible refine LeO.bind ?_ (fun _ => ?_))
      | exact ih0 _ _ _ _ _ _
      | exact ih1 _ _ _ _ _ _ _
      | exact ih2 _ _ _ _ _ _
      | exact ih3 _ _ _ _ _ _ _
      | exact ih4 _ _ _ _ _ _ _ _
      | exact ih5 _ _ _ _ _ _ _ _ _ _ _ _ _ _ _ _ _ _
      | exact ih6 _ _ _ _ _ _ _ _ _ _ _ _ _ _ _ _ _ _
      | exact ih7 _ _ _ _ _ _ _ _ _ _ _ _ _ _
      | exact ih8 _ _ _ _ _ _ _ _
      | exact sample_Decide.mono _ _ _
      | exact spoorlaw21_named.mono _ _ _
      | exact spoorlaw21_renamed.mono _ _ _ _
      | exact spoorlaw21_weight.mono _ _
      | exact LeO.none _
      | refine LeO.ite ?_ ?_
      | refine LeO.bind ?_ (fun _ => ?_)
    · intro y0 y1 y2 y3 y4 y5 y6 y7
      unfold spoorlaw21_SampleWeighs.l1
      repeat' first
      | (with_reducible exact ih0 _ _ _ _ _ _)
      | (with_reducible exact ih1 _ _ _ _ _ _ _)
      | (with_reducible exact ih2 _ _ _ _ _ _)
      | (with_reducible exact ih3 _ _ _ _ _ _ _)
      | (with_reducible exact ih4 _ _ _ _ _ _ _ _)
      | (with_reducible exact ih5 _ _ _ _ _ _ _ _ _ _ _ _ _ _ _ _ _ _)
      | (with_reducible exact ih6 _ _ _ _ _ _ _ _ _ _ _ _ _ _ _ _ _ _)
      | (with_reducible exact ih7 _ _ _ _ _ _ _ _ _ _ _ _ _ _)
      | (with_reducible exact ih8 _ _ _ _ _ _ _ _)
      | (with_reducible exact sample_Decide.mono _ _ _)
      | (with_reducible exact spoorlaw21_named.mono _ _ _)
      | (with_reducible exact spoorlaw21_renamed.mono _ _ _ _)
      | (with_reducible exact spoorlaw21_weight.mono _ _)
      | (with_reducible exact LeO.refl _)
      | (with_reducible exact LeO.none _)
      | (with_reducible refine LeO.ite ?_ ?_)
      | (with_reducible refine LeO.bind ?_ (fun _ => ?_))
      | exact ih0 _ _ _ _ _ _
      | exact ih1 _ _ _ _ _ _ _
      | exact ih2 _ _ _ _ _ _
      | exact ih3 _ _ _ _ _ _ _
      | exact ih4 _ _ _ _ _ _ _ _
      | exact ih5 _ _ _ _ _ _ _ _ _ _ _ _ _ _ _ _ _ _
      | exact ih6 _ _ _ _ _ _ _ _ _ _ _ _ _ _ _ _ _ _
      | exact ih7 _ _ _ _ _ _ _ _ _ _ _ _ _ _
      | exact ih8 _ _ _ _ _ _ _ _
      | exact sample_Decide.mono _ _ _
      | exact spoorlaw21_named.mono _ _ _
      | exact spoorlaw21_renamed.mono _ _ _ _
      | exact spoorlaw21_weight.mono _ _
      | exact LeO.none _
      | refine LeO.ite ?_ ?_
      | refine LeO.bind ?_ (fun _ => ?_)
theorem spoorlaw21_SampleWeighs.mono : ∀ a0 a1 a2 a3 k, LeO (spoorlaw21_SampleWeighs.f k a0 a1 a2 a3) (spoorlaw21_SampleWeighs.f (k + 1) a0 a1 a2 a3) := by
  intro a0 a1 a2 a3 k
  obtain ⟨ih0, ih1, ih2, ih3, ih4, ih5, ih6, ih7, ih8⟩ := spoorlaw21_SampleWeighs.mono_l k
  unfold spoorlaw21_SampleWeighs.f
  repeat' first
      | (with_reducible exact ih0 _ _ _ _ _ _)
      | (with_reducible exact ih1 _ _ _ _ _ _ _)
      | (with_reducible exact ih2 _ _ _ _ _ _)
      | (with_reducible exact ih3 _ _ _ _ _ _ _)
      | (with_reducible exact ih4 _ _ _ _ _ _ _ _)
      | (with_reducible exact ih5 _ _ _ _ _ _ _ _ _ _ _ _ _ _ _ _ _ _)
      | (with_reducible exact ih6 _ _ _ _ _ _ _ _ _ _ _ _ _ _ _ _ _ _)
      | (with_reducible exact ih7 _ _ _ _ _ _ _ _ _ _ _ _ _ _)
      | (with_reducible exact ih8 _ _ _ _ _ _ _ _)
      | (with_reducible exact sample_Decide.mono _ _ _)
      | (with_reducible exact spoorlaw21_named.mono _ _ _)
      | (with_reducible exact spoorlaw21_renamed.mono _ _ _ _)
      | (with_reducible exact spoorlaw21_weight.mono _ _)
      | (with_reducible exact LeO.refl _)
      | (with_reducible exact LeO.none _)
      | (with_reducible refine LeO.ite ?_ ?_)
      | (with_reducible refine LeO.bind ?_ (fun _ => ?_))
      | exact ih0 _ _ _ _ _ _
      | exact ih1 _ _ _ _ _ _ _
      | exact ih2 _ _ _ _ _ _
      | exact ih3 _ _ _ _ _ _ _
      | exact ih4 _ _ _ _ _ _ _ _
      | exact ih5 _ _ _ _ _ _ _ _ _ _ _ _ _ _ _ _ _ _
      | exact ih6 _ _ _ _ _ _ _ _ _ _ _ _ _ _ _ _ _ _
      | exact ih7 _ _ _ _ _ _ _ _ _ _ _ _ _ _
      | exact ih8 _ _ _ _ _ _ _ _
      | exact sample_Decide.mono _ _ _
      | exact spoorlaw21_named.mono _ _ _
      | exact spoorlaw21_renamed.mono _ _ _ _
      | exact spoorlaw21_weight.mono _ _
      | exact LeO.none _
      | refine LeO.ite ?_ ?_
      | refine LeO.bind ?_ (fun _ => ?_)
set_option maxHeartbeats 8000000 in
set_option maxRecDepth 100000 in
theorem spoorlaw21_SampleWeighs.calls (k : Nat) (A0 : Option Addr) (c0 : Nat) (l0 : List (S30)) (A1 : Option Addr) (c1 : Nat) (l1 : List (S43)) (a2 : Int) (A3 : Option Addr) (c3 : Nat) (l3 : List Int) (r : Bool) (w : World) (hr0 : Kd.C k30 w A0 l0.length l0) (hc0 : l0.length ≤ c0) (hr1 : Kd.C k43 w A1 l1.length l1) (hc1 : l1.length ≤ c1) (hr3 : Kd.C (Kd.int .i64) w A3 l3.length l3) (hc3 : l3.length ≤ c3) (h : spoorlaw21_SampleWeighs.f k l0 l1 a2 l3 = some r) (hTabs_ : Tabs w) :
    Calls Tryd.prog 7 #[.slice A0 l0.length c0, .slice A1 l1.length c1, .int .u64 a2, .slice A3 l3.length c3] w fun e w' => e = .returned (.bool r) ∧ Below w.heap.size w w' := by
  have HTabs0_ := Aside0.mk hTabs_
  clear hTabs_
  have hu30 := Tryd.underlying30
  have hu26 := Tryd.underlying26
  have hu47 := Tryd.underlying47
  have HR0 := Aside0.mk hr0
  have HC0 := Aside0.mk hc0
  clear hr0 hc0
  have HR1 := Aside0.mk hr1
  have HC1 := Aside0.mk hc1
  clear hr1 hc1
  have HR3 := Aside0.mk hr3
  have HC3 := Aside0.mk hc3
  clear hr3 hc3
  have HB := Aside0.mk (Below.refl w.heap.size w)
  have H : ((spoorlaw21_alive.f).bind fun t460 => (if t460 = true then ((sample_Check.f l0).bind fun t461 => (if t461 = 0 then (if (l1.length : Int) = 0 then (spoorlaw21_SampleWeighs.j0 k l0 l1 a2 l3 t460 true) else ((spoorlaw21_weight.f k l1).bind fun t462 => (spoorlaw21_SampleWeighs.j0 k l0 l1 a2 l3 t460 (decide (t462 > 2147483647))))) else (spoorlaw21_SampleWeighs.j0 k l0 l1 a2 l3 t460 true))) else (spoorlaw21_SampleWeighs.j0 k l0 l1 a2 l3 t460 true))) = some r := h
  clear h
  replace H := Option.bind_eq_some_iff.mp H
  obtain ⟨t460, A50, H⟩ := H
  replace H : (if t460 = true then ((sample_Check.f l0).bind fun t461 => (if t461 = 0 then (if (l1.length : Int) = 0 then (spoorlaw21_SampleWeighs.j0 k l0 l1 a2 l3 t460 true) else ((spoorlaw21_weight.f k l1).bind fun t462 => (spoorlaw21_SampleWeighs.j0 k l0 l1 a2 l3 t460 (decide (t462 > 2147483647))))) else (spoorlaw21_SampleWeighs.j0 k l0 l1 a2 l3 t460 true))) else (spoorlaw21_SampleWeighs.j0 k l0 l1 a2 l3 t460 true)) = some r := H
  have A5 := Aside0.mk A50
  clear A50
  have HC6 := Aside0.mk H
  clear H
  go_enter Tryd.func7, Tryd.ntmps7
  go_upto_region 2 with (first | (go_at_call 11; (with_reducible refine (spoorlaw21_alive.calls  t460 _ A5.out).mono ?_); rintro e w7 ⟨rfl, hb⟩; have n0_ := Aside0.mk (below_step xq0 hb); clear HB; have HB := n0_; clear n0_; (try clear hb); (try clear hb2); (try clear hk); (try clear hi)))
  repeat (go_quiet (first | (go_at_call 11; (with_reducible refine (spoorlaw21_alive.calls  t460 _ A5.out).mono ?_); rintro e w7 ⟨rfl, hb⟩; have n0_ := Aside0.mk (below_step xq0 hb); clear HB; have HB := n0_; clear n0_; (try clear hb); (try clear hb2); (try clear hk); (try clear hi))); go_upto_region 2 with (first | (go_at_call 11; (with_reducible refine (spoorlaw21_alive.calls  t460 _ A5.out).mono ?_); rintro e w7 ⟨rfl, hb⟩; have n0_ := Aside0.mk (below_step xq0 hb); clear HB; have HB := n0_; clear n0_; (try clear hb); (try clear hb2); (try clear hk); (try clear hi))))
  (try simp only [Act.put, List.setIfInBounds_toArray, List.set_cons_zero, List.set_cons_succ])
  go_cut [41] (fun v41 wc => ∃ (kq : Nat) (x41_5 : Bool), v41 = .bool x41_5 ∧ Aside0 (spoorlaw21_SampleWeighs.j0 kq l0 l1 a2 l3 t460 x41_5 = some r) ∧ Aside0 (kq ≤ k) ∧ Aside0 (Below w.heap.size w wc))
  case first =>
    have H := HC6.out
    clear HC6
    by_cases c8 : t460 = true
    · subst c8
      have H1 : ((sample_Check.f l0).bind fun t461 => (if t461 = 0 then (if (l1.length : Int) = 0 then (spoorlaw21_SampleWeighs.j0 k l0 l1 a2 l3 true true) else ((spoorlaw21_weight.f k l1).bind fun t462 => (spoorlaw21_SampleWeighs.j0 k l0 l1 a2 l3 true (decide (t462 > 2147483647))))) else (spoorlaw21_SampleWeighs.j0 k l0 l1 a2 l3 true true))) = some r := by rw [if_pos rfl] at H; exact H
      clear H
      have H := H1
      clear H1
      replace H := Option.bind_eq_some_iff.mp H
      obtain ⟨t461, A90, H⟩ := H
      replace H : (if t461 = 0 then (if (l1.length : Int) = 0 then (spoorlaw21_SampleWeighs.j0 k l0 l1 a2 l3 true true) else ((spoorlaw21_weight.f k l1).bind fun t462 => (spoorlaw21_SampleWeighs.j0 k l0 l1 a2 l3 true (decide (t462 > 2147483647))))) else (spoorlaw21_SampleWeighs.j0 k l0 l1 a2 l3 true true)) = some r := H
      have A9 := Aside0.mk A90
      clear A90
      by_cases c10 : t461 = 0
      · as_aux_lemma =>
        rw [if_pos c10] at H
        have c10b0 : (t461 == 0) = true := beq_iff_eq.mpr c10
        have c10b1 : (t461 != 0) = false := bne_eq_false_iff_eq.mpr c10
        clear c10
        (first | rw [c10b0] | (simp only [i64_w, i32_w]; rw [c10b0]) | skip)
        by_cases c11 : (l1.length : Int) = 0
        · as_aux_lemma =>
          rw [if_pos c11] at H
          have c11b0 : ((l1.length : Int) == 0) = true := beq_iff_eq.mpr c11
          have c11b1 : ((l1.length : Int) != 0) = false := bne_eq_false_iff_eq.mpr c11
          clear c11
          have H' := Aside0.mk H
          clear H
          go_wp2_with (first | (go_at_call 13; (with_reducible refine (sample_Check.calls _ _ l0 t461 _ ?side1 ?side2 A9.out (Tabs.below HTabs0_.out xq1)).mono ?_); (case side1 => repeat (first | exact (Kd.C_below HR0.out HB.out) | (with_reducible refine Kd.C_alloc ?_ _) | (with_reducible refine Kd.C_drewN ?_ _) | (with_reducible refine Kd.C_drew ?_))); (case side2 => exact HC0.out); rintro e w12 ⟨rfl, hb⟩; have n0_ := Aside0.mk (below_step xq0 hb); clear HB; have HB := n0_; clear n0_; (try clear hb); (try clear hb2); (try clear hk); (try clear hi)))
          repeat (go_quiet (first | (go_at_call 13; (with_reducible refine (sample_Check.calls _ _ l0 t461 _ ?side1 ?side2 A9.out (Tabs.below HTabs0_.out xq1)).mono ?_); (case side1 => repeat (first | exact (Kd.C_below HR0.out HB.out) | (with_reducible refine Kd.C_alloc ?_ _) | (with_reducible refine Kd.C_drewN ?_ _) | (with_reducible refine Kd.C_drew ?_))); (case side2 => exact HC0.out); rintro e w12 ⟨rfl, hb⟩; have n0_ := Aside0.mk (below_step xq0 hb); clear HB; have HB := n0_; clear n0_; (try clear hb); (try clear hb2); (try clear hk); (try clear hi))); try go_wp2_with (first | (go_at_call 13; (with_reducible refine (sample_Check.calls _ _ l0 t461 _ ?side1 ?side2 A9.out (Tabs.below HTabs0_.out xq1)).mono ?_); (case side1 => repeat (first | exact (Kd.C_below HR0.out HB.out) | (with_reducible refine Kd.C_alloc ?_ _) | (with_reducible refine Kd.C_drewN ?_ _) | (with_reducible refine Kd.C_drew ?_))); (case side2 => exact HC0.out); rintro e w12 ⟨rfl, hb⟩; have n0_ := Aside0.mk (below_step xq0 hb); clear HB; have HB := n0_; clear n0_; (try clear hb); (try clear hb2); (try clear hk); (try clear hi))))
          go_meet
          case rel => exact ⟨_, (true), (by first | rfl | (simp; done) | (simp [*]; done)), H', ⟨by first | omega | exact Nat.le_refl _⟩, ⟨by repeat (first | (with_reducible first | exact HB.out | apply below_alloc | apply pw_below_drewN | apply below_drew1) | exact HB.out)⟩⟩
        · as_aux_lemma =>
          rw [if_neg c11] at H
          have c11b0 : ((l1.length : Int) == 0) = false := beq_eq_false_iff_ne.mpr c11
          have c11b1 : ((l1.length : Int) != 0) = true := bne_iff_ne.mpr c11
          have c11b2 : ¬ (l1 = []) := fun h_ => c11 (by rw [h_]; rfl)
          replace H := Option.bind_eq_some_iff.mp H
          obtain ⟨t462, A130, H⟩ := H
          replace H : (spoorlaw21_SampleWeighs.j0 k l0 l1 a2 l3 true (decide (t462 > 2147483647))) = some r := H
          have A13 := Aside0.mk A130
          clear A130
          have H' := Aside0.mk H
          clear H
          go_wp2_with (first | (go_at_call 13; (with_reducible refine (sample_Check.calls _ _ l0 t461 _ ?side1 ?side2 A9.out (Tabs.below HTabs0_.out xq1)).mono ?_); (case side1 => repeat (first | exact (Kd.C_below HR0.out HB.out) | (with_reducible refine Kd.C_alloc ?_ _) | (with_reducible refine Kd.C_drewN ?_ _) | (with_reducible refine Kd.C_drew ?_))); (case side2 => exact HC0.out); rintro e w14 ⟨rfl, hb⟩; have n0_ := Aside0.mk (below_step xq0 hb); clear HB; have HB := n0_; clear n0_; (try clear hb); (try clear hb2); (try clear hk); (try clear hi)) | (go_at_call 16; (with_reducible refine (spoorlaw21_weight.calls k _ _ l1 t462 _ ?side1 ?side2 A13.out).mono ?_); (case side1 => repeat (first | exact (Kd.C_below HR1.out HB.out) | (with_reducible refine Kd.C_alloc ?_ _) | (with_reducible refine Kd.C_drewN ?_ _) | (with_reducible refine Kd.C_drew ?_))); (case side2 => exact HC1.out); rintro e w' ⟨rfl, ⟨nd, rfl⟩⟩; (try first | exact ⟨rfl, _, World.drewN_drewN _ _ _⟩ | exact ⟨rfl, _, Eq.trans (World.drewN_drewN _ _ _) (congrArg (World.drewN _) (Nat.add_assoc _ _ _))⟩)))
          repeat (go_quiet (first | (go_at_call 13; (with_reducible refine (sample_Check.calls _ _ l0 t461 _ ?side1 ?side2 A9.out (Tabs.below HTabs0_.out xq1)).mono ?_); (case side1 => repeat (first | exact (Kd.C_below HR0.out HB.out) | (with_reducible refine Kd.C_alloc ?_ _) | (with_reducible refine Kd.C_drewN ?_ _) | (with_reducible refine Kd.C_drew ?_))); (case side2 => exact HC0.out); rintro e w14 ⟨rfl, hb⟩; have n0_ := Aside0.mk (below_step xq0 hb); clear HB; have HB := n0_; clear n0_; (try clear hb); (try clear hb2); (try clear hk); (try clear hi)) | (go_at_call 16; (with_reducible refine (spoorlaw21_weight.calls k _ _ l1 t462 _ ?side1 ?side2 A13.out).mono ?_); (case side1 => repeat (first | exact (Kd.C_below HR1.out HB.out) | (with_reducible refine Kd.C_alloc ?_ _) | (with_reducible refine Kd.C_drewN ?_ _) | (with_reducible refine Kd.C_drew ?_))); (case side2 => exact HC1.out); rintro e w' ⟨rfl, ⟨nd, rfl⟩⟩; (try first | exact ⟨rfl, _, World.drewN_drewN _ _ _⟩ | exact ⟨rfl, _, Eq.trans (World.drewN_drewN _ _ _) (congrArg (World.drewN _) (Nat.add_assoc _ _ _))⟩))); try go_wp2_with (first | (go_at_call 13; (with_reducible refine (sample_Check.calls _ _ l0 t461 _ ?side1 ?side2 A9.out (Tabs.below HTabs0_.out xq1)).mono ?_); (case side1 => repeat (first | exact (Kd.C_below HR0.out HB.out) | (with_reducible refine Kd.C_alloc ?_ _) | (with_reducible refine Kd.C_drewN ?_ _) | (with_reducible refine Kd.C_drew ?_))); (case side2 => exact HC0.out); rintro e w14 ⟨rfl, hb⟩; have n0_ := Aside0.mk (below_step xq0 hb); clear HB; have HB := n0_; clear n0_; (try clear hb); (try clear hb2); (try clear hk); (try clear hi)) | (go_at_call 16; (with_reducible refine (spoorlaw21_weight.calls k _ _ l1 t462 _ ?side1 ?side2 A13.out).mono ?_); (case side1 => repeat (first | exact (Kd.C_below HR1.out HB.out) | (with_reducible refine Kd.C_alloc ?_ _) | (with_reducible refine Kd.C_drewN ?_ _) | (with_reducible refine Kd.C_drew ?_))); (case side2 => exact HC1.out); rintro e w' ⟨rfl, ⟨nd, rfl⟩⟩; (try first | exact ⟨rfl, _, World.drewN_drewN _ _ _⟩ | exact ⟨rfl, _, Eq.trans (World.drewN_drewN _ _ _) (congrArg (World.drewN _) (Nat.add_assoc _ _ _))⟩))))
          go_meet
          case rel => exact ⟨_, (decide (t462 > 2147483647)), (by first | rfl | (simp; done) | (simp [*]; done)), H', ⟨by first | omega | exact Nat.le_refl _⟩, ⟨by repeat (first | (with_reducible first | exact HB.out | apply below_alloc | apply pw_below_drewN | apply below_drew1) | exact HB.out)⟩⟩
      · as_aux_lemma =>
        rw [if_neg c10] at H
        have c10b0 : (t461 == 0) = false := beq_eq_false_iff_ne.mpr c10
        have c10b1 : (t461 != 0) = true := bne_iff_ne.mpr c10
        (first | rw [c10b0] | (simp only [i64_w, i32_w]; rw [c10b0]) | skip)
        have H' := Aside0.mk H
        clear H
        go_wp2_with (first | (go_at_call 13; (with_reducible refine (sample_Check.calls _ _ l0 t461 _ ?side1 ?side2 A9.out (Tabs.below HTabs0_.out xq1)).mono ?_); (case side1 => repeat (first | exact (Kd.C_below HR0.out HB.out) | (with_reducible refine Kd.C_alloc ?_ _) | (with_reducible refine Kd.C_drewN ?_ _) | (with_reducible refine Kd.C_drew ?_))); (case side2 => exact HC0.out); rintro e w15 ⟨rfl, hb⟩; have n0_ := Aside0.mk (below_step xq0 hb); clear HB; have HB := n0_; clear n0_; (try clear hb); (try clear hb2); (try clear hk); (try clear hi)))
        repeat (go_quiet (first | (go_at_call 13; (with_reducible refine (sample_Check.calls _ _ l0 t461 _ ?side1 ?side2 A9.out (Tabs.below HTabs0_.out xq1)).mono ?_); (case side1 => repeat (first | exact (Kd.C_below HR0.out HB.out) | (with_reducible refine Kd.C_alloc ?_ _) | (with_reducible refine Kd.C_drewN ?_ _) | (with_reducible refine Kd.C_drew ?_))); (case side2 => exact HC0.out); rintro e w15 ⟨rfl, hb⟩; have n0_ := Aside0.mk (below_step xq0 hb); clear HB; have HB := n0_; clear n0_; (try clear hb); (try clear hb2); (try clear hk); (try clear hi))); try go_wp2_with (first | (go_at_call 13; (with_reducible refine (sample_Check.calls _ _ l0 t461 _ ?side1 ?side2 A9.out (Tabs.below HTabs0_.out xq1)).mono ?_); (case side1 => repeat (first | exact (Kd.C_below HR0.out HB.out) | (with_reducible refine Kd.C_alloc ?_ _) | (with_reducible refine Kd.C_drewN ?_ _) | (with_reducible refine Kd.C_drew ?_))); (case side2 => exact HC0.out); rintro e w15 ⟨rfl, hb⟩; have n0_ := Aside0.mk (below_step xq0 hb); clear HB; have HB := n0_; clear n0_; (try clear hb); (try clear hb2); (try clear hk); (try clear hi))))
        go_meet
        case rel => exact ⟨_, (true), (by first | rfl | (simp; done) | (simp [*]; done)), H', ⟨by first | omega | exact Nat.le_refl _⟩, ⟨by repeat (first | (with_reducible first | exact HB.out | apply below_alloc | apply pw_below_drewN | apply below_drew1) | exact HB.out)⟩⟩
    · replace c8 := Bool.eq_false_iff.mpr c8
      subst c8
      have H1 : (spoorlaw21_SampleWeighs.j0 k l0 l1 a2 l3 false true) = some r := by rw [if_neg (show ¬ (false = true) by decide)] at H; exact H
      clear H
      have H := H1
      clear H1
      have H' := Aside0.mk H
      clear H
      go_wp2
      repeat (go_quiet (fail); try go_wp2)
      go_meet
      case rel => exact ⟨_, (true), (by first | rfl | (simp; done) | (simp [*]; done)), H', ⟨by first | omega | exact Nat.le_refl _⟩, ⟨by repeat (first | (with_reducible first | exact HB.out | apply below_alloc | apply pw_below_drewN | apply below_drew1) | exact HB.out)⟩⟩
  case rest =>
    clear HC6
    try clear c1
    try clear p2
    try clear c3
    try clear c7
    try clear c8
    try clear c10
    try clear c10b0
    try clear c10b1
    try clear c11
    try clear c11b0
    try clear c11b1
    try clear c11b2
    obtain ⟨kq, x41_5, rfl, HA, HJ5, HB⟩ := hcut
    cases kq with
    | zero => exact absurd HA.out (by simp [spoorlaw21_SampleWeighs.j0])
    | succ kj5 =>
      have H := HA.out
      clear HA
      simp only [spoorlaw21_SampleWeighs.j0] at H
      by_cases c16 : x41_5 = true
      · subst c16
        have H1 : (some t460) = some r := by rw [if_pos rfl] at H; exact H
        clear H
        have H := H1
        clear H1
        obtain rfl := Option.some.inj H
        go_wp2
        repeat (go_quiet (fail); try go_wp2)
        go_ret
        exact ⟨by first | rfl | (simp [errW_none, errW_some] <;> rfl) | (simp [*, errW_none, errW_some] <;> rfl), by repeat (first | (with_reducible first | exact HB.out | apply below_alloc | apply pw_below_drewN | apply below_drew1) | exact HB.out)⟩
      · replace c16 := Bool.eq_false_iff.mpr c16
        subst c16
        have H1 : (spoorlaw21_SampleWeighs.l0 kj5 l0 l1 a2 l3 0 ([] : List (S30)) 0) = some r := by rw [if_neg (show ¬ (false = true) by decide)] at H; exact H
        clear H
        have H := H1
        clear H1
        have H' := Aside0.mk H
        clear H
        go_wp2
        repeat (go_quiet (fail); try go_wp2)
        go_loopg [10, 11, 12] kj5 (fun kq v10 v11 v12 w' => ∃ (x10_2 : Int) (x11_2 : List (S30)) (x12_2 : Int), v10 = .int .u64 x10_2 ∧ v12 = .int .i64 x12_2 ∧ Aside0 (spoorlaw21_SampleWeighs.l0 kq l0 l1 a2 l3 x10_2 x11_2 x12_2 = some r) ∧ Aside0 (kq ≤ kj5) ∧ Aside0 (Kd.R k30 30 w' w.heap.size (fun _ => True) v11 x11_2) ∧ Aside0 (Below w.heap.size w w'))
        case atStart => exact ⟨(0), (([] : List (S30))), (0), (by first | rfl | (simp; done) | (simp [*]; done)), (by first | rfl | (simp; done) | (simp [*]; done)), H', ⟨Nat.le_refl _⟩, ⟨by first | exact Kd.R_nil _ _ _ _ _ | exact Kd.N_nil _ _ _ _ _ | exact Kd.V_nil _ _ _ _ _ | exact Kd.Q_nil _ _ _ _ _ | exact Kd.S_nil _ _ _ _ _⟩, ⟨by repeat (first | (with_reducible first | exact HB.out | apply below_alloc | apply pw_below_drewN | apply below_drew1) | exact HB.out)⟩⟩
        case round =>
          clear H'
          try clear c1
          try clear p2
          try clear c3
          try clear c7
          try clear c8
          try clear c10
          try clear c10b0
          try clear c10b1
          try clear c11
          try clear c11b0
          try clear c11b1
          try clear c11b2
          try clear c16
          try clear p2
          obtain ⟨x10_2, x11_2, x12_2, rfl, rfl, HA, HK2, HO_11, HB⟩ := hrel
          cases gk with
          | zero => exact absurd HA.out (by simp [spoorlaw21_SampleWeighs.l0])
          | succ k2 =>
            have H := HA.out
            clear HA
            simp only [spoorlaw21_SampleWeighs.l0] at H
            by_cases c17 : x12_2 < (l0.length : Int)
            · as_aux_lemma =>
              rw [if_pos c17] at H
              have c17b0 : decide (x12_2 < (l0.length : Int)) = true := decide_eq_true c17
              clear c17
              by_cases c18 : 0 ≤ x12_2
              · as_aux_lemma =>
                rw [if_pos c18] at H
                have c18b0 : decide (0 ≤ x12_2) = true := decide_eq_true c18
                clear c18
                by_cases c19 : ((rd_T30 l0 x12_2).f0) = 4
                · as_aux_lemma =>
                  rw [if_pos c19] at H
                  have c19b0 : (((rd_T30 l0 x12_2).f0) == 4) = true := beq_iff_eq.mpr c19
                  have c19b1 : (((rd_T30 l0 x12_2).f0) != 4) = false := bne_eq_false_iff_eq.mpr c19
                  clear c19
                  obtain ⟨ji20, hji20⟩ : ∃ j_ : Int, (mx x10_2 (IntKind.u64.wrap ((rd_T30 l0 x12_2).f3))) = j_ := ⟨_, rfl⟩
                  replace H : (spoorlaw21_SampleWeighs.l0 k2 l0 l1 a2 l3 ji20 x11_2 (wrap64 (x12_2 + 1))) = some r := by first | (rw [hji20] at H; exact H) | (simp only [hji20] at H ⊢; exact H)
                  have hji20_ : (if x10_2 < (IntKind.u64.wrap ((rd_T30 l0 x12_2).f3)) then (IntKind.u64.wrap ((rd_T30 l0 x12_2).f3)) else x10_2) = ji20 := hji20
                  have H' := Aside0.mk H
                  clear H
                  have p463 : 0 ≤ (x12_2 : Int) := of_decide_eq_true (by first | (with_reducible assumption) | assumption)
                  have q463 : x12_2 < (l0.length : Int) := of_decide_eq_true (by first | (with_reducible assumption) | assumption)
                  obtain ⟨ad463, e463, hx463_0, hx463_1, hx463_2, hx463_3⟩ := at_T30 HR0.out x12_2 p463 q463
                  cases e463
                  replace hx463_0 := (HB.out.cell (World.block_lt_of_cell? w _ hx463_0)).trans hx463_0
                  replace hx463_1 := (HB.out.cell (World.block_lt_of_cell? w _ hx463_1)).trans hx463_1
                  replace hx463_2 := (HB.out.cell (World.block_lt_of_cell? w _ hx463_2)).trans hx463_2
                  replace hx463_3 := (HB.out.cell (World.block_lt_of_cell? w _ hx463_3)).trans hx463_3
                  replace p463 := eq_true p463
                  replace q463 := eq_true q463
                  have p464 : 0 ≤ (x12_2 : Int) := of_decide_eq_true (by first | (with_reducible assumption) | assumption)
                  have q464 : x12_2 < (l0.length : Int) := of_decide_eq_true (by first | (with_reducible assumption) | assumption)
                  obtain ⟨ad464, e464, hx464_0, hx464_1, hx464_2, hx464_3⟩ := at_T30 HR0.out x12_2 p464 q464
                  obtain rfl : ad463 = ad464 := (by injection e464)
                  replace hx464_0 := (HB.out.cell (World.block_lt_of_cell? w _ hx464_0)).trans hx464_0
                  replace hx464_1 := (HB.out.cell (World.block_lt_of_cell? w _ hx464_1)).trans hx464_1
                  replace hx464_2 := (HB.out.cell (World.block_lt_of_cell? w _ hx464_2)).trans hx464_2
                  replace hx464_3 := (HB.out.cell (World.block_lt_of_cell? w _ hx464_3)).trans hx464_3
                  replace p464 := eq_true p464
                  replace q464 := eq_true q464
                  go_wp2
                  repeat (go_quiet (fail); try go_wp2)
                  go_roundg k2
                  case measure => have := HJ5.out; have := HK2.out; omega
                  case rel => exact ⟨(ji20), (x11_2), (wrap64 (x12_2 + 1)), (by first | rfl | (simp; done) | (simp only [← hji20] <;> (first | rfl | simp)) | (simp [*]; done)), (by first | rfl | (simp; done) | (simp [*]; done)), H', ⟨by have := HJ5.out; have := HK2.out; omega⟩, ⟨by (with_reducible repeat (first | apply Kd.R_alloc | apply Kd.R_drewN | apply Kd.R_drew)); exact HO_11.out⟩, ⟨by repeat (first | (with_reducible first | exact HB.out | apply below_alloc | apply pw_below_drewN | apply below_drew1) | exact HB.out)⟩⟩
                · as_aux_lemma =>
                  rw [if_neg c19] at H
                  have c19b0 : (((rd_T30 l0 x12_2).f0) == 4) = false := beq_eq_false_iff_ne.mpr c19
                  have c19b1 : (((rd_T30 l0 x12_2).f0) != 4) = true := bne_iff_ne.mpr c19
                  by_cases c21 : x11_2.length < 3518437208883
                  · as_aux_lemma =>
                    rw [if_pos c21] at H
                    have LMc21 := Aside0.mk c21
                    clear c21
                    obtain ⟨y466, hy466⟩ : ∃ y_ : List (S30), y_ = (x11_2 ++ [(⟨(rd_T30 l0 x12_2).f0, (rd_T30 l0 x12_2).f1, (rd_T30 l0 x12_2).f2, (rd_T30 l0 x12_2).f3⟩ : S30)]) := ⟨_, rfl⟩
                    replace H : (spoorlaw21_SampleWeighs.l0 k2 l0 l1 a2 l3 x10_2 y466 (wrap64 (x12_2 + 1))) = some r := by first | (rw [hy466]; with_reducible exact H) | (have H2_ := (Option.bind_some _ _).symm.trans H; rw [hy466]; with_reducible exact H2_) | (have H2_ := (Option.bind_some _ _).symm.trans H; with_reducible exact H2_) | with_reducible exact H | (rw [hy466]; exact H) | exact H
                    have Ny466 := Aside0.mk hy466
                    clear hy466
                    have H' := Aside0.mk H
                    clear H
                    have p463 : 0 ≤ (x12_2 : Int) := of_decide_eq_true (by first | (with_reducible assumption) | assumption)
                    have q463 : x12_2 < (l0.length : Int) := of_decide_eq_true (by first | (with_reducible assumption) | assumption)
                    obtain ⟨ad463, e463, hx463_0, hx463_1, hx463_2, hx463_3⟩ := at_T30 HR0.out x12_2 p463 q463
                    cases e463
                    replace hx463_0 := (HB.out.cell (World.block_lt_of_cell? w _ hx463_0)).trans hx463_0
                    replace hx463_1 := (HB.out.cell (World.block_lt_of_cell? w _ hx463_1)).trans hx463_1
                    replace hx463_2 := (HB.out.cell (World.block_lt_of_cell? w _ hx463_2)).trans hx463_2
                    replace hx463_3 := (HB.out.cell (World.block_lt_of_cell? w _ hx463_3)).trans hx463_3
                    replace p463 := eq_true p463
                    replace q463 := eq_true q463
                    have p465 : 0 ≤ (x12_2 : Int) := of_decide_eq_true (by first | (with_reducible assumption) | assumption)
                    have q465 : x12_2 < (l0.length : Int) := of_decide_eq_true (by first | (with_reducible assumption) | assumption)
                    obtain ⟨ad465, e465, hx465_0, hx465_1, hx465_2, hx465_3⟩ := at_T30 HR0.out x12_2 p465 q465
                    obtain rfl : ad463 = ad465 := (by injection e465)
                    replace hx465_0 := (HB.out.cell (World.block_lt_of_cell? w _ hx465_0)).trans hx465_0
                    replace hx465_1 := (HB.out.cell (World.block_lt_of_cell? w _ hx465_1)).trans hx465_1
                    replace hx465_2 := (HB.out.cell (World.block_lt_of_cell? w _ hx465_2)).trans hx465_2
                    replace hx465_3 := (HB.out.cell (World.block_lt_of_cell? w _ hx465_3)).trans hx465_3
                    replace p465 := eq_true p465
                    replace q465 := eq_true q465
                    go_wp2_with (first | ((with_reducible refine gate_builtin (b := .append) (xs := #[.tmp 63, .tmp 68]) rfl ?_); (try (refine gate_guard (by rfl) ?_; dsimp only)); at_builtin; refine Kd.R_append k30 (w0 := w) w.heap.size rfl (.tmp 63) (.tmp 68) 27 30 (.agg #[(.int .i64 0), (.int .u64 0), (.string ⟨#[]⟩), (.int .i64 0)]) 40 rfl Tryd.underlying27 info30 rfl (by decide) (by omega) u11 x11_2 (⟨(rd_T30 l0 x12_2).f0, (rd_T30 l0 x12_2).f1, (rd_T30 l0 x12_2).f2, (rd_T30 l0 x12_2).f3⟩ : S30) [.int .i64 ((rd_T30 l0 x12_2).f0), .int .u64 ((rd_T30 l0 x12_2).f1), .string ((rd_T30 l0 x12_2).f2), .int .i64 ((rd_T30 l0 x12_2).f3)] (fun _ => True) (fun _ => False) rfl rfl ?aP (fun _ hk => hk.elim) ?aF ?aO ?aB ?aS ?aL ?_; (case aP => exact k30_mkM _ _ _ (⟨(rd_T30 l0 x12_2).f0, (rd_T30 l0 x12_2).f1, (rd_T30 l0 x12_2).f2, (rd_T30 l0 x12_2).f3⟩ : S30)); (case aB => exact xq0); (case aF => exact (fun _ _ => trivial)); (case aO => exact (xr HO_11)); (case aS => exact (below_size xq0)); (case aL => have := LMc21.out; omega); intro v467 w22 ho hb hg hat; rw [← Ny466.out] at ho; have n0_ := Aside0.mk (hb); have n1_ := Aside0.mk (ho); clear HB; clear HO_11; have HB := n0_; have HO468 := n1_; clear n0_ n1_; clear ho hb hg hat))
                    repeat (go_quiet (first | ((with_reducible refine gate_builtin (b := .append) (xs := #[.tmp 63, .tmp 68]) rfl ?_); (try (refine gate_guard (by rfl) ?_; dsimp only)); at_builtin; refine Kd.R_append k30 (w0 := w) w.heap.size rfl (.tmp 63) (.tmp 68) 27 30 (.agg #[(.int .i64 0), (.int .u64 0), (.string ⟨#[]⟩), (.int .i64 0)]) 40 rfl Tryd.underlying27 info30 rfl (by decide) (by omega) u11 x11_2 (⟨(rd_T30 l0 x12_2).f0, (rd_T30 l0 x12_2).f1, (rd_T30 l0 x12_2).f2, (rd_T30 l0 x12_2).f3⟩ : S30) [.int .i64 ((rd_T30 l0 x12_2).f0), .int .u64 ((rd_T30 l0 x12_2).f1), .string ((rd_T30 l0 x12_2).f2), .int .i64 ((rd_T30 l0 x12_2).f3)] (fun _ => True) (fun _ => False) rfl rfl ?aP (fun _ hk => hk.elim) ?aF ?aO ?aB ?aS ?aL ?_; (case aP => exact k30_mkM _ _ _ (⟨(rd_T30 l0 x12_2).f0, (rd_T30 l0 x12_2).f1, (rd_T30 l0 x12_2).f2, (rd_T30 l0 x12_2).f3⟩ : S30)); (case aB => exact xq0); (case aF => exact (fun _ _ => trivial)); (case aO => exact (xr HO_11)); (case aS => exact (below_size xq0)); (case aL => have := LMc21.out; omega); intro v467 w22 ho hb hg hat; rw [← Ny466.out] at ho; have n0_ := Aside0.mk (hb); have n1_ := Aside0.mk (ho); clear HB; clear HO_11; have HB := n0_; have HO468 := n1_; clear n0_ n1_; clear ho hb hg hat)); try go_wp2_with (first | ((with_reducible refine gate_builtin (b := .append) (xs := #[.tmp 63, .tmp 68]) rfl ?_); (try (refine gate_guard (by rfl) ?_; dsimp only)); at_builtin; refine Kd.R_append k30 (w0 := w) w.heap.size rfl (.tmp 63) (.tmp 68) 27 30 (.agg #[(.int .i64 0), (.int .u64 0), (.string ⟨#[]⟩), (.int .i64 0)]) 40 rfl Tryd.underlying27 info30 rfl (by decide) (by omega) u11 x11_2 (⟨(rd_T30 l0 x12_2).f0, (rd_T30 l0 x12_2).f1, (rd_T30 l0 x12_2).f2, (rd_T30 l0 x12_2).f3⟩ : S30) [.int .i64 ((rd_T30 l0 x12_2).f0), .int .u64 ((rd_T30 l0 x12_2).f1), .string ((rd_T30 l0 x12_2).f2), .int .i64 ((rd_T30 l0 x12_2).f3)] (fun _ => True) (fun _ => False) rfl rfl ?aP (fun _ hk => hk.elim) ?aF ?aO ?aB ?aS ?aL ?_; (case aP => exact k30_mkM _ _ _ (⟨(rd_T30 l0 x12_2).f0, (rd_T30 l0 x12_2).f1, (rd_T30 l0 x12_2).f2, (rd_T30 l0 x12_2).f3⟩ : S30)); (case aB => exact xq0); (case aF => exact (fun _ _ => trivial)); (case aO => exact (xr HO_11)); (case aS => exact (below_size xq0)); (case aL => have := LMc21.out; omega); intro v467 w22 ho hb hg hat; rw [← Ny466.out] at ho; have n0_ := Aside0.mk (hb); have n1_ := Aside0.mk (ho); clear HB; clear HO_11; have HB := n0_; have HO468 := n1_; clear n0_ n1_; clear ho hb hg hat)))
                    go_roundg k2
                    case measure => have := HJ5.out; have := HK2.out; omega
                    case rel => exact ⟨(x10_2), (y466), (wrap64 (x12_2 + 1)), (by first | rfl | (simp; done) | (simp [*]; done)), (by first | rfl | (simp; done) | (simp [*]; done)), H', ⟨by have := HJ5.out; have := HK2.out; omega⟩, ⟨by (with_reducible repeat (first | apply Kd.R_alloc | apply Kd.R_drewN | apply Kd.R_drew)); exact HO468.out⟩, ⟨by repeat (first | (with_reducible first | exact HB.out | apply below_alloc | apply pw_below_drewN | apply below_drew1) | exact HB.out)⟩⟩
                  · as_aux_lemma =>
                    rw [if_neg c21] at H
                    exact absurd H (by simp)
              · as_aux_lemma =>
                rw [if_neg c18] at H
                exact absurd H (by simp)
            · as_aux_lemma =>
              rw [if_neg c17] at H
              have c17b0 : decide (x12_2 < (l0.length : Int)) = false := decide_eq_false c17
              clear c17
              obtain ⟨ji23, hji23⟩ : ∃ j_ : Int, (mx x10_2 1) = j_ := ⟨_, rfl⟩
              replace H : (spoorlaw21_SampleWeighs.l1 k2 l0 l1 a2 l3 x10_2 x11_2 (([0, 65535, IntKind.u64.wrap ((ji23) - 1), mn x10_2 65535] : List Int)) 0) = some r := by first | (rw [hji23] at H; exact H) | (simp only [hji23] at H ⊢; exact H)
              have hji23_ : (if x10_2 < 1 then 1 else x10_2) = ji23 := hji23
              obtain ⟨ji24, hji24⟩ : ∃ j_ : Int, (mn x10_2 65535) = j_ := ⟨_, rfl⟩
              replace H : (spoorlaw21_SampleWeighs.l1 k2 l0 l1 a2 l3 x10_2 x11_2 (([0, 65535, IntKind.u64.wrap ((ji23) - 1), ji24] : List Int)) 0) = some r := by first | (rw [hji24] at H; exact H) | (simp only [hji24] at H ⊢; exact H)
              have hji24_ : (if 65535 < x10_2 then 65535 else x10_2) = ji24 := hji24
              obtain ⟨y469, hy469⟩ : ∃ y_ : List Int, y_ = (([0, 65535, IntKind.u64.wrap ((ji23) - 1), ji24] : List Int)) := ⟨_, rfl⟩
              replace H : (spoorlaw21_SampleWeighs.l1 k2 l0 l1 a2 l3 x10_2 x11_2 y469 0) = some r := by first | (rw [hy469]; with_reducible exact H) | (have H2_ := (Option.bind_some _ _).symm.trans H; rw [hy469]; with_reducible exact H2_) | (have H2_ := (Option.bind_some _ _).symm.trans H; with_reducible exact H2_) | with_reducible exact H | (rw [hy469]; exact H) | exact H
              have Ny469 := Aside0.mk hy469
              clear hy469
              have HC25 := Aside0.mk H
              clear H
              go_upto_block 2 with (first | ((with_reducible refine gate_dst (N := 75) rfl ?_); (try (refine gate_guard (by rfl) ?_; dsimp only)); refine Kd.R_lit (Kd.int .u64) _ 23 ?hg (N := 75) ?hd (xs := ([0, 65535, IntKind.u64.wrap ((ji23) - 1), ji24] : List Int)) (inner := [.int .u64 0, .int .u64 65535, .int .u64 (IntKind.u64.wrap ((ji23) - 1)), .int .u64 ji24]) (ok := fun _ => True) (okp := fun _ => True) ?hr ?hp (fun _ hk => hk) trivial (Below.refl _ _) (Nat.le_refl _) (by simp) ?_; (case hd => rfl); (case hg => rfl); (case hr => first | (go_simp; done) | (go_simp; rfl)); (case hp => exact (Reps.one (show Kd.M (Kd.int .u64) _ _ _ 0 [.int .u64 0] from rfl) (Reps.one (show Kd.M (Kd.int .u64) _ _ _ 65535 [.int .u64 65535] from rfl) (Reps.one (show Kd.M (Kd.int .u64) _ _ _ (IntKind.u64.wrap ((ji23) - 1)) [.int .u64 (IntKind.u64.wrap ((ji23) - 1))] from rfl) (Reps.one (show Kd.M (Kd.int .u64) _ _ _ ji24 [.int .u64 ji24] from rfl) (Reps.none _ _)))))); intro v470 w26 ho27 hb hg_ hnew_; clear hg_ hnew_; (first | rw [← Ny469.out] at ho27 | (simp only [Int.reduceToNat] at ho27; rw [← Ny469.out] at ho27)); have n0_ := Aside0.mk (Kd.R_below (xr HO_11) hb); have n1_ := Aside0.mk (Kd.R_lower ho27 (below_size xq0)); have n2_ := Aside0.mk (below_step xq0 hb); clear HO_11; clear HB; have HO_11 := n0_; have HO471 := n1_; have HB := n2_; clear n0_ n1_ n2_; clear hb ho27))
              skip
              (try simp only [Act.put, List.setIfInBounds_toArray, List.set_cons_zero, List.set_cons_succ])
              go_cut [13] (fun v13 wc => ∃ (kq : Nat) (x13_24 : List Int), Aside0 (spoorlaw21_SampleWeighs.j3 kq l0 l1 a2 x10_2 x11_2 x13_24 = some r) ∧ Aside0 (kq ≤ k2) ∧ Aside0 (Kd.R k30 30 wc w.heap.size (fun _ => True) u11 x11_2) ∧ Aside0 (Kd.R (Kd.int .u64) 23 wc w.heap.size (fun _ => True) v13 x13_24) ∧ Aside0 (Below w.heap.size w wc))
              case first =>
                have H := HC25.out
                clear HC25
                have H' := Aside0.mk H
                clear H
                go_wp2
                repeat (go_quiet (fail); try go_wp2)
                go_loopg [13, 14] k2 (fun kq v13 v14 w' => ∃ (x13_3 : List Int) (x14_3 : Int), v14 = .int .i64 x14_3 ∧ Aside0 (spoorlaw21_SampleWeighs.l1 kq l0 l1 a2 l3 x10_2 x11_2 x13_3 x14_3 = some r) ∧ Aside0 (kq ≤ k2) ∧ Aside0 (Kd.R k30 30 w' w.heap.size (fun _ => True) u11 x11_2) ∧ Aside0 (Kd.R (Kd.int .u64) 23 w' w.heap.size (fun _ => True) v13 x13_3) ∧ Aside0 (Below w.heap.size w w'))
                case atStart => exact ⟨(y469), (0), (by first | rfl | (simp; done) | (simp [*]; done)), H', ⟨Nat.le_refl _⟩, ⟨by (with_reducible repeat (first | apply Kd.R_alloc | apply Kd.R_drewN | apply Kd.R_drew)); exact HO_11.out⟩, ⟨by (with_reducible repeat (first | apply Kd.R_alloc | apply Kd.R_drewN | apply Kd.R_drew)); exact HO471.out⟩, ⟨by repeat (first | (with_reducible first | exact HB.out | apply below_alloc | apply pw_below_drewN | apply below_drew1) | exact HB.out)⟩⟩
                case round =>
                  clear H'
                  try clear c1
                  try clear c2
                  try clear p2
                  try clear c3
                  try clear p4
                  try clear q4
                  try clear hx4
                  try clear p6
                  try clear c7
                  try clear c8
                  try clear c10
                  try clear c10b0
                  try clear c10b1
                  try clear c11
                  try clear c11b0
                  try clear c11b1
                  try clear c11b2
                  try clear c16
                  try clear c17
                  try clear c17b0
                  try clear c18
                  try clear c18b0
                  try clear c19
                  try clear c19b0
                  try clear c19b1
                  try clear c21
                  try clear hx463_0
                  try clear hx463_1
                  try clear hx463_2
                  try clear hx463_3
                  try clear hx464_0
                  try clear hx464_1
                  try clear hx464_2
                  try clear hx464_3
                  try clear hx465_0
                  try clear hx465_1
                  try clear hx465_2
                  try clear hx465_3
                  try clear p2
                  try clear p463
                  try clear p464
                  try clear p465
                  try clear q463
                  try clear q464
                  try clear q465
                  obtain ⟨x13_3, x14_3, rfl, HA, HK3, HO_11, HO_13, HB⟩ := hrel
                  cases gk with
                  | zero => exact absurd HA.out (by simp [spoorlaw21_SampleWeighs.l1])
                  | succ k3 =>
                    have H := HA.out
                    clear HA
                    simp only [spoorlaw21_SampleWeighs.l1] at H
                    by_cases c28 : x14_3 < (l3.length : Int)
                    · as_aux_lemma =>
                      rw [if_pos c28] at H
                      have c28b0 : decide (x14_3 < (l3.length : Int)) = true := decide_eq_true c28
                      clear c28
                      (first | rw [c28b0] | (simp only [i64_w, i32_w]; rw [c28b0]) | skip)
                      by_cases c29 : x14_3 < 4
                      · as_aux_lemma =>
                        rw [if_pos c29] at H
                        have c29b0 : decide (x14_3 < 4) = true := decide_eq_true c29
                        clear c29
                        by_cases c30 : 0 ≤ x14_3
                        · as_aux_lemma =>
                          rw [if_pos c30] at H
                          have c30b0 : decide (0 ≤ x14_3) = true := decide_eq_true c30
                          clear c30
                          by_cases c31 : x13_3.length < 17592186044416
                          · as_aux_lemma =>
                            rw [if_pos c31] at H
                            have LMc31 := Aside0.mk c31
                            clear c31
                            obtain ⟨y473, hy473⟩ : ∃ y_ : List Int, y_ = (x13_3 ++ [Int.tmod (IntKind.u64.wrap (rd l3 x14_3)) 65536]) := ⟨_, rfl⟩
                            replace H : (spoorlaw21_SampleWeighs.l1 k3 l0 l1 a2 l3 x10_2 x11_2 y473 (wrap64 (x14_3 + 1))) = some r := by first | (rw [hy473]; with_reducible exact H) | (have H2_ := (Option.bind_some _ _).symm.trans H; rw [hy473]; with_reducible exact H2_) | (have H2_ := (Option.bind_some _ _).symm.trans H; with_reducible exact H2_) | with_reducible exact H | (rw [hy473]; exact H) | exact H
                            have Ny473 := Aside0.mk hy473
                            clear hy473
                            have H' := Aside0.mk H
                            clear H
                            have p472 : 0 ≤ (x14_3 : Int) := of_decide_eq_true (by first | (with_reducible assumption) | assumption)
                            have q472 : x14_3 < (l3.length : Int) := of_decide_eq_true (by first | (with_reducible assumption) | assumption)
                            obtain ⟨ad472, e472, hx472_0⟩ := Kd.at_int HR3.out x14_3 p472 q472
                            cases e472
                            replace hx472_0 := (HB.out.cell (World.block_lt_of_cell? w _ hx472_0)).trans hx472_0
                            replace p472 := eq_true p472
                            replace q472 := eq_true q472
                            go_wp2_with (first | ((with_reducible refine gate_builtin (b := .append) (xs := #[.tmp 86, .tmp 93]) rfl ?_); (try (refine gate_guard (by rfl) ?_; dsimp only)); at_builtin; refine Kd.R_append (Kd.int .u64) (w0 := w) w.heap.size rfl (.tmp 86) (.tmp 93) 55 23 (.int .u64 0) 8 rfl Tryd.underlying55 info23 rfl (by decide) (by omega) u13 x13_3 (Int.tmod (IntKind.u64.wrap (rd l3 x14_3)) 65536) [.int .u64 (Int.tmod (IntKind.u64.wrap (rd l3 x14_3)) 65536)] (fun _ => True) (fun _ => False) rfl rfl ?aP (fun _ hk => hk.elim) ?aF ?aO ?aB ?aS ?aL ?_; (case aP => exact rfl); (case aB => exact xq0); (case aF => exact (fun _ _ => trivial)); (case aO => exact (xr HO_13)); (case aS => exact (below_size xq0)); (case aL => have := LMc31.out; omega); intro v474 w32 ho hb hg hat; rw [← Ny473.out] at ho; have n0_ := Aside0.mk (Kd.R_over' (xr HO_11) (Kd.R_typed (xr HO_13)) (by decide) hg); have n1_ := Aside0.mk (hb); have n2_ := Aside0.mk (ho); clear HO_11; clear HB; clear HO_13; have HO_11 := n0_; have HB := n1_; have HO475 := n2_; clear n0_ n1_ n2_; clear ho hb hg hat))
                            repeat (go_quiet (first | ((with_reducible refine gate_builtin (b := .append) (xs := #[.tmp 86, .tmp 93]) rfl ?_); (try (refine gate_guard (by rfl) ?_; dsimp only)); at_builtin; refine Kd.R_append (Kd.int .u64) (w0 := w) w.heap.size rfl (.tmp 86) (.tmp 93) 55 23 (.int .u64 0) 8 rfl Tryd.underlying55 info23 rfl (by decide) (by omega) u13 x13_3 (Int.tmod (IntKind.u64.wrap (rd l3 x14_3)) 65536) [.int .u64 (Int.tmod (IntKind.u64.wrap (rd l3 x14_3)) 65536)] (fun _ => True) (fun _ => False) rfl rfl ?aP (fun _ hk => hk.elim) ?aF ?aO ?aB ?aS ?aL ?_; (case aP => exact rfl); (case aB => exact xq0); (case aF => exact (fun _ _ => trivial)); (case aO => exact (xr HO_13)); (case aS => exact (below_size xq0)); (case aL => have := LMc31.out; omega); intro v474 w32 ho hb hg hat; rw [← Ny473.out] at ho; have n0_ := Aside0.mk (Kd.R_over' (xr HO_11) (Kd.R_typed (xr HO_13)) (by decide) hg); have n1_ := Aside0.mk (hb); have n2_ := Aside0.mk (ho); clear HO_11; clear HB; clear HO_13; have HO_11 := n0_; have HB := n1_; have HO475 := n2_; clear n0_ n1_ n2_; clear ho hb hg hat)); try go_wp2_with (first | ((with_reducible refine gate_builtin (b := .append) (xs := #[.tmp 86, .tmp 93]) rfl ?_); (try (refine gate_guard (by rfl) ?_; dsimp only)); at_builtin; refine Kd.R_append (Kd.int .u64) (w0 := w) w.heap.size rfl (.tmp 86) (.tmp 93) 55 23 (.int .u64 0) 8 rfl Tryd.underlying55 info23 rfl (by decide) (by omega) u13 x13_3 (Int.tmod (IntKind.u64.wrap (rd l3 x14_3)) 65536) [.int .u64 (Int.tmod (IntKind.u64.wrap (rd l3 x14_3)) 65536)] (fun _ => True) (fun _ => False) rfl rfl ?aP (fun _ hk => hk.elim) ?aF ?aO ?aB ?aS ?aL ?_; (case aP => exact rfl); (case aB => exact xq0); (case aF => exact (fun _ _ => trivial)); (case aO => exact (xr HO_13)); (case aS => exact (below_size xq0)); (case aL => have := LMc31.out; omega); intro v474 w32 ho hb hg hat; rw [← Ny473.out] at ho; have n0_ := Aside0.mk (Kd.R_over' (xr HO_11) (Kd.R_typed (xr HO_13)) (by decide) hg); have n1_ := Aside0.mk (hb); have n2_ := Aside0.mk (ho); clear HO_11; clear HB; clear HO_13; have HO_11 := n0_; have HB := n1_; have HO475 := n2_; clear n0_ n1_ n2_; clear ho hb hg hat)))
                            go_roundg k3
                            case measure => have := HJ5.out; have := HK2.out; have := HK3.out; omega
                            case rel => exact ⟨(y473), (wrap64 (x14_3 + 1)), (by first | rfl | (simp; done) | (simp [*]; done)), H', ⟨by have := HJ5.out; have := HK2.out; have := HK3.out; omega⟩, ⟨by (with_reducible repeat (first | apply Kd.R_alloc | apply Kd.R_drewN | apply Kd.R_drew)); exact HO_11.out⟩, ⟨by (with_reducible repeat (first | apply Kd.R_alloc | apply Kd.R_drewN | apply Kd.R_drew)); exact HO475.out⟩, ⟨by repeat (first | (with_reducible first | exact HB.out | apply below_alloc | apply pw_below_drewN | apply below_drew1) | exact HB.out)⟩⟩
                          · as_aux_lemma =>
                            rw [if_neg c31] at H
                            exact absurd H (by simp)
                        · as_aux_lemma =>
                          rw [if_neg c30] at H
                          exact absurd H (by simp)
                      · as_aux_lemma =>
                        rw [if_neg c29] at H
                        have c29b0 : decide (x14_3 < 4) = false := decide_eq_false c29
                        clear c29
                        have H' := Aside0.mk H
                        clear H
                        go_wp2
                        repeat (go_quiet (fail); try go_wp2)
                        go_meet
                        case rel => exact ⟨_, (x13_3), H', ⟨by have := HJ5.out; have := HK2.out; have := HK3.out; first | omega | exact Nat.le_refl _⟩, ⟨by (with_reducible repeat (first | apply Kd.R_alloc | apply Kd.R_drewN | apply Kd.R_drew)); exact HO_11.out⟩, ⟨by (with_reducible repeat (first | apply Kd.R_alloc | apply Kd.R_drewN | apply Kd.R_drew)); exact HO_13.out⟩, ⟨by repeat (first | (with_reducible first | exact HB.out | apply below_alloc | apply pw_below_drewN | apply below_drew1) | exact HB.out)⟩⟩
                    · as_aux_lemma =>
                      rw [if_neg c28] at H
                      have c28b0 : decide (x14_3 < (l3.length : Int)) = false := decide_eq_false c28
                      clear c28
                      (first | rw [c28b0] | (simp only [i64_w, i32_w]; rw [c28b0]) | skip)
                      have H' := Aside0.mk H
                      clear H
                      go_wp2
                      repeat (go_quiet (fail); try go_wp2)
                      go_meet
                      case rel => exact ⟨_, (x13_3), H', ⟨by have := HJ5.out; have := HK2.out; have := HK3.out; first | omega | exact Nat.le_refl _⟩, ⟨by (with_reducible repeat (first | apply Kd.R_alloc | apply Kd.R_drewN | apply Kd.R_drew)); exact HO_11.out⟩, ⟨by (with_reducible repeat (first | apply Kd.R_alloc | apply Kd.R_drewN | apply Kd.R_drew)); exact HO_13.out⟩, ⟨by repeat (first | (with_reducible first | exact HB.out | apply below_alloc | apply pw_below_drewN | apply below_drew1) | exact HB.out)⟩⟩
              case rest =>
                clear HC25
                try clear c1
                try clear c2
                try clear p2
                try clear c3
                try clear p4
                try clear q4
                try clear hx4
                try clear p6
                try clear c7
                try clear c8
                try clear c10
                try clear c10b0
                try clear c10b1
                try clear c11
                try clear c11b0
                try clear c11b1
                try clear c11b2
                try clear c16
                try clear c17
                try clear c17b0
                try clear c18
                try clear c18b0
                try clear c19
                try clear c19b0
                try clear c19b1
                try clear c21
                try clear c28
                try clear c28b0
                try clear c29
                try clear c29b0
                try clear c30
                try clear c30b0
                try clear c31
                try clear hx463_0
                try clear hx463_1
                try clear hx463_2
                try clear hx463_3
                try clear hx464_0
                try clear hx464_1
                try clear hx464_2
                try clear hx464_3
                try clear hx465_0
                try clear hx465_1
                try clear hx465_2
                try clear hx465_3
                try clear hx472_0
                try clear p2
                try clear p4
                try clear p463
                try clear p464
                try clear p465
                try clear p472
                try clear p6
                try clear q4
                try clear q463
                try clear q464
                try clear q465
                try clear q472
                obtain ⟨kq, x13_24, HA, HJ24, HO_11, HO_13, HB⟩ := hcut
                cases kq with
                | zero => exact absurd HA.out (by simp [spoorlaw21_SampleWeighs.j3])
                | succ kj24 =>
                  have H := HA.out
                  clear HA
                  simp only [spoorlaw21_SampleWeighs.j3] at H
                  have H' := Aside0.mk H
                  clear H
                  go_wp2
                  repeat (go_quiet (fail); try go_wp2)
                  go_loopg [15] kj24 (fun kq v15 w' => ∃ (x15_4 : Int), v15 = .int .i64 x15_4 ∧ Aside0 (spoorlaw21_SampleWeighs.l2 kq l0 l1 a2 x10_2 x11_2 x13_24 x15_4 = some r) ∧ Aside0 (kq ≤ kj24) ∧ Aside0 (Kd.R k30 30 w' w.heap.size (fun _ => True) u11 x11_2) ∧ Aside0 (Kd.R (Kd.int .u64) 23 w' w.heap.size (fun _ => True) u13 x13_24) ∧ Aside0 (Below w.heap.size w w'))
                  case atStart => exact ⟨(0), (by first | rfl | (simp; done) | (simp [*]; done)), H', ⟨Nat.le_refl _⟩, ⟨by (with_reducible repeat (first | apply Kd.R_alloc | apply Kd.R_drewN | apply Kd.R_drew)); exact HO_11.out⟩, ⟨by (with_reducible repeat (first | apply Kd.R_alloc | apply Kd.R_drewN | apply Kd.R_drew)); exact HO_13.out⟩, ⟨by repeat (first | (with_reducible first | exact HB.out | apply below_alloc | apply pw_below_drewN | apply below_drew1) | exact HB.out)⟩⟩
                  case round =>
                    clear H'
                    try clear c1
                    try clear c2
                    try clear p2
                    try clear c3
                    try clear p4
                    try clear q4
                    try clear hx4
                    try clear p6
                    try clear c7
                    try clear c8
                    try clear c10
                    try clear c10b0
                    try clear c10b1
                    try clear c11
                    try clear c11b0
                    try clear c11b1
                    try clear c11b2
                    try clear c16
                    try clear c17
                    try clear c17b0
                    try clear c18
                    try clear c18b0
                    try clear c19
                    try clear c19b0
                    try clear c19b1
                    try clear c21
                    try clear c28
                    try clear c28b0
                    try clear c29
                    try clear c29b0
                    try clear c30
                    try clear c30b0
                    try clear c31
                    try clear hx463_0
                    try clear hx463_1
                    try clear hx463_2
                    try clear hx463_3
                    try clear hx464_0
                    try clear hx464_1
                    try clear hx464_2
                    try clear hx464_3
                    try clear hx465_0
                    try clear hx465_1
                    try clear hx465_2
                    try clear hx465_3
                    try clear hx472_0
                    try clear p2
                    try clear p4
                    try clear p463
                    try clear p464
                    try clear p465
                    try clear p472
                    try clear p6
                    try clear q4
                    try clear q463
                    try clear q464
                    try clear q465
                    try clear q472
                    obtain ⟨x15_4, rfl, HA, HK4, HO_11, HO_13, HB⟩ := hrel
                    cases gk with
                    | zero => exact absurd HA.out (by simp [spoorlaw21_SampleWeighs.l2])
                    | succ k4 =>
                      have H := HA.out
                      clear HA
                      simp only [spoorlaw21_SampleWeighs.l2] at H
                      by_cases c33 : x15_4 < (x13_24.length : Int)
                      · as_aux_lemma =>
                        rw [if_pos c33] at H
                        have c33b0 : decide (x15_4 < (x13_24.length : Int)) = true := decide_eq_true c33
                        clear c33
                        have H' := Aside0.mk H
                        clear H
                        obtain ⟨Ao34, co34, eo34⟩ := Kd.R_slice HO_13.out
                        subst eo34
                        go_wp2
                        repeat (go_quiet (fail); try go_wp2)
                        go_loopg [16] k4 (fun kq v16 w' => ∃ (x16_5 : Int), v16 = .int .u64 x16_5 ∧ Aside0 (spoorlaw21_SampleWeighs.l3 kq l0 l1 a2 x10_2 x11_2 x13_24 x15_4 x16_5 = some r) ∧ Aside0 (kq ≤ k4) ∧ Aside0 (Kd.R k30 30 w' w.heap.size (fun _ => True) u11 x11_2) ∧ Aside0 (Kd.R (Kd.int .u64) 23 w' w.heap.size (fun _ => True) (.slice Ao34 x13_24.length co34) x13_24) ∧ Aside0 (Below w.heap.size w w'))
                        case atStart => exact ⟨(0), (by first | rfl | (simp; done) | (simp [*]; done)), H', ⟨Nat.le_refl _⟩, ⟨by (with_reducible repeat (first | apply Kd.R_alloc | apply Kd.R_drewN | apply Kd.R_drew)); exact HO_11.out⟩, ⟨by (with_reducible repeat (first | apply Kd.R_alloc | apply Kd.R_drewN | apply Kd.R_drew)); exact HO_13.out⟩, ⟨by repeat (first | (with_reducible first | exact HB.out | apply below_alloc | apply pw_below_drewN | apply below_drew1) | exact HB.out)⟩⟩
                        case round =>
                          clear H'
                          try clear c1
                          try clear c2
                          try clear p2
                          try clear c3
                          try clear p4
                          try clear q4
                          try clear hx4
                          try clear p6
                          try clear c7
                          try clear c8
                          try clear c10
                          try clear c10b0
                          try clear c10b1
                          try clear c11
                          try clear c11b0
                          try clear c11b1
                          try clear c11b2
                          try clear c16
                          try clear c17
                          try clear c17b0
                          try clear c18
                          try clear c18b0
                          try clear c19
                          try clear c19b0
                          try clear c19b1
                          try clear c21
                          try clear c28
                          try clear c28b0
                          try clear c29
                          try clear c29b0
                          try clear c30
                          try clear c30b0
                          try clear c31
                          try clear c33
                          try clear c33b0
                          try clear hx463_0
                          try clear hx463_1
                          try clear hx463_2
                          try clear hx463_3
                          try clear hx464_0
                          try clear hx464_1
                          try clear hx464_2
                          try clear hx464_3
                          try clear hx465_0
                          try clear hx465_1
                          try clear hx465_2
                          try clear hx465_3
                          try clear hx472_0
                          try clear p2
                          try clear p4
                          try clear p463
                          try clear p464
                          try clear p465
                          try clear p472
                          try clear p6
                          try clear q4
                          try clear q463
                          try clear q464
                          try clear q465
                          try clear q472
                          obtain ⟨x16_5, rfl, HA, HK5, HO_11, HO_13, HB⟩ := hrel
                          cases gk with
                          | zero => exact absurd HA.out (by simp [spoorlaw21_SampleWeighs.l3])
                          | succ k5 =>
                            have H := HA.out
                            clear HA
                            simp only [spoorlaw21_SampleWeighs.l3] at H
                            by_cases c35 : x16_5 < 2
                            · as_aux_lemma =>
                              rw [if_pos c35] at H
                              have c35b0 : decide (x16_5 < 2) = true := decide_eq_true c35
                              clear c35
                              by_cases c36 : 0 ≤ x15_4
                              · as_aux_lemma =>
                                rw [if_pos c36] at H
                                have c36b0 : decide (0 ≤ x15_4) = true := decide_eq_true c36
                                clear c36
                                by_cases c37 : x15_4 < (x13_24.length : Int)
                                · as_aux_lemma =>
                                  rw [if_pos c37] at H
                                  have c37b0 : decide (x15_4 < (x13_24.length : Int)) = true := decide_eq_true c37
                                  clear c37
                                  replace H := Option.bind_eq_some_iff.mp H
                                  obtain ⟨⟨t477, t478⟩, A380, H⟩ := H
                                  replace H : (if (t477 == 0 && (t478 == 0)) = true then (spoorlaw21_SampleWeighs.l3 k5 l0 l1 a2 x10_2 x11_2 x13_24 x15_4 (IntKind.u64.wrap (x16_5 + 1))) else ((spoorlaw21_renamed.f k5 l1 t477 t478).bind fun t480 => ((sample_Decide.f k5 l0 t480).bind fun bt483 => ((sample_Decide.f k5 x11_2 t480).bind fun bt489 => (if bt483.2.2.2.2 = bt489.2.2.2.2 then (if bt483.2.2.2.2 = 0 then (if bt489.1 = true then (if bt483.1 = true then (spoorlaw21_SampleWeighs.j6 k5 l0 l1 a2 x10_2 x11_2 x13_24 x15_4 x16_5 bt483.2.2.2.1 (bt483.2.2.2.1 != 65536) bt483.1 bt483.2.1 bt483.2.2.1 bt483.2.2.2.1 bt489.1 bt489.2.1 bt489.2.2.1 bt489.2.2.2.1) else (spoorlaw21_SampleWeighs.j6 k5 l0 l1 a2 x10_2 x11_2 x13_24 x15_4 x16_5 bt483.2.2.2.1 true bt483.1 bt483.2.1 bt483.2.2.1 bt483.2.2.2.1 bt489.1 bt489.2.1 bt489.2.2.1 bt489.2.2.2.1)) else (spoorlaw21_SampleWeighs.j6 k5 l0 l1 a2 x10_2 x11_2 x13_24 x15_4 x16_5 bt483.2.2.2.1 false bt483.1 bt483.2.1 bt483.2.2.1 bt483.2.2.2.1 bt489.1 bt489.2.1 bt489.2.2.1 bt489.2.2.2.1)) else (spoorlaw21_SampleWeighs.l3 k5 l0 l1 a2 x10_2 x11_2 x13_24 x15_4 (IntKind.u64.wrap (x16_5 + 1)))) else (some false)))))) = some r := H
                                  have A38 := Aside0.mk A380
                                  clear A380
                                  by_cases c39 : (t477 == 0 && (t478 == 0)) = true
                                  · as_aux_lemma =>
                                    rw [if_pos c39] at H
                                    have c39b0 : (t477 == 0 && (t478 == 0)) = true := c39
                                    (try (have c39b1 : decide (t477 = 0 && (t478 == 0)) = true := by simpa using c39))
                                    (try (have c39b2 : (t477 == 0 && (t478 == 0)) = true := by simpa using c39))
                                    clear c39
                                    have H' := Aside0.mk H
                                    clear H
                                    have p476 : 0 ≤ (x15_4 : Int) := of_decide_eq_true (by first | (with_reducible assumption) | assumption)
                                    have q476 : x15_4 < (x13_24.length : Int) := of_decide_eq_true (by first | (with_reducible assumption) | assumption)
                                    obtain ⟨ad476, e476, hx476_0⟩ := Kd.at_int (Kd.R_reads' HO_13.out).2.2 x15_4 p476 q476
                                    cases e476
                                    replace p476 := eq_true p476
                                    replace q476 := eq_true q476
                                    go_wp2_with (first | (go_at_call 21; (with_reducible refine (spoorlaw21_named.calls k5 (IntKind.u64.wrap ((IntKind.u64.wrap ((rd x13_24 x15_4) * 281474976710656)) + (IntKind.u64.wrap (x16_5 * 281474976710655)))) (IntKind.u64.wrap (a2 + (IntKind.u64.wrap (x15_4)))) t477 t478 _ A38.out).mono ?_); rintro e w40 ⟨rfl, hb⟩; have n0_ := Aside0.mk (Kd.R_below (xr HO_11) hb); have n1_ := Aside0.mk (Kd.R_below (xr HO_13) hb); have n2_ := Aside0.mk (below_step xq0 hb); clear HO_11; clear HO_13; clear HB; have HO_11 := n0_; have HO_13 := n1_; have HB := n2_; clear n0_ n1_ n2_; (try clear hb); (try clear hb2); (try clear hk); (try clear hi)) | ((with_reducible refine gate_dst (N := 17) rfl ?_); (try (refine gate_guard (by rfl) ?_; dsimp only)); refine box_event ?hg (N := 17) ?hd (cs := #[.int .u64 0, .int .u64 0]) (t := 26) ?hr ?_; (case hd => rfl); (case hg => rfl); (case hr => first | (go_simp; done) | (go_simp; rfl)); intro gb479 hg w41 hbox hb; have n0_ := Aside0.mk (Kd.R_below (xr HO_11) hb); have n1_ := Aside0.mk (Kd.R_below (xr HO_13) hb); have n2_ := Aside0.mk (below_step xq0 hb); have n3_ := Aside0.mk (hbox); have n4_ := Aside0.mk ((by rw [hg]; exact (below_size xq0) : w.heap.size ≤ gb479)); have n5_ := Aside0.mk ((by rw [hg]; exact (below_size xq0) : w.heap.size ≤ gb479)); clear HO_11; clear HO_13; clear HB; have HO_11 := n0_; have HO_13 := n1_; have HB := n2_; have BK479 := n3_; have GW479 := n4_; have GE479 := n5_; clear n0_ n1_ n2_ n3_ n4_ n5_; clear hb hbox hg; have hcz42_0 : w41.cell? ⟨gb479, 0, none⟩ = some (.int .u64 0) := (blk_cell BK479.out 0).trans rfl; have hcz42_1 : w41.cell? ⟨gb479, 1, none⟩ = some (.int .u64 0) := (blk_cell BK479.out 1).trans rfl; have hfz42_0 := blk_frozen BK479.out 0; have hfz42_1 := blk_frozen BK479.out 1))
                                    skip
                                    go_roundg k5
                                    case measure => have := HJ5.out; have := HK2.out; have := HJ24.out; have := HK4.out; have := HK5.out; omega
                                    case rel => exact ⟨(IntKind.u64.wrap (x16_5 + 1)), (by first | rfl | (simp; done) | (simp [*]; done)), H', ⟨by have := HJ5.out; have := HK2.out; have := HJ24.out; have := HK4.out; have := HK5.out; omega⟩, ⟨by (with_reducible repeat (first | apply Kd.R_alloc | apply Kd.R_drewN | apply Kd.R_drew)); exact Kd.R_mono (Kd.R_far (p := ⟨gb479, 1, none⟩) (Kd.R_far (p := ⟨gb479, 0, none⟩) (Kd.R_types HO_11.out BK479.out (by decide)) (fun _ hk => hk.2) (.int .u64 t477)) (fun _ hk => hk.2) (.int .u64 t478)) (fun _ hk => trivial)⟩, ⟨by (with_reducible repeat (first | apply Kd.R_alloc | apply Kd.R_drewN | apply Kd.R_drew)); exact Kd.R_mono (Kd.R_far (p := ⟨gb479, 1, none⟩) (Kd.R_far (p := ⟨gb479, 0, none⟩) (Kd.R_types HO_13.out BK479.out (by decide)) (fun _ hk => hk.2) (.int .u64 t477)) (fun _ hk => hk.2) (.int .u64 t478)) (fun _ hk => trivial)⟩, ⟨by repeat (first | (with_reducible first | exact HB.out | apply below_alloc | apply pw_below_drewN | apply below_drew1 | refine below_set ?_ GE479.out) | exact HB.out)⟩⟩
                                  · as_aux_lemma =>
                                    rw [if_neg c39] at H
                                    have c39b0 : (t477 == 0 && (t478 == 0)) = false := by simpa using c39
                                    (try (have c39b1 : decide (t477 = 0 && (t478 == 0)) = false := by simpa using c39))
                                    (try (have c39b2 : (t477 == 0 && (t478 == 0)) = false := by simpa using c39))
                                    (try (have c39b3 : ¬ (t477 = 0 && (t478 == 0)) := by simpa using c39))
                                    clear c39
                                    replace H := Option.bind_eq_some_iff.mp H
                                    obtain ⟨t480, A430, H⟩ := H
                                    replace H : ((sample_Decide.f k5 l0 t480).bind fun bt483 => ((sample_Decide.f k5 x11_2 t480).bind fun bt489 => (if bt483.2.2.2.2 = bt489.2.2.2.2 then (if bt483.2.2.2.2 = 0 then (if bt489.1 = true then (if bt483.1 = true then (spoorlaw21_SampleWeighs.j6 k5 l0 l1 a2 x10_2 x11_2 x13_24 x15_4 x16_5 bt483.2.2.2.1 (bt483.2.2.2.1 != 65536) bt483.1 bt483.2.1 bt483.2.2.1 bt483.2.2.2.1 bt489.1 bt489.2.1 bt489.2.2.1 bt489.2.2.2.1) else (spoorlaw21_SampleWeighs.j6 k5 l0 l1 a2 x10_2 x11_2 x13_24 x15_4 x16_5 bt483.2.2.2.1 true bt483.1 bt483.2.1 bt483.2.2.1 bt483.2.2.2.1 bt489.1 bt489.2.1 bt489.2.2.1 bt489.2.2.2.1)) else (spoorlaw21_SampleWeighs.j6 k5 l0 l1 a2 x10_2 x11_2 x13_24 x15_4 x16_5 bt483.2.2.2.1 false bt483.1 bt483.2.1 bt483.2.2.1 bt483.2.2.2.1 bt489.1 bt489.2.1 bt489.2.2.1 bt489.2.2.2.1)) else (spoorlaw21_SampleWeighs.l3 k5 l0 l1 a2 x10_2 x11_2 x13_24 x15_4 (IntKind.u64.wrap (x16_5 + 1)))) else (some false)))) = some r := H
                                    have A43 := Aside0.mk A430
                                    clear A430
                                    replace H := Option.bind_eq_some_iff.mp H
                                    obtain ⟨⟨t483, t484, t485, t486, t487⟩, A440, H⟩ := H
                                    replace H : ((sample_Decide.f k5 x11_2 t480).bind fun bt489 => (if t487 = bt489.2.2.2.2 then (if t487 = 0 then (if bt489.1 = true then (if t483 = true then (spoorlaw21_SampleWeighs.j6 k5 l0 l1 a2 x10_2 x11_2 x13_24 x15_4 x16_5 t486 (t486 != 65536) t483 t484 t485 t486 bt489.1 bt489.2.1 bt489.2.2.1 bt489.2.2.2.1) else (spoorlaw21_SampleWeighs.j6 k5 l0 l1 a2 x10_2 x11_2 x13_24 x15_4 x16_5 t486 true t483 t484 t485 t486 bt489.1 bt489.2.1 bt489.2.2.1 bt489.2.2.2.1)) else (spoorlaw21_SampleWeighs.j6 k5 l0 l1 a2 x10_2 x11_2 x13_24 x15_4 x16_5 t486 false t483 t484 t485 t486 bt489.1 bt489.2.1 bt489.2.2.1 bt489.2.2.2.1)) else (spoorlaw21_SampleWeighs.l3 k5 l0 l1 a2 x10_2 x11_2 x13_24 x15_4 (IntKind.u64.wrap (x16_5 + 1)))) else (some false))) = some r := H
                                    have A44 := Aside0.mk A440
                                    clear A440
                                    replace H := Option.bind_eq_some_iff.mp H
                                    obtain ⟨⟨t489, t490, t491, t492, t493⟩, A450, H⟩ := H
                                    replace H : (if t487 = t493 then (if t487 = 0 then (if t489 = true then (if t483 = true then (spoorlaw21_SampleWeighs.j6 k5 l0 l1 a2 x10_2 x11_2 x13_24 x15_4 x16_5 t486 (t486 != 65536) t483 t484 t485 t486 t489 t490 t491 t492) else (spoorlaw21_SampleWeighs.j6 k5 l0 l1 a2 x10_2 x11_2 x13_24 x15_4 x16_5 t486 true t483 t484 t485 t486 t489 t490 t491 t492)) else (spoorlaw21_SampleWeighs.j6 k5 l0 l1 a2 x10_2 x11_2 x13_24 x15_4 x16_5 t486 false t483 t484 t485 t486 t489 t490 t491 t492)) else (spoorlaw21_SampleWeighs.l3 k5 l0 l1 a2 x10_2 x11_2 x13_24 x15_4 (IntKind.u64.wrap (x16_5 + 1)))) else (some false)) = some r := H
                                    have A45 := Aside0.mk A450
                                    clear A450
                                    by_cases c46 : t487 = t493
                                    · as_aux_lemma =>
                                      rw [if_pos c46] at H
                                      have c46b0 : (t487 == t493) = true := beq_iff_eq.mpr c46
                                      have c46b1 : (t487 != t493) = false := bne_eq_false_iff_eq.mpr c46
                                      clear c46
                                      by_cases c47 : t487 = 0
                                      · as_aux_lemma =>
                                        rw [if_pos c47] at H
                                        have c47b0 : (t487 == 0) = true := beq_iff_eq.mpr c47
                                        have c47b1 : (t487 != 0) = false := bne_eq_false_iff_eq.mpr c47
                                        clear c47
                                        have HC48 := Aside0.mk H
                                        clear H
                                        have p476 : 0 ≤ (x15_4 : Int) := of_decide_eq_true (by first | (with_reducible assumption) | assumption)
                                        have q476 : x15_4 < (x13_24.length : Int) := of_decide_eq_true (by first | (with_reducible assumption) | assumption)
                                        obtain ⟨ad476, e476, hx476_0⟩ := Kd.at_int (Kd.R_reads' HO_13.out).2.2 x15_4 p476 q476
                                        cases e476
                                        replace p476 := eq_true p476
                                        replace q476 := eq_true q476
                                        go_upto_region 32 with (first | (go_at_call 21; (with_reducible refine (spoorlaw21_named.calls k5 (IntKind.u64.wrap ((IntKind.u64.wrap ((rd x13_24 x15_4) * 281474976710656)) + (IntKind.u64.wrap (x16_5 * 281474976710655)))) (IntKind.u64.wrap (a2 + (IntKind.u64.wrap (x15_4)))) t477 t478 _ A38.out).mono ?_); rintro e w49 ⟨rfl, hb⟩; have n0_ := Aside0.mk (Kd.R_below (xr HO_11) hb); have n1_ := Aside0.mk (Kd.R_below (xr HO_13) hb); have n2_ := Aside0.mk (below_step xq0 hb); clear HO_11; clear HO_13; clear HB; have HO_11 := n0_; have HO_13 := n1_; have HB := n2_; clear n0_ n1_ n2_; (try clear hb); (try clear hb2); (try clear hk); (try clear hi)) | ((with_reducible refine gate_dst (N := 17) rfl ?_); (try (refine gate_guard (by rfl) ?_; dsimp only)); refine box_event ?hg (N := 17) ?hd (cs := #[.int .u64 0, .int .u64 0]) (t := 26) ?hr ?_; (case hd => rfl); (case hg => rfl); (case hr => first | (go_simp; done) | (go_simp; rfl)); intro gb479 hg w50 hbox hb; have n0_ := Aside0.mk (Kd.R_below (xr HO_11) hb); have n1_ := Aside0.mk (Kd.R_below (xr HO_13) hb); have n2_ := Aside0.mk (below_step xq0 hb); have n3_ := Aside0.mk (hbox); have n4_ := Aside0.mk ((by rw [hg]; exact (below_size xq0) : w.heap.size ≤ gb479)); have n5_ := Aside0.mk ((by rw [hg]; exact (below_size xq0) : w.heap.size ≤ gb479)); clear HO_11; clear HO_13; clear HB; have HO_11 := n0_; have HO_13 := n1_; have HB := n2_; have BK479 := n3_; have GW479 := n4_; have GE479 := n5_; clear n0_ n1_ n2_ n3_ n4_ n5_; clear hb hbox hg; have hcz51_0 : w50.cell? ⟨gb479, 0, none⟩ = some (.int .u64 0) := (blk_cell BK479.out 0).trans rfl; have hcz51_1 : w50.cell? ⟨gb479, 1, none⟩ = some (.int .u64 0) := (blk_cell BK479.out 1).trans rfl; have hfz51_0 := blk_frozen BK479.out 0; have hfz51_1 := blk_frozen BK479.out 1) | (go_at_call 22; (with_reducible refine (spoorlaw21_renamed.calls k5 _ _ l1 t477 t478 t480 _ ?side1 ?side2 A43.out).mono ?_); (case side1 => exact Kd.C_below HR1.out xq1); (case side2 => exact HC1.out); rintro e w52 ⟨v481, rfl, ho0, hb⟩; have n0_ := Aside0.mk (Kd.R_below (by (with_reducible repeat (first | apply Kd.R_alloc | apply Kd.R_drewN | apply Kd.R_drew)); exact (Kd.R_mono (Kd.R_far (p := ⟨gb479, 1, none⟩) (Kd.R_far (p := ⟨gb479, 0, none⟩) (Kd.R_types HO_11.out BK479.out (by decide)) (fun _ hk => hk.2) (.int .u64 t477)) (fun _ hk => hk.2) (.int .u64 t478)) (fun _ h_ => h_.1))) hb); have n1_ := Aside0.mk (Kd.R_below (by (with_reducible repeat (first | apply Kd.R_alloc | apply Kd.R_drewN | apply Kd.R_drew)); exact (Kd.R_mono (Kd.R_far (p := ⟨gb479, 1, none⟩) (Kd.R_far (p := ⟨gb479, 0, none⟩) (Kd.R_types HO_13.out BK479.out (by decide)) (fun _ hk => hk.2) (.int .u64 t477)) (fun _ hk => hk.2) (.int .u64 t478)) (fun _ h_ => h_.1))) hb); have n2_ := Aside0.mk (Kd.S_lower ho0 (below_size xq1)); have n3_ := Aside0.mk (blk_below (g := gb479) (o := .cells #[.int .u64 t477, .int .u64 t478] 26 (0, 0)) (by (with_reducible repeat (first | refine blk_drewN ?_ _ | refine blk_drew ?_ | refine blk_alloc ?_ _)); refine blk_put (cs := #[.int .u64 t477, .int .u64 0]) ?_ 1 _ rfl; (with_reducible repeat (first | refine blk_drewN ?_ _ | refine blk_drew ?_ | refine blk_alloc ?_ _)); refine blk_put (cs := #[.int .u64 0, .int .u64 0]) ?_ 0 _ rfl; (with_reducible repeat (first | refine blk_drewN ?_ _ | refine blk_drew ?_ | refine blk_alloc ?_ _)); exact BK479.out) hb); have n4_ := Aside0.mk (below_step xq1 hb); clear HO_11; clear HO_13; clear BK479; clear HB; have HO_11 := n0_; have HO_13 := n1_; have HO482 := n2_; have BK479 := n3_; have HB := n4_; clear n0_ n1_ n2_ n3_ n4_; (try clear hb); (try clear hb2); (try clear hk); (try clear hi); (try clear ho0); obtain ⟨Ao53, co53, eo53⟩ := Kd.S_slice HO482.out; subst eo53) | (go_at_call 18; (with_reducible refine (sample_Decide.calls k5 _ _ l0 _ _ t480 t483 t484 t485 t486 t487 _ ?side1 ?side2 ?side3 ?side4 A44.out (Tabs.below HTabs0_.out xq1)).mono ?_); (case side1 => repeat (first | exact (Kd.C_below HR0.out HB.out) | (with_reducible refine Kd.C_alloc ?_ _) | (with_reducible refine Kd.C_drewN ?_ _) | (with_reducible refine Kd.C_drew ?_))); (case side2 => exact HC0.out); (case side3 => repeat (first | exact (Kd.S_reads' HO482.out).2.2 | (with_reducible refine Kd.C_alloc ?_ _) | (with_reducible refine Kd.C_drewN ?_ _) | (with_reducible refine Kd.C_drew ?_))); (case side4 => exact (Kd.S_reads' HO482.out).2.1); rintro e w54 ⟨rfl, hb⟩; have n0_ := Aside0.mk (Kd.R_below (xr HO_11) hb); have n1_ := Aside0.mk (Kd.R_below (xr HO_13) hb); have n2_ := Aside0.mk (Kd.S_below (by (with_reducible repeat (first | apply Kd.S_alloc | apply Kd.S_drewN | apply Kd.S_drew)); exact HO482.out) hb); have n3_ := Aside0.mk (blk_below (g := gb479) (o := .cells #[.int .u64 t477, .int .u64 t478] 26 (0, 0)) (xb BK479) hb); have n4_ := Aside0.mk (below_step xq1 hb); clear HO_11; clear HO_13; clear HO482; clear BK479; clear HB; have HO_11 := n0_; have HO_13 := n1_; have HO482 := n2_; have BK479 := n3_; have HB := n4_; clear n0_ n1_ n2_ n3_ n4_; (try clear hb); (try clear hb2); (try clear hk); (try clear hi)) | ((with_reducible refine gate_dst (N := 19) rfl ?_); (try (refine gate_guard (by rfl) ?_; dsimp only)); refine box_event ?hg (N := 19) ?hd (cs := #[.bool false, .int .i64 0, .int .u64 0, .int .u64 0]) (t := 47) ?hr ?_; (case hd => rfl); (case hg => rfl); (case hr => first | (go_simp; done) | (go_simp; rfl)); intro gb488 hg w55 hbox hb; have n0_ := Aside0.mk (Kd.R_below (xr HO_11) hb); have n1_ := Aside0.mk (Kd.R_below (xr HO_13) hb); have n2_ := Aside0.mk (Kd.S_below (by (with_reducible repeat (first | apply Kd.S_alloc | apply Kd.S_drewN | apply Kd.S_drew)); exact HO482.out) hb); have n3_ := Aside0.mk (blk_below (g := gb479) (o := .cells #[.int .u64 t477, .int .u64 t478] 26 (0, 0)) (xb BK479) hb); have n4_ := Aside0.mk (below_step xq1 hb); have n5_ := Aside0.mk (hbox); have n6_ := Aside0.mk ((by rw [hg]; exact (below_size xq1) : w.heap.size ≤ gb488)); have n7_ := Aside0.mk ((by rw [hg]; exact (below_size xq1) : w.heap.size ≤ gb488)); have n8_ := Aside0.mk ((by rw [hg]; exact Nat.ne_of_lt (blk_lt (g := gb479) (o := .cells #[.int .u64 t477, .int .u64 t478] 26 (0, 0)) (xb BK479)) : gb479 ≠ gb488)); have n9_ := Aside0.mk ((by rw [hg]; exact Nat.ne_of_gt (blk_lt (g := gb479) (o := .cells #[.int .u64 t477, .int .u64 t478] 26 (0, 0)) (xb BK479)) : gb488 ≠ gb479)); clear HO_11; clear HO_13; clear HO482; clear BK479; clear HB; have HO_11 := n0_; have HO_13 := n1_; have HO482 := n2_; have BK479 := n3_; have HB := n4_; have BK488 := n5_; have GW488 := n6_; have GE488 := n7_; have NB479_488 := n8_; have NB488_479 := n9_; clear n0_ n1_ n2_ n3_ n4_ n5_ n6_ n7_ n8_ n9_; clear hb hbox hg; have hnb56 := NB488_479.out; have hnc56 := NB479_488.out; have hcz57_0 : w55.cell? ⟨gb488, 0, none⟩ = some (.bool false) := (blk_cell BK488.out 0).trans rfl; have hcz57_1 : w55.cell? ⟨gb488, 1, none⟩ = some (.int .i64 0) := (blk_cell BK488.out 1).trans rfl; have hcz57_2 : w55.cell? ⟨gb488, 2, none⟩ = some (.int .u64 0) := (blk_cell BK488.out 2).trans rfl; have hcz57_3 : w55.cell? ⟨gb488, 3, none⟩ = some (.int .u64 0) := (blk_cell BK488.out 3).trans rfl; have hfz57_0 := blk_frozen BK488.out 0; have hfz57_1 := blk_frozen BK488.out 1; have hfz57_2 := blk_frozen BK488.out 2; have hfz57_3 := blk_frozen BK488.out 3; obtain ⟨Ao58, co58, eo58⟩ := Kd.R_slice HO_11.out; subst eo58) | (go_at_call 18; (with_reducible refine (sample_Decide.calls k5 _ _ x11_2 _ _ t480 t489 t490 t491 t492 t493 _ ?side1 ?side2 ?side3 ?side4 A45.out (Tabs.below HTabs0_.out xq1)).mono ?_); (case side1 => refine (Kd.R_reads' (e := 30) (base := w.heap.size) (ok := fun k_ => True) (n := x11_2.length) (c := co58) ?_).2.2; exact (by (with_reducible repeat (first | apply Kd.R_alloc | apply Kd.R_drewN | apply Kd.R_drew)); exact (Kd.R_mono (Kd.R_far (p := ⟨gb488, 3, none⟩) (Kd.R_far (p := ⟨gb488, 2, none⟩) (Kd.R_far (p := ⟨gb488, 1, none⟩) (Kd.R_far (p := ⟨gb488, 0, none⟩) (Kd.R_types HO_11.out BK488.out (by decide)) (fun _ hk => hk.2) (.bool t483)) (fun _ hk => hk.2) (.int .i64 t484)) (fun _ hk => hk.2) (.int .u64 t485)) (fun _ hk => hk.2) (.int .u64 t486)) (fun _ h_ => h_.1)))); (case side2 => exact (Kd.R_reads' HO_11.out).2.1); (case side3 => refine (Kd.S_reads' (e := 43) (base := w.heap.size) (ok := fun k_ => True) (n := t480.length) (c := co53) ?_).2.2; exact (by (with_reducible repeat (first | apply Kd.S_alloc | apply Kd.S_drewN | apply Kd.S_drew)); exact (Kd.S_mono (Kd.S_far (p := ⟨gb488, 3, none⟩) (Kd.S_far (p := ⟨gb488, 2, none⟩) (Kd.S_far (p := ⟨gb488, 1, none⟩) (Kd.S_far (p := ⟨gb488, 0, none⟩) (Kd.S_types HO482.out BK488.out (by decide)) (fun _ hk => hk.2) (.bool t483)) (fun _ hk => hk.2) (.int .i64 t484)) (fun _ hk => hk.2) (.int .u64 t485)) (fun _ hk => hk.2) (.int .u64 t486)) (fun _ h_ => h_.1)))); (case side4 => exact (Kd.S_reads' HO482.out).2.1); rintro e w59 ⟨rfl, hb⟩; have n0_ := Aside0.mk (Kd.R_below (by (with_reducible repeat (first | apply Kd.R_alloc | apply Kd.R_drewN | apply Kd.R_drew)); exact (Kd.R_mono (Kd.R_far (p := ⟨gb488, 3, none⟩) (Kd.R_far (p := ⟨gb488, 2, none⟩) (Kd.R_far (p := ⟨gb488, 1, none⟩) (Kd.R_far (p := ⟨gb488, 0, none⟩) (Kd.R_types HO_11.out BK488.out (by decide)) (fun _ hk => hk.2) (.bool t483)) (fun _ hk => hk.2) (.int .i64 t484)) (fun _ hk => hk.2) (.int .u64 t485)) (fun _ hk => hk.2) (.int .u64 t486)) (fun _ h_ => h_.1))) hb); have n1_ := Aside0.mk (Kd.R_below (by (with_reducible repeat (first | apply Kd.R_alloc | apply Kd.R_drewN | apply Kd.R_drew)); exact (Kd.R_mono (Kd.R_far (p := ⟨gb488, 3, none⟩) (Kd.R_far (p := ⟨gb488, 2, none⟩) (Kd.R_far (p := ⟨gb488, 1, none⟩) (Kd.R_far (p := ⟨gb488, 0, none⟩) (Kd.R_types HO_13.out BK488.out (by decide)) (fun _ hk => hk.2) (.bool t483)) (fun _ hk => hk.2) (.int .i64 t484)) (fun _ hk => hk.2) (.int .u64 t485)) (fun _ hk => hk.2) (.int .u64 t486)) (fun _ h_ => h_.1))) hb); have n2_ := Aside0.mk (Kd.S_below (by (with_reducible repeat (first | apply Kd.S_alloc | apply Kd.S_drewN | apply Kd.S_drew)); exact (Kd.S_mono (Kd.S_far (p := ⟨gb488, 3, none⟩) (Kd.S_far (p := ⟨gb488, 2, none⟩) (Kd.S_far (p := ⟨gb488, 1, none⟩) (Kd.S_far (p := ⟨gb488, 0, none⟩) (Kd.S_types HO482.out BK488.out (by decide)) (fun _ hk => hk.2) (.bool t483)) (fun _ hk => hk.2) (.int .i64 t484)) (fun _ hk => hk.2) (.int .u64 t485)) (fun _ hk => hk.2) (.int .u64 t486)) (fun _ h_ => h_.1))) hb); have n3_ := Aside0.mk (blk_below (g := gb479) (o := .cells #[.int .u64 t477, .int .u64 t478] 26 (0, 0)) (by (with_reducible repeat (first | refine blk_drewN ?_ _ | refine blk_drew ?_ | refine blk_alloc ?_ _)); refine blk_far ?_ NB479_488.out _; (with_reducible repeat (first | refine blk_drewN ?_ _ | refine blk_drew ?_ | refine blk_alloc ?_ _)); refine blk_far ?_ NB479_488.out _; (with_reducible repeat (first | refine blk_drewN ?_ _ | refine blk_drew ?_ | refine blk_alloc ?_ _)); refine blk_far ?_ NB479_488.out _; (with_reducible repeat (first | refine blk_drewN ?_ _ | refine blk_drew ?_ | refine blk_alloc ?_ _)); refine blk_far ?_ NB479_488.out _; (with_reducible repeat (first | refine blk_drewN ?_ _ | refine blk_drew ?_ | refine blk_alloc ?_ _)); exact BK479.out) hb); have n4_ := Aside0.mk (blk_below (g := gb488) (o := .cells #[.bool t483, .int .i64 t484, .int .u64 t485, .int .u64 t486] 47 (0, 0)) (by (with_reducible repeat (first | refine blk_drewN ?_ _ | refine blk_drew ?_ | refine blk_alloc ?_ _)); refine blk_put (cs := #[.bool t483, .int .i64 t484, .int .u64 t485, .int .u64 0]) ?_ 3 _ rfl; (with_reducible repeat (first | refine blk_drewN ?_ _ | refine blk_drew ?_ | refine blk_alloc ?_ _)); refine blk_put (cs := #[.bool t483, .int .i64 t484, .int .u64 0, .int .u64 0]) ?_ 2 _ rfl; (with_reducible repeat (first | refine blk_drewN ?_ _ | refine blk_drew ?_ | refine blk_alloc ?_ _)); refine blk_put (cs := #[.bool t483, .int .i64 0, .int .u64 0, .int .u64 0]) ?_ 1 _ rfl; (with_reducible repeat (first | refine blk_drewN ?_ _ | refine blk_drew ?_ | refine blk_alloc ?_ _)); refine blk_put (cs := #[.bool false, .int .i64 0, .int .u64 0, .int .u64 0]) ?_ 0 _ rfl; (with_reducible repeat (first | refine blk_drewN ?_ _ | refine blk_drew ?_ | refine blk_alloc ?_ _)); exact BK488.out) hb); have n5_ := Aside0.mk (below_step xq1 hb); clear HO_11; clear HO_13; clear HO482; clear BK479; clear BK488; clear HB; have HO_11 := n0_; have HO_13 := n1_; have HO482 := n2_; have BK479 := n3_; have BK488 := n4_; have HB := n5_; clear n0_ n1_ n2_ n3_ n4_ n5_; (try clear hb); (try clear hb2); (try clear hk); (try clear hi)) | ((with_reducible refine gate_dst (N := 21) rfl ?_); (try (refine gate_guard (by rfl) ?_; dsimp only)); refine box_event ?hg (N := 21) ?hd (cs := #[.bool false, .int .i64 0, .int .u64 0, .int .u64 0]) (t := 47) ?hr ?_; (case hd => rfl); (case hg => rfl); (case hr => first | (go_simp; done) | (go_simp; rfl)); intro gb494 hg w60 hbox hb; have n0_ := Aside0.mk (Kd.R_below (xr HO_11) hb); have n1_ := Aside0.mk (Kd.R_below (xr HO_13) hb); have n2_ := Aside0.mk (Kd.S_below (by (with_reducible repeat (first | apply Kd.S_alloc | apply Kd.S_drewN | apply Kd.S_drew)); exact HO482.out) hb); have n3_ := Aside0.mk (blk_below (g := gb479) (o := .cells #[.int .u64 t477, .int .u64 t478] 26 (0, 0)) (xb BK479) hb); have n4_ := Aside0.mk (blk_below (g := gb488) (o := .cells #[.bool t483, .int .i64 t484, .int .u64 t485, .int .u64 t486] 47 (0, 0)) (xb BK488) hb); have n5_ := Aside0.mk (below_step xq1 hb); have n6_ := Aside0.mk (hbox); have n7_ := Aside0.mk ((by rw [hg]; exact (below_size xq1) : w.heap.size ≤ gb494)); have n8_ := Aside0.mk ((by rw [hg]; exact (below_size xq1) : w.heap.size ≤ gb494)); have n9_ := Aside0.mk ((by rw [hg]; exact Nat.ne_of_lt (blk_lt (g := gb479) (o := .cells #[.int .u64 t477, .int .u64 t478] 26 (0, 0)) (xb BK479)) : gb479 ≠ gb494)); have n10_ := Aside0.mk ((by rw [hg]; exact Nat.ne_of_gt (blk_lt (g := gb479) (o := .cells #[.int .u64 t477, .int .u64 t478] 26 (0, 0)) (xb BK479)) : gb494 ≠ gb479)); have n11_ := Aside0.mk ((by rw [hg]; exact Nat.ne_of_lt (blk_lt (g := gb488) (o := .cells #[.bool t483, .int .i64 t484, .int .u64 t485, .int .u64 t486] 47 (0, 0)) (xb BK488)) : gb488 ≠ gb494)); have n12_ := Aside0.mk ((by rw [hg]; exact Nat.ne_of_gt (blk_lt (g := gb488) (o := .cells #[.bool t483, .int .i64 t484, .int .u64 t485, .int .u64 t486] 47 (0, 0)) (xb BK488)) : gb494 ≠ gb488)); clear HO_11; clear HO_13; clear HO482; clear BK479; clear BK488; clear HB; have HO_11 := n0_; have HO_13 := n1_; have HO482 := n2_; have BK479 := n3_; have BK488 := n4_; have HB := n5_; have BK494 := n6_; have GW494 := n7_; have GE494 := n8_; have NB479_494 := n9_; have NB494_479 := n10_; have NB488_494 := n11_; have NB494_488 := n12_; clear n0_ n1_ n2_ n3_ n4_ n5_ n6_ n7_ n8_ n9_ n10_ n11_ n12_; clear hb hbox hg; have hnb61 := NB494_479.out; have hnc61 := NB479_494.out; have hnb62 := NB494_488.out; have hnc62 := NB488_494.out; have hcz63_0 : w60.cell? ⟨gb494, 0, none⟩ = some (.bool false) := (blk_cell BK494.out 0).trans rfl; have hcz63_1 : w60.cell? ⟨gb494, 1, none⟩ = some (.int .i64 0) := (blk_cell BK494.out 1).trans rfl; have hcz63_2 : w60.cell? ⟨gb494, 2, none⟩ = some (.int .u64 0) := (blk_cell BK494.out 2).trans rfl; have hcz63_3 : w60.cell? ⟨gb494, 3, none⟩ = some (.int .u64 0) := (blk_cell BK494.out 3).trans rfl; have hfz63_0 := blk_frozen BK494.out 0; have hfz63_1 := blk_frozen BK494.out 1; have hfz63_2 := blk_frozen BK494.out 2; have hfz63_3 := blk_frozen BK494.out 3; have hcz64_0 : w60.cell? ⟨gb488, 0, none⟩ = some (.bool t483) := (blk_cell BK488.out 0).trans rfl; have hcz64_1 : w60.cell? ⟨gb488, 1, none⟩ = some (.int .i64 t484) := (blk_cell BK488.out 1).trans rfl; have hcz64_2 : w60.cell? ⟨gb488, 2, none⟩ = some (.int .u64 t485) := (blk_cell BK488.out 2).trans rfl; have hcz64_3 : w60.cell? ⟨gb488, 3, none⟩ = some (.int .u64 t486) := (blk_cell BK488.out 3).trans rfl; have hfz64_0 := blk_frozen BK488.out 0; have hfz64_1 := blk_frozen BK488.out 1; have hfz64_2 := blk_frozen BK488.out 2; have hfz64_3 := blk_frozen BK488.out 3))
                                        skip
                                        (try simp only [Act.put, List.setIfInBounds_toArray, List.set_cons_zero, List.set_cons_succ])
                                        go_cut [144] (fun v144 wc => ∃ (kq : Nat) (x144_47 : Bool), v144 = .bool x144_47 ∧ Aside0 (spoorlaw21_SampleWeighs.j6 kq l0 l1 a2 x10_2 x11_2 x13_24 x15_4 x16_5 t486 x144_47 t483 t484 t485 t486 t489 t490 t491 t492 = some r) ∧ Aside0 (kq ≤ k5) ∧ Aside0 (Kd.R k30 30 wc w.heap.size (fun _ => True) (.slice Ao58 x11_2.length co58) x11_2) ∧ Aside0 (Kd.R (Kd.int .u64) 23 wc w.heap.size (fun _ => True) (.slice (some ad476) x13_24.length co34) x13_24) ∧ Aside0 (wc.heap[gb479]? = some (.cells #[.int .u64 t477, .int .u64 t478] 26 (0, 0))) ∧ Aside0 (wc.heap[gb488]? = some (.cells #[.bool t483, .int .i64 t484, .int .u64 t485, .int .u64 t486] 47 (0, 0))) ∧ Aside0 (wc.heap[gb494]? = some (.cells #[.bool t489, .int .i64 t490, .int .u64 t491, .int .u64 t492] 47 (0, 0))) ∧ Aside0 (Below w.heap.size w wc))
                                        case first =>
                                          have H := HC48.out
                                          clear HC48
                                          by_cases c65 : t489 = true
                                          · subst c65
                                            have H1 : (if t483 = true then (spoorlaw21_SampleWeighs.j6 k5 l0 l1 a2 x10_2 x11_2 x13_24 x15_4 x16_5 t486 (t486 != 65536) t483 t484 t485 t486 true t490 t491 t492) else (spoorlaw21_SampleWeighs.j6 k5 l0 l1 a2 x10_2 x11_2 x13_24 x15_4 x16_5 t486 true t483 t484 t485 t486 true t490 t491 t492)) = some r := by rw [if_pos rfl] at H; exact H
                                            clear H
                                            have H := H1
                                            clear H1
                                            by_cases c66 : t483 = true
                                            · subst c66
                                              have H1 : (spoorlaw21_SampleWeighs.j6 k5 l0 l1 a2 x10_2 x11_2 x13_24 x15_4 x16_5 t486 (t486 != 65536) true t484 t485 t486 true t490 t491 t492) = some r := by rw [if_pos rfl] at H; exact H
                                              clear H
                                              have H := H1
                                              clear H1
                                              have H' := Aside0.mk H
                                              clear H
                                              have hnb67 := NB494_479.out
                                              have hnc67 := NB479_494.out
                                              have hnb68 := NB494_488.out
                                              have hnc68 := NB488_494.out
                                              have hcz69_0 : w60.cell? ⟨gb494, 0, none⟩ = some (.bool false) := (blk_cell BK494.out 0).trans rfl
                                              have hcz69_1 : w60.cell? ⟨gb494, 1, none⟩ = some (.int .i64 0) := (blk_cell BK494.out 1).trans rfl
                                              have hcz69_2 : w60.cell? ⟨gb494, 2, none⟩ = some (.int .u64 0) := (blk_cell BK494.out 2).trans rfl
                                              have hcz69_3 : w60.cell? ⟨gb494, 3, none⟩ = some (.int .u64 0) := (blk_cell BK494.out 3).trans rfl
                                              have hfz69_0 := blk_frozen BK494.out 0
                                              have hfz69_1 := blk_frozen BK494.out 1
                                              have hfz69_2 := blk_frozen BK494.out 2
                                              have hfz69_3 := blk_frozen BK494.out 3
                                              have hnb70 := NB488_479.out
                                              have hnc70 := NB479_488.out
                                              have hcz71_0 : w60.cell? ⟨gb488, 0, none⟩ = some (.bool true) := (blk_cell BK488.out 0).trans rfl
                                              have hcz71_1 : w60.cell? ⟨gb488, 1, none⟩ = some (.int .i64 t484) := (blk_cell BK488.out 1).trans rfl
                                              have hcz71_2 : w60.cell? ⟨gb488, 2, none⟩ = some (.int .u64 t485) := (blk_cell BK488.out 2).trans rfl
                                              have hcz71_3 : w60.cell? ⟨gb488, 3, none⟩ = some (.int .u64 t486) := (blk_cell BK488.out 3).trans rfl
                                              have hfz71_0 := blk_frozen BK488.out 0
                                              have hfz71_1 := blk_frozen BK488.out 1
                                              have hfz71_2 := blk_frozen BK488.out 2
                                              have hfz71_3 := blk_frozen BK488.out 3
                                              go_wp2
                                              repeat (go_quiet (fail); try go_wp2)
                                              go_meet
                                              case rel => exact ⟨_, ((t486 != 65536)), (by first | rfl | (simp; done) | (simp [*]; done)), H', ⟨by have := HJ5.out; have := HK2.out; have := HJ24.out; have := HK4.out; have := HK5.out; first | omega | exact Nat.le_refl _⟩, ⟨by (with_reducible repeat (first | apply Kd.R_alloc | apply Kd.R_drewN | apply Kd.R_drew)); exact Kd.R_mono (Kd.R_far (p := ⟨gb494, 3, none⟩) (Kd.R_far (p := ⟨gb494, 2, none⟩) (Kd.R_far (p := ⟨gb494, 1, none⟩) (Kd.R_far (p := ⟨gb494, 0, none⟩) (Kd.R_types HO_11.out BK494.out (by decide)) (fun _ hk => hk.2) (.bool true)) (fun _ hk => hk.2) (.int .i64 t490)) (fun _ hk => hk.2) (.int .u64 t491)) (fun _ hk => hk.2) (.int .u64 t492)) (fun _ hk => trivial)⟩, ⟨by (with_reducible repeat (first | apply Kd.R_alloc | apply Kd.R_drewN | apply Kd.R_drew)); exact Kd.R_mono (Kd.R_far (p := ⟨gb494, 3, none⟩) (Kd.R_far (p := ⟨gb494, 2, none⟩) (Kd.R_far (p := ⟨gb494, 1, none⟩) (Kd.R_far (p := ⟨gb494, 0, none⟩) (Kd.R_types HO_13.out BK494.out (by decide)) (fun _ hk => hk.2) (.bool true)) (fun _ hk => hk.2) (.int .i64 t490)) (fun _ hk => hk.2) (.int .u64 t491)) (fun _ hk => hk.2) (.int .u64 t492)) (fun _ hk => trivial)⟩, ⟨by (with_reducible repeat (first | refine blk_drewN ?_ _ | refine blk_drew ?_ | refine blk_alloc ?_ _)); refine blk_far ?_ NB479_494.out _; (with_reducible repeat (first | refine blk_drewN ?_ _ | refine blk_drew ?_ | refine blk_alloc ?_ _)); refine blk_far ?_ NB479_494.out _; (with_reducible repeat (first | refine blk_drewN ?_ _ | refine blk_drew ?_ | refine blk_alloc ?_ _)); refine blk_far ?_ NB479_494.out _; (with_reducible repeat (first | refine blk_drewN ?_ _ | refine blk_drew ?_ | refine blk_alloc ?_ _)); refine blk_far ?_ NB479_494.out _; (with_reducible repeat (first | refine blk_drewN ?_ _ | refine blk_drew ?_ | refine blk_alloc ?_ _)); exact BK479.out⟩, ⟨by (with_reducible repeat (first | refine blk_drewN ?_ _ | refine blk_drew ?_ | refine blk_alloc ?_ _)); refine blk_far ?_ NB488_494.out _; (with_reducible repeat (first | refine blk_drewN ?_ _ | refine blk_drew ?_ | refine blk_alloc ?_ _)); refine blk_far ?_ NB488_494.out _; (with_reducible repeat (first | refine blk_drewN ?_ _ | refine blk_drew ?_ | refine blk_alloc ?_ _)); refine blk_far ?_ NB488_494.out _; (with_reducible repeat (first | refine blk_drewN ?_ _ | refine blk_drew ?_ | refine blk_alloc ?_ _)); refine blk_far ?_ NB488_494.out _; (with_reducible repeat (first | refine blk_drewN ?_ _ | refine blk_drew ?_ | refine blk_alloc ?_ _)); exact BK488.out⟩, ⟨by (with_reducible repeat (first | refine blk_drewN ?_ _ | refine blk_drew ?_ | refine blk_alloc ?_ _)); refine blk_put (cs := #[.bool true, .int .i64 t490, .int .u64 t491, .int .u64 0]) ?_ 3 _ rfl; (with_reducible repeat (first | refine blk_drewN ?_ _ | refine blk_drew ?_ | refine blk_alloc ?_ _)); refine blk_put (cs := #[.bool true, .int .i64 t490, .int .u64 0, .int .u64 0]) ?_ 2 _ rfl; (with_reducible repeat (first | refine blk_drewN ?_ _ | refine blk_drew ?_ | refine blk_alloc ?_ _)); refine blk_put (cs := #[.bool true, .int .i64 0, .int .u64 0, .int .u64 0]) ?_ 1 _ rfl; (with_reducible repeat (first | refine blk_drewN ?_ _ | refine blk_drew ?_ | refine blk_alloc ?_ _)); refine blk_put (cs := #[.bool false, .int .i64 0, .int .u64 0, .int .u64 0]) ?_ 0 _ rfl; (with_reducible repeat (first | refine blk_drewN ?_ _ | refine blk_drew ?_ | refine blk_alloc ?_ _)); exact BK494.out⟩, ⟨by repeat (first | (with_reducible first | exact HB.out | apply below_alloc | apply pw_below_drewN | apply below_drew1 | refine below_set ?_ GE479.out | refine below_set ?_ GE488.out | refine below_set ?_ GE494.out) | exact HB.out)⟩⟩
                                            · replace c66 := Bool.eq_false_iff.mpr c66
                                              subst c66
                                              have H1 : (spoorlaw21_SampleWeighs.j6 k5 l0 l1 a2 x10_2 x11_2 x13_24 x15_4 x16_5 t486 true false t484 t485 t486 true t490 t491 t492) = some r := by rw [if_neg (show ¬ (false = true) by decide)] at H; exact H
                                              clear H
                                              have H := H1
                                              clear H1
                                              have H' := Aside0.mk H
                                              clear H
                                              have hnb72 := NB494_479.out
                                              have hnc72 := NB479_494.out
                                              have hnb73 := NB494_488.out
                                              have hnc73 := NB488_494.out
                                              have hcz74_0 : w60.cell? ⟨gb494, 0, none⟩ = some (.bool false) := (blk_cell BK494.out 0).trans rfl
                                              have hcz74_1 : w60.cell? ⟨gb494, 1, none⟩ = some (.int .i64 0) := (blk_cell BK494.out 1).trans rfl
                                              have hcz74_2 : w60.cell? ⟨gb494, 2, none⟩ = some (.int .u64 0) := (blk_cell BK494.out 2).trans rfl
                                              have hcz74_3 : w60.cell? ⟨gb494, 3, none⟩ = some (.int .u64 0) := (blk_cell BK494.out 3).trans rfl
                                              have hfz74_0 := blk_frozen BK494.out 0
                                              have hfz74_1 := blk_frozen BK494.out 1
                                              have hfz74_2 := blk_frozen BK494.out 2
                                              have hfz74_3 := blk_frozen BK494.out 3
                                              have hnb75 := NB488_479.out
                                              have hnc75 := NB479_488.out
                                              have hcz76_0 : w60.cell? ⟨gb488, 0, none⟩ = some (.bool false) := (blk_cell BK488.out 0).trans rfl
                                              have hcz76_1 : w60.cell? ⟨gb488, 1, none⟩ = some (.int .i64 t484) := (blk_cell BK488.out 1).trans rfl
                                              have hcz76_2 : w60.cell? ⟨gb488, 2, none⟩ = some (.int .u64 t485) := (blk_cell BK488.out 2).trans rfl
                                              have hcz76_3 : w60.cell? ⟨gb488, 3, none⟩ = some (.int .u64 t486) := (blk_cell BK488.out 3).trans rfl
                                              have hfz76_0 := blk_frozen BK488.out 0
                                              have hfz76_1 := blk_frozen BK488.out 1
                                              have hfz76_2 := blk_frozen BK488.out 2
                                              have hfz76_3 := blk_frozen BK488.out 3
                                              go_wp2
                                              repeat (go_quiet (fail); try go_wp2)
                                              go_meet
                                              case rel => exact ⟨_, (true), (by first | rfl | (simp; done) | (simp [*]; done)), H', ⟨by have := HJ5.out; have := HK2.out; have := HJ24.out; have := HK4.out; have := HK5.out; first | omega | exact Nat.le_refl _⟩, ⟨by (with_reducible repeat (first | apply Kd.R_alloc | apply Kd.R_drewN | apply Kd.R_drew)); exact Kd.R_mono (Kd.R_far (p := ⟨gb494, 3, none⟩) (Kd.R_far (p := ⟨gb494, 2, none⟩) (Kd.R_far (p := ⟨gb494, 1, none⟩) (Kd.R_far (p := ⟨gb494, 0, none⟩) (Kd.R_types HO_11.out BK494.out (by decide)) (fun _ hk => hk.2) (.bool true)) (fun _ hk => hk.2) (.int .i64 t490)) (fun _ hk => hk.2) (.int .u64 t491)) (fun _ hk => hk.2) (.int .u64 t492)) (fun _ hk => trivial)⟩, ⟨by (with_reducible repeat (first | apply Kd.R_alloc | apply Kd.R_drewN | apply Kd.R_drew)); exact Kd.R_mono (Kd.R_far (p := ⟨gb494, 3, none⟩) (Kd.R_far (p := ⟨gb494, 2, none⟩) (Kd.R_far (p := ⟨gb494, 1, none⟩) (Kd.R_far (p := ⟨gb494, 0, none⟩) (Kd.R_types HO_13.out BK494.out (by decide)) (fun _ hk => hk.2) (.bool true)) (fun _ hk => hk.2) (.int .i64 t490)) (fun _ hk => hk.2) (.int .u64 t491)) (fun _ hk => hk.2) (.int .u64 t492)) (fun _ hk => trivial)⟩, ⟨by (with_reducible repeat (first | refine blk_drewN ?_ _ | refine blk_drew ?_ | refine blk_alloc ?_ _)); refine blk_far ?_ NB479_494.out _; (with_reducible repeat (first | refine blk_drewN ?_ _ | refine blk_drew ?_ | refine blk_alloc ?_ _)); refine blk_far ?_ NB479_494.out _; (with_reducible repeat (first | refine blk_drewN ?_ _ | refine blk_drew ?_ | refine blk_alloc ?_ _)); refine blk_far ?_ NB479_494.out _; (with_reducible repeat (first | refine blk_drewN ?_ _ | refine blk_drew ?_ | refine blk_alloc ?_ _)); refine blk_far ?_ NB479_494.out _; (with_reducible repeat (first | refine blk_drewN ?_ _ | refine blk_drew ?_ | refine blk_alloc ?_ _)); exact BK479.out⟩, ⟨by (with_reducible repeat (first | refine blk_drewN ?_ _ | refine blk_drew ?_ | refine blk_alloc ?_ _)); refine blk_far ?_ NB488_494.out _; (with_reducible repeat (first | refine blk_drewN ?_ _ | refine blk_drew ?_ | refine blk_alloc ?_ _)); refine blk_far ?_ NB488_494.out _; (with_reducible repeat (first | refine blk_drewN ?_ _ | refine blk_drew ?_ | refine blk_alloc ?_ _)); refine blk_far ?_ NB488_494.out _; (with_reducible repeat (first | refine blk_drewN ?_ _ | refine blk_drew ?_ | refine blk_alloc ?_ _)); refine blk_far ?_ NB488_494.out _; (with_reducible repeat (first | refine blk_drewN ?_ _ | refine blk_drew ?_ | refine blk_alloc ?_ _)); exact BK488.out⟩, ⟨by (with_reducible repeat (first | refine blk_drewN ?_ _ | refine blk_drew ?_ | refine blk_alloc ?_ _)); refine blk_put (cs := #[.bool true, .int .i64 t490, .int .u64 t491, .int .u64 0]) ?_ 3 _ rfl; (with_reducible repeat (first | refine blk_drewN ?_ _ | refine blk_drew ?_ | refine blk_alloc ?_ _)); refine blk_put (cs := #[.bool true, .int .i64 t490, .int .u64 0, .int .u64 0]) ?_ 2 _ rfl; (with_reducible repeat (first | refine blk_drewN ?_ _ | refine blk_drew ?_ | refine blk_alloc ?_ _)); refine blk_put (cs := #[.bool true, .int .i64 0, .int .u64 0, .int .u64 0]) ?_ 1 _ rfl; (with_reducible repeat (first | refine blk_drewN ?_ _ | refine blk_drew ?_ | refine blk_alloc ?_ _)); refine blk_put (cs := #[.bool false, .int .i64 0, .int .u64 0, .int .u64 0]) ?_ 0 _ rfl; (with_reducible repeat (first | refine blk_drewN ?_ _ | refine blk_drew ?_ | refine blk_alloc ?_ _)); exact BK494.out⟩, ⟨by repeat (first | (with_reducible first | exact HB.out | apply below_alloc | apply pw_below_drewN | apply below_drew1 | refine below_set ?_ GE479.out | refine below_set ?_ GE488.out | refine below_set ?_ GE494.out) | exact HB.out)⟩⟩
                                          · replace c65 := Bool.eq_false_iff.mpr c65
                                            subst c65
                                            have H1 : (spoorlaw21_SampleWeighs.j6 k5 l0 l1 a2 x10_2 x11_2 x13_24 x15_4 x16_5 t486 false t483 t484 t485 t486 false t490 t491 t492) = some r := by rw [if_neg (show ¬ (false = true) by decide)] at H; exact H
                                            clear H
                                            have H := H1
                                            clear H1
                                            have H' := Aside0.mk H
                                            clear H
                                            have hnb77 := NB494_479.out
                                            have hnc77 := NB479_494.out
                                            have hnb78 := NB494_488.out
                                            have hnc78 := NB488_494.out
                                            have hcz79_0 : w60.cell? ⟨gb494, 0, none⟩ = some (.bool false) := (blk_cell BK494.out 0).trans rfl
                                            have hcz79_1 : w60.cell? ⟨gb494, 1, none⟩ = some (.int .i64 0) := (blk_cell BK494.out 1).trans rfl
                                            have hcz79_2 : w60.cell? ⟨gb494, 2, none⟩ = some (.int .u64 0) := (blk_cell BK494.out 2).trans rfl
                                            have hcz79_3 : w60.cell? ⟨gb494, 3, none⟩ = some (.int .u64 0) := (blk_cell BK494.out 3).trans rfl
                                            have hfz79_0 := blk_frozen BK494.out 0
                                            have hfz79_1 := blk_frozen BK494.out 1
                                            have hfz79_2 := blk_frozen BK494.out 2
                                            have hfz79_3 := blk_frozen BK494.out 3
                                            go_wp2
                                            repeat (go_quiet (fail); try go_wp2)
                                            go_meet
                                            case rel => exact ⟨_, (false), (by first | rfl | (simp; done) | (simp [*]; done)), H', ⟨by have := HJ5.out; have := HK2.out; have := HJ24.out; have := HK4.out; have := HK5.out; first | omega | exact Nat.le_refl _⟩, ⟨by (with_reducible repeat (first | apply Kd.R_alloc | apply Kd.R_drewN | apply Kd.R_drew)); exact Kd.R_mono (Kd.R_far (p := ⟨gb494, 3, none⟩) (Kd.R_far (p := ⟨gb494, 2, none⟩) (Kd.R_far (p := ⟨gb494, 1, none⟩) (Kd.R_far (p := ⟨gb494, 0, none⟩) (Kd.R_types HO_11.out BK494.out (by decide)) (fun _ hk => hk.2) (.bool false)) (fun _ hk => hk.2) (.int .i64 t490)) (fun _ hk => hk.2) (.int .u64 t491)) (fun _ hk => hk.2) (.int .u64 t492)) (fun _ hk => trivial)⟩, ⟨by (with_reducible repeat (first | apply Kd.R_alloc | apply Kd.R_drewN | apply Kd.R_drew)); exact Kd.R_mono (Kd.R_far (p := ⟨gb494, 3, none⟩) (Kd.R_far (p := ⟨gb494, 2, none⟩) (Kd.R_far (p := ⟨gb494, 1, none⟩) (Kd.R_far (p := ⟨gb494, 0, none⟩) (Kd.R_types HO_13.out BK494.out (by decide)) (fun _ hk => hk.2) (.bool false)) (fun _ hk => hk.2) (.int .i64 t490)) (fun _ hk => hk.2) (.int .u64 t491)) (fun _ hk => hk.2) (.int .u64 t492)) (fun _ hk => trivial)⟩, ⟨by (with_reducible repeat (first | refine blk_drewN ?_ _ | refine blk_drew ?_ | refine blk_alloc ?_ _)); refine blk_far ?_ NB479_494.out _; (with_reducible repeat (first | refine blk_drewN ?_ _ | refine blk_drew ?_ | refine blk_alloc ?_ _)); refine blk_far ?_ NB479_494.out _; (with_reducible repeat (first | refine blk_drewN ?_ _ | refine blk_drew ?_ | refine blk_alloc ?_ _)); refine blk_far ?_ NB479_494.out _; (with_reducible repeat (first | refine blk_drewN ?_ _ | refine blk_drew ?_ | refine blk_alloc ?_ _)); refine blk_far ?_ NB479_494.out _; (with_reducible repeat (first | refine blk_drewN ?_ _ | refine blk_drew ?_ | refine blk_alloc ?_ _)); exact BK479.out⟩, ⟨by (with_reducible repeat (first | refine blk_drewN ?_ _ | refine blk_drew ?_ | refine blk_alloc ?_ _)); refine blk_far ?_ NB488_494.out _; (with_reducible repeat (first | refine blk_drewN ?_ _ | refine blk_drew ?_ | refine blk_alloc ?_ _)); refine blk_far ?_ NB488_494.out _; (with_reducible repeat (first | refine blk_drewN ?_ _ | refine blk_drew ?_ | refine blk_alloc ?_ _)); refine blk_far ?_ NB488_494.out _; (with_reducible repeat (first | refine blk_drewN ?_ _ | refine blk_drew ?_ | refine blk_alloc ?_ _)); refine blk_far ?_ NB488_494.out _; (with_reducible repeat (first | refine blk_drewN ?_ _ | refine blk_drew ?_ | refine blk_alloc ?_ _)); exact BK488.out⟩, ⟨by (with_reducible repeat (first | refine blk_drewN ?_ _ | refine blk_drew ?_ | refine blk_alloc ?_ _)); refine blk_put (cs := #[.bool false, .int .i64 t490, .int .u64 t491, .int .u64 0]) ?_ 3 _ rfl; (with_reducible repeat (first | refine blk_drewN ?_ _ | refine blk_drew ?_ | refine blk_alloc ?_ _)); refine blk_put (cs := #[.bool false, .int .i64 t490, .int .u64 0, .int .u64 0]) ?_ 2 _ rfl; (with_reducible repeat (first | refine blk_drewN ?_ _ | refine blk_drew ?_ | refine blk_alloc ?_ _)); refine blk_put (cs := #[.bool false, .int .i64 0, .int .u64 0, .int .u64 0]) ?_ 1 _ rfl; (with_reducible repeat (first | refine blk_drewN ?_ _ | refine blk_drew ?_ | refine blk_alloc ?_ _)); refine blk_put (cs := #[.bool false, .int .i64 0, .int .u64 0, .int .u64 0]) ?_ 0 _ rfl; (with_reducible repeat (first | refine blk_drewN ?_ _ | refine blk_drew ?_ | refine blk_alloc ?_ _)); exact BK494.out⟩, ⟨by repeat (first | (with_reducible first | exact HB.out | apply below_alloc | apply pw_below_drewN | apply below_drew1 | refine below_set ?_ GE479.out | refine below_set ?_ GE488.out | refine below_set ?_ GE494.out) | exact HB.out)⟩⟩
                                        case rest =>
                                          clear HC48
                                          try clear c1
                                          try clear c2
                                          try clear p2
                                          try clear c3
                                          try clear c4
                                          try clear p4
                                          try clear q4
                                          try clear hx4
                                          try clear c5
                                          try clear c6
                                          try clear p6
                                          try clear c7
                                          try clear c8
                                          try clear c10
                                          try clear c10b0
                                          try clear c10b1
                                          try clear c11
                                          try clear c11b0
                                          try clear c11b1
                                          try clear c11b2
                                          try clear c16
                                          try clear c17
                                          try clear c17b0
                                          try clear c18
                                          try clear c18b0
                                          try clear c19
                                          try clear c19b0
                                          try clear c19b1
                                          try clear c21
                                          try clear c28
                                          try clear c28b0
                                          try clear c29
                                          try clear c29b0
                                          try clear c30
                                          try clear c30b0
                                          try clear c31
                                          try clear c33
                                          try clear c33b0
                                          try clear c35
                                          try clear c35b0
                                          try clear c36
                                          try clear c36b0
                                          try clear c37
                                          try clear c37b0
                                          try clear c39
                                          try clear c39b0
                                          try clear c39b1
                                          try clear c39b2
                                          try clear c46
                                          try clear c46b0
                                          try clear c46b1
                                          try clear p46
                                          try clear q46
                                          try clear hx46
                                          try clear c47
                                          try clear c47b0
                                          try clear c47b1
                                          try clear p47
                                          try clear q47
                                          try clear hx47
                                          try clear c56
                                          try clear c61
                                          try clear c62
                                          try clear p64
                                          try clear c65
                                          try clear c66
                                          try clear c67
                                          try clear c68
                                          try clear c70
                                          try clear c72
                                          try clear c73
                                          try clear c75
                                          try clear c77
                                          try clear c78
                                          try clear hcz42_0
                                          try clear hcz42_1
                                          try clear hcz51_0
                                          try clear hcz51_1
                                          try clear hcz57_0
                                          try clear hcz57_1
                                          try clear hcz57_2
                                          try clear hcz57_3
                                          try clear hcz63_0
                                          try clear hcz63_1
                                          try clear hcz63_2
                                          try clear hcz63_3
                                          try clear hcz64_0
                                          try clear hcz64_1
                                          try clear hcz64_2
                                          try clear hcz64_3
                                          try clear hcz69_0
                                          try clear hcz69_1
                                          try clear hcz69_2
                                          try clear hcz69_3
                                          try clear hcz71_0
                                          try clear hcz71_1
                                          try clear hcz71_2
                                          try clear hcz71_3
                                          try clear hcz74_0
                                          try clear hcz74_1
                                          try clear hcz74_2
                                          try clear hcz74_3
                                          try clear hcz76_0
                                          try clear hcz76_1
                                          try clear hcz76_2
                                          try clear hcz76_3
                                          try clear hcz79_0
                                          try clear hcz79_1
                                          try clear hcz79_2
                                          try clear hcz79_3
                                          try clear hfz42_0
                                          try clear hfz42_1
                                          try clear hfz51_0
                                          try clear hfz51_1
                                          try clear hfz57_0
                                          try clear hfz57_1
                                          try clear hfz57_2
                                          try clear hfz57_3
                                          try clear hfz63_0
                                          try clear hfz63_1
                                          try clear hfz63_2
                                          try clear hfz63_3
                                          try clear hfz64_0
                                          try clear hfz64_1
                                          try clear hfz64_2
                                          try clear hfz64_3
                                          try clear hfz69_0
                                          try clear hfz69_1
                                          try clear hfz69_2
                                          try clear hfz69_3
                                          try clear hfz71_0
                                          try clear hfz71_1
                                          try clear hfz71_2
                                          try clear hfz71_3
                                          try clear hfz74_0
                                          try clear hfz74_1
                                          try clear hfz74_2
                                          try clear hfz74_3
                                          try clear hfz76_0
                                          try clear hfz76_1
                                          try clear hfz76_2
                                          try clear hfz76_3
                                          try clear hfz79_0
                                          try clear hfz79_1
                                          try clear hfz79_2
                                          try clear hfz79_3
                                          try clear hx463_0
                                          try clear hx463_1
                                          try clear hx463_2
                                          try clear hx463_3
                                          try clear hx464_0
                                          try clear hx464_1
                                          try clear hx464_2
                                          try clear hx464_3
                                          try clear hx465_0
                                          try clear hx465_1
                                          try clear hx465_2
                                          try clear hx465_3
                                          try clear hx472_0
                                          try clear hx476_0
                                          try clear p2
                                          try clear p4
                                          try clear p463
                                          try clear p464
                                          try clear p465
                                          try clear p472
                                          try clear p476
                                          try clear p6
                                          try clear q4
                                          try clear q463
                                          try clear q464
                                          try clear q465
                                          try clear q472
                                          try clear q476
                                          obtain ⟨kq, x144_47, rfl, HA, HJ47, HO_11, HO_13, BK479, BK488, BK494, HB⟩ := hcut
                                          cases kq with
                                          | zero => exact absurd HA.out (by simp [spoorlaw21_SampleWeighs.j6])
                                          | succ kj47 =>
                                            have H := HA.out
                                            clear HA
                                            simp only [spoorlaw21_SampleWeighs.j6] at H
                                            by_cases c80 : x144_47 = true
                                            · subst c80
                                              have H1 : (some false) = some r := by rw [if_pos rfl] at H; exact H
                                              clear H
                                              have H := H1
                                              clear H1
                                              obtain rfl := Option.some.inj H
                                              go_wp2
                                              repeat (go_quiet (fail); try go_wp2)
                                              go_ret
                                              exact ⟨by first | rfl | (simp [errW_none, errW_some] <;> rfl) | (simp only [← hji23, ← hji24]; first | rfl | (simp [errW_none, errW_some] <;> rfl)) | (simp [*, errW_none, errW_some] <;> rfl), by repeat (first | (with_reducible first | exact HB.out | apply below_alloc | apply pw_below_drewN | apply below_drew1 | refine below_set ?_ GE479.out | refine below_set ?_ GE488.out | refine below_set ?_ GE494.out) | exact HB.out)⟩
                                            · replace c80 := Bool.eq_false_iff.mpr c80
                                              subst c80
                                              have H1 : (if t489 = true then (spoorlaw21_SampleWeighs.j7 kj47 l0 l1 a2 x10_2 x11_2 x13_24 x15_4 x16_5 t486 false t483 t484 t485 t486 t489 t490 t491 t492) else (if 0 ≤ x15_4 then (if x15_4 < (x13_24.length : Int) then (spoorlaw21_SampleWeighs.j7 kj47 l0 l1 a2 x10_2 x11_2 x13_24 x15_4 x16_5 t486 (t483 != (decide ((rd x13_24 x15_4) < x10_2))) t483 t484 t485 t486 t489 t490 t491 t492) else (none)) else (none))) = some r := by rw [if_neg (show ¬ (false = true) by decide)] at H; exact H
                                              clear H
                                              have H := H1
                                              clear H1
                                              have HC81 := Aside0.mk H
                                              clear H
                                              go_upto_region 34 with (fail)
                                              repeat (go_quiet (fail); go_upto_region 34 with (fail))
                                              go_cut [156] (fun v156 wc => ∃ (kq : Nat) (x156_80 : Bool), v156 = .bool x156_80 ∧ Aside0 (spoorlaw21_SampleWeighs.j7 kq l0 l1 a2 x10_2 x11_2 x13_24 x15_4 x16_5 t486 x156_80 t483 t484 t485 t486 t489 t490 t491 t492 = some r) ∧ Aside0 (kq ≤ kj47) ∧ Aside0 (Kd.R k30 30 wc w.heap.size (fun _ => True) (.slice Ao58 x11_2.length co58) x11_2) ∧ Aside0 (Kd.R (Kd.int .u64) 23 wc w.heap.size (fun _ => True) (.slice (some ad476) x13_24.length co34) x13_24) ∧ Aside0 (wc.heap[gb479]? = some (.cells #[.int .u64 t477, .int .u64 t478] 26 (0, 0))) ∧ Aside0 (wc.heap[gb488]? = some (.cells #[.bool t483, .int .i64 t484, .int .u64 t485, .int .u64 t486] 47 (0, 0))) ∧ Aside0 (wc.heap[gb494]? = some (.cells #[.bool t489, .int .i64 t490, .int .u64 t491, .int .u64 t492] 47 (0, 0))) ∧ Aside0 (Below w.heap.size w wc))
                                              case first =>
                                                have H := HC81.out
                                                clear HC81
                                                by_cases c82 : t489 = true
                                                · subst c82
                                                  have H1 : (spoorlaw21_SampleWeighs.j7 kj47 l0 l1 a2 x10_2 x11_2 x13_24 x15_4 x16_5 t486 false t483 t484 t485 t486 true t490 t491 t492) = some r := by rw [if_pos rfl] at H; exact H
                                                  clear H
                                                  have H := H1
                                                  clear H1
                                                  have H' := Aside0.mk H
                                                  clear H
                                                  have hnb83 := NB494_479.out
                                                  have hnc83 := NB479_494.out
                                                  have hnb84 := NB494_488.out
                                                  have hnc84 := NB488_494.out
                                                  have hcz85_0 : wc.cell? ⟨gb494, 0, none⟩ = some (.bool true) := (blk_cell BK494.out 0).trans rfl
                                                  have hcz85_1 : wc.cell? ⟨gb494, 1, none⟩ = some (.int .i64 t490) := (blk_cell BK494.out 1).trans rfl
                                                  have hcz85_2 : wc.cell? ⟨gb494, 2, none⟩ = some (.int .u64 t491) := (blk_cell BK494.out 2).trans rfl
                                                  have hcz85_3 : wc.cell? ⟨gb494, 3, none⟩ = some (.int .u64 t492) := (blk_cell BK494.out 3).trans rfl
                                                  have hfz85_0 := blk_frozen BK494.out 0
                                                  have hfz85_1 := blk_frozen BK494.out 1
                                                  have hfz85_2 := blk_frozen BK494.out 2
                                                  have hfz85_3 := blk_frozen BK494.out 3
                                                  go_wp2
                                                  repeat (go_quiet (fail); try go_wp2)
                                                  go_meet
                                                  case rel => exact ⟨_, (false), (by first | rfl | (simp; done) | (simp [*]; done)), H', ⟨by have := HJ5.out; have := HK2.out; have := HJ24.out; have := HK4.out; have := HK5.out; have := HJ47.out; first | omega | exact Nat.le_refl _⟩, ⟨by (with_reducible repeat (first | apply Kd.R_alloc | apply Kd.R_drewN | apply Kd.R_drew)); exact HO_11.out⟩, ⟨by (with_reducible repeat (first | apply Kd.R_alloc | apply Kd.R_drewN | apply Kd.R_drew)); exact HO_13.out⟩, ⟨by (with_reducible repeat (first | refine blk_drewN ?_ _ | refine blk_drew ?_ | refine blk_alloc ?_ _)); exact BK479.out⟩, ⟨by (with_reducible repeat (first | refine blk_drewN ?_ _ | refine blk_drew ?_ | refine blk_alloc ?_ _)); exact BK488.out⟩, ⟨by (with_reducible repeat (first | refine blk_drewN ?_ _ | refine blk_drew ?_ | refine blk_alloc ?_ _)); exact BK494.out⟩, ⟨by repeat (first | (with_reducible first | exact HB.out | apply below_alloc | apply pw_below_drewN | apply below_drew1 | refine below_set ?_ GE479.out | refine below_set ?_ GE488.out | refine below_set ?_ GE494.out) | exact HB.out)⟩⟩
                                                · replace c82 := Bool.eq_false_iff.mpr c82
                                                  subst c82
                                                  have H1 : (if 0 ≤ x15_4 then (if x15_4 < (x13_24.length : Int) then (spoorlaw21_SampleWeighs.j7 kj47 l0 l1 a2 x10_2 x11_2 x13_24 x15_4 x16_5 t486 (t483 != (decide ((rd x13_24 x15_4) < x10_2))) t483 t484 t485 t486 false t490 t491 t492) else (none)) else (none)) = some r := by rw [if_neg (show ¬ (false = true) by decide)] at H; exact H
                                                  clear H
                                                  have H := H1
                                                  clear H1
                                                  by_cases c86 : 0 ≤ x15_4
                                                  · as_aux_lemma =>
                                                    rw [if_pos c86] at H
                                                    have c86b0 : decide (0 ≤ x15_4) = true := decide_eq_true c86
                                                    clear c86
                                                    (first | rw [c86b0] | (simp only [i64_w, i32_w]; rw [c86b0]) | skip)
                                                    by_cases c87 : x15_4 < (x13_24.length : Int)
                                                    · as_aux_lemma =>
                                                      rw [if_pos c87] at H
                                                      have c87b0 : decide (x15_4 < (x13_24.length : Int)) = true := decide_eq_true c87
                                                      clear c87
                                                      have H' := Aside0.mk H
                                                      clear H
                                                      have hnb88 := NB494_479.out
                                                      have hnc88 := NB479_494.out
                                                      have hnb89 := NB494_488.out
                                                      have hnc89 := NB488_494.out
                                                      have hcz90_0 : wc.cell? ⟨gb494, 0, none⟩ = some (.bool false) := (blk_cell BK494.out 0).trans rfl
                                                      have hcz90_1 : wc.cell? ⟨gb494, 1, none⟩ = some (.int .i64 t490) := (blk_cell BK494.out 1).trans rfl
                                                      have hcz90_2 : wc.cell? ⟨gb494, 2, none⟩ = some (.int .u64 t491) := (blk_cell BK494.out 2).trans rfl
                                                      have hcz90_3 : wc.cell? ⟨gb494, 3, none⟩ = some (.int .u64 t492) := (blk_cell BK494.out 3).trans rfl
                                                      have hfz90_0 := blk_frozen BK494.out 0
                                                      have hfz90_1 := blk_frozen BK494.out 1
                                                      have hfz90_2 := blk_frozen BK494.out 2
                                                      have hfz90_3 := blk_frozen BK494.out 3
                                                      have hnb91 := NB488_479.out
                                                      have hnc91 := NB479_488.out
                                                      have hcz92_0 : wc.cell? ⟨gb488, 0, none⟩ = some (.bool t483) := (blk_cell BK488.out 0).trans rfl
                                                      have hcz92_1 : wc.cell? ⟨gb488, 1, none⟩ = some (.int .i64 t484) := (blk_cell BK488.out 1).trans rfl
                                                      have hcz92_2 : wc.cell? ⟨gb488, 2, none⟩ = some (.int .u64 t485) := (blk_cell BK488.out 2).trans rfl
                                                      have hcz92_3 : wc.cell? ⟨gb488, 3, none⟩ = some (.int .u64 t486) := (blk_cell BK488.out 3).trans rfl
                                                      have hfz92_0 := blk_frozen BK488.out 0
                                                      have hfz92_1 := blk_frozen BK488.out 1
                                                      have hfz92_2 := blk_frozen BK488.out 2
                                                      have hfz92_3 := blk_frozen BK488.out 3
                                                      have p495 : 0 ≤ (x15_4 : Int) := of_decide_eq_true (by first | (with_reducible assumption) | assumption)
                                                      have q495 : x15_4 < (x13_24.length : Int) := of_decide_eq_true (by first | (with_reducible assumption) | assumption)
                                                      obtain ⟨ad495, e495, hx495_0⟩ := Kd.at_int (Kd.R_reads' HO_13.out).2.2 x15_4 p495 q495
                                                      obtain rfl : ad476 = ad495 := (by injection e495)
                                                      replace p495 := eq_true p495
                                                      replace q495 := eq_true q495
                                                      go_wp2
                                                      repeat (go_quiet (fail); try go_wp2)
                                                      go_meet
                                                      case rel => exact ⟨_, ((t483 != (decide ((rd x13_24 x15_4) < x10_2)))), (by first | rfl | (simp; done) | (simp [*]; done)), H', ⟨by have := HJ5.out; have := HK2.out; have := HJ24.out; have := HK4.out; have := HK5.out; have := HJ47.out; first | omega | exact Nat.le_refl _⟩, ⟨by (with_reducible repeat (first | apply Kd.R_alloc | apply Kd.R_drewN | apply Kd.R_drew)); exact HO_11.out⟩, ⟨by (with_reducible repeat (first | apply Kd.R_alloc | apply Kd.R_drewN | apply Kd.R_drew)); exact HO_13.out⟩, ⟨by (with_reducible repeat (first | refine blk_drewN ?_ _ | refine blk_drew ?_ | refine blk_alloc ?_ _)); exact BK479.out⟩, ⟨by (with_reducible repeat (first | refine blk_drewN ?_ _ | refine blk_drew ?_ | refine blk_alloc ?_ _)); exact BK488.out⟩, ⟨by (with_reducible repeat (first | refine blk_drewN ?_ _ | refine blk_drew ?_ | refine blk_alloc ?_ _)); exact BK494.out⟩, ⟨by repeat (first | (with_reducible first | exact HB.out | apply below_alloc | apply pw_below_drewN | apply below_drew1 | refine below_set ?_ GE479.out | refine below_set ?_ GE488.out | refine below_set ?_ GE494.out) | exact HB.out)⟩⟩
                                                    · as_aux_lemma =>
                                                      rw [if_neg c87] at H
                                                      exact absurd H (by simp)
                                                  · as_aux_lemma =>
                                                    rw [if_neg c86] at H
                                                    exact absurd H (by simp)
                                              case rest =>
                                                clear HC81
                                                try clear c1
                                                try clear c2
                                                try clear p2
                                                try clear c3
                                                try clear c4
                                                try clear p4
                                                try clear q4
                                                try clear hx4
                                                try clear c5
                                                try clear c6
                                                try clear p6
                                                try clear c7
                                                try clear c8
                                                try clear c9
                                                try clear c10
                                                try clear c10b0
                                                try clear c10b1
                                                try clear c11
                                                try clear c11b0
                                                try clear c11b1
                                                try clear c11b2
                                                try clear c16
                                                try clear c17
                                                try clear c17b0
                                                try clear c18
                                                try clear c18b0
                                                try clear c19
                                                try clear c19b0
                                                try clear c19b1
                                                try clear c21
                                                try clear c28
                                                try clear c28b0
                                                try clear c29
                                                try clear c29b0
                                                try clear c30
                                                try clear c30b0
                                                try clear c31
                                                try clear c33
                                                try clear c33b0
                                                try clear c35
                                                try clear c35b0
                                                try clear c36
                                                try clear c36b0
                                                try clear c37
                                                try clear c37b0
                                                try clear c39
                                                try clear c39b0
                                                try clear c39b1
                                                try clear c39b2
                                                try clear c46
                                                try clear c46b0
                                                try clear c46b1
                                                try clear p46
                                                try clear q46
                                                try clear hx46
                                                try clear c47
                                                try clear c47b0
                                                try clear c47b1
                                                try clear p47
                                                try clear q47
                                                try clear hx47
                                                try clear p49
                                                try clear q49
                                                try clear hx49
                                                try clear c56
                                                try clear c61
                                                try clear c62
                                                try clear p64
                                                try clear c65
                                                try clear c66
                                                try clear c67
                                                try clear c68
                                                try clear c70
                                                try clear c72
                                                try clear c73
                                                try clear c75
                                                try clear c77
                                                try clear c78
                                                try clear c80
                                                try clear c82
                                                try clear c83
                                                try clear c84
                                                try clear c86
                                                try clear c86b0
                                                try clear c87
                                                try clear c87b0
                                                try clear c88
                                                try clear c89
                                                try clear c91
                                                try clear hcz42_0
                                                try clear hcz42_1
                                                try clear hcz51_0
                                                try clear hcz51_1
                                                try clear hcz57_0
                                                try clear hcz57_1
                                                try clear hcz57_2
                                                try clear hcz57_3
                                                try clear hcz63_0
                                                try clear hcz63_1
                                                try clear hcz63_2
                                                try clear hcz63_3
                                                try clear hcz64_0
                                                try clear hcz64_1
                                                try clear hcz64_2
                                                try clear hcz64_3
                                                try clear hcz69_0
                                                try clear hcz69_1
                                                try clear hcz69_2
                                                try clear hcz69_3
                                                try clear hcz71_0
                                                try clear hcz71_1
                                                try clear hcz71_2
                                                try clear hcz71_3
                                                try clear hcz74_0
                                                try clear hcz74_1
                                                try clear hcz74_2
                                                try clear hcz74_3
                                                try clear hcz76_0
                                                try clear hcz76_1
                                                try clear hcz76_2
                                                try clear hcz76_3
                                                try clear hcz79_0
                                                try clear hcz79_1
                                                try clear hcz79_2
                                                try clear hcz79_3
                                                try clear hcz85_0
                                                try clear hcz85_1
                                                try clear hcz85_2
                                                try clear hcz85_3
                                                try clear hcz90_0
                                                try clear hcz90_1
                                                try clear hcz90_2
                                                try clear hcz90_3
                                                try clear hcz92_0
                                                try clear hcz92_1
                                                try clear hcz92_2
                                                try clear hcz92_3
                                                try clear hfz42_0
                                                try clear hfz42_1
                                                try clear hfz51_0
                                                try clear hfz51_1
                                                try clear hfz57_0
                                                try clear hfz57_1
                                                try clear hfz57_2
                                                try clear hfz57_3
                                                try clear hfz63_0
                                                try clear hfz63_1
                                                try clear hfz63_2
                                                try clear hfz63_3
                                                try clear hfz64_0
                                                try clear hfz64_1
                                                try clear hfz64_2
                                                try clear hfz64_3
                                                try clear hfz69_0
                                                try clear hfz69_1
                                                try clear hfz69_2
                                                try clear hfz69_3
                                                try clear hfz71_0
                                                try clear hfz71_1
                                                try clear hfz71_2
                                                try clear hfz71_3
                                                try clear hfz74_0
                                                try clear hfz74_1
                                                try clear hfz74_2
                                                try clear hfz74_3
                                                try clear hfz76_0
                                                try clear hfz76_1
                                                try clear hfz76_2
                                                try clear hfz76_3
                                                try clear hfz79_0
                                                try clear hfz79_1
                                                try clear hfz79_2
                                                try clear hfz79_3
                                                try clear hfz85_0
                                                try clear hfz85_1
                                                try clear hfz85_2
                                                try clear hfz85_3
                                                try clear hfz90_0
                                                try clear hfz90_1
                                                try clear hfz90_2
                                                try clear hfz90_3
                                                try clear hfz92_0
                                                try clear hfz92_1
                                                try clear hfz92_2
                                                try clear hfz92_3
                                                try clear hx463_0
                                                try clear hx463_1
                                                try clear hx463_2
                                                try clear hx463_3
                                                try clear hx464_0
                                                try clear hx464_1
                                                try clear hx464_2
                                                try clear hx464_3
                                                try clear hx465_0
                                                try clear hx465_1
                                                try clear hx465_2
                                                try clear hx465_3
                                                try clear hx472_0
                                                try clear hx476_0
                                                try clear hx495_0
                                                try clear p2
                                                try clear p4
                                                try clear p46
                                                try clear p463
                                                try clear p464
                                                try clear p465
                                                try clear p47
                                                try clear p472
                                                try clear p476
                                                try clear p495
                                                try clear p6
                                                try clear p64
                                                try clear q4
                                                try clear q46
                                                try clear q463
                                                try clear q464
                                                try clear q465
                                                try clear q47
                                                try clear q472
                                                try clear q476
                                                try clear q495
                                                obtain ⟨kq, x156_80, rfl, HA, HJ80, HO_11, HO_13, BK479, BK488, BK494, HB⟩ := hcut
                                                cases kq with
                                                | zero => exact absurd HA.out (by simp [spoorlaw21_SampleWeighs.j7])
                                                | succ kj80 =>
                                                  have H := HA.out
                                                  clear HA
                                                  simp only [spoorlaw21_SampleWeighs.j7] at H
                                                  by_cases c93 : x156_80 = true
                                                  · subst c93
                                                    have H1 : (some false) = some r := by rw [if_pos rfl] at H; exact H
                                                    clear H
                                                    have H := H1
                                                    clear H1
                                                    obtain rfl := Option.some.inj H
                                                    go_wp2
                                                    repeat (go_quiet (fail); try go_wp2)
                                                    go_ret
                                                    exact ⟨by first | rfl | (simp [errW_none, errW_some] <;> rfl) | (simp only [← hji23, ← hji24]; first | rfl | (simp [errW_none, errW_some] <;> rfl)) | (simp [*, errW_none, errW_some] <;> rfl), by repeat (first | (with_reducible first | exact HB.out | apply below_alloc | apply pw_below_drewN | apply below_drew1 | refine below_set ?_ GE479.out | refine below_set ?_ GE488.out | refine below_set ?_ GE494.out) | exact HB.out)⟩
                                                  · replace c93 := Bool.eq_false_iff.mpr c93
                                                    subst c93
                                                    have H1 : (if t489 = true then (spoorlaw21_SampleWeighs.j8 kj80 l0 l1 a2 x10_2 x11_2 x13_24 x15_4 x16_5 t486 false t483 t484 t485 t486) else (if t483 = true then (if (IntKind.u64.wrap (x10_2 * t486)) > 4294967296 then (spoorlaw21_SampleWeighs.j8 kj80 l0 l1 a2 x10_2 x11_2 x13_24 x15_4 x16_5 t486 true t483 t484 t485 t486) else (spoorlaw21_SampleWeighs.j8 kj80 l0 l1 a2 x10_2 x11_2 x13_24 x15_4 x16_5 t486 (decide ((IntKind.u64.wrap (x10_2 * (IntKind.u64.wrap (t486 + 1)))) ≤ 4294967296)) t483 t484 t485 t486)) else (spoorlaw21_SampleWeighs.j8 kj80 l0 l1 a2 x10_2 x11_2 x13_24 x15_4 x16_5 t486 false t483 t484 t485 t486))) = some r := by rw [if_neg (show ¬ (false = true) by decide)] at H; exact H
                                                    clear H
                                                    have H := H1
                                                    clear H1
                                                    have HC94 := Aside0.mk H
                                                    clear H
                                                    go_upto_region 36 with (fail)
                                                    repeat (go_quiet (fail); go_upto_region 36 with (fail))
                                                    go_cut [171] (fun v171 wc => ∃ (kq : Nat) (x171_93 : Bool), v171 = .bool x171_93 ∧ Aside0 (spoorlaw21_SampleWeighs.j8 kq l0 l1 a2 x10_2 x11_2 x13_24 x15_4 x16_5 t486 x171_93 t483 t484 t485 t486 = some r) ∧ Aside0 (kq ≤ kj80) ∧ Aside0 (Kd.R k30 30 wc w.heap.size (fun _ => True) (.slice Ao58 x11_2.length co58) x11_2) ∧ Aside0 (Kd.R (Kd.int .u64) 23 wc w.heap.size (fun _ => True) (.slice (some ad476) x13_24.length co34) x13_24) ∧ Aside0 (wc.heap[gb479]? = some (.cells #[.int .u64 t477, .int .u64 t478] 26 (0, 0))) ∧ Aside0 (wc.heap[gb488]? = some (.cells #[.bool t483, .int .i64 t484, .int .u64 t485, .int .u64 t486] 47 (0, 0))) ∧ Aside0 (wc.heap[gb494]? = some (.cells #[.bool t489, .int .i64 t490, .int .u64 t491, .int .u64 t492] 47 (0, 0))) ∧ Aside0 (Below w.heap.size w wc))
                                                    case first =>
                                                      have H := HC94.out
                                                      clear HC94
                                                      by_cases c95 : t489 = true
                                                      · subst c95
                                                        have H1 : (spoorlaw21_SampleWeighs.j8 kj80 l0 l1 a2 x10_2 x11_2 x13_24 x15_4 x16_5 t486 false t483 t484 t485 t486) = some r := by rw [if_pos rfl] at H; exact H
                                                        clear H
                                                        have H := H1
                                                        clear H1
                                                        have H' := Aside0.mk H
                                                        clear H
                                                        have hnb96 := NB494_479.out
                                                        have hnc96 := NB479_494.out
                                                        have hnb97 := NB494_488.out
                                                        have hnc97 := NB488_494.out
                                                        have hcz98_0 : wc.cell? ⟨gb494, 0, none⟩ = some (.bool true) := (blk_cell BK494.out 0).trans rfl
                                                        have hcz98_1 : wc.cell? ⟨gb494, 1, none⟩ = some (.int .i64 t490) := (blk_cell BK494.out 1).trans rfl
                                                        have hcz98_2 : wc.cell? ⟨gb494, 2, none⟩ = some (.int .u64 t491) := (blk_cell BK494.out 2).trans rfl
                                                        have hcz98_3 : wc.cell? ⟨gb494, 3, none⟩ = some (.int .u64 t492) := (blk_cell BK494.out 3).trans rfl
                                                        have hfz98_0 := blk_frozen BK494.out 0
                                                        have hfz98_1 := blk_frozen BK494.out 1
                                                        have hfz98_2 := blk_frozen BK494.out 2
                                                        have hfz98_3 := blk_frozen BK494.out 3
                                                        go_wp2
                                                        repeat (go_quiet (fail); try go_wp2)
                                                        go_meet
                                                        case rel => exact ⟨_, (false), (by first | rfl | (simp; done) | (simp [*]; done)), H', ⟨by have := HJ5.out; have := HK2.out; have := HJ24.out; have := HK4.out; have := HK5.out; have := HJ47.out; have := HJ80.out; first | omega | exact Nat.le_refl _⟩, ⟨by (with_reducible repeat (first | apply Kd.R_alloc | apply Kd.R_drewN | apply Kd.R_drew)); exact HO_11.out⟩, ⟨by (with_reducible repeat (first | apply Kd.R_alloc | apply Kd.R_drewN | apply Kd.R_drew)); exact HO_13.out⟩, ⟨by (with_reducible repeat (first | refine blk_drewN ?_ _ | refine blk_drew ?_ | refine blk_alloc ?_ _)); exact BK479.out⟩, ⟨by (with_reducible repeat (first | refine blk_drewN ?_ _ | refine blk_drew ?_ | refine blk_alloc ?_ _)); exact BK488.out⟩, ⟨by (with_reducible repeat (first | refine blk_drewN ?_ _ | refine blk_drew ?_ | refine blk_alloc ?_ _)); exact BK494.out⟩, ⟨by repeat (first | (with_reducible first | exact HB.out | apply below_alloc | apply pw_below_drewN | apply below_drew1 | refine below_set ?_ GE479.out | refine below_set ?_ GE488.out | refine below_set ?_ GE494.out) | exact HB.out)⟩⟩
                                                      · replace c95 := Bool.eq_false_iff.mpr c95
                                                        subst c95
                                                        have H1 : (if t483 = true then (if (IntKind.u64.wrap (x10_2 * t486)) > 4294967296 then (spoorlaw21_SampleWeighs.j8 kj80 l0 l1 a2 x10_2 x11_2 x13_24 x15_4 x16_5 t486 true t483 t484 t485 t486) else (spoorlaw21_SampleWeighs.j8 kj80 l0 l1 a2 x10_2 x11_2 x13_24 x15_4 x16_5 t486 (decide ((IntKind.u64.wrap (x10_2 * (IntKind.u64.wrap (t486 + 1)))) ≤ 4294967296)) t483 t484 t485 t486)) else (spoorlaw21_SampleWeighs.j8 kj80 l0 l1 a2 x10_2 x11_2 x13_24 x15_4 x16_5 t486 false t483 t484 t485 t486)) = some r := by rw [if_neg (show ¬ (false = true) by decide)] at H; exact H
                                                        clear H
                                                        have H := H1
                                                        clear H1
                                                        by_cases c99 : t483 = true
                                                        · subst c99
                                                          have H1 : (if (IntKind.u64.wrap (x10_2 * t486)) > 4294967296 then (spoorlaw21_SampleWeighs.j8 kj80 l0 l1 a2 x10_2 x11_2 x13_24 x15_4 x16_5 t486 true true t484 t485 t486) else (spoorlaw21_SampleWeighs.j8 kj80 l0 l1 a2 x10_2 x11_2 x13_24 x15_4 x16_5 t486 (decide ((IntKind.u64.wrap (x10_2 * (IntKind.u64.wrap (t486 + 1)))) ≤ 4294967296)) true t484 t485 t486)) = some r := by rw [if_pos rfl] at H; exact H
                                                          clear H
                                                          have H := H1
                                                          clear H1
                                                          by_cases c100 : (IntKind.u64.wrap (x10_2 * t486)) > 4294967296
                                                          · as_aux_lemma =>
                                                            rw [if_pos c100] at H
                                                            have c100b0 : decide (4294967296 < (IntKind.u64.wrap (x10_2 * t486))) = true := decide_eq_true c100
                                                            clear c100
                                                            (first | rw [c100b0] | (simp only [i64_w, i32_w]; rw [c100b0]) | skip)
                                                            have H' := Aside0.mk H
                                                            clear H
                                                            have hnb101 := NB494_479.out
                                                            have hnc101 := NB479_494.out
                                                            have hnb102 := NB494_488.out
                                                            have hnc102 := NB488_494.out
                                                            have hcz103_0 : wc.cell? ⟨gb494, 0, none⟩ = some (.bool false) := (blk_cell BK494.out 0).trans rfl
                                                            have hcz103_1 : wc.cell? ⟨gb494, 1, none⟩ = some (.int .i64 t490) := (blk_cell BK494.out 1).trans rfl
                                                            have hcz103_2 : wc.cell? ⟨gb494, 2, none⟩ = some (.int .u64 t491) := (blk_cell BK494.out 2).trans rfl
                                                            have hcz103_3 : wc.cell? ⟨gb494, 3, none⟩ = some (.int .u64 t492) := (blk_cell BK494.out 3).trans rfl
                                                            have hfz103_0 := blk_frozen BK494.out 0
                                                            have hfz103_1 := blk_frozen BK494.out 1
                                                            have hfz103_2 := blk_frozen BK494.out 2
                                                            have hfz103_3 := blk_frozen BK494.out 3
                                                            have hnb104 := NB488_479.out
                                                            have hnc104 := NB479_488.out
                                                            have hcz105_0 : wc.cell? ⟨gb488, 0, none⟩ = some (.bool true) := (blk_cell BK488.out 0).trans rfl
                                                            have hcz105_1 : wc.cell? ⟨gb488, 1, none⟩ = some (.int .i64 t484) := (blk_cell BK488.out 1).trans rfl
                                                            have hcz105_2 : wc.cell? ⟨gb488, 2, none⟩ = some (.int .u64 t485) := (blk_cell BK488.out 2).trans rfl
                                                            have hcz105_3 : wc.cell? ⟨gb488, 3, none⟩ = some (.int .u64 t486) := (blk_cell BK488.out 3).trans rfl
                                                            have hfz105_0 := blk_frozen BK488.out 0
                                                            have hfz105_1 := blk_frozen BK488.out 1
                                                            have hfz105_2 := blk_frozen BK488.out 2
                                                            have hfz105_3 := blk_frozen BK488.out 3
                                                            go_wp2
                                                            repeat (go_quiet (fail); try go_wp2)
                                                            go_meet
                                                            case rel => exact ⟨_, (true), (by first | rfl | (simp; done) | (simp [*]; done)), H', ⟨by have := HJ5.out; have := HK2.out; have := HJ24.out; have := HK4.out; have := HK5.out; have := HJ47.out; have := HJ80.out; first | omega | exact Nat.le_refl _⟩, ⟨by (with_reducible repeat (first | apply Kd.R_alloc | apply Kd.R_drewN | apply Kd.R_drew)); exact HO_11.out⟩, ⟨by (with_reducible repeat (first | apply Kd.R_alloc | apply Kd.R_drewN | apply Kd.R_drew)); exact HO_13.out⟩, ⟨by (with_reducible repeat (first | refine blk_drewN ?_ _ | refine blk_drew ?_ | refine blk_alloc ?_ _)); exact BK479.out⟩, ⟨by (with_reducible repeat (first | refine blk_drewN ?_ _ | refine blk_drew ?_ | refine blk_alloc ?_ _)); exact BK488.out⟩, ⟨by (with_reducible repeat (first | refine blk_drewN ?_ _ | refine blk_drew ?_ | refine blk_alloc ?_ _)); exact BK494.out⟩, ⟨by repeat (first | (with_reducible first | exact HB.out | apply below_alloc | apply pw_below_drewN | apply below_drew1 | refine below_set ?_ GE479.out | refine below_set ?_ GE488.out | refine below_set ?_ GE494.out) | exact HB.out)⟩⟩
                                                          · as_aux_lemma =>
                                                            rw [if_neg c100] at H
                                                            have c100b0 : decide (4294967296 < (IntKind.u64.wrap (x10_2 * t486))) = false := decide_eq_false c100
                                                            clear c100
                                                            (first | rw [c100b0] | (simp only [i64_w, i32_w]; rw [c100b0]) | skip)
                                                            have H' := Aside0.mk H
                                                            clear H
                                                            have hnb106 := NB494_479.out
                                                            have hnc106 := NB479_494.out
                                                            have hnb107 := NB494_488.out
                                                            have hnc107 := NB488_494.out
                                                            have hcz108_0 : wc.cell? ⟨gb494, 0, none⟩ = some (.bool false) := (blk_cell BK494.out 0).trans rfl
                                                            have hcz108_1 : wc.cell? ⟨gb494, 1, none⟩ = some (.int .i64 t490) := (blk_cell BK494.out 1).trans rfl
                                                            have hcz108_2 : wc.cell? ⟨gb494, 2, none⟩ = some (.int .u64 t491) := (blk_cell BK494.out 2).trans rfl
                                                            have hcz108_3 : wc.cell? ⟨gb494, 3, none⟩ = some (.int .u64 t492) := (blk_cell BK494.out 3).trans rfl
                                                            have hfz108_0 := blk_frozen BK494.out 0
                                                            have hfz108_1 := blk_frozen BK494.out 1
                                                            have hfz108_2 := blk_frozen BK494.out 2
                                                            have hfz108_3 := blk_frozen BK494.out 3
                                                            have hnb109 := NB488_479.out
                                                            have hnc109 := NB479_488.out
                                                            have hcz110_0 : wc.cell? ⟨gb488, 0, none⟩ = some (.bool true) := (blk_cell BK488.out 0).trans rfl
                                                            have hcz110_1 : wc.cell? ⟨gb488, 1, none⟩ = some (.int .i64 t484) := (blk_cell BK488.out 1).trans rfl
                                                            have hcz110_2 : wc.cell? ⟨gb488, 2, none⟩ = some (.int .u64 t485) := (blk_cell BK488.out 2).trans rfl
                                                            have hcz110_3 : wc.cell? ⟨gb488, 3, none⟩ = some (.int .u64 t486) := (blk_cell BK488.out 3).trans rfl
                                                            have hfz110_0 := blk_frozen BK488.out 0
                                                            have hfz110_1 := blk_frozen BK488.out 1
                                                            have hfz110_2 := blk_frozen BK488.out 2
                                                            have hfz110_3 := blk_frozen BK488.out 3
                                                            go_wp2
                                                            repeat (go_quiet (fail); try go_wp2)
                                                            go_meet
                                                            case rel => exact ⟨_, (decide ((IntKind.u64.wrap (x10_2 * (IntKind.u64.wrap (t486 + 1)))) ≤ 4294967296)), (by first | rfl | (simp; done) | (simp [*]; done)), H', ⟨by have := HJ5.out; have := HK2.out; have := HJ24.out; have := HK4.out; have := HK5.out; have := HJ47.out; have := HJ80.out; first | omega | exact Nat.le_refl _⟩, ⟨by (with_reducible repeat (first | apply Kd.R_alloc | apply Kd.R_drewN | apply Kd.R_drew)); exact HO_11.out⟩, ⟨by (with_reducible repeat (first | apply Kd.R_alloc | apply Kd.R_drewN | apply Kd.R_drew)); exact HO_13.out⟩, ⟨by (with_reducible repeat (first | refine blk_drewN ?_ _ | refine blk_drew ?_ | refine blk_alloc ?_ _)); exact BK479.out⟩, ⟨by (with_reducible repeat (first | refine blk_drewN ?_ _ | refine blk_drew ?_ | refine blk_alloc ?_ _)); exact BK488.out⟩, ⟨by (with_reducible repeat (first | refine blk_drewN ?_ _ | refine blk_drew ?_ | refine blk_alloc ?_ _)); exact BK494.out⟩, ⟨by repeat (first | (with_reducible first | exact HB.out | apply below_alloc | apply pw_below_drewN | apply below_drew1 | refine below_set ?_ GE479.out | refine below_set ?_ GE488.out | refine below_set ?_ GE494.out) | exact HB.out)⟩⟩
                                                        · replace c99 := Bool.eq_false_iff.mpr c99
                                                          subst c99
                                                          have H1 : (spoorlaw21_SampleWeighs.j8 kj80 l0 l1 a2 x10_2 x11_2 x13_24 x15_4 x16_5 t486 false false t484 t485 t486) = some r := by rw [if_neg (show ¬ (false = true) by decide)] at H; exact H
                                                          clear H
                                                          have H := H1
                                                          clear H1
                                                          have H' := Aside0.mk H
                                                          clear H
                                                          have hnb111 := NB494_479.out
                                                          have hnc111 := NB479_494.out
                                                          have hnb112 := NB494_488.out
                                                          have hnc112 := NB488_494.out
                                                          have hcz113_0 : wc.cell? ⟨gb494, 0, none⟩ = some (.bool false) := (blk_cell BK494.out 0).trans rfl
                                                          have hcz113_1 : wc.cell? ⟨gb494, 1, none⟩ = some (.int .i64 t490) := (blk_cell BK494.out 1).trans rfl
                                                          have hcz113_2 : wc.cell? ⟨gb494, 2, none⟩ = some (.int .u64 t491) := (blk_cell BK494.out 2).trans rfl
                                                          have hcz113_3 : wc.cell? ⟨gb494, 3, none⟩ = some (.int .u64 t492) := (blk_cell BK494.out 3).trans rfl
                                                          have hfz113_0 := blk_frozen BK494.out 0
                                                          have hfz113_1 := blk_frozen BK494.out 1
                                                          have hfz113_2 := blk_frozen BK494.out 2
                                                          have hfz113_3 := blk_frozen BK494.out 3
                                                          have hnb114 := NB488_479.out
                                                          have hnc114 := NB479_488.out
                                                          have hcz115_0 : wc.cell? ⟨gb488, 0, none⟩ = some (.bool false) := (blk_cell BK488.out 0).trans rfl
                                                          have hcz115_1 : wc.cell? ⟨gb488, 1, none⟩ = some (.int .i64 t484) := (blk_cell BK488.out 1).trans rfl
                                                          have hcz115_2 : wc.cell? ⟨gb488, 2, none⟩ = some (.int .u64 t485) := (blk_cell BK488.out 2).trans rfl
                                                          have hcz115_3 : wc.cell? ⟨gb488, 3, none⟩ = some (.int .u64 t486) := (blk_cell BK488.out 3).trans rfl
                                                          have hfz115_0 := blk_frozen BK488.out 0
                                                          have hfz115_1 := blk_frozen BK488.out 1
                                                          have hfz115_2 := blk_frozen BK488.out 2
                                                          have hfz115_3 := blk_frozen BK488.out 3
                                                          go_wp2
                                                          repeat (go_quiet (fail); try go_wp2)
                                                          go_meet
                                                          case rel => exact ⟨_, (false), (by first | rfl | (simp; done) | (simp [*]; done)), H', ⟨by have := HJ5.out; have := HK2.out; have := HJ24.out; have := HK4.out; have := HK5.out; have := HJ47.out; have := HJ80.out; first | omega | exact Nat.le_refl _⟩, ⟨by (with_reducible repeat (first | apply Kd.R_alloc | apply Kd.R_drewN | apply Kd.R_drew)); exact HO_11.out⟩, ⟨by (with_reducible repeat (first | apply Kd.R_alloc | apply Kd.R_drewN | apply Kd.R_drew)); exact HO_13.out⟩, ⟨by (with_reducible repeat (first | refine blk_drewN ?_ _ | refine blk_drew ?_ | refine blk_alloc ?_ _)); exact BK479.out⟩, ⟨by (with_reducible repeat (first | refine blk_drewN ?_ _ | refine blk_drew ?_ | refine blk_alloc ?_ _)); exact BK488.out⟩, ⟨by (with_reducible repeat (first | refine blk_drewN ?_ _ | refine blk_drew ?_ | refine blk_alloc ?_ _)); exact BK494.out⟩, ⟨by repeat (first | (with_reducible first | exact HB.out | apply below_alloc | apply pw_below_drewN | apply below_drew1 | refine below_set ?_ GE479.out | refine below_set ?_ GE488.out | refine below_set ?_ GE494.out) | exact HB.out)⟩⟩
                                                    case rest =>
                                                      clear HC94
                                                      try clear c1
                                                      try clear c2
                                                      try clear p2
                                                      try clear c3
                                                      try clear c4
                                                      try clear p4
                                                      try clear q4
                                                      try clear hx4
                                                      try clear c5
                                                      try clear c6
                                                      try clear p6
                                                      try clear c7
                                                      try clear c8
                                                      try clear c9
                                                      try clear c10
                                                      try clear c10b0
                                                      try clear c10b1
                                                      try clear c11
                                                      try clear c11b0
                                                      try clear c11b1
                                                      try clear c11b2
                                                      try clear c16
                                                      try clear c17
                                                      try clear c17b0
                                                      try clear c18
                                                      try clear c18b0
                                                      try clear c19
                                                      try clear c19b0
                                                      try clear c19b1
                                                      try clear c21
                                                      try clear c28
                                                      try clear c28b0
                                                      try clear c29
                                                      try clear c29b0
                                                      try clear c30
                                                      try clear c30b0
                                                      try clear c31
                                                      try clear c33
                                                      try clear c33b0
                                                      try clear c35
                                                      try clear c35b0
                                                      try clear c36
                                                      try clear c36b0
                                                      try clear c37
                                                      try clear c37b0
                                                      try clear c39
                                                      try clear c39b0
                                                      try clear c39b1
                                                      try clear c39b2
                                                      try clear c46
                                                      try clear c46b0
                                                      try clear c46b1
                                                      try clear p46
                                                      try clear q46
                                                      try clear hx46
                                                      try clear c47
                                                      try clear c47b0
                                                      try clear c47b1
                                                      try clear p47
                                                      try clear q47
                                                      try clear hx47
                                                      try clear p49
                                                      try clear q49
                                                      try clear hx49
                                                      try clear c56
                                                      try clear c61
                                                      try clear c62
                                                      try clear p64
                                                      try clear c65
                                                      try clear c66
                                                      try clear c67
                                                      try clear c68
                                                      try clear c70
                                                      try clear c72
                                                      try clear c73
                                                      try clear c75
                                                      try clear c77
                                                      try clear c78
                                                      try clear c80
                                                      try clear c82
                                                      try clear c83
                                                      try clear c84
                                                      try clear c86
                                                      try clear c86b0
                                                      try clear c87
                                                      try clear c87b0
                                                      try clear c88
                                                      try clear c89
                                                      try clear c91
                                                      try clear c93
                                                      try clear c95
                                                      try clear c96
                                                      try clear c97
                                                      try clear c99
                                                      try clear c100
                                                      try clear c100b0
                                                      try clear c101
                                                      try clear c102
                                                      try clear c104
                                                      try clear c106
                                                      try clear c107
                                                      try clear c109
                                                      try clear c111
                                                      try clear c112
                                                      try clear c114
                                                      try clear hcz103_0
                                                      try clear hcz103_1
                                                      try clear hcz103_2
                                                      try clear hcz103_3
                                                      try clear hcz105_0
                                                      try clear hcz105_1
                                                      try clear hcz105_2
                                                      try clear hcz105_3
                                                      try clear hcz108_0
                                                      try clear hcz108_1
                                                      try clear hcz108_2
                                                      try clear hcz108_3
                                                      try clear hcz110_0
                                                      try clear hcz110_1
                                                      try clear hcz110_2
                                                      try clear hcz110_3
                                                      try clear hcz113_0
                                                      try clear hcz113_1
                                                      try clear hcz113_2
                                                      try clear hcz113_3
                                                      try clear hcz115_0
                                                      try clear hcz115_1
                                                      try clear hcz115_2
                                                      try clear hcz115_3
                                                      try clear hcz42_0
                                                      try clear hcz42_1
                                                      try clear hcz51_0
                                                      try clear hcz51_1
                                                      try clear hcz57_0
                                                      try clear hcz57_1
                                                      try clear hcz57_2
                                                      try clear hcz57_3
                                                      try clear hcz63_0
                                                      try clear hcz63_1
                                                      try clear hcz63_2
                                                      try clear hcz63_3
                                                      try clear hcz64_0
                                                      try clear hcz64_1
                                                      try clear hcz64_2
                                                      try clear hcz64_3
                                                      try clear hcz69_0
                                                      try clear hcz69_1
                                                      try clear hcz69_2
                                                      try clear hcz69_3
                                                      try clear hcz71_0
                                                      try clear hcz71_1
                                                      try clear hcz71_2
                                                      try clear hcz71_3
                                                      try clear hcz74_0
                                                      try clear hcz74_1
                                                      try clear hcz74_2
                                                      try clear hcz74_3
                                                      try clear hcz76_0
                                                      try clear hcz76_1
                                                      try clear hcz76_2
                                                      try clear hcz76_3
                                                      try clear hcz79_0
                                                      try clear hcz79_1
                                                      try clear hcz79_2
                                                      try clear hcz79_3
                                                      try clear hcz85_0
                                                      try clear hcz85_1
                                                      try clear hcz85_2
                                                      try clear hcz85_3
                                                      try clear hcz90_0
                                                      try clear hcz90_1
                                                      try clear hcz90_2
                                                      try clear hcz90_3
                                                      try clear hcz92_0
                                                      try clear hcz92_1
                                                      try clear hcz92_2
                                                      try clear hcz92_3
                                                      try clear hcz98_0
                                                      try clear hcz98_1
                                                      try clear hcz98_2
                                                      try clear hcz98_3
                                                      try clear hfz103_0
                                                      try clear hfz103_1
                                                      try clear hfz103_2
                                                      try clear hfz103_3
                                                      try clear hfz105_0
                                                      try clear hfz105_1
                                                      try clear hfz105_2
                                                      try clear hfz105_3
                                                      try clear hfz108_0
                                                      try clear hfz108_1
                                                      try clear hfz108_2
                                                      try clear hfz108_3
                                                      try clear hfz110_0
                                                      try clear hfz110_1
                                                      try clear hfz110_2
                                                      try clear hfz110_3
                                                      try clear hfz113_0
                                                      try clear hfz113_1
                                                      try clear hfz113_2
                                                      try clear hfz113_3
                                                      try clear hfz115_0
                                                      try clear hfz115_1
                                                      try clear hfz115_2
                                                      try clear hfz115_3
                                                      try clear hfz42_0
                                                      try clear hfz42_1
                                                      try clear hfz51_0
                                                      try clear hfz51_1
                                                      try clear hfz57_0
                                                      try clear hfz57_1
                                                      try clear hfz57_2
                                                      try clear hfz57_3
                                                      try clear hfz63_0
                                                      try clear hfz63_1
                                                      try clear hfz63_2
                                                      try clear hfz63_3
                                                      try clear hfz64_0
                                                      try clear hfz64_1
                                                      try clear hfz64_2
                                                      try clear hfz64_3
                                                      try clear hfz69_0
                                                      try clear hfz69_1
                                                      try clear hfz69_2
                                                      try clear hfz69_3
                                                      try clear hfz71_0
                                                      try clear hfz71_1
                                                      try clear hfz71_2
                                                      try clear hfz71_3
                                                      try clear hfz74_0
                                                      try clear hfz74_1
                                                      try clear hfz74_2
                                                      try clear hfz74_3
                                                      try clear hfz76_0
                                                      try clear hfz76_1
                                                      try clear hfz76_2
                                                      try clear hfz76_3
                                                      try clear hfz79_0
                                                      try clear hfz79_1
                                                      try clear hfz79_2
                                                      try clear hfz79_3
                                                      try clear hfz85_0
                                                      try clear hfz85_1
                                                      try clear hfz85_2
                                                      try clear hfz85_3
                                                      try clear hfz90_0
                                                      try clear hfz90_1
                                                      try clear hfz90_2
                                                      try clear hfz90_3
                                                      try clear hfz92_0
                                                      try clear hfz92_1
                                                      try clear hfz92_2
                                                      try clear hfz92_3
                                                      try clear hfz98_0
                                                      try clear hfz98_1
                                                      try clear hfz98_2
                                                      try clear hfz98_3
                                                      try clear hx463_0
                                                      try clear hx463_1
                                                      try clear hx463_2
                                                      try clear hx463_3
                                                      try clear hx464_0
                                                      try clear hx464_1
                                                      try clear hx464_2
                                                      try clear hx464_3
                                                      try clear hx465_0
                                                      try clear hx465_1
                                                      try clear hx465_2
                                                      try clear hx465_3
                                                      try clear hx472_0
                                                      try clear hx476_0
                                                      try clear hx495_0
                                                      try clear p2
                                                      try clear p4
                                                      try clear p46
                                                      try clear p463
                                                      try clear p464
                                                      try clear p465
                                                      try clear p47
                                                      try clear p472
                                                      try clear p476
                                                      try clear p49
                                                      try clear p495
                                                      try clear p6
                                                      try clear p64
                                                      try clear q4
                                                      try clear q46
                                                      try clear q463
                                                      try clear q464
                                                      try clear q465
                                                      try clear q47
                                                      try clear q472
                                                      try clear q476
                                                      try clear q49
                                                      try clear q495
                                                      obtain ⟨kq, x171_93, rfl, HA, HJ93, HO_11, HO_13, BK479, BK488, BK494, HB⟩ := hcut
                                                      cases kq with
                                                      | zero => exact absurd HA.out (by simp [spoorlaw21_SampleWeighs.j8])
                                                      | succ kj93 =>
                                                        have H := HA.out
                                                        clear HA
                                                        simp only [spoorlaw21_SampleWeighs.j8] at H
                                                        by_cases c116 : x171_93 = true
                                                        · subst c116
                                                          have H1 : (some false) = some r := by rw [if_pos rfl] at H; exact H
                                                          clear H
                                                          have H := H1
                                                          clear H1
                                                          obtain rfl := Option.some.inj H
                                                          go_wp2
                                                          repeat (go_quiet (fail); try go_wp2)
                                                          go_ret
                                                          exact ⟨by first | rfl | (simp [errW_none, errW_some] <;> rfl) | (simp only [← hji23, ← hji24]; first | rfl | (simp [errW_none, errW_some] <;> rfl)) | (simp [*, errW_none, errW_some] <;> rfl), by repeat (first | (with_reducible first | exact HB.out | apply below_alloc | apply pw_below_drewN | apply below_drew1 | refine below_set ?_ GE479.out | refine below_set ?_ GE488.out | refine below_set ?_ GE494.out) | exact HB.out)⟩
                                                        · replace c116 := Bool.eq_false_iff.mpr c116
                                                          subst c116
                                                          have H1 : (if t485 = 0 then (if t483 = true then (spoorlaw21_SampleWeighs.l3 kj93 l0 l1 a2 x10_2 x11_2 x13_24 x15_4 (IntKind.u64.wrap (x16_5 + 1))) else (if t486 = 0 then (if t484 = (-1) then (spoorlaw21_SampleWeighs.l3 kj93 l0 l1 a2 x10_2 x11_2 x13_24 x15_4 (IntKind.u64.wrap (x16_5 + 1))) else (some false)) else (some false))) else (some false)) = some r := by rw [if_neg (show ¬ (false = true) by decide)] at H; exact H
                                                          clear H
                                                          have H := H1
                                                          clear H1
                                                          by_cases c117 : t485 = 0
                                                          · as_aux_lemma =>
                                                            rw [if_pos c117] at H
                                                            have c117b0 : (t485 == 0) = true := beq_iff_eq.mpr c117
                                                            have c117b1 : (t485 != 0) = false := bne_eq_false_iff_eq.mpr c117
                                                            clear c117
                                                            by_cases c118 : t483 = true
                                                            · subst c118
                                                              have H1 : (spoorlaw21_SampleWeighs.l3 kj93 l0 l1 a2 x10_2 x11_2 x13_24 x15_4 (IntKind.u64.wrap (x16_5 + 1))) = some r := by rw [if_pos rfl] at H; exact H
                                                              clear H
                                                              have H := H1
                                                              clear H1
                                                              have H' := Aside0.mk H
                                                              clear H
                                                              have hnb119 := NB488_479.out
                                                              have hnc119 := NB479_488.out
                                                              have hnb120 := NB488_494.out
                                                              have hnc120 := NB494_488.out
                                                              have hcz121_0 : wc.cell? ⟨gb488, 0, none⟩ = some (.bool true) := (blk_cell BK488.out 0).trans rfl
                                                              have hcz121_1 : wc.cell? ⟨gb488, 1, none⟩ = some (.int .i64 t484) := (blk_cell BK488.out 1).trans rfl
                                                              have hcz121_2 : wc.cell? ⟨gb488, 2, none⟩ = some (.int .u64 t485) := (blk_cell BK488.out 2).trans rfl
                                                              have hcz121_3 : wc.cell? ⟨gb488, 3, none⟩ = some (.int .u64 t486) := (blk_cell BK488.out 3).trans rfl
                                                              have hfz121_0 := blk_frozen BK488.out 0
                                                              have hfz121_1 := blk_frozen BK488.out 1
                                                              have hfz121_2 := blk_frozen BK488.out 2
                                                              have hfz121_3 := blk_frozen BK488.out 3
                                                              go_wp2
                                                              repeat (go_quiet (fail); try go_wp2)
                                                              go_roundg kj93
                                                              case measure => have := HJ5.out; have := HK2.out; have := HJ24.out; have := HK4.out; have := HK5.out; have := HJ47.out; have := HJ80.out; have := HJ93.out; omega
                                                              case rel => exact ⟨(IntKind.u64.wrap (x16_5 + 1)), (by first | rfl | (simp; done) | (simp [*]; done)), H', ⟨by have := HJ5.out; have := HK2.out; have := HJ24.out; have := HK4.out; have := HK5.out; have := HJ47.out; have := HJ80.out; have := HJ93.out; omega⟩, ⟨by (with_reducible repeat (first | apply Kd.R_alloc | apply Kd.R_drewN | apply Kd.R_drew)); exact HO_11.out⟩, ⟨by (with_reducible repeat (first | apply Kd.R_alloc | apply Kd.R_drewN | apply Kd.R_drew)); exact HO_13.out⟩, ⟨by repeat (first | (with_reducible first | exact HB.out | apply below_alloc | apply pw_below_drewN | apply below_drew1 | refine below_set ?_ GE479.out | refine below_set ?_ GE488.out | refine below_set ?_ GE494.out) | exact HB.out)⟩⟩
                                                            · replace c118 := Bool.eq_false_iff.mpr c118
                                                              subst c118
                                                              have H1 : (if t486 = 0 then (if t484 = (-1) then (spoorlaw21_SampleWeighs.l3 kj93 l0 l1 a2 x10_2 x11_2 x13_24 x15_4 (IntKind.u64.wrap (x16_5 + 1))) else (some false)) else (some false)) = some r := by rw [if_neg (show ¬ (false = true) by decide)] at H; exact H
                                                              clear H
                                                              have H := H1
                                                              clear H1
                                                              by_cases c122 : t486 = 0
                                                              · as_aux_lemma =>
                                                                rw [if_pos c122] at H
                                                                have c122b0 : (t486 == 0) = true := beq_iff_eq.mpr c122
                                                                have c122b1 : (t486 != 0) = false := bne_eq_false_iff_eq.mpr c122
                                                                clear c122
                                                                by_cases c123 : t484 = (-1)
                                                                · as_aux_lemma =>
                                                                  rw [if_pos c123] at H
                                                                  have c123b0 : (t484 == (-1)) = true := beq_iff_eq.mpr c123
                                                                  have c123b1 : (t484 != (-1)) = false := bne_eq_false_iff_eq.mpr c123
                                                                  clear c123
                                                                  have H' := Aside0.mk H
                                                                  clear H
                                                                  have hnb124 := NB488_479.out
                                                                  have hnc124 := NB479_488.out
                                                                  have hnb125 := NB488_494.out
                                                                  have hnc125 := NB494_488.out
                                                                  have hcz126_0 : wc.cell? ⟨gb488, 0, none⟩ = some (.bool false) := (blk_cell BK488.out 0).trans rfl
                                                                  have hcz126_1 : wc.cell? ⟨gb488, 1, none⟩ = some (.int .i64 t484) := (blk_cell BK488.out 1).trans rfl
                                                                  have hcz126_2 : wc.cell? ⟨gb488, 2, none⟩ = some (.int .u64 t485) := (blk_cell BK488.out 2).trans rfl
                                                                  have hcz126_3 : wc.cell? ⟨gb488, 3, none⟩ = some (.int .u64 t486) := (blk_cell BK488.out 3).trans rfl
                                                                  have hfz126_0 := blk_frozen BK488.out 0
                                                                  have hfz126_1 := blk_frozen BK488.out 1
                                                                  have hfz126_2 := blk_frozen BK488.out 2
                                                                  have hfz126_3 := blk_frozen BK488.out 3
                                                                  go_wp2
                                                                  repeat (go_quiet (fail); try go_wp2)
                                                                  go_roundg kj93
                                                                  case measure => have := HJ5.out; have := HK2.out; have := HJ24.out; have := HK4.out; have := HK5.out; have := HJ47.out; have := HJ80.out; have := HJ93.out; omega
                                                                  case rel => exact ⟨(IntKind.u64.wrap (x16_5 + 1)), (by first | rfl | (simp; done) | (simp [*]; done)), H', ⟨by have := HJ5.out; have := HK2.out; have := HJ24.out; have := HK4.out; have := HK5.out; have := HJ47.out; have := HJ80.out; have := HJ93.out; omega⟩, ⟨by (with_reducible repeat (first | apply Kd.R_alloc | apply Kd.R_drewN | apply Kd.R_drew)); exact HO_11.out⟩, ⟨by (with_reducible repeat (first | apply Kd.R_alloc | apply Kd.R_drewN | apply Kd.R_drew)); exact HO_13.out⟩, ⟨by repeat (first | (with_reducible first | exact HB.out | apply below_alloc | apply pw_below_drewN | apply below_drew1 | refine below_set ?_ GE479.out | refine below_set ?_ GE488.out | refine below_set ?_ GE494.out) | exact HB.out)⟩⟩
                                                                · as_aux_lemma =>
                                                                  rw [if_neg c123] at H
                                                                  have c123b0 : (t484 == (-1)) = false := beq_eq_false_iff_ne.mpr c123
                                                                  have c123b1 : (t484 != (-1)) = true := bne_iff_ne.mpr c123
                                                                  obtain rfl := Option.some.inj H
                                                                  have hnb127 := NB488_479.out
                                                                  have hnc127 := NB479_488.out
                                                                  have hnb128 := NB488_494.out
                                                                  have hnc128 := NB494_488.out
                                                                  have hcz129_0 : wc.cell? ⟨gb488, 0, none⟩ = some (.bool false) := (blk_cell BK488.out 0).trans rfl
                                                                  have hcz129_1 : wc.cell? ⟨gb488, 1, none⟩ = some (.int .i64 t484) := (blk_cell BK488.out 1).trans rfl
                                                                  have hcz129_2 : wc.cell? ⟨gb488, 2, none⟩ = some (.int .u64 t485) := (blk_cell BK488.out 2).trans rfl
                                                                  have hcz129_3 : wc.cell? ⟨gb488, 3, none⟩ = some (.int .u64 t486) := (blk_cell BK488.out 3).trans rfl
                                                                  have hfz129_0 := blk_frozen BK488.out 0
                                                                  have hfz129_1 := blk_frozen BK488.out 1
                                                                  have hfz129_2 := blk_frozen BK488.out 2
                                                                  have hfz129_3 := blk_frozen BK488.out 3
                                                                  go_wp2
                                                                  repeat (go_quiet (fail); try go_wp2)
                                                                  go_ret
                                                                  exact ⟨by first | rfl | (simp [errW_none, errW_some] <;> rfl) | (simp only [← hji23, ← hji24]; first | rfl | (simp [errW_none, errW_some] <;> rfl)) | (simp [*, errW_none, errW_some] <;> rfl), by repeat (first | (with_reducible first | exact HB.out | apply below_alloc | apply pw_below_drewN | apply below_drew1 | refine below_set ?_ GE479.out | refine below_set ?_ GE488.out | refine below_set ?_ GE494.out) | exact HB.out)⟩
                                                              · as_aux_lemma =>
                                                                rw [if_neg c122] at H
                                                                have c122b0 : (t486 == 0) = false := beq_eq_false_iff_ne.mpr c122
                                                                have c122b1 : (t486 != 0) = true := bne_iff_ne.mpr c122
                                                                obtain rfl := Option.some.inj H
                                                                have hnb130 := NB488_479.out
                                                                have hnc130 := NB479_488.out
                                                                have hnb131 := NB488_494.out
                                                                have hnc131 := NB494_488.out
                                                                have hcz132_0 : wc.cell? ⟨gb488, 0, none⟩ = some (.bool false) := (blk_cell BK488.out 0).trans rfl
                                                                have hcz132_1 : wc.cell? ⟨gb488, 1, none⟩ = some (.int .i64 t484) := (blk_cell BK488.out 1).trans rfl
                                                                have hcz132_2 : wc.cell? ⟨gb488, 2, none⟩ = some (.int .u64 t485) := (blk_cell BK488.out 2).trans rfl
                                                                have hcz132_3 : wc.cell? ⟨gb488, 3, none⟩ = some (.int .u64 t486) := (blk_cell BK488.out 3).trans rfl
                                                                have hfz132_0 := blk_frozen BK488.out 0
                                                                have hfz132_1 := blk_frozen BK488.out 1
                                                                have hfz132_2 := blk_frozen BK488.out 2
                                                                have hfz132_3 := blk_frozen BK488.out 3
                                                                go_wp2
                                                                repeat (go_quiet (fail); try go_wp2)
                                                                go_ret
                                                                exact ⟨by first | rfl | (simp [errW_none, errW_some] <;> rfl) | (simp only [← hji23, ← hji24]; first | rfl | (simp [errW_none, errW_some] <;> rfl)) | (simp [*, errW_none, errW_some] <;> rfl), by repeat (first | (with_reducible first | exact HB.out | apply below_alloc | apply pw_below_drewN | apply below_drew1 | refine below_set ?_ GE479.out | refine below_set ?_ GE488.out | refine below_set ?_ GE494.out) | exact HB.out)⟩
                                                          · as_aux_lemma =>
                                                            rw [if_neg c117] at H
                                                            have c117b0 : (t485 == 0) = false := beq_eq_false_iff_ne.mpr c117
                                                            have c117b1 : (t485 != 0) = true := bne_iff_ne.mpr c117
                                                            obtain rfl := Option.some.inj H
                                                            have hnb133 := NB488_479.out
                                                            have hnc133 := NB479_488.out
                                                            have hnb134 := NB488_494.out
                                                            have hnc134 := NB494_488.out
                                                            have hcz135_0 : wc.cell? ⟨gb488, 0, none⟩ = some (.bool t483) := (blk_cell BK488.out 0).trans rfl
                                                            have hcz135_1 : wc.cell? ⟨gb488, 1, none⟩ = some (.int .i64 t484) := (blk_cell BK488.out 1).trans rfl
                                                            have hcz135_2 : wc.cell? ⟨gb488, 2, none⟩ = some (.int .u64 t485) := (blk_cell BK488.out 2).trans rfl
                                                            have hcz135_3 : wc.cell? ⟨gb488, 3, none⟩ = some (.int .u64 t486) := (blk_cell BK488.out 3).trans rfl
                                                            have hfz135_0 := blk_frozen BK488.out 0
                                                            have hfz135_1 := blk_frozen BK488.out 1
                                                            have hfz135_2 := blk_frozen BK488.out 2
                                                            have hfz135_3 := blk_frozen BK488.out 3
                                                            go_wp2
                                                            repeat (go_quiet (fail); try go_wp2)
                                                            go_ret
                                                            exact ⟨by first | rfl | (simp [errW_none, errW_some] <;> rfl) | (simp only [← hji23, ← hji24]; first | rfl | (simp [errW_none, errW_some] <;> rfl)) | (simp [*, errW_none, errW_some] <;> rfl), by repeat (first | (with_reducible first | exact HB.out | apply below_alloc | apply pw_below_drewN | apply below_drew1 | refine below_set ?_ GE479.out | refine below_set ?_ GE488.out | refine below_set ?_ GE494.out) | exact HB.out)⟩
                                      · as_aux_lemma =>
                                        rw [if_neg c47] at H
                                        have c47b0 : (t487 == 0) = false := beq_eq_false_iff_ne.mpr c47
                                        have c47b1 : (t487 != 0) = true := bne_iff_ne.mpr c47
                                        have H' := Aside0.mk H
                                        clear H
                                        have p476 : 0 ≤ (x15_4 : Int) := of_decide_eq_true (by first | (with_reducible assumption) | assumption)
                                        have q476 : x15_4 < (x13_24.length : Int) := of_decide_eq_true (by first | (with_reducible assumption) | assumption)
                                        obtain ⟨ad476, e476, hx476_0⟩ := Kd.at_int (Kd.R_reads' HO_13.out).2.2 x15_4 p476 q476
                                        cases e476
                                        replace p476 := eq_true p476
                                        replace q476 := eq_true q476
                                        go_wp2_with (first | (go_at_call 21; (with_reducible refine (spoorlaw21_named.calls k5 (IntKind.u64.wrap ((IntKind.u64.wrap ((rd x13_24 x15_4) * 281474976710656)) + (IntKind.u64.wrap (x16_5 * 281474976710655)))) (IntKind.u64.wrap (a2 + (IntKind.u64.wrap (x15_4)))) t477 t478 _ A38.out).mono ?_); rintro e w136 ⟨rfl, hb⟩; have n0_ := Aside0.mk (Kd.R_below (xr HO_11) hb); have n1_ := Aside0.mk (Kd.R_below (xr HO_13) hb); have n2_ := Aside0.mk (below_step xq0 hb); clear HO_11; clear HO_13; clear HB; have HO_11 := n0_; have HO_13 := n1_; have HB := n2_; clear n0_ n1_ n2_; (try clear hb); (try clear hb2); (try clear hk); (try clear hi)) | ((with_reducible refine gate_dst (N := 17) rfl ?_); (try (refine gate_guard (by rfl) ?_; dsimp only)); refine box_event ?hg (N := 17) ?hd (cs := #[.int .u64 0, .int .u64 0]) (t := 26) ?hr ?_; (case hd => rfl); (case hg => rfl); (case hr => first | (go_simp; done) | (go_simp; rfl)); intro gb479 hg w137 hbox hb; have n0_ := Aside0.mk (Kd.R_below (xr HO_11) hb); have n1_ := Aside0.mk (Kd.R_below (xr HO_13) hb); have n2_ := Aside0.mk (below_step xq0 hb); have n3_ := Aside0.mk (hbox); have n4_ := Aside0.mk ((by rw [hg]; exact (below_size xq0) : w.heap.size ≤ gb479)); have n5_ := Aside0.mk ((by rw [hg]; exact (below_size xq0) : w.heap.size ≤ gb479)); clear HO_11; clear HO_13; clear HB; have HO_11 := n0_; have HO_13 := n1_; have HB := n2_; have BK479 := n3_; have GW479 := n4_; have GE479 := n5_; clear n0_ n1_ n2_ n3_ n4_ n5_; clear hb hbox hg; have hcz138_0 : w137.cell? ⟨gb479, 0, none⟩ = some (.int .u64 0) := (blk_cell BK479.out 0).trans rfl; have hcz138_1 : w137.cell? ⟨gb479, 1, none⟩ = some (.int .u64 0) := (blk_cell BK479.out 1).trans rfl; have hfz138_0 := blk_frozen BK479.out 0; have hfz138_1 := blk_frozen BK479.out 1) | (go_at_call 22; (with_reducible refine (spoorlaw21_renamed.calls k5 _ _ l1 t477 t478 t480 _ ?side1 ?side2 A43.out).mono ?_); (case side1 => exact Kd.C_below HR1.out xq1); (case side2 => exact HC1.out); rintro e w139 ⟨v481, rfl, ho0, hb⟩; have n0_ := Aside0.mk (Kd.R_below (by (with_reducible repeat (first | apply Kd.R_alloc | apply Kd.R_drewN | apply Kd.R_drew)); exact (Kd.R_mono (Kd.R_far (p := ⟨gb479, 1, none⟩) (Kd.R_far (p := ⟨gb479, 0, none⟩) (Kd.R_types HO_11.out BK479.out (by decide)) (fun _ hk => hk.2) (.int .u64 t477)) (fun _ hk => hk.2) (.int .u64 t478)) (fun _ h_ => h_.1))) hb); have n1_ := Aside0.mk (Kd.R_below (by (with_reducible repeat (first | apply Kd.R_alloc | apply Kd.R_drewN | apply Kd.R_drew)); exact (Kd.R_mono (Kd.R_far (p := ⟨gb479, 1, none⟩) (Kd.R_far (p := ⟨gb479, 0, none⟩) (Kd.R_types HO_13.out BK479.out (by decide)) (fun _ hk => hk.2) (.int .u64 t477)) (fun _ hk => hk.2) (.int .u64 t478)) (fun _ h_ => h_.1))) hb); have n2_ := Aside0.mk (Kd.S_lower ho0 (below_size xq1)); have n3_ := Aside0.mk (blk_below (g := gb479) (o := .cells #[.int .u64 t477, .int .u64 t478] 26 (0, 0)) (by (with_reducible repeat (first | refine blk_drewN ?_ _ | refine blk_drew ?_ | refine blk_alloc ?_ _)); refine blk_put (cs := #[.int .u64 t477, .int .u64 0]) ?_ 1 _ rfl; (with_reducible repeat (first | refine blk_drewN ?_ _ | refine blk_drew ?_ | refine blk_alloc ?_ _)); refine blk_put (cs := #[.int .u64 0, .int .u64 0]) ?_ 0 _ rfl; (with_reducible repeat (first | refine blk_drewN ?_ _ | refine blk_drew ?_ | refine blk_alloc ?_ _)); exact BK479.out) hb); have n4_ := Aside0.mk (below_step xq1 hb); clear HO_11; clear HO_13; clear BK479; clear HB; have HO_11 := n0_; have HO_13 := n1_; have HO482 := n2_; have BK479 := n3_; have HB := n4_; clear n0_ n1_ n2_ n3_ n4_; (try clear hb); (try clear hb2); (try clear hk); (try clear hi); (try clear ho0); obtain ⟨Ao140, co140, eo140⟩ := Kd.S_slice HO482.out; subst eo140) | (go_at_call 18; (with_reducible refine (sample_Decide.calls k5 _ _ l0 _ _ t480 t483 t484 t485 t486 t487 _ ?side1 ?side2 ?side3 ?side4 A44.out (Tabs.below HTabs0_.out xq1)).mono ?_); (case side1 => repeat (first | exact (Kd.C_below HR0.out HB.out) | (with_reducible refine Kd.C_alloc ?_ _) | (with_reducible refine Kd.C_drewN ?_ _) | (with_reducible refine Kd.C_drew ?_))); (case side2 => exact HC0.out); (case side3 => repeat (first | exact (Kd.S_reads' HO482.out).2.2 | (with_reducible refine Kd.C_alloc ?_ _) | (with_reducible refine Kd.C_drewN ?_ _) | (with_reducible refine Kd.C_drew ?_))); (case side4 => exact (Kd.S_reads' HO482.out).2.1); rintro e w141 ⟨rfl, hb⟩; have n0_ := Aside0.mk (Kd.R_below (xr HO_11) hb); have n1_ := Aside0.mk (Kd.R_below (xr HO_13) hb); have n2_ := Aside0.mk (Kd.S_below (by (with_reducible repeat (first | apply Kd.S_alloc | apply Kd.S_drewN | apply Kd.S_drew)); exact HO482.out) hb); have n3_ := Aside0.mk (blk_below (g := gb479) (o := .cells #[.int .u64 t477, .int .u64 t478] 26 (0, 0)) (xb BK479) hb); have n4_ := Aside0.mk (below_step xq1 hb); clear HO_11; clear HO_13; clear HO482; clear BK479; clear HB; have HO_11 := n0_; have HO_13 := n1_; have HO482 := n2_; have BK479 := n3_; have HB := n4_; clear n0_ n1_ n2_ n3_ n4_; (try clear hb); (try clear hb2); (try clear hk); (try clear hi)) | ((with_reducible refine gate_dst (N := 19) rfl ?_); (try (refine gate_guard (by rfl) ?_; dsimp only)); refine box_event ?hg (N := 19) ?hd (cs := #[.bool false, .int .i64 0, .int .u64 0, .int .u64 0]) (t := 47) ?hr ?_; (case hd => rfl); (case hg => rfl); (case hr => first | (go_simp; done) | (go_simp; rfl)); intro gb488 hg w142 hbox hb; have n0_ := Aside0.mk (Kd.R_below (xr HO_11) hb); have n1_ := Aside0.mk (Kd.R_below (xr HO_13) hb); have n2_ := Aside0.mk (Kd.S_below (by (with_reducible repeat (first | apply Kd.S_alloc | apply Kd.S_drewN | apply Kd.S_drew)); exact HO482.out) hb); have n3_ := Aside0.mk (blk_below (g := gb479) (o := .cells #[.int .u64 t477, .int .u64 t478] 26 (0, 0)) (xb BK479) hb); have n4_ := Aside0.mk (below_step xq1 hb); have n5_ := Aside0.mk (hbox); have n6_ := Aside0.mk ((by rw [hg]; exact (below_size xq1) : w.heap.size ≤ gb488)); have n7_ := Aside0.mk ((by rw [hg]; exact (below_size xq1) : w.heap.size ≤ gb488)); have n8_ := Aside0.mk ((by rw [hg]; exact Nat.ne_of_lt (blk_lt (g := gb479) (o := .cells #[.int .u64 t477, .int .u64 t478] 26 (0, 0)) (xb BK479)) : gb479 ≠ gb488)); have n9_ := Aside0.mk ((by rw [hg]; exact Nat.ne_of_gt (blk_lt (g := gb479) (o := .cells #[.int .u64 t477, .int .u64 t478] 26 (0, 0)) (xb BK479)) : gb488 ≠ gb479)); clear HO_11; clear HO_13; clear HO482; clear BK479; clear HB; have HO_11 := n0_; have HO_13 := n1_; have HO482 := n2_; have BK479 := n3_; have HB := n4_; have BK488 := n5_; have GW488 := n6_; have GE488 := n7_; have NB479_488 := n8_; have NB488_479 := n9_; clear n0_ n1_ n2_ n3_ n4_ n5_ n6_ n7_ n8_ n9_; clear hb hbox hg; have hnb143 := NB488_479.out; have hnc143 := NB479_488.out; have hcz144_0 : w142.cell? ⟨gb488, 0, none⟩ = some (.bool false) := (blk_cell BK488.out 0).trans rfl; have hcz144_1 : w142.cell? ⟨gb488, 1, none⟩ = some (.int .i64 0) := (blk_cell BK488.out 1).trans rfl; have hcz144_2 : w142.cell? ⟨gb488, 2, none⟩ = some (.int .u64 0) := (blk_cell BK488.out 2).trans rfl; have hcz144_3 : w142.cell? ⟨gb488, 3, none⟩ = some (.int .u64 0) := (blk_cell BK488.out 3).trans rfl; have hfz144_0 := blk_frozen BK488.out 0; have hfz144_1 := blk_frozen BK488.out 1; have hfz144_2 := blk_frozen BK488.out 2; have hfz144_3 := blk_frozen BK488.out 3; obtain ⟨Ao145, co145, eo145⟩ := Kd.R_slice HO_11.out; subst eo145) | (go_at_call 18; (with_reducible refine (sample_Decide.calls k5 _ _ x11_2 _ _ t480 t489 t490 t491 t492 t493 _ ?side1 ?side2 ?side3 ?side4 A45.out (Tabs.below HTabs0_.out xq1)).mono ?_); (case side1 => refine (Kd.R_reads' (e := 30) (base := w.heap.size) (ok := fun k_ => True) (n := x11_2.length) (c := co145) ?_).2.2; exact (by (with_reducible repeat (first | apply Kd.R_alloc | apply Kd.R_drewN | apply Kd.R_drew)); exact (Kd.R_mono (Kd.R_far (p := ⟨gb488, 3, none⟩) (Kd.R_far (p := ⟨gb488, 2, none⟩) (Kd.R_far (p := ⟨gb488, 1, none⟩) (Kd.R_far (p := ⟨gb488, 0, none⟩) (Kd.R_types HO_11.out BK488.out (by decide)) (fun _ hk => hk.2) (.bool t483)) (fun _ hk => hk.2) (.int .i64 t484)) (fun _ hk => hk.2) (.int .u64 t485)) (fun _ hk => hk.2) (.int .u64 t486)) (fun _ h_ => h_.1)))); (case side2 => exact (Kd.R_reads' HO_11.out).2.1); (case side3 => refine (Kd.S_reads' (e := 43) (base := w.heap.size) (ok := fun k_ => True) (n := t480.length) (c := co140) ?_).2.2; exact (by (with_reducible repeat (first | apply Kd.S_alloc | apply Kd.S_drewN | apply Kd.S_drew)); exact (Kd.S_mono (Kd.S_far (p := ⟨gb488, 3, none⟩) (Kd.S_far (p := ⟨gb488, 2, none⟩) (Kd.S_far (p := ⟨gb488, 1, none⟩) (Kd.S_far (p := ⟨gb488, 0, none⟩) (Kd.S_types HO482.out BK488.out (by decide)) (fun _ hk => hk.2) (.bool t483)) (fun _ hk => hk.2) (.int .i64 t484)) (fun _ hk => hk.2) (.int .u64 t485)) (fun _ hk => hk.2) (.int .u64 t486)) (fun _ h_ => h_.1)))); (case side4 => exact (Kd.S_reads' HO482.out).2.1); rintro e w146 ⟨rfl, hb⟩; have n0_ := Aside0.mk (Kd.R_below (by (with_reducible repeat (first | apply Kd.R_alloc | apply Kd.R_drewN | apply Kd.R_drew)); exact (Kd.R_mono (Kd.R_far (p := ⟨gb488, 3, none⟩) (Kd.R_far (p := ⟨gb488, 2, none⟩) (Kd.R_far (p := ⟨gb488, 1, none⟩) (Kd.R_far (p := ⟨gb488, 0, none⟩) (Kd.R_types HO_11.out BK488.out (by decide)) (fun _ hk => hk.2) (.bool t483)) (fun _ hk => hk.2) (.int .i64 t484)) (fun _ hk => hk.2) (.int .u64 t485)) (fun _ hk => hk.2) (.int .u64 t486)) (fun _ h_ => h_.1))) hb); have n1_ := Aside0.mk (Kd.R_below (by (with_reducible repeat (first | apply Kd.R_alloc | apply Kd.R_drewN | apply Kd.R_drew)); exact (Kd.R_mono (Kd.R_far (p := ⟨gb488, 3, none⟩) (Kd.R_far (p := ⟨gb488, 2, none⟩) (Kd.R_far (p := ⟨gb488, 1, none⟩) (Kd.R_far (p := ⟨gb488, 0, none⟩) (Kd.R_types HO_13.out BK488.out (by decide)) (fun _ hk => hk.2) (.bool t483)) (fun _ hk => hk.2) (.int .i64 t484)) (fun _ hk => hk.2) (.int .u64 t485)) (fun _ hk => hk.2) (.int .u64 t486)) (fun _ h_ => h_.1))) hb); have n2_ := Aside0.mk (Kd.S_below (by (with_reducible repeat (first | apply Kd.S_alloc | apply Kd.S_drewN | apply Kd.S_drew)); exact (Kd.S_mono (Kd.S_far (p := ⟨gb488, 3, none⟩) (Kd.S_far (p := ⟨gb488, 2, none⟩) (Kd.S_far (p := ⟨gb488, 1, none⟩) (Kd.S_far (p := ⟨gb488, 0, none⟩) (Kd.S_types HO482.out BK488.out (by decide)) (fun _ hk => hk.2) (.bool t483)) (fun _ hk => hk.2) (.int .i64 t484)) (fun _ hk => hk.2) (.int .u64 t485)) (fun _ hk => hk.2) (.int .u64 t486)) (fun _ h_ => h_.1))) hb); have n3_ := Aside0.mk (blk_below (g := gb479) (o := .cells #[.int .u64 t477, .int .u64 t478] 26 (0, 0)) (by (with_reducible repeat (first | refine blk_drewN ?_ _ | refine blk_drew ?_ | refine blk_alloc ?_ _)); refine blk_far ?_ NB479_488.out _; (with_reducible repeat (first | refine blk_drewN ?_ _ | refine blk_drew ?_ | refine blk_alloc ?_ _)); refine blk_far ?_ NB479_488.out _; (with_reducible repeat (first | refine blk_drewN ?_ _ | refine blk_drew ?_ | refine blk_alloc ?_ _)); refine blk_far ?_ NB479_488.out _; (with_reducible repeat (first | refine blk_drewN ?_ _ | refine blk_drew ?_ | refine blk_alloc ?_ _)); refine blk_far ?_ NB479_488.out _; (with_reducible repeat (first | refine blk_drewN ?_ _ | refine blk_drew ?_ | refine blk_alloc ?_ _)); exact BK479.out) hb); have n4_ := Aside0.mk (blk_below (g := gb488) (o := .cells #[.bool t483, .int .i64 t484, .int .u64 t485, .int .u64 t486] 47 (0, 0)) (by (with_reducible repeat (first | refine blk_drewN ?_ _ | refine blk_drew ?_ | refine blk_alloc ?_ _)); refine blk_put (cs := #[.bool t483, .int .i64 t484, .int .u64 t485, .int .u64 0]) ?_ 3 _ rfl; (with_reducible repeat (first | refine blk_drewN ?_ _ | refine blk_drew ?_ | refine blk_alloc ?_ _)); refine blk_put (cs := #[.bool t483, .int .i64 t484, .int .u64 0, .int .u64 0]) ?_ 2 _ rfl; (with_reducible repeat (first | refine blk_drewN ?_ _ | refine blk_drew ?_ | refine blk_alloc ?_ _)); refine blk_put (cs := #[.bool t483, .int .i64 0, .int .u64 0, .int .u64 0]) ?_ 1 _ rfl; (with_reducible repeat (first | refine blk_drewN ?_ _ | refine blk_drew ?_ | refine blk_alloc ?_ _)); refine blk_put (cs := #[.bool false, .int .i64 0, .int .u64 0, .int .u64 0]) ?_ 0 _ rfl; (with_reducible repeat (first | refine blk_drewN ?_ _ | refine blk_drew ?_ | refine blk_alloc ?_ _)); exact BK488.out) hb); have n5_ := Aside0.mk (below_step xq1 hb); clear HO_11; clear HO_13; clear HO482; clear BK479; clear BK488; clear HB; have HO_11 := n0_; have HO_13 := n1_; have HO482 := n2_; have BK479 := n3_; have BK488 := n4_; have HB := n5_; clear n0_ n1_ n2_ n3_ n4_ n5_; (try clear hb); (try clear hb2); (try clear hk); (try clear hi)) | ((with_reducible refine gate_dst (N := 21) rfl ?_); (try (refine gate_guard (by rfl) ?_; dsimp only)); refine box_event ?hg (N := 21) ?hd (cs := #[.bool false, .int .i64 0, .int .u64 0, .int .u64 0]) (t := 47) ?hr ?_; (case hd => rfl); (case hg => rfl); (case hr => first | (go_simp; done) | (go_simp; rfl)); intro gb494 hg w147 hbox hb; have n0_ := Aside0.mk (Kd.R_below (xr HO_11) hb); have n1_ := Aside0.mk (Kd.R_below (xr HO_13) hb); have n2_ := Aside0.mk (Kd.S_below (by (with_reducible repeat (first | apply Kd.S_alloc | apply Kd.S_drewN | apply Kd.S_drew)); exact HO482.out) hb); have n3_ := Aside0.mk (blk_below (g := gb479) (o := .cells #[.int .u64 t477, .int .u64 t478] 26 (0, 0)) (xb BK479) hb); have n4_ := Aside0.mk (blk_below (g := gb488) (o := .cells #[.bool t483, .int .i64 t484, .int .u64 t485, .int .u64 t486] 47 (0, 0)) (xb BK488) hb); have n5_ := Aside0.mk (below_step xq1 hb); have n6_ := Aside0.mk (hbox); have n7_ := Aside0.mk ((by rw [hg]; exact (below_size xq1) : w.heap.size ≤ gb494)); have n8_ := Aside0.mk ((by rw [hg]; exact (below_size xq1) : w.heap.size ≤ gb494)); have n9_ := Aside0.mk ((by rw [hg]; exact Nat.ne_of_lt (blk_lt (g := gb479) (o := .cells #[.int .u64 t477, .int .u64 t478] 26 (0, 0)) (xb BK479)) : gb479 ≠ gb494)); have n10_ := Aside0.mk ((by rw [hg]; exact Nat.ne_of_gt (blk_lt (g := gb479) (o := .cells #[.int .u64 t477, .int .u64 t478] 26 (0, 0)) (xb BK479)) : gb494 ≠ gb479)); have n11_ := Aside0.mk ((by rw [hg]; exact Nat.ne_of_lt (blk_lt (g := gb488) (o := .cells #[.bool t483, .int .i64 t484, .int .u64 t485, .int .u64 t486] 47 (0, 0)) (xb BK488)) : gb488 ≠ gb494)); have n12_ := Aside0.mk ((by rw [hg]; exact Nat.ne_of_gt (blk_lt (g := gb488) (o := .cells #[.bool t483, .int .i64 t484, .int .u64 t485, .int .u64 t486] 47 (0, 0)) (xb BK488)) : gb494 ≠ gb488)); clear HO_11; clear HO_13; clear HO482; clear BK479; clear BK488; clear HB; have HO_11 := n0_; have HO_13 := n1_; have HO482 := n2_; have BK479 := n3_; have BK488 := n4_; have HB := n5_; have BK494 := n6_; have GW494 := n7_; have GE494 := n8_; have NB479_494 := n9_; have NB494_479 := n10_; have NB488_494 := n11_; have NB494_488 := n12_; clear n0_ n1_ n2_ n3_ n4_ n5_ n6_ n7_ n8_ n9_ n10_ n11_ n12_; clear hb hbox hg; have hnb148 := NB494_479.out; have hnc148 := NB479_494.out; have hnb149 := NB494_488.out; have hnc149 := NB488_494.out; have hcz150_0 : w147.cell? ⟨gb494, 0, none⟩ = some (.bool false) := (blk_cell BK494.out 0).trans rfl; have hcz150_1 : w147.cell? ⟨gb494, 1, none⟩ = some (.int .i64 0) := (blk_cell BK494.out 1).trans rfl; have hcz150_2 : w147.cell? ⟨gb494, 2, none⟩ = some (.int .u64 0) := (blk_cell BK494.out 2).trans rfl; have hcz150_3 : w147.cell? ⟨gb494, 3, none⟩ = some (.int .u64 0) := (blk_cell BK494.out 3).trans rfl; have hfz150_0 := blk_frozen BK494.out 0; have hfz150_1 := blk_frozen BK494.out 1; have hfz150_2 := blk_frozen BK494.out 2; have hfz150_3 := blk_frozen BK494.out 3))
                                        skip
                                        go_roundg k5
                                        case measure => have := HJ5.out; have := HK2.out; have := HJ24.out; have := HK4.out; have := HK5.out; omega
                                        case rel => exact ⟨(IntKind.u64.wrap (x16_5 + 1)), (by first | rfl | (simp; done) | (simp [*]; done)), H', ⟨by have := HJ5.out; have := HK2.out; have := HJ24.out; have := HK4.out; have := HK5.out; omega⟩, ⟨by (with_reducible repeat (first | apply Kd.R_alloc | apply Kd.R_drewN | apply Kd.R_drew)); exact Kd.R_mono (Kd.R_far (p := ⟨gb494, 3, none⟩) (Kd.R_far (p := ⟨gb494, 2, none⟩) (Kd.R_far (p := ⟨gb494, 1, none⟩) (Kd.R_far (p := ⟨gb494, 0, none⟩) (Kd.R_types HO_11.out BK494.out (by decide)) (fun _ hk => hk.2) (.bool t489)) (fun _ hk => hk.2) (.int .i64 t490)) (fun _ hk => hk.2) (.int .u64 t491)) (fun _ hk => hk.2) (.int .u64 t492)) (fun _ hk => trivial)⟩, ⟨by (with_reducible repeat (first | apply Kd.R_alloc | apply Kd.R_drewN | apply Kd.R_drew)); exact Kd.R_mono (Kd.R_far (p := ⟨gb494, 3, none⟩) (Kd.R_far (p := ⟨gb494, 2, none⟩) (Kd.R_far (p := ⟨gb494, 1, none⟩) (Kd.R_far (p := ⟨gb494, 0, none⟩) (Kd.R_types HO_13.out BK494.out (by decide)) (fun _ hk => hk.2) (.bool t489)) (fun _ hk => hk.2) (.int .i64 t490)) (fun _ hk => hk.2) (.int .u64 t491)) (fun _ hk => hk.2) (.int .u64 t492)) (fun _ hk => trivial)⟩, ⟨by repeat (first | (with_reducible first | exact HB.out | apply below_alloc | apply pw_below_drewN | apply below_drew1 | refine below_set ?_ GE479.out | refine below_set ?_ GE488.out | refine below_set ?_ GE494.out) | exact HB.out)⟩⟩
                                    · as_aux_lemma =>
                                      rw [if_neg c46] at H
                                      have c46b0 : (t487 == t493) = false := beq_eq_false_iff_ne.mpr c46
                                      have c46b1 : (t487 != t493) = true := bne_iff_ne.mpr c46
                                      obtain rfl := Option.some.inj H
                                      have p476 : 0 ≤ (x15_4 : Int) := of_decide_eq_true (by first | (with_reducible assumption) | assumption)
                                      have q476 : x15_4 < (x13_24.length : Int) := of_decide_eq_true (by first | (with_reducible assumption) | assumption)
                                      obtain ⟨ad476, e476, hx476_0⟩ := Kd.at_int (Kd.R_reads' HO_13.out).2.2 x15_4 p476 q476
                                      cases e476
                                      replace p476 := eq_true p476
                                      replace q476 := eq_true q476
                                      go_wp2_with (first | (go_at_call 21; (with_reducible refine (spoorlaw21_named.calls k5 (IntKind.u64.wrap ((IntKind.u64.wrap ((rd x13_24 x15_4) * 281474976710656)) + (IntKind.u64.wrap (x16_5 * 281474976710655)))) (IntKind.u64.wrap (a2 + (IntKind.u64.wrap (x15_4)))) t477 t478 _ A38.out).mono ?_); rintro e w151 ⟨rfl, hb⟩; have n0_ := Aside0.mk (Kd.R_below (xr HO_11) hb); have n1_ := Aside0.mk (Kd.R_below (xr HO_13) hb); have n2_ := Aside0.mk (below_step xq0 hb); clear HO_11; clear HO_13; clear HB; have HO_11 := n0_; have HO_13 := n1_; have HB := n2_; clear n0_ n1_ n2_; (try clear hb); (try clear hb2); (try clear hk); (try clear hi)) | ((with_reducible refine gate_dst (N := 17) rfl ?_); (try (refine gate_guard (by rfl) ?_; dsimp only)); refine box_event ?hg (N := 17) ?hd (cs := #[.int .u64 0, .int .u64 0]) (t := 26) ?hr ?_; (case hd => rfl); (case hg => rfl); (case hr => first | (go_simp; done) | (go_simp; rfl)); intro gb479 hg w152 hbox hb; have n0_ := Aside0.mk (Kd.R_below (xr HO_11) hb); have n1_ := Aside0.mk (Kd.R_below (xr HO_13) hb); have n2_ := Aside0.mk (below_step xq0 hb); have n3_ := Aside0.mk (hbox); have n4_ := Aside0.mk ((by rw [hg]; exact (below_size xq0) : w.heap.size ≤ gb479)); have n5_ := Aside0.mk ((by rw [hg]; exact (below_size xq0) : w.heap.size ≤ gb479)); clear HO_11; clear HO_13; clear HB; have HO_11 := n0_; have HO_13 := n1_; have HB := n2_; have BK479 := n3_; have GW479 := n4_; have GE479 := n5_; clear n0_ n1_ n2_ n3_ n4_ n5_; clear hb hbox hg; have hcz153_0 : w152.cell? ⟨gb479, 0, none⟩ = some (.int .u64 0) := (blk_cell BK479.out 0).trans rfl; have hcz153_1 : w152.cell? ⟨gb479, 1, none⟩ = some (.int .u64 0) := (blk_cell BK479.out 1).trans rfl; have hfz153_0 := blk_frozen BK479.out 0; have hfz153_1 := blk_frozen BK479.out 1) | (go_at_call 22; (with_reducible refine (spoorlaw21_renamed.calls k5 _ _ l1 t477 t478 t480 _ ?side1 ?side2 A43.out).mono ?_); (case side1 => exact Kd.C_below HR1.out xq1); (case side2 => exact HC1.out); rintro e w154 ⟨v481, rfl, ho0, hb⟩; have n0_ := Aside0.mk (Kd.R_below (by (with_reducible repeat (first | apply Kd.R_alloc | apply Kd.R_drewN | apply Kd.R_drew)); exact (Kd.R_mono (Kd.R_far (p := ⟨gb479, 1, none⟩) (Kd.R_far (p := ⟨gb479, 0, none⟩) (Kd.R_types HO_11.out BK479.out (by decide)) (fun _ hk => hk.2) (.int .u64 t477)) (fun _ hk => hk.2) (.int .u64 t478)) (fun _ h_ => h_.1))) hb); have n1_ := Aside0.mk (Kd.R_below (by (with_reducible repeat (first | apply Kd.R_alloc | apply Kd.R_drewN | apply Kd.R_drew)); exact (Kd.R_mono (Kd.R_far (p := ⟨gb479, 1, none⟩) (Kd.R_far (p := ⟨gb479, 0, none⟩) (Kd.R_types HO_13.out BK479.out (by decide)) (fun _ hk => hk.2) (.int .u64 t477)) (fun _ hk => hk.2) (.int .u64 t478)) (fun _ h_ => h_.1))) hb); have n2_ := Aside0.mk (Kd.S_lower ho0 (below_size xq1)); have n3_ := Aside0.mk (blk_below (g := gb479) (o := .cells #[.int .u64 t477, .int .u64 t478] 26 (0, 0)) (by (with_reducible repeat (first | refine blk_drewN ?_ _ | refine blk_drew ?_ | refine blk_alloc ?_ _)); refine blk_put (cs := #[.int .u64 t477, .int .u64 0]) ?_ 1 _ rfl; (with_reducible repeat (first | refine blk_drewN ?_ _ | refine blk_drew ?_ | refine blk_alloc ?_ _)); refine blk_put (cs := #[.int .u64 0, .int .u64 0]) ?_ 0 _ rfl; (with_reducible repeat (first | refine blk_drewN ?_ _ | refine blk_drew ?_ | refine blk_alloc ?_ _)); exact BK479.out) hb); have n4_ := Aside0.mk (below_step xq1 hb); clear HO_11; clear HO_13; clear BK479; clear HB; have HO_11 := n0_; have HO_13 := n1_; have HO482 := n2_; have BK479 := n3_; have HB := n4_; clear n0_ n1_ n2_ n3_ n4_; (try clear hb); (try clear hb2); (try clear hk); (try clear hi); (try clear ho0); obtain ⟨Ao155, co155, eo155⟩ := Kd.S_slice HO482.out; subst eo155) | (go_at_call 18; (with_reducible refine (sample_Decide.calls k5 _ _ l0 _ _ t480 t483 t484 t485 t486 t487 _ ?side1 ?side2 ?side3 ?side4 A44.out (Tabs.below HTabs0_.out xq1)).mono ?_); (case side1 => repeat (first | exact (Kd.C_below HR0.out HB.out) | (with_reducible refine Kd.C_alloc ?_ _) | (with_reducible refine Kd.C_drewN ?_ _) | (with_reducible refine Kd.C_drew ?_))); (case side2 => exact HC0.out); (case side3 => repeat (first | exact (Kd.S_reads' HO482.out).2.2 | (with_reducible refine Kd.C_alloc ?_ _) | (with_reducible refine Kd.C_drewN ?_ _) | (with_reducible refine Kd.C_drew ?_))); (case side4 => exact (Kd.S_reads' HO482.out).2.1); rintro e w156 ⟨rfl, hb⟩; have n0_ := Aside0.mk (Kd.R_below (xr HO_11) hb); have n1_ := Aside0.mk (Kd.R_below (xr HO_13) hb); have n2_ := Aside0.mk (Kd.S_below (by (with_reducible repeat (first | apply Kd.S_alloc | apply Kd.S_drewN | apply Kd.S_drew)); exact HO482.out) hb); have n3_ := Aside0.mk (blk_below (g := gb479) (o := .cells #[.int .u64 t477, .int .u64 t478] 26 (0, 0)) (xb BK479) hb); have n4_ := Aside0.mk (below_step xq1 hb); clear HO_11; clear HO_13; clear HO482; clear BK479; clear HB; have HO_11 := n0_; have HO_13 := n1_; have HO482 := n2_; have BK479 := n3_; have HB := n4_; clear n0_ n1_ n2_ n3_ n4_; (try clear hb); (try clear hb2); (try clear hk); (try clear hi)) | ((with_reducible refine gate_dst (N := 19) rfl ?_); (try (refine gate_guard (by rfl) ?_; dsimp only)); refine box_event ?hg (N := 19) ?hd (cs := #[.bool false, .int .i64 0, .int .u64 0, .int .u64 0]) (t := 47) ?hr ?_; (case hd => rfl); (case hg => rfl); (case hr => first | (go_simp; done) | (go_simp; rfl)); intro gb488 hg w157 hbox hb; have n0_ := Aside0.mk (Kd.R_below (xr HO_11) hb); have n1_ := Aside0.mk (Kd.R_below (xr HO_13) hb); have n2_ := Aside0.mk (Kd.S_below (by (with_reducible repeat (first | apply Kd.S_alloc | apply Kd.S_drewN | apply Kd.S_drew)); exact HO482.out) hb); have n3_ := Aside0.mk (blk_below (g := gb479) (o := .cells #[.int .u64 t477, .int .u64 t478] 26 (0, 0)) (xb BK479) hb); have n4_ := Aside0.mk (below_step xq1 hb); have n5_ := Aside0.mk (hbox); have n6_ := Aside0.mk ((by rw [hg]; exact (below_size xq1) : w.heap.size ≤ gb488)); have n7_ := Aside0.mk ((by rw [hg]; exact (below_size xq1) : w.heap.size ≤ gb488)); have n8_ := Aside0.mk ((by rw [hg]; exact Nat.ne_of_lt (blk_lt (g := gb479) (o := .cells #[.int .u64 t477, .int .u64 t478] 26 (0, 0)) (xb BK479)) : gb479 ≠ gb488)); have n9_ := Aside0.mk ((by rw [hg]; exact Nat.ne_of_gt (blk_lt (g := gb479) (o := .cells #[.int .u64 t477, .int .u64 t478] 26 (0, 0)) (xb BK479)) : gb488 ≠ gb479)); clear HO_11; clear HO_13; clear HO482; clear BK479; clear HB; have HO_11 := n0_; have HO_13 := n1_; have HO482 := n2_; have BK479 := n3_; have HB := n4_; have BK488 := n5_; have GW488 := n6_; have GE488 := n7_; have NB479_488 := n8_; have NB488_479 := n9_; clear n0_ n1_ n2_ n3_ n4_ n5_ n6_ n7_ n8_ n9_; clear hb hbox hg; have hnb158 := NB488_479.out; have hnc158 := NB479_488.out; have hcz159_0 : w157.cell? ⟨gb488, 0, none⟩ = some (.bool false) := (blk_cell BK488.out 0).trans rfl; have hcz159_1 : w157.cell? ⟨gb488, 1, none⟩ = some (.int .i64 0) := (blk_cell BK488.out 1).trans rfl; have hcz159_2 : w157.cell? ⟨gb488, 2, none⟩ = some (.int .u64 0) := (blk_cell BK488.out 2).trans rfl; have hcz159_3 : w157.cell? ⟨gb488, 3, none⟩ = some (.int .u64 0) := (blk_cell BK488.out 3).trans rfl; have hfz159_0 := blk_frozen BK488.out 0; have hfz159_1 := blk_frozen BK488.out 1; have hfz159_2 := blk_frozen BK488.out 2; have hfz159_3 := blk_frozen BK488.out 3; obtain ⟨Ao160, co160, eo160⟩ := Kd.R_slice HO_11.out; subst eo160) | (go_at_call 18; (with_reducible refine (sample_Decide.calls k5 _ _ x11_2 _ _ t480 t489 t490 t491 t492 t493 _ ?side1 ?side2 ?side3 ?side4 A45.out (Tabs.below HTabs0_.out xq1)).mono ?_); (case side1 => refine (Kd.R_reads' (e := 30) (base := w.heap.size) (ok := fun k_ => True) (n := x11_2.length) (c := co160) ?_).2.2; exact (by (with_reducible repeat (first | apply Kd.R_alloc | apply Kd.R_drewN | apply Kd.R_drew)); exact (Kd.R_mono (Kd.R_far (p := ⟨gb488, 3, none⟩) (Kd.R_far (p := ⟨gb488, 2, none⟩) (Kd.R_far (p := ⟨gb488, 1, none⟩) (Kd.R_far (p := ⟨gb488, 0, none⟩) (Kd.R_types HO_11.out BK488.out (by decide)) (fun _ hk => hk.2) (.bool t483)) (fun _ hk => hk.2) (.int .i64 t484)) (fun _ hk => hk.2) (.int .u64 t485)) (fun _ hk => hk.2) (.int .u64 t486)) (fun _ h_ => h_.1)))); (case side2 => exact (Kd.R_reads' HO_11.out).2.1); (case side3 => refine (Kd.S_reads' (e := 43) (base := w.heap.size) (ok := fun k_ => True) (n := t480.length) (c := co155) ?_).2.2; exact (by (with_reducible repeat (first | apply Kd.S_alloc | apply Kd.S_drewN | apply Kd.S_drew)); exact (Kd.S_mono (Kd.S_far (p := ⟨gb488, 3, none⟩) (Kd.S_far (p := ⟨gb488, 2, none⟩) (Kd.S_far (p := ⟨gb488, 1, none⟩) (Kd.S_far (p := ⟨gb488, 0, none⟩) (Kd.S_types HO482.out BK488.out (by decide)) (fun _ hk => hk.2) (.bool t483)) (fun _ hk => hk.2) (.int .i64 t484)) (fun _ hk => hk.2) (.int .u64 t485)) (fun _ hk => hk.2) (.int .u64 t486)) (fun _ h_ => h_.1)))); (case side4 => exact (Kd.S_reads' HO482.out).2.1); rintro e w161 ⟨rfl, hb⟩; have n0_ := Aside0.mk (Kd.R_below (by (with_reducible repeat (first | apply Kd.R_alloc | apply Kd.R_drewN | apply Kd.R_drew)); exact (Kd.R_mono (Kd.R_far (p := ⟨gb488, 3, none⟩) (Kd.R_far (p := ⟨gb488, 2, none⟩) (Kd.R_far (p := ⟨gb488, 1, none⟩) (Kd.R_far (p := ⟨gb488, 0, none⟩) (Kd.R_types HO_11.out BK488.out (by decide)) (fun _ hk => hk.2) (.bool t483)) (fun _ hk => hk.2) (.int .i64 t484)) (fun _ hk => hk.2) (.int .u64 t485)) (fun _ hk => hk.2) (.int .u64 t486)) (fun _ h_ => h_.1))) hb); have n1_ := Aside0.mk (Kd.R_below (by (with_reducible repeat (first | apply Kd.R_alloc | apply Kd.R_drewN | apply Kd.R_drew)); exact (Kd.R_mono (Kd.R_far (p := ⟨gb488, 3, none⟩) (Kd.R_far (p := ⟨gb488, 2, none⟩) (Kd.R_far (p := ⟨gb488, 1, none⟩) (Kd.R_far (p := ⟨gb488, 0, none⟩) (Kd.R_types HO_13.out BK488.out (by decide)) (fun _ hk => hk.2) (.bool t483)) (fun _ hk => hk.2) (.int .i64 t484)) (fun _ hk => hk.2) (.int .u64 t485)) (fun _ hk => hk.2) (.int .u64 t486)) (fun _ h_ => h_.1))) hb); have n2_ := Aside0.mk (Kd.S_below (by (with_reducible repeat (first | apply Kd.S_alloc | apply Kd.S_drewN | apply Kd.S_drew)); exact (Kd.S_mono (Kd.S_far (p := ⟨gb488, 3, none⟩) (Kd.S_far (p := ⟨gb488, 2, none⟩) (Kd.S_far (p := ⟨gb488, 1, none⟩) (Kd.S_far (p := ⟨gb488, 0, none⟩) (Kd.S_types HO482.out BK488.out (by decide)) (fun _ hk => hk.2) (.bool t483)) (fun _ hk => hk.2) (.int .i64 t484)) (fun _ hk => hk.2) (.int .u64 t485)) (fun _ hk => hk.2) (.int .u64 t486)) (fun _ h_ => h_.1))) hb); have n3_ := Aside0.mk (blk_below (g := gb479) (o := .cells #[.int .u64 t477, .int .u64 t478] 26 (0, 0)) (by (with_reducible repeat (first | refine blk_drewN ?_ _ | refine blk_drew ?_ | refine blk_alloc ?_ _)); refine blk_far ?_ NB479_488.out _; (with_reducible repeat (first | refine blk_drewN ?_ _ | refine blk_drew ?_ | refine blk_alloc ?_ _)); refine blk_far ?_ NB479_488.out _; (with_reducible repeat (first | refine blk_drewN ?_ _ | refine blk_drew ?_ | refine blk_alloc ?_ _)); refine blk_far ?_ NB479_488.out _; (with_reducible repeat (first | refine blk_drewN ?_ _ | refine blk_drew ?_ | refine blk_alloc ?_ _)); refine blk_far ?_ NB479_488.out _; (with_reducible repeat (first | refine blk_drewN ?_ _ | refine blk_drew ?_ | refine blk_alloc ?_ _)); exact BK479.out) hb); have n4_ := Aside0.mk (blk_below (g := gb488) (o := .cells #[.bool t483, .int .i64 t484, .int .u64 t485, .int .u64 t486] 47 (0, 0)) (by (with_reducible repeat (first | refine blk_drewN ?_ _ | refine blk_drew ?_ | refine blk_alloc ?_ _)); refine blk_put (cs := #[.bool t483, .int .i64 t484, .int .u64 t485, .int .u64 0]) ?_ 3 _ rfl; (with_reducible repeat (first | refine blk_drewN ?_ _ | refine blk_drew ?_ | refine blk_alloc ?_ _)); refine blk_put (cs := #[.bool t483, .int .i64 t484, .int .u64 0, .int .u64 0]) ?_ 2 _ rfl; (with_reducible repeat (first | refine blk_drewN ?_ _ | refine blk_drew ?_ | refine blk_alloc ?_ _)); refine blk_put (cs := #[.bool t483, .int .i64 0, .int .u64 0, .int .u64 0]) ?_ 1 _ rfl; (with_reducible repeat (first | refine blk_drewN ?_ _ | refine blk_drew ?_ | refine blk_alloc ?_ _)); refine blk_put (cs := #[.bool false, .int .i64 0, .int .u64 0, .int .u64 0]) ?_ 0 _ rfl; (with_reducible repeat (first | refine blk_drewN ?_ _ | refine blk_drew ?_ | refine blk_alloc ?_ _)); exact BK488.out) hb); have n5_ := Aside0.mk (below_step xq1 hb); clear HO_11; clear HO_13; clear HO482; clear BK479; clear BK488; clear HB; have HO_11 := n0_; have HO_13 := n1_; have HO482 := n2_; have BK479 := n3_; have BK488 := n4_; have HB := n5_; clear n0_ n1_ n2_ n3_ n4_ n5_; (try clear hb); (try clear hb2); (try clear hk); (try clear hi)) | ((with_reducible refine gate_dst (N := 21) rfl ?_); (try (refine gate_guard (by rfl) ?_; dsimp only)); refine box_event ?hg (N := 21) ?hd (cs := #[.bool false, .int .i64 0, .int .u64 0, .int .u64 0]) (t := 47) ?hr ?_; (case hd => rfl); (case hg => rfl); (case hr => first | (go_simp; done) | (go_simp; rfl)); intro gb494 hg w162 hbox hb; have n0_ := Aside0.mk (Kd.R_below (xr HO_11) hb); have n1_ := Aside0.mk (Kd.R_below (xr HO_13) hb); have n2_ := Aside0.mk (Kd.S_below (by (with_reducible repeat (first | apply Kd.S_alloc | apply Kd.S_drewN | apply Kd.S_drew)); exact HO482.out) hb); have n3_ := Aside0.mk (blk_below (g := gb479) (o := .cells #[.int .u64 t477, .int .u64 t478] 26 (0, 0)) (xb BK479) hb); have n4_ := Aside0.mk (blk_below (g := gb488) (o := .cells #[.bool t483, .int .i64 t484, .int .u64 t485, .int .u64 t486] 47 (0, 0)) (xb BK488) hb); have n5_ := Aside0.mk (below_step xq1 hb); have n6_ := Aside0.mk (hbox); have n7_ := Aside0.mk ((by rw [hg]; exact (below_size xq1) : w.heap.size ≤ gb494)); have n8_ := Aside0.mk ((by rw [hg]; exact (below_size xq1) : w.heap.size ≤ gb494)); have n9_ := Aside0.mk ((by rw [hg]; exact Nat.ne_of_lt (blk_lt (g := gb479) (o := .cells #[.int .u64 t477, .int .u64 t478] 26 (0, 0)) (xb BK479)) : gb479 ≠ gb494)); have n10_ := Aside0.mk ((by rw [hg]; exact Nat.ne_of_gt (blk_lt (g := gb479) (o := .cells #[.int .u64 t477, .int .u64 t478] 26 (0, 0)) (xb BK479)) : gb494 ≠ gb479)); have n11_ := Aside0.mk ((by rw [hg]; exact Nat.ne_of_lt (blk_lt (g := gb488) (o := .cells #[.bool t483, .int .i64 t484, .int .u64 t485, .int .u64 t486] 47 (0, 0)) (xb BK488)) : gb488 ≠ gb494)); have n12_ := Aside0.mk ((by rw [hg]; exact Nat.ne_of_gt (blk_lt (g := gb488) (o := .cells #[.bool t483, .int .i64 t484, .int .u64 t485, .int .u64 t486] 47 (0, 0)) (xb BK488)) : gb494 ≠ gb488)); clear HO_11; clear HO_13; clear HO482; clear BK479; clear BK488; clear HB; have HO_11 := n0_; have HO_13 := n1_; have HO482 := n2_; have BK479 := n3_; have BK488 := n4_; have HB := n5_; have BK494 := n6_; have GW494 := n7_; have GE494 := n8_; have NB479_494 := n9_; have NB494_479 := n10_; have NB488_494 := n11_; have NB494_488 := n12_; clear n0_ n1_ n2_ n3_ n4_ n5_ n6_ n7_ n8_ n9_ n10_ n11_ n12_; clear hb hbox hg; have hnb163 := NB494_479.out; have hnc163 := NB479_494.out; have hnb164 := NB494_488.out; have hnc164 := NB488_494.out; have hcz165_0 : w162.cell? ⟨gb494, 0, none⟩ = some (.bool false) := (blk_cell BK494.out 0).trans rfl; have hcz165_1 : w162.cell? ⟨gb494, 1, none⟩ = some (.int .i64 0) := (blk_cell BK494.out 1).trans rfl; have hcz165_2 : w162.cell? ⟨gb494, 2, none⟩ = some (.int .u64 0) := (blk_cell BK494.out 2).trans rfl; have hcz165_3 : w162.cell? ⟨gb494, 3, none⟩ = some (.int .u64 0) := (blk_cell BK494.out 3).trans rfl; have hfz165_0 := blk_frozen BK494.out 0; have hfz165_1 := blk_frozen BK494.out 1; have hfz165_2 := blk_frozen BK494.out 2; have hfz165_3 := blk_frozen BK494.out 3))
                                      skip
                                      go_ret
                                      exact ⟨by first | rfl | (simp [errW_none, errW_some] <;> rfl) | (simp only [← hji23, ← hji24]; first | rfl | (simp [errW_none, errW_some] <;> rfl)) | (simp [*, errW_none, errW_some] <;> rfl), by repeat (first | (with_reducible first | exact HB.out | apply below_alloc | apply pw_below_drewN | apply below_drew1 | refine below_set ?_ GE479.out | refine below_set ?_ GE488.out | refine below_set ?_ GE494.out) | exact HB.out)⟩
                                · as_aux_lemma =>
                                  rw [if_neg c37] at H
                                  exact absurd H (by simp)
                              · as_aux_lemma =>
                                rw [if_neg c36] at H
                                exact absurd H (by simp)
                            · as_aux_lemma =>
                              rw [if_neg c35] at H
                              have c35b0 : decide (x16_5 < 2) = false := decide_eq_false c35
                              clear c35
                              have H' := Aside0.mk H
                              clear H
                              go_wp2
                              repeat (go_quiet (fail); try go_wp2)
                              go_roundg k5
                              case measure => have := HJ5.out; have := HK2.out; have := HJ24.out; have := HK4.out; have := HK5.out; omega
                              case rel => exact ⟨(wrap64 (x15_4 + 1)), (by first | rfl | (simp; done) | (simp [*]; done)), H', ⟨by have := HJ5.out; have := HK2.out; have := HJ24.out; have := HK4.out; have := HK5.out; omega⟩, ⟨by (with_reducible repeat (first | apply Kd.R_alloc | apply Kd.R_drewN | apply Kd.R_drew)); exact HO_11.out⟩, ⟨by (with_reducible repeat (first | apply Kd.R_alloc | apply Kd.R_drewN | apply Kd.R_drew)); exact HO_13.out⟩, ⟨by repeat (first | (with_reducible first | exact HB.out | apply below_alloc | apply pw_below_drewN | apply below_drew1) | exact HB.out)⟩⟩
                      · as_aux_lemma =>
                        rw [if_neg c33] at H
                        have c33b0 : decide (x15_4 < (x13_24.length : Int)) = false := decide_eq_false c33
                        clear c33
                        obtain rfl := Option.some.inj H
                        obtain ⟨Ao166, co166, eo166⟩ := Kd.R_slice HO_13.out
                        subst eo166
                        go_wp2
                        repeat (go_quiet (fail); try go_wp2)
                        go_ret
                        exact ⟨by first | rfl | (simp [errW_none, errW_some] <;> rfl) | (simp only [← hji23, ← hji24]; first | rfl | (simp [errW_none, errW_some] <;> rfl)) | (simp [*, errW_none, errW_some] <;> rfl), by repeat (first | (with_reducible first | exact HB.out | apply below_alloc | apply pw_below_drewN | apply below_drew1) | exact HB.out)⟩

end Go.Proofs.YtdlnfmakfnggpaaDoor.Pr
