-- by xprint.py, a program of the session's own, over the kit's print. Not trusted: Lean checks it.
import Derived.Test.YtlnhpccapadpmaaPr0
import Derived.Test.YtlnhpccapadpmaaPr0b
import Derived.Test.YtlnhpccapadpmaaPr2a
import Derived.Test.YtlnhpccapadpmaaPr2d
import Derived.Test.YtlnhpccapadpmaaXMo
import Derived.Test.YtlnhpccapadpmaaXSm
import Derived.Test.YtlnhpccapadpmaaXSn
namespace Go.Proofs.Ytlnhpccapadpmaa.Pr
open Go.RowKit Go.Proofs.YtlnhpccapadpmaaW.PrintWords Go.Proofs.YtlnhpccapadpmaaW.PrintLast Go.Proofs.YtlnhpccapadpmaaW.PrintMore
attribute [local go_sem] max2_int min2_int max_two min_two max_three min_three max_four min_four   -- for this text's walks alone
set_option linter.unusedVariables false
set_option linter.unusedSimpArgs false

/-! ### spoorlaw13_SketchSums: function 6 -/
mutual
def spoorlaw13_SketchSums.j0 : Nat → List (S61) → List (S61) → List (S61) → List (S61) → List (S61) → Bool → Option (Bool)
  | 0, _, _, _, _, _, _ => none
  | k + 1, x12, x14, x16, x18, x20, x104 => if x104 = true then (some false) else ((sketch_Merge.f x16 x18).bind fun bt246 => ((sketch_Merge.f bt246.1 x20).bind fun bt250 => ((sketch_Merge.f x18 x20).bind fun bt254 => ((sketch_Merge.f x16 bt254.1).bind fun bt258 => ((sketch_Merge.f x18 x16).bind fun bt262 => ((sketch_Merge.f x12 ([] : List (S61))).bind fun bt266 => (if bt246.2 = 0 then (if bt250.2 = 0 then (if bt254.2 = 0 then (if bt258.2 = 0 then (if bt262.2 = 0 then (if bt266.2 = 0 then ((sketch_Check.f bt250.1).bind fun t270 => (spoorlaw13_SketchSums.j1 k x12 x14 bt246.1 bt250.1 bt258.1 bt262.1 bt266.1 (t270 != 0))) else (spoorlaw13_SketchSums.j1 k x12 x14 bt246.1 bt250.1 bt258.1 bt262.1 bt266.1 true)) else (spoorlaw13_SketchSums.j1 k x12 x14 bt246.1 bt250.1 bt258.1 bt262.1 bt266.1 true)) else (spoorlaw13_SketchSums.j1 k x12 x14 bt246.1 bt250.1 bt258.1 bt262.1 bt266.1 true)) else (spoorlaw13_SketchSums.j1 k x12 x14 bt246.1 bt250.1 bt258.1 bt262.1 bt266.1 true)) else (spoorlaw13_SketchSums.j1 k x12 x14 bt246.1 bt250.1 bt258.1 bt262.1 bt266.1 true)) else (spoorlaw13_SketchSums.j1 k x12 x14 bt246.1 bt250.1 bt258.1 bt262.1 bt266.1 true))))))))
def spoorlaw13_SketchSums.j1 : Nat → List (S61) → List (S61) → List (S61) → List (S61) → List (S61) → List (S61) → List (S61) → Bool → Option (Bool)
  | 0, _, _, _, _, _, _, _, _ => none
  | k + 1, x12, x14, x22, x24, x28, x30, x32, x166 => if x166 = true then (some false) else ((spoorlaw13_sameBars.f k x12 x14).bind fun t271 => (if t271 = true then ((spoorlaw13_sameBars.f k x12 x24).bind fun t272 => (if t272 = true then ((spoorlaw13_sameBars.f k x12 x28).bind fun t273 => (if t273 = true then ((spoorlaw13_sameBars.f k x22 x30).bind fun t274 => (if t274 = true then ((spoorlaw13_sameBars.f k x12 x32).bind fun t275 => (some t275)) else (some false))) else (some false))) else (some false))) else (some false)))
end
def spoorlaw13_SketchSums.f (k : Nat) (l0 : List (S73)) (l1 : List Int) (a2 : Int) (a3 : Int) : Option (Bool) := (spoorlaw13_awake.f k).bind fun t208 => ((spoorlaw13_pick.f a2 (wrap64 ((l0.length : Int) + 1))).bind fun t209 => ((spoorlaw13_pick.f a3 (wrap64 ((wrap64 ((l0.length : Int) - t209)) + 1))).bind fun t210 => ((spoorlaw13_put.f k l0).bind fun bt211 => ((spoorlaw13_moved.f l0 l1).bind fun t215 => ((spoorlaw13_put.f k t215).bind fun bt218 => (if 0 ≤ t209 then (if t209 ≤ (l0.length : Int) then ((spoorlaw13_put.f k (l0.take (t209 : Int).toNat)).bind fun bt226 => (if t209 ≤ (wrap64 (t209 + t210)) then (if (wrap64 (t209 + t210)) ≤ (l0.length : Int) then ((spoorlaw13_put.f k ((l0.take ((wrap64 (t209 + t210)) : Int).toNat).drop (t209 : Int).toNat)).bind fun bt234 => (if 0 ≤ (wrap64 (t209 + t210)) then ((spoorlaw13_put.f k (l0.drop ((wrap64 (t209 + t210)) : Int).toNat)).bind fun bt242 => (if t208 = true then (if bt211.2 = true then (if bt218.2 = true then (if bt226.2 = true then (if bt234.2 = true then (spoorlaw13_SketchSums.j0 k bt211.1 bt218.1 bt226.1 bt234.1 bt242.1 (!bt242.2)) else (spoorlaw13_SketchSums.j0 k bt211.1 bt218.1 bt226.1 bt234.1 bt242.1 true)) else (spoorlaw13_SketchSums.j0 k bt211.1 bt218.1 bt226.1 bt234.1 bt242.1 true)) else (spoorlaw13_SketchSums.j0 k bt211.1 bt218.1 bt226.1 bt234.1 bt242.1 true)) else (spoorlaw13_SketchSums.j0 k bt211.1 bt218.1 bt226.1 bt234.1 bt242.1 true)) else (spoorlaw13_SketchSums.j0 k bt211.1 bt218.1 bt226.1 bt234.1 bt242.1 true))) else (none))) else (none)) else (none))) else (none)) else (none)))))))
theorem spoorlaw13_SketchSums.mono_l : ∀ k, (∀ y0 y1 y2 y3 y4 y5, LeO (spoorlaw13_SketchSums.j0 k y0 y1 y2 y3 y4 y5) (spoorlaw13_SketchSums.j0 (k + 1) y0 y1 y2 y3 y4 y5)) ∧ (∀ y0 y1 y2 y3 y4 y5 y6 y7, LeO (spoorlaw13_SketchSums.j1 k y0 y1 y2 y3 y4 y5 y6 y7) (spoorlaw13_SketchSums.j1 (k + 1) y0 y1 y2 y3 y4 y5 y6 y7))
  | 0 => ⟨fun _ _ _ _ _ _ r h => by simp [spoorlaw13_SketchSums.j0] at h, fun _ _ _ _ _ _ _ _ r h => by simp [spoorlaw13_SketchSums.j1] at h⟩
  | k + 1 => by
    obtain ⟨ih0, ih1⟩ := spoorlaw13_SketchSums.mono_l k
    refine ⟨?_, ?_⟩
    · intro y0 y1 y2 y3 y4 y5
      unfold spoorlaw13_SketchSums.j0
      repeat' first
      | (with_reducible exact ih0 _ _ _ _ _ _)
      | (with_reducible exact ih1 _ _ _ _ _ _ _ _)
      | (with_reducible exact spoorlaw13_awake.mono _)
      | (with_reducible exact spoorlaw13_put.mono _ _)
      | (with_reducible exact spoorlaw13_sameBars.mono _ _ _)
      | (with_reducible exact LeO.refl _)
      | (with_reducible exact LeO.none _)
      | (with_reducible refine LeO.ite ?_ ?_)
      | (with_reducible refine LeO.bind ?_ (fun _ => ?_))
      | exact ih0 _ _ _ _ _ _
      | exact ih1 _ _ _ _ _ _ _ _
      | exact spoorlaw13_awake.mono _
      | exact spoorlaw13_put.mono _ _
      | exact spoorlaw13_sameBars.mono _ _ _
      | exact LeO.none _
      | refine LeO.ite ?_ ?_
      | refine LeO.bind ?_ (fun _ => ?_)
    · intro y0 y1 y2 y3 y4 y5 y6 y7
      unfold spoorlaw13_SketchSums.j1
      repeat' first
      | (with_reducible exact ih0 _ _ _ _ _ _)
      | (with_reducible exact ih1 _ _ _ _ _ _ _ _)
      | (with_reducible exact spoorlaw13_awake.mono _)
      | (with_reducible exact spoorlaw13_put.mono _ _)
      | (with_reducible exact spoorlaw13_sameBars.mono _ _ _)
      | (with_reducible exact LeO.refl _)
      | (with_reducible exact LeO.none _)
      | (with_reducible refine LeO.ite ?_ ?_)
      | (with_reducible refine LeO.bind ?_ (fun _ => ?_))
      | exact ih0 _ _ _ _ _ _
      | exact ih1 _ _ _ _ _ _ _ _
      | exact spoorlaw13_awake.mono _
      | exact spoorlaw13_put.mono _ _
      | exact spoorlaw13_sameBars.mono _ _ _
      | exact LeO.none _
      | refine LeO.ite ?_ ?_
      | refine LeO.bind ?_ (fun _ => ?_)
theorem spoorlaw13_SketchSums.mono : ∀ a0 a1 a2 a3 k, LeO (spoorlaw13_SketchSums.f k a0 a1 a2 a3) (spoorlaw13_SketchSums.f (k + 1) a0 a1 a2 a3) := by
  intro a0 a1 a2 a3 k
  obtain ⟨ih0, ih1⟩ := spoorlaw13_SketchSums.mono_l k
  unfold spoorlaw13_SketchSums.f
  repeat' first
      | (with_reducible exact ih0 _ _ _ _ _ _)
      | (with_reducible exact ih1 _ _ _ _ _ _ _ _)
      | (with_reducible exact spoorlaw13_awake.mono _)
      | (with_reducible exact spoorlaw13_put.mono _ _)
      | (with_reducible exact spoorlaw13_sameBars.mono _ _ _)
      | (with_reducible exact LeO.refl _)
      | (with_reducible exact LeO.none _)
      | (with_reducible refine LeO.ite ?_ ?_)
      | (with_reducible refine LeO.bind ?_ (fun _ => ?_))
      | exact ih0 _ _ _ _ _ _
      | exact ih1 _ _ _ _ _ _ _ _
      | exact spoorlaw13_awake.mono _
      | exact spoorlaw13_put.mono _ _
      | exact spoorlaw13_sameBars.mono _ _ _
      | exact LeO.none _
      | refine LeO.ite ?_ ?_
      | refine LeO.bind ?_ (fun _ => ?_)
set_option maxHeartbeats 8000000 in
set_option maxRecDepth 100000 in
theorem spoorlaw13_SketchSums.calls (k : Nat) (A0 : Option Addr) (c0 : Nat) (l0 : List (S73)) (A1 : Option Addr) (c1 : Nat) (l1 : List Int) (a2 : Int) (a3 : Int) (r : Bool) (w : World) (hr0 : Kd.C k73 w A0 l0.length l0) (hc0 : l0.length ≤ c0) (hr1 : Kd.C (Kd.int .i64) w A1 l1.length l1) (hc1 : l1.length ≤ c1) (h : spoorlaw13_SketchSums.f k l0 l1 a2 a3 = some r) :
    Calls Try.prog 6 #[.slice A0 l0.length c0, .slice A1 l1.length c1, .int .i64 a2, .int .i64 a3] w fun e w' => e = .returned (.bool r) ∧ Below w.heap.size w w' := by
  have HR0 := Aside0.mk hr0
  have HC0 := Aside0.mk hc0
  clear hr0 hc0
  have HR1 := Aside0.mk hr1
  have HC1 := Aside0.mk hc1
  clear hr1 hc1
  have HB := Aside0.mk (Below.refl w.heap.size w)
  have H : ((spoorlaw13_awake.f k).bind fun t208 => ((spoorlaw13_pick.f a2 (wrap64 ((l0.length : Int) + 1))).bind fun t209 => ((spoorlaw13_pick.f a3 (wrap64 ((wrap64 ((l0.length : Int) - t209)) + 1))).bind fun t210 => ((spoorlaw13_put.f k l0).bind fun bt211 => ((spoorlaw13_moved.f l0 l1).bind fun t215 => ((spoorlaw13_put.f k t215).bind fun bt218 => (if 0 ≤ t209 then (if t209 ≤ (l0.length : Int) then ((spoorlaw13_put.f k (l0.take (t209 : Int).toNat)).bind fun bt226 => (if t209 ≤ (wrap64 (t209 + t210)) then (if (wrap64 (t209 + t210)) ≤ (l0.length : Int) then ((spoorlaw13_put.f k ((l0.take ((wrap64 (t209 + t210)) : Int).toNat).drop (t209 : Int).toNat)).bind fun bt234 => (if 0 ≤ (wrap64 (t209 + t210)) then ((spoorlaw13_put.f k (l0.drop ((wrap64 (t209 + t210)) : Int).toNat)).bind fun bt242 => (if t208 = true then (if bt211.2 = true then (if bt218.2 = true then (if bt226.2 = true then (if bt234.2 = true then (spoorlaw13_SketchSums.j0 k bt211.1 bt218.1 bt226.1 bt234.1 bt242.1 (!bt242.2)) else (spoorlaw13_SketchSums.j0 k bt211.1 bt218.1 bt226.1 bt234.1 bt242.1 true)) else (spoorlaw13_SketchSums.j0 k bt211.1 bt218.1 bt226.1 bt234.1 bt242.1 true)) else (spoorlaw13_SketchSums.j0 k bt211.1 bt218.1 bt226.1 bt234.1 bt242.1 true)) else (spoorlaw13_SketchSums.j0 k bt211.1 bt218.1 bt226.1 bt234.1 bt242.1 true)) else (spoorlaw13_SketchSums.j0 k bt211.1 bt218.1 bt226.1 bt234.1 bt242.1 true))) else (none))) else (none)) else (none))) else (none)) else (none)))))))) = some r := h
  clear h
  replace H := Option.bind_eq_some_iff.mp H
  obtain ⟨t208, A50, H⟩ := H
  replace H : ((spoorlaw13_pick.f a2 (wrap64 ((l0.length : Int) + 1))).bind fun t209 => ((spoorlaw13_pick.f a3 (wrap64 ((wrap64 ((l0.length : Int) - t209)) + 1))).bind fun t210 => ((spoorlaw13_put.f k l0).bind fun bt211 => ((spoorlaw13_moved.f l0 l1).bind fun t215 => ((spoorlaw13_put.f k t215).bind fun bt218 => (if 0 ≤ t209 then (if t209 ≤ (l0.length : Int) then ((spoorlaw13_put.f k (l0.take (t209 : Int).toNat)).bind fun bt226 => (if t209 ≤ (wrap64 (t209 + t210)) then (if (wrap64 (t209 + t210)) ≤ (l0.length : Int) then ((spoorlaw13_put.f k ((l0.take ((wrap64 (t209 + t210)) : Int).toNat).drop (t209 : Int).toNat)).bind fun bt234 => (if 0 ≤ (wrap64 (t209 + t210)) then ((spoorlaw13_put.f k (l0.drop ((wrap64 (t209 + t210)) : Int).toNat)).bind fun bt242 => (if t208 = true then (if bt211.2 = true then (if bt218.2 = true then (if bt226.2 = true then (if bt234.2 = true then (spoorlaw13_SketchSums.j0 k bt211.1 bt218.1 bt226.1 bt234.1 bt242.1 (!bt242.2)) else (spoorlaw13_SketchSums.j0 k bt211.1 bt218.1 bt226.1 bt234.1 bt242.1 true)) else (spoorlaw13_SketchSums.j0 k bt211.1 bt218.1 bt226.1 bt234.1 bt242.1 true)) else (spoorlaw13_SketchSums.j0 k bt211.1 bt218.1 bt226.1 bt234.1 bt242.1 true)) else (spoorlaw13_SketchSums.j0 k bt211.1 bt218.1 bt226.1 bt234.1 bt242.1 true)) else (spoorlaw13_SketchSums.j0 k bt211.1 bt218.1 bt226.1 bt234.1 bt242.1 true))) else (none))) else (none)) else (none))) else (none)) else (none))))))) = some r := H
  have A5 := Aside0.mk A50
  clear A50
  replace H := Option.bind_eq_some_iff.mp H
  obtain ⟨t209, A60, H⟩ := H
  replace H : ((spoorlaw13_pick.f a3 (wrap64 ((wrap64 ((l0.length : Int) - t209)) + 1))).bind fun t210 => ((spoorlaw13_put.f k l0).bind fun bt211 => ((spoorlaw13_moved.f l0 l1).bind fun t215 => ((spoorlaw13_put.f k t215).bind fun bt218 => (if 0 ≤ t209 then (if t209 ≤ (l0.length : Int) then ((spoorlaw13_put.f k (l0.take (t209 : Int).toNat)).bind fun bt226 => (if t209 ≤ (wrap64 (t209 + t210)) then (if (wrap64 (t209 + t210)) ≤ (l0.length : Int) then ((spoorlaw13_put.f k ((l0.take ((wrap64 (t209 + t210)) : Int).toNat).drop (t209 : Int).toNat)).bind fun bt234 => (if 0 ≤ (wrap64 (t209 + t210)) then ((spoorlaw13_put.f k (l0.drop ((wrap64 (t209 + t210)) : Int).toNat)).bind fun bt242 => (if t208 = true then (if bt211.2 = true then (if bt218.2 = true then (if bt226.2 = true then (if bt234.2 = true then (spoorlaw13_SketchSums.j0 k bt211.1 bt218.1 bt226.1 bt234.1 bt242.1 (!bt242.2)) else (spoorlaw13_SketchSums.j0 k bt211.1 bt218.1 bt226.1 bt234.1 bt242.1 true)) else (spoorlaw13_SketchSums.j0 k bt211.1 bt218.1 bt226.1 bt234.1 bt242.1 true)) else (spoorlaw13_SketchSums.j0 k bt211.1 bt218.1 bt226.1 bt234.1 bt242.1 true)) else (spoorlaw13_SketchSums.j0 k bt211.1 bt218.1 bt226.1 bt234.1 bt242.1 true)) else (spoorlaw13_SketchSums.j0 k bt211.1 bt218.1 bt226.1 bt234.1 bt242.1 true))) else (none))) else (none)) else (none))) else (none)) else (none)))))) = some r := H
  have A6 := Aside0.mk A60
  clear A60
  replace H := Option.bind_eq_some_iff.mp H
  obtain ⟨t210, A70, H⟩ := H
  replace H : ((spoorlaw13_put.f k l0).bind fun bt211 => ((spoorlaw13_moved.f l0 l1).bind fun t215 => ((spoorlaw13_put.f k t215).bind fun bt218 => (if 0 ≤ t209 then (if t209 ≤ (l0.length : Int) then ((spoorlaw13_put.f k (l0.take (t209 : Int).toNat)).bind fun bt226 => (if t209 ≤ (wrap64 (t209 + t210)) then (if (wrap64 (t209 + t210)) ≤ (l0.length : Int) then ((spoorlaw13_put.f k ((l0.take ((wrap64 (t209 + t210)) : Int).toNat).drop (t209 : Int).toNat)).bind fun bt234 => (if 0 ≤ (wrap64 (t209 + t210)) then ((spoorlaw13_put.f k (l0.drop ((wrap64 (t209 + t210)) : Int).toNat)).bind fun bt242 => (if t208 = true then (if bt211.2 = true then (if bt218.2 = true then (if bt226.2 = true then (if bt234.2 = true then (spoorlaw13_SketchSums.j0 k bt211.1 bt218.1 bt226.1 bt234.1 bt242.1 (!bt242.2)) else (spoorlaw13_SketchSums.j0 k bt211.1 bt218.1 bt226.1 bt234.1 bt242.1 true)) else (spoorlaw13_SketchSums.j0 k bt211.1 bt218.1 bt226.1 bt234.1 bt242.1 true)) else (spoorlaw13_SketchSums.j0 k bt211.1 bt218.1 bt226.1 bt234.1 bt242.1 true)) else (spoorlaw13_SketchSums.j0 k bt211.1 bt218.1 bt226.1 bt234.1 bt242.1 true)) else (spoorlaw13_SketchSums.j0 k bt211.1 bt218.1 bt226.1 bt234.1 bt242.1 true))) else (none))) else (none)) else (none))) else (none)) else (none))))) = some r := H
  have A7 := Aside0.mk A70
  clear A70
  replace H := Option.bind_eq_some_iff.mp H
  obtain ⟨⟨t211, t212⟩, A80, H⟩ := H
  replace H : ((spoorlaw13_moved.f l0 l1).bind fun t215 => ((spoorlaw13_put.f k t215).bind fun bt218 => (if 0 ≤ t209 then (if t209 ≤ (l0.length : Int) then ((spoorlaw13_put.f k (l0.take (t209 : Int).toNat)).bind fun bt226 => (if t209 ≤ (wrap64 (t209 + t210)) then (if (wrap64 (t209 + t210)) ≤ (l0.length : Int) then ((spoorlaw13_put.f k ((l0.take ((wrap64 (t209 + t210)) : Int).toNat).drop (t209 : Int).toNat)).bind fun bt234 => (if 0 ≤ (wrap64 (t209 + t210)) then ((spoorlaw13_put.f k (l0.drop ((wrap64 (t209 + t210)) : Int).toNat)).bind fun bt242 => (if t208 = true then (if t212 = true then (if bt218.2 = true then (if bt226.2 = true then (if bt234.2 = true then (spoorlaw13_SketchSums.j0 k t211 bt218.1 bt226.1 bt234.1 bt242.1 (!bt242.2)) else (spoorlaw13_SketchSums.j0 k t211 bt218.1 bt226.1 bt234.1 bt242.1 true)) else (spoorlaw13_SketchSums.j0 k t211 bt218.1 bt226.1 bt234.1 bt242.1 true)) else (spoorlaw13_SketchSums.j0 k t211 bt218.1 bt226.1 bt234.1 bt242.1 true)) else (spoorlaw13_SketchSums.j0 k t211 bt218.1 bt226.1 bt234.1 bt242.1 true)) else (spoorlaw13_SketchSums.j0 k t211 bt218.1 bt226.1 bt234.1 bt242.1 true))) else (none))) else (none)) else (none))) else (none)) else (none)))) = some r := H
  have A8 := Aside0.mk A80
  clear A80
  replace H := Option.bind_eq_some_iff.mp H
  obtain ⟨t215, A90, H⟩ := H
  replace H : ((spoorlaw13_put.f k t215).bind fun bt218 => (if 0 ≤ t209 then (if t209 ≤ (l0.length : Int) then ((spoorlaw13_put.f k (l0.take (t209 : Int).toNat)).bind fun bt226 => (if t209 ≤ (wrap64 (t209 + t210)) then (if (wrap64 (t209 + t210)) ≤ (l0.length : Int) then ((spoorlaw13_put.f k ((l0.take ((wrap64 (t209 + t210)) : Int).toNat).drop (t209 : Int).toNat)).bind fun bt234 => (if 0 ≤ (wrap64 (t209 + t210)) then ((spoorlaw13_put.f k (l0.drop ((wrap64 (t209 + t210)) : Int).toNat)).bind fun bt242 => (if t208 = true then (if t212 = true then (if bt218.2 = true then (if bt226.2 = true then (if bt234.2 = true then (spoorlaw13_SketchSums.j0 k t211 bt218.1 bt226.1 bt234.1 bt242.1 (!bt242.2)) else (spoorlaw13_SketchSums.j0 k t211 bt218.1 bt226.1 bt234.1 bt242.1 true)) else (spoorlaw13_SketchSums.j0 k t211 bt218.1 bt226.1 bt234.1 bt242.1 true)) else (spoorlaw13_SketchSums.j0 k t211 bt218.1 bt226.1 bt234.1 bt242.1 true)) else (spoorlaw13_SketchSums.j0 k t211 bt218.1 bt226.1 bt234.1 bt242.1 true)) else (spoorlaw13_SketchSums.j0 k t211 bt218.1 bt226.1 bt234.1 bt242.1 true))) else (none))) else (none)) else (none))) else (none)) else (none))) = some r := H
  have A9 := Aside0.mk A90
  clear A90
  replace H := Option.bind_eq_some_iff.mp H
  obtain ⟨⟨t218, t219⟩, A100, H⟩ := H
  replace H : (if 0 ≤ t209 then (if t209 ≤ (l0.length : Int) then ((spoorlaw13_put.f k (l0.take (t209 : Int).toNat)).bind fun bt226 => (if t209 ≤ (wrap64 (t209 + t210)) then (if (wrap64 (t209 + t210)) ≤ (l0.length : Int) then ((spoorlaw13_put.f k ((l0.take ((wrap64 (t209 + t210)) : Int).toNat).drop (t209 : Int).toNat)).bind fun bt234 => (if 0 ≤ (wrap64 (t209 + t210)) then ((spoorlaw13_put.f k (l0.drop ((wrap64 (t209 + t210)) : Int).toNat)).bind fun bt242 => (if t208 = true then (if t212 = true then (if t219 = true then (if bt226.2 = true then (if bt234.2 = true then (spoorlaw13_SketchSums.j0 k t211 t218 bt226.1 bt234.1 bt242.1 (!bt242.2)) else (spoorlaw13_SketchSums.j0 k t211 t218 bt226.1 bt234.1 bt242.1 true)) else (spoorlaw13_SketchSums.j0 k t211 t218 bt226.1 bt234.1 bt242.1 true)) else (spoorlaw13_SketchSums.j0 k t211 t218 bt226.1 bt234.1 bt242.1 true)) else (spoorlaw13_SketchSums.j0 k t211 t218 bt226.1 bt234.1 bt242.1 true)) else (spoorlaw13_SketchSums.j0 k t211 t218 bt226.1 bt234.1 bt242.1 true))) else (none))) else (none)) else (none))) else (none)) else (none)) = some r := H
  have A10 := Aside0.mk A100
  clear A100
  by_cases c11 : 0 ≤ t209
  · rw [if_pos c11] at H
    have c11b0 := eq_true c11
    have c11b1 : decide (0 ≤ t209) = true := decide_eq_true c11
    clear c11
    by_cases c12 : t209 ≤ (l0.length : Int)
    · rw [if_pos c12] at H
      have c12b0 := eq_true c12
      have c12b1 : decide (t209 ≤ (l0.length : Int)) = true := decide_eq_true c12
      clear c12
      obtain ⟨y222, hy222⟩ : ∃ y_ : List (S73), y_ = (l0.take (t209 : Int).toNat) := ⟨_, rfl⟩
      replace H : ((spoorlaw13_put.f k y222).bind fun bt226 => (if t209 ≤ (wrap64 (t209 + t210)) then (if (wrap64 (t209 + t210)) ≤ (l0.length : Int) then ((spoorlaw13_put.f k ((l0.take ((wrap64 (t209 + t210)) : Int).toNat).drop (t209 : Int).toNat)).bind fun bt234 => (if 0 ≤ (wrap64 (t209 + t210)) then ((spoorlaw13_put.f k (l0.drop ((wrap64 (t209 + t210)) : Int).toNat)).bind fun bt242 => (if t208 = true then (if t212 = true then (if t219 = true then (if bt226.2 = true then (if bt234.2 = true then (spoorlaw13_SketchSums.j0 k t211 t218 bt226.1 bt234.1 bt242.1 (!bt242.2)) else (spoorlaw13_SketchSums.j0 k t211 t218 bt226.1 bt234.1 bt242.1 true)) else (spoorlaw13_SketchSums.j0 k t211 t218 bt226.1 bt234.1 bt242.1 true)) else (spoorlaw13_SketchSums.j0 k t211 t218 bt226.1 bt234.1 bt242.1 true)) else (spoorlaw13_SketchSums.j0 k t211 t218 bt226.1 bt234.1 bt242.1 true)) else (spoorlaw13_SketchSums.j0 k t211 t218 bt226.1 bt234.1 bt242.1 true))) else (none))) else (none)) else (none))) = some r := by first | (rw [hy222]; with_reducible exact H) | (have H2_ := (Option.bind_some _ _).symm.trans H; rw [hy222]; with_reducible exact H2_) | (have H2_ := (Option.bind_some _ _).symm.trans H; with_reducible exact H2_) | with_reducible exact H | (rw [hy222]; exact H) | exact H
      have Ny222 := Aside0.mk hy222
      clear hy222
      replace H := Option.bind_eq_some_iff.mp H
      obtain ⟨⟨t226, t227⟩, A130, H⟩ := H
      replace H : (if t209 ≤ (wrap64 (t209 + t210)) then (if (wrap64 (t209 + t210)) ≤ (l0.length : Int) then ((spoorlaw13_put.f k ((l0.take ((wrap64 (t209 + t210)) : Int).toNat).drop (t209 : Int).toNat)).bind fun bt234 => (if 0 ≤ (wrap64 (t209 + t210)) then ((spoorlaw13_put.f k (l0.drop ((wrap64 (t209 + t210)) : Int).toNat)).bind fun bt242 => (if t208 = true then (if t212 = true then (if t219 = true then (if t227 = true then (if bt234.2 = true then (spoorlaw13_SketchSums.j0 k t211 t218 t226 bt234.1 bt242.1 (!bt242.2)) else (spoorlaw13_SketchSums.j0 k t211 t218 t226 bt234.1 bt242.1 true)) else (spoorlaw13_SketchSums.j0 k t211 t218 t226 bt234.1 bt242.1 true)) else (spoorlaw13_SketchSums.j0 k t211 t218 t226 bt234.1 bt242.1 true)) else (spoorlaw13_SketchSums.j0 k t211 t218 t226 bt234.1 bt242.1 true)) else (spoorlaw13_SketchSums.j0 k t211 t218 t226 bt234.1 bt242.1 true))) else (none))) else (none)) else (none)) = some r := H
      have A13 := Aside0.mk A130
      clear A130
      have c14b0 := eq_true (of_decide_eq_true (by first | (with_reducible assumption) | assumption) : 0 ≤ t209)
      by_cases c15 : t209 ≤ (wrap64 (t209 + t210))
      · rw [if_pos c15] at H
        have c15b0 := eq_true c15
        have c15b1 : decide (t209 ≤ (wrap64 (t209 + t210))) = true := decide_eq_true c15
        by_cases c16 : (wrap64 (t209 + t210)) ≤ (l0.length : Int)
        · rw [if_pos c16] at H
          have c16b0 := eq_true c16
          have c16b1 : decide ((wrap64 (t209 + t210)) ≤ (l0.length : Int)) = true := decide_eq_true c16
          obtain ⟨y230, hy230⟩ : ∃ y_ : List (S73), y_ = ((l0.take ((wrap64 (t209 + t210)) : Int).toNat).drop (t209 : Int).toNat) := ⟨_, rfl⟩
          replace H : ((spoorlaw13_put.f k y230).bind fun bt234 => (if 0 ≤ (wrap64 (t209 + t210)) then ((spoorlaw13_put.f k (l0.drop ((wrap64 (t209 + t210)) : Int).toNat)).bind fun bt242 => (if t208 = true then (if t212 = true then (if t219 = true then (if t227 = true then (if bt234.2 = true then (spoorlaw13_SketchSums.j0 k t211 t218 t226 bt234.1 bt242.1 (!bt242.2)) else (spoorlaw13_SketchSums.j0 k t211 t218 t226 bt234.1 bt242.1 true)) else (spoorlaw13_SketchSums.j0 k t211 t218 t226 bt234.1 bt242.1 true)) else (spoorlaw13_SketchSums.j0 k t211 t218 t226 bt234.1 bt242.1 true)) else (spoorlaw13_SketchSums.j0 k t211 t218 t226 bt234.1 bt242.1 true)) else (spoorlaw13_SketchSums.j0 k t211 t218 t226 bt234.1 bt242.1 true))) else (none))) = some r := by first | (rw [hy230]; with_reducible exact H) | (have H2_ := (Option.bind_some _ _).symm.trans H; rw [hy230]; with_reducible exact H2_) | (have H2_ := (Option.bind_some _ _).symm.trans H; with_reducible exact H2_) | with_reducible exact H | (rw [hy230]; exact H) | exact H
          have Ny230 := Aside0.mk hy230
          clear hy230
          replace H := Option.bind_eq_some_iff.mp H
          obtain ⟨⟨t234, t235⟩, A170, H⟩ := H
          replace H : (if 0 ≤ (wrap64 (t209 + t210)) then ((spoorlaw13_put.f k (l0.drop ((wrap64 (t209 + t210)) : Int).toNat)).bind fun bt242 => (if t208 = true then (if t212 = true then (if t219 = true then (if t227 = true then (if t235 = true then (spoorlaw13_SketchSums.j0 k t211 t218 t226 t234 bt242.1 (!bt242.2)) else (spoorlaw13_SketchSums.j0 k t211 t218 t226 t234 bt242.1 true)) else (spoorlaw13_SketchSums.j0 k t211 t218 t226 t234 bt242.1 true)) else (spoorlaw13_SketchSums.j0 k t211 t218 t226 t234 bt242.1 true)) else (spoorlaw13_SketchSums.j0 k t211 t218 t226 t234 bt242.1 true)) else (spoorlaw13_SketchSums.j0 k t211 t218 t226 t234 bt242.1 true))) else (none)) = some r := H
          have A17 := Aside0.mk A170
          clear A170
          obtain ⟨ji18, hji18⟩ : ∃ j_ : Int, (wrap64 (t209 + t210)) = j_ := ⟨_, rfl⟩
          replace H : (if 0 ≤ (ji18) then ((spoorlaw13_put.f k (l0.drop ((ji18) : Int).toNat)).bind fun bt242 => (if t208 = true then (if t212 = true then (if t219 = true then (if t227 = true then (if t235 = true then (spoorlaw13_SketchSums.j0 k t211 t218 t226 t234 bt242.1 (!bt242.2)) else (spoorlaw13_SketchSums.j0 k t211 t218 t226 t234 bt242.1 true)) else (spoorlaw13_SketchSums.j0 k t211 t218 t226 t234 bt242.1 true)) else (spoorlaw13_SketchSums.j0 k t211 t218 t226 t234 bt242.1 true)) else (spoorlaw13_SketchSums.j0 k t211 t218 t226 t234 bt242.1 true)) else (spoorlaw13_SketchSums.j0 k t211 t218 t226 t234 bt242.1 true))) else (none)) = some r := by first | (rw [hji18] at H; exact H) | (simp only [hji18] at H ⊢; exact H)
          (try rw [hji18] at c15b0)
          (try rw [hji18] at c15b1)
          (try rw [hji18] at c15)
          (try rw [hji18] at c16b0)
          (try rw [hji18] at c16b1)
          (try rw [hji18] at c16)
          (try rw [hji18] at A5)
          (try rw [hji18] at A6)
          (try rw [hji18] at A7)
          (try rw [hji18] at A8)
          (try rw [hji18] at A9)
          (try rw [hji18] at A10)
          (try rw [hji18] at A13)
          (try rw [hji18] at Ny230)
          (try rw [hji18] at A17)
          have hji18w : (IntKind.i64.wrap (t209 + t210)) = ji18 := (i64_w _).trans hji18
          by_cases c19 : 0 ≤ (ji18)
          · rw [if_pos c19] at H
            have c19b0 := eq_true c19
            have c19b1 : decide (0 ≤ (ji18)) = true := decide_eq_true c19
            clear c19
            have c20b0 := eq_true (of_decide_eq_true (by first | (with_reducible assumption) | assumption) : (ji18) ≤ (l0.length : Int))
            obtain ⟨y238, hy238⟩ : ∃ y_ : List (S73), y_ = (l0.drop ((ji18) : Int).toNat) := ⟨_, rfl⟩
            replace H : ((spoorlaw13_put.f k y238).bind fun bt242 => (if t208 = true then (if t212 = true then (if t219 = true then (if t227 = true then (if t235 = true then (spoorlaw13_SketchSums.j0 k t211 t218 t226 t234 bt242.1 (!bt242.2)) else (spoorlaw13_SketchSums.j0 k t211 t218 t226 t234 bt242.1 true)) else (spoorlaw13_SketchSums.j0 k t211 t218 t226 t234 bt242.1 true)) else (spoorlaw13_SketchSums.j0 k t211 t218 t226 t234 bt242.1 true)) else (spoorlaw13_SketchSums.j0 k t211 t218 t226 t234 bt242.1 true)) else (spoorlaw13_SketchSums.j0 k t211 t218 t226 t234 bt242.1 true))) = some r := by first | (rw [hy238]; with_reducible exact H) | (have H2_ := (Option.bind_some _ _).symm.trans H; rw [hy238]; with_reducible exact H2_) | (have H2_ := (Option.bind_some _ _).symm.trans H; with_reducible exact H2_) | with_reducible exact H | (rw [hy238]; exact H) | exact H
            have Ny238 := Aside0.mk hy238
            clear hy238
            replace H := Option.bind_eq_some_iff.mp H
            obtain ⟨⟨t242, t243⟩, A210, H⟩ := H
            replace H : (if t208 = true then (if t212 = true then (if t219 = true then (if t227 = true then (if t235 = true then (spoorlaw13_SketchSums.j0 k t211 t218 t226 t234 t242 (!t243)) else (spoorlaw13_SketchSums.j0 k t211 t218 t226 t234 t242 true)) else (spoorlaw13_SketchSums.j0 k t211 t218 t226 t234 t242 true)) else (spoorlaw13_SketchSums.j0 k t211 t218 t226 t234 t242 true)) else (spoorlaw13_SketchSums.j0 k t211 t218 t226 t234 t242 true)) else (spoorlaw13_SketchSums.j0 k t211 t218 t226 t234 t242 true)) = some r := H
            have A21 := Aside0.mk A210
            clear A210
            have HC22 := Aside0.mk H
            clear H
            go_enter Try.func6, Try.ntmps6
            go_upto_region 9 with (first | ((with_reducible refine gate_callee (f := 9) rfl ?_); refine goesL_ (some 34) rfl rfl Try.func9 (by kernel_rfl) rfl #[] rfl (by (try simp only [List.map_toArray, List.map_cons, List.map_nil]); first | done | rfl | (simp only [List.length_drop, List.length_take]; rfl)) ?_; (with_reducible refine (spoorlaw13_awake.calls k  t208 _ A5.out).mono ?_); rintro e w23 ⟨rfl, hb⟩; refine ⟨_, rfl, ?_⟩; have n0_ := Aside0.mk (below_step (by repeat (first | (with_reducible first | exact HB.out | apply below_alloc | apply pw_below_drewN | apply below_drew1) | exact HB.out)) hb); clear HB; have HB := n0_; clear n0_; (try clear hb); (try clear hb2); (try clear hk); (try clear hi)) | ((with_reducible refine gate_callee (f := 12) rfl ?_); refine goesL_ (some 39) rfl rfl Try.func12 (by kernel_rfl) rfl #[.int .i64 a2, .int .i64 (wrap64 ((l0.length : Int) + 1))] rfl (by (try simp only [List.map_toArray, List.map_cons, List.map_nil]); first | done | rfl | (simp only [List.length_drop, List.length_take]; rfl)) ?_; (with_reducible refine (spoorlaw13_pick.calls a2 (wrap64 ((l0.length : Int) + 1)) t209 _ A6.out).mono ?_); rintro e w' ⟨rfl, ⟨nd, rfl⟩⟩; refine ⟨_, rfl, ?_⟩) | ((with_reducible refine gate_callee (f := 12) rfl ?_); refine goesL_ (some 47) rfl rfl Try.func12 (by kernel_rfl) rfl #[.int .i64 a3, .int .i64 (wrap64 ((wrap64 ((l0.length : Int) - t209)) + 1))] rfl (by (try simp only [List.map_toArray, List.map_cons, List.map_nil]); first | done | rfl | (simp only [List.length_drop, List.length_take]; rfl)) ?_; (with_reducible refine (spoorlaw13_pick.calls a3 (wrap64 ((wrap64 ((l0.length : Int) - t209)) + 1)) t210 _ A7.out).mono ?_); rintro e w' ⟨rfl, ⟨nd, rfl⟩⟩; refine ⟨_, rfl, ?_⟩) | ((with_reducible refine gate_callee (f := 17) rfl ?_); refine goesL_ (some 51) rfl rfl Try.func17 (by kernel_rfl) rfl #[.slice A0 l0.length c0] rfl (by (try simp only [List.map_toArray, List.map_cons, List.map_nil]); first | done | rfl | (simp only [List.length_drop, List.length_take]; rfl)) ?_; (with_reducible refine (spoorlaw13_put.calls k _ _ l0 t211 t212 _ ?side1 ?side2 A8.out).mono ?_); (case side1 => repeat (first | exact (Kd.C_below HR0.out (by repeat (first | (with_reducible first | exact HB.out | apply below_alloc | apply pw_below_drewN | apply below_drew1) | exact HB.out))) | (with_reducible refine Kd.C_alloc ?_ _) | (with_reducible refine Kd.C_drewN ?_ _) | (with_reducible refine Kd.C_drew ?_))); (case side2 => exact HC0.out); rintro e w24 ⟨v213, rfl, ho0, hb⟩; refine ⟨_, rfl, ?_⟩; have n0_ := Aside0.mk (Kd.R_lower ho0 (below_size (by repeat (first | (with_reducible first | exact HB.out | apply below_alloc | apply pw_below_drewN | apply below_drew1) | exact HB.out)))); have n1_ := Aside0.mk (below_step (by repeat (first | (with_reducible first | exact HB.out | apply below_alloc | apply pw_below_drewN | apply below_drew1) | exact HB.out)) hb); clear HB; have HO214 := n0_; have HB := n1_; clear n0_ n1_; (try clear hb); (try clear hb2); (try clear hk); (try clear hi); (try clear ho0)) | ((with_reducible refine gate_callee (f := 18) rfl ?_); refine goesL_ (some 57) rfl rfl Try.func18 (by kernel_rfl) rfl #[.slice A0 l0.length c0, .slice A1 l1.length c1] rfl (by (try simp only [List.map_toArray, List.map_cons, List.map_nil]); first | done | rfl | (simp only [List.length_drop, List.length_take]; rfl)) ?_; (with_reducible refine (spoorlaw13_moved.calls _ _ l0 _ _ l1 t215 _ ?side1 ?side2 ?side3 ?side4 A9.out).mono ?_); (case side1 => repeat (first | exact (Kd.C_below HR0.out HB.out) | (with_reducible refine Kd.C_alloc ?_ _) | (with_reducible refine Kd.C_drewN ?_ _) | (with_reducible refine Kd.C_drew ?_))); (case side2 => exact HC0.out); (case side3 => repeat (first | exact (Kd.C_below HR1.out HB.out) | (with_reducible refine Kd.C_alloc ?_ _) | (with_reducible refine Kd.C_drewN ?_ _) | (with_reducible refine Kd.C_drew ?_))); (case side4 => exact HC1.out); rintro e w25 ⟨v216, rfl, ho0, hb⟩; refine ⟨_, rfl, ?_⟩; have n0_ := Aside0.mk (Kd.R_below (by (with_reducible repeat (first | apply Kd.R_alloc | apply Kd.R_drewN | apply Kd.R_drew)); exact HO214.out) hb); have n1_ := Aside0.mk (Kd.R_lower ho0 (below_size (by repeat (first | (with_reducible first | exact HB.out | apply below_alloc | apply pw_below_drewN | apply below_drew1) | exact HB.out)))); have n2_ := Aside0.mk (below_step (by repeat (first | (with_reducible first | exact HB.out | apply below_alloc | apply pw_below_drewN | apply below_drew1) | exact HB.out)) hb); clear HO214; clear HB; have HO214 := n0_; have HO217 := n1_; have HB := n2_; clear n0_ n1_ n2_; (try clear hb); (try clear hb2); (try clear hk); (try clear hi); (try clear ho0); obtain ⟨Ao26, co26, eo26⟩ := Kd.R_slice HO217.out; subst eo26) | ((with_reducible refine gate_callee (f := 17) rfl ?_); refine goesL_ (some 58) rfl rfl Try.func17 (by kernel_rfl) rfl #[.slice Ao26 t215.length co26] rfl (by (try simp only [List.map_toArray, List.map_cons, List.map_nil]); first | done | rfl | (simp only [List.length_drop, List.length_take]; rfl)) ?_; (with_reducible refine (spoorlaw13_put.calls k _ _ t215 t218 t219 _ ?side1 ?side2 A10.out).mono ?_); (case side1 => repeat (first | exact (Kd.R_reads' HO217.out).2.2 | (with_reducible refine Kd.C_alloc ?_ _) | (with_reducible refine Kd.C_drewN ?_ _) | (with_reducible refine Kd.C_drew ?_))); (case side2 => exact (Kd.R_reads' HO217.out).2.1); rintro e w27 ⟨v220, rfl, ho0, hb⟩; refine ⟨_, rfl, ?_⟩; have n0_ := Aside0.mk (Kd.R_elder' (by (with_reducible repeat (first | apply Kd.R_alloc | apply Kd.R_drewN | apply Kd.R_drew)); exact HO214.out) (Kd.R_base ho0) hb); have n1_ := Aside0.mk (Kd.R_below (by (with_reducible repeat (first | apply Kd.R_alloc | apply Kd.R_drewN | apply Kd.R_drew)); exact HO217.out) hb); have n2_ := Aside0.mk (Kd.R_lower (Kd.R_new' ho0 (Kd.R_lt (by (with_reducible repeat (first | apply Kd.R_alloc | apply Kd.R_drewN | apply Kd.R_drew)); exact HO214.out))) (below_size (by repeat (first | (with_reducible first | exact HB.out | apply below_alloc | apply pw_below_drewN | apply below_drew1) | exact HB.out)))); have n3_ := Aside0.mk (below_step (by repeat (first | (with_reducible first | exact HB.out | apply below_alloc | apply pw_below_drewN | apply below_drew1) | exact HB.out)) hb); clear HO214; clear HO217; clear HB; have HO214 := n0_; have HO217 := n1_; have HO221 := n2_; have HB := n3_; clear n0_ n1_ n2_ n3_; (try clear hb); (try clear hb2); (try clear hk); (try clear hi); (try clear ho0); have q28 : (t209 : Int) ≤ ((l0.length : Int) : Int) := of_decide_eq_true (by first | (with_reducible assumption) | assumption); obtain ⟨i028, hi028, _, hsz28, _⟩ := info_parts info73; have hroom28 : l0.length ≤ c0 := HC0.out; have hC28 : Kd.C k73 _ A0 l0.length l0 := HR0.out; have hcut28 := cut_to (P := Try.prog) 41 73 .i64 Try.underlying41 hi028 A0 l0.length c0 t209 (of_decide_eq_true (by first | (with_reducible assumption) | assumption)) q28 hroom28; have hr28 := Kd.C_take (m := (t209 : Int).toNat) hC28 (by omega); have hy28 : y222.length = (t209 : Int).toNat := (by rw [Ny222.out, List.length_take]; omega); rw [← Ny222.out] at hr28; rw [← hy28] at hcut28; have HR225 := Aside0.mk hr28; have HC225 := Aside0.mk (show y222.length ≤ c0 from by omega); clear hr28 hC28 hroom28 hi028 hsz28; have KY28 := Aside0.mk hy28; clear hy28; replace q28 := eq_true q28) | ((with_reducible refine gate_callee (f := 17) rfl ?_); refine goesL_ (some 65) rfl rfl Try.func17 (by kernel_rfl) rfl #[.slice A0 y222.length c0] rfl (by (try simp only [List.map_toArray, List.map_cons, List.map_nil]); first | done | rfl | (simp only [List.length_drop, List.length_take]; rfl)) ?_; (with_reducible refine (spoorlaw13_put.calls k _ _ y222 t226 t227 _ ?side1 ?side2 A13.out).mono ?_); (case side1 => repeat (first | exact (Kd.C_below HR225.out HB.out) | (with_reducible refine Kd.C_alloc ?_ _) | (with_reducible refine Kd.C_drewN ?_ _) | (with_reducible refine Kd.C_drew ?_))); (case side2 => exact HC225.out); rintro e w29 ⟨v228, rfl, ho0, hb⟩; refine ⟨_, rfl, ?_⟩; have n0_ := Aside0.mk (Kd.R_elder' (by (with_reducible repeat (first | apply Kd.R_alloc | apply Kd.R_drewN | apply Kd.R_drew)); exact HO214.out) (Kd.R_base ho0) hb); have n1_ := Aside0.mk (Kd.R_below (by (with_reducible repeat (first | apply Kd.R_alloc | apply Kd.R_drewN | apply Kd.R_drew)); exact HO217.out) hb); have n2_ := Aside0.mk (Kd.R_elder' (by (with_reducible repeat (first | apply Kd.R_alloc | apply Kd.R_drewN | apply Kd.R_drew)); exact HO221.out) (Kd.R_base ho0) hb); have n3_ := Aside0.mk (Kd.R_lower (Kd.R_new' (Kd.R_new' ho0 (Kd.R_lt (by (with_reducible repeat (first | apply Kd.R_alloc | apply Kd.R_drewN | apply Kd.R_drew)); exact HO214.out))) (Kd.R_lt (by (with_reducible repeat (first | apply Kd.R_alloc | apply Kd.R_drewN | apply Kd.R_drew)); exact HO221.out))) (below_size (by repeat (first | (with_reducible first | exact HB.out | apply below_alloc | apply pw_below_drewN | apply below_drew1) | exact HB.out)))); have n4_ := Aside0.mk (below_step (by repeat (first | (with_reducible first | exact HB.out | apply below_alloc | apply pw_below_drewN | apply below_drew1) | exact HB.out)) hb); clear HO214; clear HO217; clear HO221; clear HB; have HO214 := n0_; have HO217 := n1_; have HO221 := n2_; have HO229 := n3_; have HB := n4_; clear n0_ n1_ n2_ n3_ n4_; (try clear hb); (try clear hb2); (try clear hk); (try clear hi); (try clear ho0); have q30 : ((ji18) : Int) ≤ ((l0.length : Int) : Int) := of_decide_eq_true (by first | (with_reducible assumption) | assumption); obtain ⟨i030, hi030, _, hsz30, _⟩ := info_parts info73; have hroom30 : l0.length ≤ c0 := HC0.out; have hC30 : Kd.C k73 _ A0 l0.length l0 := HR0.out; have ql30 : (t209 : Int) ≤ ((ji18) : Int) := of_decide_eq_true (by first | (with_reducible assumption) | assumption); have q030 : (0 : Int) ≤ (t209 : Int) := of_decide_eq_true (by first | (with_reducible assumption) | assumption); have hcut30 := cut_mid (P := Try.prog) 41 73 .i64 .i64 Try.underlying41 hi030 2 hsz30 A0 l0.length c0 t209 (ji18) q030 ql30 q30 hroom30; have hr30 := Kd.C_mid (lo := (t209 : Int).toNat) (hi := ((ji18) : Int).toNat) (c := c0) hC30 (by omega) (by omega) hroom30; obtain ⟨A30, hA30⟩ : ∃ A1, A1 = (if c0 = (t209 : Int).toNat then A0 else (A0 : Option Addr).map (·.add ((t209 : Int).toNat * 2))) := ⟨_, rfl⟩; obtain ⟨c30, hc30⟩ : ∃ c1, c1 = c0 - (t209 : Int).toNat := ⟨_, rfl⟩; have hy30 : y230.length = ((ji18) : Int).toNat - (t209 : Int).toNat := (by rw [Ny230.out, List.length_drop, List.length_take] <;> omega); rw [show ((l0).take ((ji18) : Int).toNat).drop (t209 : Int).toNat = y230 from Ny230.out.symm] at hr30; replace hr30 : Kd.C k73 _ A30 y230.length y230 := (by rw [hA30]; exact hr30); rw [← hy30, ← hA30, ← hc30] at hcut30; have HR233 := Aside0.mk hr30; have HC233 := Aside0.mk (show y230.length ≤ c30 from by rw [hy30, hc30]; exact Nat.sub_le_sub_right (Nat.le_trans (by omega) hroom30) _); clear hr30 hC30 hroom30 hi030 hsz30 hc30; have KY30 := Aside0.mk hy30; have KA30 := Aside0.mk hA30; clear hy30 hA30; replace q30 := eq_true q30) | ((with_reducible refine gate_callee (f := 17) rfl ?_); refine goesL_ (some 73) rfl rfl Try.func17 (by kernel_rfl) rfl #[.slice A30 y230.length c30] rfl (by (try simp only [List.map_toArray, List.map_cons, List.map_nil]); first | done | rfl | (simp only [List.length_drop, List.length_take]; rfl)) ?_; (with_reducible refine (spoorlaw13_put.calls k _ _ y230 t234 t235 _ ?side1 ?side2 A17.out).mono ?_); (case side1 => repeat (first | exact (Kd.C_below HR233.out HB.out) | (with_reducible refine Kd.C_alloc ?_ _) | (with_reducible refine Kd.C_drewN ?_ _) | (with_reducible refine Kd.C_drew ?_))); (case side2 => exact HC233.out); rintro e w31 ⟨v236, rfl, ho0, hb⟩; refine ⟨_, rfl, ?_⟩; have n0_ := Aside0.mk (Kd.R_elder' (by (with_reducible repeat (first | apply Kd.R_alloc | apply Kd.R_drewN | apply Kd.R_drew)); exact HO214.out) (Kd.R_base ho0) hb); have n1_ := Aside0.mk (Kd.R_below (by (with_reducible repeat (first | apply Kd.R_alloc | apply Kd.R_drewN | apply Kd.R_drew)); exact HO217.out) hb); have n2_ := Aside0.mk (Kd.R_elder' (by (with_reducible repeat (first | apply Kd.R_alloc | apply Kd.R_drewN | apply Kd.R_drew)); exact HO221.out) (Kd.R_base ho0) hb); have n3_ := Aside0.mk (Kd.R_elder' (by (with_reducible repeat (first | apply Kd.R_alloc | apply Kd.R_drewN | apply Kd.R_drew)); exact HO229.out) (Kd.R_base ho0) hb); have n4_ := Aside0.mk (Kd.R_lower (Kd.R_new' (Kd.R_new' (Kd.R_new' ho0 (Kd.R_lt (by (with_reducible repeat (first | apply Kd.R_alloc | apply Kd.R_drewN | apply Kd.R_drew)); exact HO214.out))) (Kd.R_lt (by (with_reducible repeat (first | apply Kd.R_alloc | apply Kd.R_drewN | apply Kd.R_drew)); exact HO221.out))) (Kd.R_lt (by (with_reducible repeat (first | apply Kd.R_alloc | apply Kd.R_drewN | apply Kd.R_drew)); exact HO229.out))) (below_size (by repeat (first | (with_reducible first | exact HB.out | apply below_alloc | apply pw_below_drewN | apply below_drew1) | exact HB.out)))); have n5_ := Aside0.mk (below_step (by repeat (first | (with_reducible first | exact HB.out | apply below_alloc | apply pw_below_drewN | apply below_drew1) | exact HB.out)) hb); clear HO214; clear HO217; clear HO221; clear HO229; clear HB; have HO214 := n0_; have HO217 := n1_; have HO221 := n2_; have HO229 := n3_; have HO237 := n4_; have HB := n5_; clear n0_ n1_ n2_ n3_ n4_ n5_; (try clear hb); (try clear hb2); (try clear hk); (try clear hi); (try clear ho0); have q32 : ((ji18) : Int) ≤ ((l0.length : Int) : Int) := of_decide_eq_true (by first | (with_reducible assumption) | assumption); obtain ⟨i032, hi032, _, hsz32, _⟩ := info_parts info73; have hroom32 : l0.length ≤ c0 := HC0.out; have hC32 : Kd.C k73 _ A0 l0.length l0 := HR0.out; have q032 : (0 : Int) ≤ ((ji18) : Int) := of_decide_eq_true (by first | (with_reducible assumption) | assumption); have hcut32 := cut_from (P := Try.prog) 41 73 .i64 Try.underlying41 hi032 2 hsz32 A0 l0.length c0 (ji18) q032 q32; have hr32 := Kd.C_drop (m := ((ji18) : Int).toNat) (c := c0) hC32 (by omega) hroom32; obtain ⟨A32, hA32⟩ : ∃ A1, A1 = (if c0 = ((ji18) : Int).toNat then A0 else (A0 : Option Addr).map (·.add (((ji18) : Int).toNat * 2))) := ⟨_, rfl⟩; obtain ⟨c32, hc32⟩ : ∃ c1, c1 = c0 - ((ji18) : Int).toNat := ⟨_, rfl⟩; have hy32 : y238.length = l0.length - ((ji18) : Int).toNat := (by rw [Ny238.out, List.length_drop] <;> omega); rw [show (l0).drop ((ji18) : Int).toNat = y238 from Ny238.out.symm] at hr32; replace hr32 : Kd.C k73 _ A32 y238.length y238 := (by rw [hA32]; exact hr32); rw [← hy32, ← hA32, ← hc32] at hcut32; have HR241 := Aside0.mk hr32; have HC241 := Aside0.mk (show y238.length ≤ c32 from by rw [hy32, hc32]; exact Nat.sub_le_sub_right hroom32 _); clear hr32 hC32 hroom32 hi032 hsz32 hc32; have KY32 := Aside0.mk hy32; have KA32 := Aside0.mk hA32; clear hy32 hA32; replace q32 := eq_true q32) | ((with_reducible refine gate_callee (f := 17) rfl ?_); refine goesL_ (some 80) rfl rfl Try.func17 (by kernel_rfl) rfl #[.slice A32 y238.length c32] rfl (by (try simp only [List.map_toArray, List.map_cons, List.map_nil]); first | done | rfl | (simp only [List.length_drop, List.length_take]; rfl)) ?_; (with_reducible refine (spoorlaw13_put.calls k _ _ y238 t242 t243 _ ?side1 ?side2 A21.out).mono ?_); (case side1 => repeat (first | exact (Kd.C_below HR241.out HB.out) | (with_reducible refine Kd.C_alloc ?_ _) | (with_reducible refine Kd.C_drewN ?_ _) | (with_reducible refine Kd.C_drew ?_))); (case side2 => exact HC241.out); rintro e w33 ⟨v244, rfl, ho0, hb⟩; refine ⟨_, rfl, ?_⟩; have n0_ := Aside0.mk (Kd.R_elder' (by (with_reducible repeat (first | apply Kd.R_alloc | apply Kd.R_drewN | apply Kd.R_drew)); exact HO214.out) (Kd.R_base ho0) hb); have n1_ := Aside0.mk (Kd.R_below (by (with_reducible repeat (first | apply Kd.R_alloc | apply Kd.R_drewN | apply Kd.R_drew)); exact HO217.out) hb); have n2_ := Aside0.mk (Kd.R_elder' (by (with_reducible repeat (first | apply Kd.R_alloc | apply Kd.R_drewN | apply Kd.R_drew)); exact HO221.out) (Kd.R_base ho0) hb); have n3_ := Aside0.mk (Kd.R_elder' (by (with_reducible repeat (first | apply Kd.R_alloc | apply Kd.R_drewN | apply Kd.R_drew)); exact HO229.out) (Kd.R_base ho0) hb); have n4_ := Aside0.mk (Kd.R_elder' (by (with_reducible repeat (first | apply Kd.R_alloc | apply Kd.R_drewN | apply Kd.R_drew)); exact HO237.out) (Kd.R_base ho0) hb); have n5_ := Aside0.mk (Kd.R_lower (Kd.R_new' (Kd.R_new' (Kd.R_new' (Kd.R_new' ho0 (Kd.R_lt (by (with_reducible repeat (first | apply Kd.R_alloc | apply Kd.R_drewN | apply Kd.R_drew)); exact HO214.out))) (Kd.R_lt (by (with_reducible repeat (first | apply Kd.R_alloc | apply Kd.R_drewN | apply Kd.R_drew)); exact HO221.out))) (Kd.R_lt (by (with_reducible repeat (first | apply Kd.R_alloc | apply Kd.R_drewN | apply Kd.R_drew)); exact HO229.out))) (Kd.R_lt (by (with_reducible repeat (first | apply Kd.R_alloc | apply Kd.R_drewN | apply Kd.R_drew)); exact HO237.out))) (below_size (by repeat (first | (with_reducible first | exact HB.out | apply below_alloc | apply pw_below_drewN | apply below_drew1) | exact HB.out)))); have n6_ := Aside0.mk (below_step (by repeat (first | (with_reducible first | exact HB.out | apply below_alloc | apply pw_below_drewN | apply below_drew1) | exact HB.out)) hb); clear HO214; clear HO217; clear HO221; clear HO229; clear HO237; clear HB; have HO214 := n0_; have HO217 := n1_; have HO221 := n2_; have HO229 := n3_; have HO237 := n4_; have HO245 := n5_; have HB := n6_; clear n0_ n1_ n2_ n3_ n4_ n5_ n6_; (try clear hb); (try clear hb2); (try clear hk); (try clear hi); (try clear ho0)))
            (try simp only [Act.put, List.setIfInBounds_toArray, List.set_cons_zero, List.set_cons_succ])
            go_cut [104] (fun v104 wc => ∃ (kq : Nat) (x104_21 : Bool), v104 = .bool x104_21 ∧ Aside0 (spoorlaw13_SketchSums.j0 kq t211 t218 t226 t234 t242 x104_21 = some r) ∧ Aside0 (kq ≤ k) ∧ Aside0 (Kd.R k61 61 wc w.heap.size (fun k_ => some k_ ≠ (v220 : Value).ownBlock ∧ some k_ ≠ (v228 : Value).ownBlock ∧ some k_ ≠ (v236 : Value).ownBlock ∧ some k_ ≠ (v244 : Value).ownBlock) v213 t211) ∧ Aside0 (Kd.R k61 61 wc w.heap.size (fun k_ => some k_ ≠ (v213 : Value).ownBlock ∧ some k_ ≠ (v228 : Value).ownBlock ∧ some k_ ≠ (v236 : Value).ownBlock ∧ some k_ ≠ (v244 : Value).ownBlock) v220 t218) ∧ Aside0 (Kd.R k61 61 wc w.heap.size (fun k_ => some k_ ≠ (v213 : Value).ownBlock ∧ some k_ ≠ (v220 : Value).ownBlock ∧ some k_ ≠ (v236 : Value).ownBlock ∧ some k_ ≠ (v244 : Value).ownBlock) v228 t226) ∧ Aside0 (Kd.R k61 61 wc w.heap.size (fun k_ => some k_ ≠ (v213 : Value).ownBlock ∧ some k_ ≠ (v220 : Value).ownBlock ∧ some k_ ≠ (v228 : Value).ownBlock ∧ some k_ ≠ (v244 : Value).ownBlock) v236 t234) ∧ Aside0 (Kd.R k61 61 wc w.heap.size (fun k_ => some k_ ≠ (v213 : Value).ownBlock ∧ some k_ ≠ (v220 : Value).ownBlock ∧ some k_ ≠ (v228 : Value).ownBlock ∧ some k_ ≠ (v236 : Value).ownBlock) v244 t242) ∧ Aside0 (Below w.heap.size w wc))
            case first =>
              have H := HC22.out
              clear HC22
              by_cases c34 : t208 = true
              · subst c34
                have H1 : (if t212 = true then (if t219 = true then (if t227 = true then (if t235 = true then (spoorlaw13_SketchSums.j0 k t211 t218 t226 t234 t242 (!t243)) else (spoorlaw13_SketchSums.j0 k t211 t218 t226 t234 t242 true)) else (spoorlaw13_SketchSums.j0 k t211 t218 t226 t234 t242 true)) else (spoorlaw13_SketchSums.j0 k t211 t218 t226 t234 t242 true)) else (spoorlaw13_SketchSums.j0 k t211 t218 t226 t234 t242 true)) = some r := by rw [if_pos rfl] at H; exact H
                clear H
                have H := H1
                clear H1
                by_cases c35 : t212 = true
                · subst c35
                  have H1 : (if t219 = true then (if t227 = true then (if t235 = true then (spoorlaw13_SketchSums.j0 k t211 t218 t226 t234 t242 (!t243)) else (spoorlaw13_SketchSums.j0 k t211 t218 t226 t234 t242 true)) else (spoorlaw13_SketchSums.j0 k t211 t218 t226 t234 t242 true)) else (spoorlaw13_SketchSums.j0 k t211 t218 t226 t234 t242 true)) = some r := by rw [if_pos rfl] at H; exact H
                  clear H
                  have H := H1
                  clear H1
                  by_cases c36 : t219 = true
                  · subst c36
                    have H1 : (if t227 = true then (if t235 = true then (spoorlaw13_SketchSums.j0 k t211 t218 t226 t234 t242 (!t243)) else (spoorlaw13_SketchSums.j0 k t211 t218 t226 t234 t242 true)) else (spoorlaw13_SketchSums.j0 k t211 t218 t226 t234 t242 true)) = some r := by rw [if_pos rfl] at H; exact H
                    clear H
                    have H := H1
                    clear H1
                    by_cases c37 : t227 = true
                    · subst c37
                      have H1 : (if t235 = true then (spoorlaw13_SketchSums.j0 k t211 t218 t226 t234 t242 (!t243)) else (spoorlaw13_SketchSums.j0 k t211 t218 t226 t234 t242 true)) = some r := by rw [if_pos rfl] at H; exact H
                      clear H
                      have H := H1
                      clear H1
                      by_cases c38 : t235 = true
                      · subst c38
                        have H1 : (spoorlaw13_SketchSums.j0 k t211 t218 t226 t234 t242 (!t243)) = some r := by rw [if_pos rfl] at H; exact H
                        clear H
                        have H := H1
                        clear H1
                        have H' := Aside0.mk H
                        clear H
                        go_wp2
                        go_meet
                        case rel => exact ⟨_, (!t243), (by first | rfl | (simp; done) | (simp [*]; done)), H', ⟨by first | omega | exact Nat.le_refl _⟩, ⟨by (with_reducible repeat (first | apply Kd.R_alloc | apply Kd.R_drewN | apply Kd.R_drew)); exact Kd.R_mono HO214.out (fun _ hk => ⟨hk.1.1.1.2, ⟨hk.1.1.2, ⟨hk.1.2, hk.2⟩⟩⟩)⟩, ⟨by (with_reducible repeat (first | apply Kd.R_alloc | apply Kd.R_drewN | apply Kd.R_drew)); exact Kd.R_mono HO221.out (fun _ hk => ⟨hk.1.1.1.2, ⟨hk.1.1.2, ⟨hk.1.2, hk.2⟩⟩⟩)⟩, ⟨by (with_reducible repeat (first | apply Kd.R_alloc | apply Kd.R_drewN | apply Kd.R_drew)); exact Kd.R_mono HO229.out (fun _ hk => ⟨hk.1.1.1.2, ⟨hk.1.1.2, ⟨hk.1.2, hk.2⟩⟩⟩)⟩, ⟨by (with_reducible repeat (first | apply Kd.R_alloc | apply Kd.R_drewN | apply Kd.R_drew)); exact Kd.R_mono HO237.out (fun _ hk => ⟨hk.1.1.1.2, ⟨hk.1.1.2, ⟨hk.1.2, hk.2⟩⟩⟩)⟩, ⟨by (with_reducible repeat (first | apply Kd.R_alloc | apply Kd.R_drewN | apply Kd.R_drew)); exact Kd.R_mono HO245.out (fun _ hk => ⟨hk.1.1.1.2, ⟨hk.1.1.2, ⟨hk.1.2, hk.2⟩⟩⟩)⟩, ⟨by repeat (first | (with_reducible first | exact HB.out | apply below_alloc | apply pw_below_drewN | apply below_drew1) | exact HB.out)⟩⟩
                      · replace c38 := Bool.eq_false_iff.mpr c38
                        subst c38
                        have H1 : (spoorlaw13_SketchSums.j0 k t211 t218 t226 t234 t242 true) = some r := by rw [if_neg (show ¬ (false = true) by decide)] at H; exact H
                        clear H
                        have H := H1
                        clear H1
                        have H' := Aside0.mk H
                        clear H
                        go_wp2
                        go_meet
                        case rel => exact ⟨_, (true), (by first | rfl | (simp; done) | (simp [*]; done)), H', ⟨by first | omega | exact Nat.le_refl _⟩, ⟨by (with_reducible repeat (first | apply Kd.R_alloc | apply Kd.R_drewN | apply Kd.R_drew)); exact Kd.R_mono HO214.out (fun _ hk => ⟨hk.1.1.1.2, ⟨hk.1.1.2, ⟨hk.1.2, hk.2⟩⟩⟩)⟩, ⟨by (with_reducible repeat (first | apply Kd.R_alloc | apply Kd.R_drewN | apply Kd.R_drew)); exact Kd.R_mono HO221.out (fun _ hk => ⟨hk.1.1.1.2, ⟨hk.1.1.2, ⟨hk.1.2, hk.2⟩⟩⟩)⟩, ⟨by (with_reducible repeat (first | apply Kd.R_alloc | apply Kd.R_drewN | apply Kd.R_drew)); exact Kd.R_mono HO229.out (fun _ hk => ⟨hk.1.1.1.2, ⟨hk.1.1.2, ⟨hk.1.2, hk.2⟩⟩⟩)⟩, ⟨by (with_reducible repeat (first | apply Kd.R_alloc | apply Kd.R_drewN | apply Kd.R_drew)); exact Kd.R_mono HO237.out (fun _ hk => ⟨hk.1.1.1.2, ⟨hk.1.1.2, ⟨hk.1.2, hk.2⟩⟩⟩)⟩, ⟨by (with_reducible repeat (first | apply Kd.R_alloc | apply Kd.R_drewN | apply Kd.R_drew)); exact Kd.R_mono HO245.out (fun _ hk => ⟨hk.1.1.1.2, ⟨hk.1.1.2, ⟨hk.1.2, hk.2⟩⟩⟩)⟩, ⟨by repeat (first | (with_reducible first | exact HB.out | apply below_alloc | apply pw_below_drewN | apply below_drew1) | exact HB.out)⟩⟩
                    · replace c37 := Bool.eq_false_iff.mpr c37
                      subst c37
                      have H1 : (spoorlaw13_SketchSums.j0 k t211 t218 t226 t234 t242 true) = some r := by rw [if_neg (show ¬ (false = true) by decide)] at H; exact H
                      clear H
                      have H := H1
                      clear H1
                      have H' := Aside0.mk H
                      clear H
                      go_wp2
                      go_meet
                      case rel => exact ⟨_, (true), (by first | rfl | (simp; done) | (simp [*]; done)), H', ⟨by first | omega | exact Nat.le_refl _⟩, ⟨by (with_reducible repeat (first | apply Kd.R_alloc | apply Kd.R_drewN | apply Kd.R_drew)); exact Kd.R_mono HO214.out (fun _ hk => ⟨hk.1.1.1.2, ⟨hk.1.1.2, ⟨hk.1.2, hk.2⟩⟩⟩)⟩, ⟨by (with_reducible repeat (first | apply Kd.R_alloc | apply Kd.R_drewN | apply Kd.R_drew)); exact Kd.R_mono HO221.out (fun _ hk => ⟨hk.1.1.1.2, ⟨hk.1.1.2, ⟨hk.1.2, hk.2⟩⟩⟩)⟩, ⟨by (with_reducible repeat (first | apply Kd.R_alloc | apply Kd.R_drewN | apply Kd.R_drew)); exact Kd.R_mono HO229.out (fun _ hk => ⟨hk.1.1.1.2, ⟨hk.1.1.2, ⟨hk.1.2, hk.2⟩⟩⟩)⟩, ⟨by (with_reducible repeat (first | apply Kd.R_alloc | apply Kd.R_drewN | apply Kd.R_drew)); exact Kd.R_mono HO237.out (fun _ hk => ⟨hk.1.1.1.2, ⟨hk.1.1.2, ⟨hk.1.2, hk.2⟩⟩⟩)⟩, ⟨by (with_reducible repeat (first | apply Kd.R_alloc | apply Kd.R_drewN | apply Kd.R_drew)); exact Kd.R_mono HO245.out (fun _ hk => ⟨hk.1.1.1.2, ⟨hk.1.1.2, ⟨hk.1.2, hk.2⟩⟩⟩)⟩, ⟨by repeat (first | (with_reducible first | exact HB.out | apply below_alloc | apply pw_below_drewN | apply below_drew1) | exact HB.out)⟩⟩
                  · replace c36 := Bool.eq_false_iff.mpr c36
                    subst c36
                    have H1 : (spoorlaw13_SketchSums.j0 k t211 t218 t226 t234 t242 true) = some r := by rw [if_neg (show ¬ (false = true) by decide)] at H; exact H
                    clear H
                    have H := H1
                    clear H1
                    have H' := Aside0.mk H
                    clear H
                    go_wp2
                    go_meet
                    case rel => exact ⟨_, (true), (by first | rfl | (simp; done) | (simp [*]; done)), H', ⟨by first | omega | exact Nat.le_refl _⟩, ⟨by (with_reducible repeat (first | apply Kd.R_alloc | apply Kd.R_drewN | apply Kd.R_drew)); exact Kd.R_mono HO214.out (fun _ hk => ⟨hk.1.1.1.2, ⟨hk.1.1.2, ⟨hk.1.2, hk.2⟩⟩⟩)⟩, ⟨by (with_reducible repeat (first | apply Kd.R_alloc | apply Kd.R_drewN | apply Kd.R_drew)); exact Kd.R_mono HO221.out (fun _ hk => ⟨hk.1.1.1.2, ⟨hk.1.1.2, ⟨hk.1.2, hk.2⟩⟩⟩)⟩, ⟨by (with_reducible repeat (first | apply Kd.R_alloc | apply Kd.R_drewN | apply Kd.R_drew)); exact Kd.R_mono HO229.out (fun _ hk => ⟨hk.1.1.1.2, ⟨hk.1.1.2, ⟨hk.1.2, hk.2⟩⟩⟩)⟩, ⟨by (with_reducible repeat (first | apply Kd.R_alloc | apply Kd.R_drewN | apply Kd.R_drew)); exact Kd.R_mono HO237.out (fun _ hk => ⟨hk.1.1.1.2, ⟨hk.1.1.2, ⟨hk.1.2, hk.2⟩⟩⟩)⟩, ⟨by (with_reducible repeat (first | apply Kd.R_alloc | apply Kd.R_drewN | apply Kd.R_drew)); exact Kd.R_mono HO245.out (fun _ hk => ⟨hk.1.1.1.2, ⟨hk.1.1.2, ⟨hk.1.2, hk.2⟩⟩⟩)⟩, ⟨by repeat (first | (with_reducible first | exact HB.out | apply below_alloc | apply pw_below_drewN | apply below_drew1) | exact HB.out)⟩⟩
                · replace c35 := Bool.eq_false_iff.mpr c35
                  subst c35
                  have H1 : (spoorlaw13_SketchSums.j0 k t211 t218 t226 t234 t242 true) = some r := by rw [if_neg (show ¬ (false = true) by decide)] at H; exact H
                  clear H
                  have H := H1
                  clear H1
                  have H' := Aside0.mk H
                  clear H
                  go_wp2
                  go_meet
                  case rel => exact ⟨_, (true), (by first | rfl | (simp; done) | (simp [*]; done)), H', ⟨by first | omega | exact Nat.le_refl _⟩, ⟨by (with_reducible repeat (first | apply Kd.R_alloc | apply Kd.R_drewN | apply Kd.R_drew)); exact Kd.R_mono HO214.out (fun _ hk => ⟨hk.1.1.1.2, ⟨hk.1.1.2, ⟨hk.1.2, hk.2⟩⟩⟩)⟩, ⟨by (with_reducible repeat (first | apply Kd.R_alloc | apply Kd.R_drewN | apply Kd.R_drew)); exact Kd.R_mono HO221.out (fun _ hk => ⟨hk.1.1.1.2, ⟨hk.1.1.2, ⟨hk.1.2, hk.2⟩⟩⟩)⟩, ⟨by (with_reducible repeat (first | apply Kd.R_alloc | apply Kd.R_drewN | apply Kd.R_drew)); exact Kd.R_mono HO229.out (fun _ hk => ⟨hk.1.1.1.2, ⟨hk.1.1.2, ⟨hk.1.2, hk.2⟩⟩⟩)⟩, ⟨by (with_reducible repeat (first | apply Kd.R_alloc | apply Kd.R_drewN | apply Kd.R_drew)); exact Kd.R_mono HO237.out (fun _ hk => ⟨hk.1.1.1.2, ⟨hk.1.1.2, ⟨hk.1.2, hk.2⟩⟩⟩)⟩, ⟨by (with_reducible repeat (first | apply Kd.R_alloc | apply Kd.R_drewN | apply Kd.R_drew)); exact Kd.R_mono HO245.out (fun _ hk => ⟨hk.1.1.1.2, ⟨hk.1.1.2, ⟨hk.1.2, hk.2⟩⟩⟩)⟩, ⟨by repeat (first | (with_reducible first | exact HB.out | apply below_alloc | apply pw_below_drewN | apply below_drew1) | exact HB.out)⟩⟩
              · replace c34 := Bool.eq_false_iff.mpr c34
                subst c34
                have H1 : (spoorlaw13_SketchSums.j0 k t211 t218 t226 t234 t242 true) = some r := by rw [if_neg (show ¬ (false = true) by decide)] at H; exact H
                clear H
                have H := H1
                clear H1
                have H' := Aside0.mk H
                clear H
                go_wp2
                go_meet
                case rel => exact ⟨_, (true), (by first | rfl | (simp; done) | (simp [*]; done)), H', ⟨by first | omega | exact Nat.le_refl _⟩, ⟨by (with_reducible repeat (first | apply Kd.R_alloc | apply Kd.R_drewN | apply Kd.R_drew)); exact Kd.R_mono HO214.out (fun _ hk => ⟨hk.1.1.1.2, ⟨hk.1.1.2, ⟨hk.1.2, hk.2⟩⟩⟩)⟩, ⟨by (with_reducible repeat (first | apply Kd.R_alloc | apply Kd.R_drewN | apply Kd.R_drew)); exact Kd.R_mono HO221.out (fun _ hk => ⟨hk.1.1.1.2, ⟨hk.1.1.2, ⟨hk.1.2, hk.2⟩⟩⟩)⟩, ⟨by (with_reducible repeat (first | apply Kd.R_alloc | apply Kd.R_drewN | apply Kd.R_drew)); exact Kd.R_mono HO229.out (fun _ hk => ⟨hk.1.1.1.2, ⟨hk.1.1.2, ⟨hk.1.2, hk.2⟩⟩⟩)⟩, ⟨by (with_reducible repeat (first | apply Kd.R_alloc | apply Kd.R_drewN | apply Kd.R_drew)); exact Kd.R_mono HO237.out (fun _ hk => ⟨hk.1.1.1.2, ⟨hk.1.1.2, ⟨hk.1.2, hk.2⟩⟩⟩)⟩, ⟨by (with_reducible repeat (first | apply Kd.R_alloc | apply Kd.R_drewN | apply Kd.R_drew)); exact Kd.R_mono HO245.out (fun _ hk => ⟨hk.1.1.1.2, ⟨hk.1.1.2, ⟨hk.1.2, hk.2⟩⟩⟩)⟩, ⟨by repeat (first | (with_reducible first | exact HB.out | apply below_alloc | apply pw_below_drewN | apply below_drew1) | exact HB.out)⟩⟩
            case rest =>
              clear HC22
              try clear c1
              try clear c2
              try clear p2
              try clear q2
              try clear c3
              try clear q3
              try clear c6
              try clear p6
              try clear c9
              try clear c11
              try clear c11b0
              try clear c11b1
              try clear c12
              try clear c12b0
              try clear c12b1
              try clear c14
              try clear c14b0
              try clear c15
              try clear c15b0
              try clear c15b1
              try clear c16
              try clear c16b0
              try clear c16b1
              try clear c17
              try clear c18
              try clear c19
              try clear c19b0
              try clear c19b1
              try clear c20
              try clear c20b0
              try clear q28
              try clear c30
              try clear q30
              try clear c32
              try clear q32
              try clear c34
              try clear c35
              try clear c36
              try clear c37
              try clear c38
              try clear q030
              try clear q032
              try clear q28
              try clear q30
              try clear q32
              obtain ⟨kq, x104_21, rfl, HA, HJ21, HO_12, HO_14, HO_16, HO_18, HO_20, HB⟩ := hcut
              cases kq with
              | zero => exact absurd HA.out (by simp [spoorlaw13_SketchSums.j0])
              | succ kj21 =>
                have H := HA.out
                clear HA
                simp only [spoorlaw13_SketchSums.j0] at H
                by_cases c39 : x104_21 = true
                · subst c39
                  have H1 : (some false) = some r := by rw [if_pos rfl] at H; exact H
                  clear H
                  have H := H1
                  clear H1
                  obtain rfl := Option.some.inj H
                  go_wp2
                  go_ret
                  exact ⟨by first | rfl | (simp [errW_none, errW_some] <;> rfl) | (simp only [← hji18]; first | rfl | (simp [errW_none, errW_some] <;> rfl)) | (simp [*, errW_none, errW_some] <;> rfl), by repeat (first | (with_reducible first | exact HB.out | apply below_alloc | apply pw_below_drewN | apply below_drew1) | exact HB.out)⟩
                · replace c39 := Bool.eq_false_iff.mpr c39
                  subst c39
                  have H1 : ((sketch_Merge.f t226 t234).bind fun bt246 => ((sketch_Merge.f bt246.1 t242).bind fun bt250 => ((sketch_Merge.f t234 t242).bind fun bt254 => ((sketch_Merge.f t226 bt254.1).bind fun bt258 => ((sketch_Merge.f t234 t226).bind fun bt262 => ((sketch_Merge.f t211 ([] : List (S61))).bind fun bt266 => (if bt246.2 = 0 then (if bt250.2 = 0 then (if bt254.2 = 0 then (if bt258.2 = 0 then (if bt262.2 = 0 then (if bt266.2 = 0 then ((sketch_Check.f bt250.1).bind fun t270 => (spoorlaw13_SketchSums.j1 kj21 t211 t218 bt246.1 bt250.1 bt258.1 bt262.1 bt266.1 (t270 != 0))) else (spoorlaw13_SketchSums.j1 kj21 t211 t218 bt246.1 bt250.1 bt258.1 bt262.1 bt266.1 true)) else (spoorlaw13_SketchSums.j1 kj21 t211 t218 bt246.1 bt250.1 bt258.1 bt262.1 bt266.1 true)) else (spoorlaw13_SketchSums.j1 kj21 t211 t218 bt246.1 bt250.1 bt258.1 bt262.1 bt266.1 true)) else (spoorlaw13_SketchSums.j1 kj21 t211 t218 bt246.1 bt250.1 bt258.1 bt262.1 bt266.1 true)) else (spoorlaw13_SketchSums.j1 kj21 t211 t218 bt246.1 bt250.1 bt258.1 bt262.1 bt266.1 true)) else (spoorlaw13_SketchSums.j1 kj21 t211 t218 bt246.1 bt250.1 bt258.1 bt262.1 bt266.1 true)))))))) = some r := by rw [if_neg (show ¬ (false = true) by decide)] at H; exact H
                  clear H
                  have H := H1
                  clear H1
                  replace H := Option.bind_eq_some_iff.mp H
                  obtain ⟨⟨t246, t247⟩, A400, H⟩ := H
                  replace H : ((sketch_Merge.f t246 t242).bind fun bt250 => ((sketch_Merge.f t234 t242).bind fun bt254 => ((sketch_Merge.f t226 bt254.1).bind fun bt258 => ((sketch_Merge.f t234 t226).bind fun bt262 => ((sketch_Merge.f t211 ([] : List (S61))).bind fun bt266 => (if t247 = 0 then (if bt250.2 = 0 then (if bt254.2 = 0 then (if bt258.2 = 0 then (if bt262.2 = 0 then (if bt266.2 = 0 then ((sketch_Check.f bt250.1).bind fun t270 => (spoorlaw13_SketchSums.j1 kj21 t211 t218 t246 bt250.1 bt258.1 bt262.1 bt266.1 (t270 != 0))) else (spoorlaw13_SketchSums.j1 kj21 t211 t218 t246 bt250.1 bt258.1 bt262.1 bt266.1 true)) else (spoorlaw13_SketchSums.j1 kj21 t211 t218 t246 bt250.1 bt258.1 bt262.1 bt266.1 true)) else (spoorlaw13_SketchSums.j1 kj21 t211 t218 t246 bt250.1 bt258.1 bt262.1 bt266.1 true)) else (spoorlaw13_SketchSums.j1 kj21 t211 t218 t246 bt250.1 bt258.1 bt262.1 bt266.1 true)) else (spoorlaw13_SketchSums.j1 kj21 t211 t218 t246 bt250.1 bt258.1 bt262.1 bt266.1 true)) else (spoorlaw13_SketchSums.j1 kj21 t211 t218 t246 bt250.1 bt258.1 bt262.1 bt266.1 true))))))) = some r := H
                  have A40 := Aside0.mk A400
                  clear A400
                  replace H := Option.bind_eq_some_iff.mp H
                  obtain ⟨⟨t250, t251⟩, A410, H⟩ := H
                  replace H : ((sketch_Merge.f t234 t242).bind fun bt254 => ((sketch_Merge.f t226 bt254.1).bind fun bt258 => ((sketch_Merge.f t234 t226).bind fun bt262 => ((sketch_Merge.f t211 ([] : List (S61))).bind fun bt266 => (if t247 = 0 then (if t251 = 0 then (if bt254.2 = 0 then (if bt258.2 = 0 then (if bt262.2 = 0 then (if bt266.2 = 0 then ((sketch_Check.f t250).bind fun t270 => (spoorlaw13_SketchSums.j1 kj21 t211 t218 t246 t250 bt258.1 bt262.1 bt266.1 (t270 != 0))) else (spoorlaw13_SketchSums.j1 kj21 t211 t218 t246 t250 bt258.1 bt262.1 bt266.1 true)) else (spoorlaw13_SketchSums.j1 kj21 t211 t218 t246 t250 bt258.1 bt262.1 bt266.1 true)) else (spoorlaw13_SketchSums.j1 kj21 t211 t218 t246 t250 bt258.1 bt262.1 bt266.1 true)) else (spoorlaw13_SketchSums.j1 kj21 t211 t218 t246 t250 bt258.1 bt262.1 bt266.1 true)) else (spoorlaw13_SketchSums.j1 kj21 t211 t218 t246 t250 bt258.1 bt262.1 bt266.1 true)) else (spoorlaw13_SketchSums.j1 kj21 t211 t218 t246 t250 bt258.1 bt262.1 bt266.1 true)))))) = some r := H
                  have A41 := Aside0.mk A410
                  clear A410
                  replace H := Option.bind_eq_some_iff.mp H
                  obtain ⟨⟨t254, t255⟩, A420, H⟩ := H
                  replace H : ((sketch_Merge.f t226 t254).bind fun bt258 => ((sketch_Merge.f t234 t226).bind fun bt262 => ((sketch_Merge.f t211 ([] : List (S61))).bind fun bt266 => (if t247 = 0 then (if t251 = 0 then (if t255 = 0 then (if bt258.2 = 0 then (if bt262.2 = 0 then (if bt266.2 = 0 then ((sketch_Check.f t250).bind fun t270 => (spoorlaw13_SketchSums.j1 kj21 t211 t218 t246 t250 bt258.1 bt262.1 bt266.1 (t270 != 0))) else (spoorlaw13_SketchSums.j1 kj21 t211 t218 t246 t250 bt258.1 bt262.1 bt266.1 true)) else (spoorlaw13_SketchSums.j1 kj21 t211 t218 t246 t250 bt258.1 bt262.1 bt266.1 true)) else (spoorlaw13_SketchSums.j1 kj21 t211 t218 t246 t250 bt258.1 bt262.1 bt266.1 true)) else (spoorlaw13_SketchSums.j1 kj21 t211 t218 t246 t250 bt258.1 bt262.1 bt266.1 true)) else (spoorlaw13_SketchSums.j1 kj21 t211 t218 t246 t250 bt258.1 bt262.1 bt266.1 true)) else (spoorlaw13_SketchSums.j1 kj21 t211 t218 t246 t250 bt258.1 bt262.1 bt266.1 true))))) = some r := H
                  have A42 := Aside0.mk A420
                  clear A420
                  replace H := Option.bind_eq_some_iff.mp H
                  obtain ⟨⟨t258, t259⟩, A430, H⟩ := H
                  replace H : ((sketch_Merge.f t234 t226).bind fun bt262 => ((sketch_Merge.f t211 ([] : List (S61))).bind fun bt266 => (if t247 = 0 then (if t251 = 0 then (if t255 = 0 then (if t259 = 0 then (if bt262.2 = 0 then (if bt266.2 = 0 then ((sketch_Check.f t250).bind fun t270 => (spoorlaw13_SketchSums.j1 kj21 t211 t218 t246 t250 t258 bt262.1 bt266.1 (t270 != 0))) else (spoorlaw13_SketchSums.j1 kj21 t211 t218 t246 t250 t258 bt262.1 bt266.1 true)) else (spoorlaw13_SketchSums.j1 kj21 t211 t218 t246 t250 t258 bt262.1 bt266.1 true)) else (spoorlaw13_SketchSums.j1 kj21 t211 t218 t246 t250 t258 bt262.1 bt266.1 true)) else (spoorlaw13_SketchSums.j1 kj21 t211 t218 t246 t250 t258 bt262.1 bt266.1 true)) else (spoorlaw13_SketchSums.j1 kj21 t211 t218 t246 t250 t258 bt262.1 bt266.1 true)) else (spoorlaw13_SketchSums.j1 kj21 t211 t218 t246 t250 t258 bt262.1 bt266.1 true)))) = some r := H
                  have A43 := Aside0.mk A430
                  clear A430
                  replace H := Option.bind_eq_some_iff.mp H
                  obtain ⟨⟨t262, t263⟩, A440, H⟩ := H
                  replace H : ((sketch_Merge.f t211 ([] : List (S61))).bind fun bt266 => (if t247 = 0 then (if t251 = 0 then (if t255 = 0 then (if t259 = 0 then (if t263 = 0 then (if bt266.2 = 0 then ((sketch_Check.f t250).bind fun t270 => (spoorlaw13_SketchSums.j1 kj21 t211 t218 t246 t250 t258 t262 bt266.1 (t270 != 0))) else (spoorlaw13_SketchSums.j1 kj21 t211 t218 t246 t250 t258 t262 bt266.1 true)) else (spoorlaw13_SketchSums.j1 kj21 t211 t218 t246 t250 t258 t262 bt266.1 true)) else (spoorlaw13_SketchSums.j1 kj21 t211 t218 t246 t250 t258 t262 bt266.1 true)) else (spoorlaw13_SketchSums.j1 kj21 t211 t218 t246 t250 t258 t262 bt266.1 true)) else (spoorlaw13_SketchSums.j1 kj21 t211 t218 t246 t250 t258 t262 bt266.1 true)) else (spoorlaw13_SketchSums.j1 kj21 t211 t218 t246 t250 t258 t262 bt266.1 true))) = some r := H
                  have A44 := Aside0.mk A440
                  clear A440
                  replace H := Option.bind_eq_some_iff.mp H
                  obtain ⟨⟨t266, t267⟩, A450, H⟩ := H
                  replace H : (if t247 = 0 then (if t251 = 0 then (if t255 = 0 then (if t259 = 0 then (if t263 = 0 then (if t267 = 0 then ((sketch_Check.f t250).bind fun t270 => (spoorlaw13_SketchSums.j1 kj21 t211 t218 t246 t250 t258 t262 t266 (t270 != 0))) else (spoorlaw13_SketchSums.j1 kj21 t211 t218 t246 t250 t258 t262 t266 true)) else (spoorlaw13_SketchSums.j1 kj21 t211 t218 t246 t250 t258 t262 t266 true)) else (spoorlaw13_SketchSums.j1 kj21 t211 t218 t246 t250 t258 t262 t266 true)) else (spoorlaw13_SketchSums.j1 kj21 t211 t218 t246 t250 t258 t262 t266 true)) else (spoorlaw13_SketchSums.j1 kj21 t211 t218 t246 t250 t258 t262 t266 true)) else (spoorlaw13_SketchSums.j1 kj21 t211 t218 t246 t250 t258 t262 t266 true)) = some r := H
                  have A45 := Aside0.mk A450
                  clear A450
                  have HC46 := Aside0.mk H
                  clear H
                  obtain ⟨Ao47, co47, eo47⟩ := Kd.R_slice HO_16.out
                  subst eo47
                  obtain ⟨Ao48, co48, eo48⟩ := Kd.R_slice HO_18.out
                  subst eo48
                  go_upto_region 17 with (first | ((with_reducible refine gate_callee (f := 19) rfl ?_); refine goesL_ (some 108) rfl rfl Try.func19 (by kernel_rfl) rfl #[.slice Ao47 t226.length co47, .slice Ao48 t234.length co48] rfl (by (try simp only [List.map_toArray, List.map_cons, List.map_nil]); first | done | rfl | (simp only [List.length_drop, List.length_take]; rfl)) ?_; (with_reducible refine (sketch_Merge.calls _ _ t226 _ _ t234 t246 t247 _ ?side1 ?side2 ?side3 ?side4 A40.out).mono ?_); (case side1 => repeat (first | exact (Kd.R_reads' HO_16.out).2.2 | (with_reducible refine Kd.C_alloc ?_ _) | (with_reducible refine Kd.C_drewN ?_ _) | (with_reducible refine Kd.C_drew ?_))); (case side2 => exact (Kd.R_reads' HO_16.out).2.1); (case side3 => repeat (first | exact (Kd.R_reads' HO_18.out).2.2 | (with_reducible refine Kd.C_alloc ?_ _) | (with_reducible refine Kd.C_drewN ?_ _) | (with_reducible refine Kd.C_drew ?_))); (case side4 => exact (Kd.R_reads' HO_18.out).2.1); rintro e w49 ⟨v248, rfl, ho0, hb⟩; refine ⟨_, rfl, ?_⟩; have n0_ := Aside0.mk (Kd.R_elder' (by (with_reducible repeat (first | apply Kd.R_alloc | apply Kd.R_drewN | apply Kd.R_drew)); exact HO_12.out) (Kd.R_base ho0) hb); have n1_ := Aside0.mk (Kd.R_elder' (by (with_reducible repeat (first | apply Kd.R_alloc | apply Kd.R_drewN | apply Kd.R_drew)); exact HO_14.out) (Kd.R_base ho0) hb); have n2_ := Aside0.mk (Kd.R_elder' (by (with_reducible repeat (first | apply Kd.R_alloc | apply Kd.R_drewN | apply Kd.R_drew)); exact HO_16.out) (Kd.R_base ho0) hb); have n3_ := Aside0.mk (Kd.R_elder' (by (with_reducible repeat (first | apply Kd.R_alloc | apply Kd.R_drewN | apply Kd.R_drew)); exact HO_18.out) (Kd.R_base ho0) hb); have n4_ := Aside0.mk (Kd.R_elder' (by (with_reducible repeat (first | apply Kd.R_alloc | apply Kd.R_drewN | apply Kd.R_drew)); exact HO_20.out) (Kd.R_base ho0) hb); have n5_ := Aside0.mk (Kd.R_lower (Kd.R_new' (Kd.R_new' (Kd.R_new' (Kd.R_new' (Kd.R_new' ho0 (Kd.R_lt (by (with_reducible repeat (first | apply Kd.R_alloc | apply Kd.R_drewN | apply Kd.R_drew)); exact HO_12.out))) (Kd.R_lt (by (with_reducible repeat (first | apply Kd.R_alloc | apply Kd.R_drewN | apply Kd.R_drew)); exact HO_14.out))) (Kd.R_lt (by (with_reducible repeat (first | apply Kd.R_alloc | apply Kd.R_drewN | apply Kd.R_drew)); exact HO_16.out))) (Kd.R_lt (by (with_reducible repeat (first | apply Kd.R_alloc | apply Kd.R_drewN | apply Kd.R_drew)); exact HO_18.out))) (Kd.R_lt (by (with_reducible repeat (first | apply Kd.R_alloc | apply Kd.R_drewN | apply Kd.R_drew)); exact HO_20.out))) (below_size (by repeat (first | (with_reducible first | exact HB.out | apply below_alloc | apply pw_below_drewN | apply below_drew1) | exact HB.out)))); have n6_ := Aside0.mk (below_step (by repeat (first | (with_reducible first | exact HB.out | apply below_alloc | apply pw_below_drewN | apply below_drew1) | exact HB.out)) hb); clear HO_12; clear HO_14; clear HO_16; clear HO_18; clear HO_20; clear HB; have HO_12 := n0_; have HO_14 := n1_; have HO_16 := n2_; have HO_18 := n3_; have HO_20 := n4_; have HO249 := n5_; have HB := n6_; clear n0_ n1_ n2_ n3_ n4_ n5_ n6_; (try clear hb); (try clear hb2); (try clear hk); (try clear hi); (try clear ho0); obtain ⟨Ao50, co50, eo50⟩ := Kd.R_slice HO249.out; subst eo50; obtain ⟨Ao51, co51, eo51⟩ := Kd.R_slice HO_20.out; subst eo51) | ((with_reducible refine gate_callee (f := 19) rfl ?_); refine goesL_ (some 114) rfl rfl Try.func19 (by kernel_rfl) rfl #[.slice Ao50 t246.length co50, .slice Ao51 t242.length co51] rfl (by (try simp only [List.map_toArray, List.map_cons, List.map_nil]); first | done | rfl | (simp only [List.length_drop, List.length_take]; rfl)) ?_; (with_reducible refine (sketch_Merge.calls _ _ t246 _ _ t242 t250 t251 _ ?side1 ?side2 ?side3 ?side4 A41.out).mono ?_); (case side1 => repeat (first | exact (Kd.R_reads' HO249.out).2.2 | (with_reducible refine Kd.C_alloc ?_ _) | (with_reducible refine Kd.C_drewN ?_ _) | (with_reducible refine Kd.C_drew ?_))); (case side2 => exact (Kd.R_reads' HO249.out).2.1); (case side3 => repeat (first | exact (Kd.R_reads' HO_20.out).2.2 | (with_reducible refine Kd.C_alloc ?_ _) | (with_reducible refine Kd.C_drewN ?_ _) | (with_reducible refine Kd.C_drew ?_))); (case side4 => exact (Kd.R_reads' HO_20.out).2.1); rintro e w52 ⟨v252, rfl, ho0, hb⟩; refine ⟨_, rfl, ?_⟩; have n0_ := Aside0.mk (Kd.R_elder' (by (with_reducible repeat (first | apply Kd.R_alloc | apply Kd.R_drewN | apply Kd.R_drew)); exact HO_12.out) (Kd.R_base ho0) hb); have n1_ := Aside0.mk (Kd.R_elder' (by (with_reducible repeat (first | apply Kd.R_alloc | apply Kd.R_drewN | apply Kd.R_drew)); exact HO_14.out) (Kd.R_base ho0) hb); have n2_ := Aside0.mk (Kd.R_elder' (by (with_reducible repeat (first | apply Kd.R_alloc | apply Kd.R_drewN | apply Kd.R_drew)); exact HO_16.out) (Kd.R_base ho0) hb); have n3_ := Aside0.mk (Kd.R_elder' (by (with_reducible repeat (first | apply Kd.R_alloc | apply Kd.R_drewN | apply Kd.R_drew)); exact HO_18.out) (Kd.R_base ho0) hb); have n4_ := Aside0.mk (Kd.R_elder' (by (with_reducible repeat (first | apply Kd.R_alloc | apply Kd.R_drewN | apply Kd.R_drew)); exact HO_20.out) (Kd.R_base ho0) hb); have n5_ := Aside0.mk (Kd.R_elder' (by (with_reducible repeat (first | apply Kd.R_alloc | apply Kd.R_drewN | apply Kd.R_drew)); exact HO249.out) (Kd.R_base ho0) hb); have n6_ := Aside0.mk (Kd.R_lower (Kd.R_new' (Kd.R_new' (Kd.R_new' (Kd.R_new' (Kd.R_new' (Kd.R_new' ho0 (Kd.R_lt (by (with_reducible repeat (first | apply Kd.R_alloc | apply Kd.R_drewN | apply Kd.R_drew)); exact HO_12.out))) (Kd.R_lt (by (with_reducible repeat (first | apply Kd.R_alloc | apply Kd.R_drewN | apply Kd.R_drew)); exact HO_14.out))) (Kd.R_lt (by (with_reducible repeat (first | apply Kd.R_alloc | apply Kd.R_drewN | apply Kd.R_drew)); exact HO_16.out))) (Kd.R_lt (by (with_reducible repeat (first | apply Kd.R_alloc | apply Kd.R_drewN | apply Kd.R_drew)); exact HO_18.out))) (Kd.R_lt (by (with_reducible repeat (first | apply Kd.R_alloc | apply Kd.R_drewN | apply Kd.R_drew)); exact HO_20.out))) (Kd.R_lt (by (with_reducible repeat (first | apply Kd.R_alloc | apply Kd.R_drewN | apply Kd.R_drew)); exact HO249.out))) (below_size (by repeat (first | (with_reducible first | exact HB.out | apply below_alloc | apply pw_below_drewN | apply below_drew1) | exact HB.out)))); have n7_ := Aside0.mk (below_step (by repeat (first | (with_reducible first | exact HB.out | apply below_alloc | apply pw_below_drewN | apply below_drew1) | exact HB.out)) hb); clear HO_12; clear HO_14; clear HO_16; clear HO_18; clear HO_20; clear HO249; clear HB; have HO_12 := n0_; have HO_14 := n1_; have HO_16 := n2_; have HO_18 := n3_; have HO_20 := n4_; have HO249 := n5_; have HO253 := n6_; have HB := n7_; clear n0_ n1_ n2_ n3_ n4_ n5_ n6_ n7_; (try clear hb); (try clear hb2); (try clear hk); (try clear hi); (try clear ho0)) | ((with_reducible refine gate_callee (f := 19) rfl ?_); refine goesL_ (some 120) rfl rfl Try.func19 (by kernel_rfl) rfl #[.slice Ao48 t234.length co48, .slice Ao51 t242.length co51] rfl (by (try simp only [List.map_toArray, List.map_cons, List.map_nil]); first | done | rfl | (simp only [List.length_drop, List.length_take]; rfl)) ?_; (with_reducible refine (sketch_Merge.calls _ _ t234 _ _ t242 t254 t255 _ ?side1 ?side2 ?side3 ?side4 A42.out).mono ?_); (case side1 => repeat (first | exact (Kd.R_reads' HO_18.out).2.2 | (with_reducible refine Kd.C_alloc ?_ _) | (with_reducible refine Kd.C_drewN ?_ _) | (with_reducible refine Kd.C_drew ?_))); (case side2 => exact (Kd.R_reads' HO_18.out).2.1); (case side3 => repeat (first | exact (Kd.R_reads' HO_20.out).2.2 | (with_reducible refine Kd.C_alloc ?_ _) | (with_reducible refine Kd.C_drewN ?_ _) | (with_reducible refine Kd.C_drew ?_))); (case side4 => exact (Kd.R_reads' HO_20.out).2.1); rintro e w53 ⟨v256, rfl, ho0, hb⟩; refine ⟨_, rfl, ?_⟩; have n0_ := Aside0.mk (Kd.R_elder' (by (with_reducible repeat (first | apply Kd.R_alloc | apply Kd.R_drewN | apply Kd.R_drew)); exact HO_12.out) (Kd.R_base ho0) hb); have n1_ := Aside0.mk (Kd.R_elder' (by (with_reducible repeat (first | apply Kd.R_alloc | apply Kd.R_drewN | apply Kd.R_drew)); exact HO_14.out) (Kd.R_base ho0) hb); have n2_ := Aside0.mk (Kd.R_elder' (by (with_reducible repeat (first | apply Kd.R_alloc | apply Kd.R_drewN | apply Kd.R_drew)); exact HO_16.out) (Kd.R_base ho0) hb); have n3_ := Aside0.mk (Kd.R_elder' (by (with_reducible repeat (first | apply Kd.R_alloc | apply Kd.R_drewN | apply Kd.R_drew)); exact HO_18.out) (Kd.R_base ho0) hb); have n4_ := Aside0.mk (Kd.R_elder' (by (with_reducible repeat (first | apply Kd.R_alloc | apply Kd.R_drewN | apply Kd.R_drew)); exact HO_20.out) (Kd.R_base ho0) hb); have n5_ := Aside0.mk (Kd.R_elder' (by (with_reducible repeat (first | apply Kd.R_alloc | apply Kd.R_drewN | apply Kd.R_drew)); exact HO249.out) (Kd.R_base ho0) hb); have n6_ := Aside0.mk (Kd.R_elder' (by (with_reducible repeat (first | apply Kd.R_alloc | apply Kd.R_drewN | apply Kd.R_drew)); exact HO253.out) (Kd.R_base ho0) hb); have n7_ := Aside0.mk (Kd.R_lower (Kd.R_new' (Kd.R_new' (Kd.R_new' (Kd.R_new' (Kd.R_new' (Kd.R_new' (Kd.R_new' ho0 (Kd.R_lt (by (with_reducible repeat (first | apply Kd.R_alloc | apply Kd.R_drewN | apply Kd.R_drew)); exact HO_12.out))) (Kd.R_lt (by (with_reducible repeat (first | apply Kd.R_alloc | apply Kd.R_drewN | apply Kd.R_drew)); exact HO_14.out))) (Kd.R_lt (by (with_reducible repeat (first | apply Kd.R_alloc | apply Kd.R_drewN | apply Kd.R_drew)); exact HO_16.out))) (Kd.R_lt (by (with_reducible repeat (first | apply Kd.R_alloc | apply Kd.R_drewN | apply Kd.R_drew)); exact HO_18.out))) (Kd.R_lt (by (with_reducible repeat (first | apply Kd.R_alloc | apply Kd.R_drewN | apply Kd.R_drew)); exact HO_20.out))) (Kd.R_lt (by (with_reducible repeat (first | apply Kd.R_alloc | apply Kd.R_drewN | apply Kd.R_drew)); exact HO249.out))) (Kd.R_lt (by (with_reducible repeat (first | apply Kd.R_alloc | apply Kd.R_drewN | apply Kd.R_drew)); exact HO253.out))) (below_size (by repeat (first | (with_reducible first | exact HB.out | apply below_alloc | apply pw_below_drewN | apply below_drew1) | exact HB.out)))); have n8_ := Aside0.mk (below_step (by repeat (first | (with_reducible first | exact HB.out | apply below_alloc | apply pw_below_drewN | apply below_drew1) | exact HB.out)) hb); clear HO_12; clear HO_14; clear HO_16; clear HO_18; clear HO_20; clear HO249; clear HO253; clear HB; have HO_12 := n0_; have HO_14 := n1_; have HO_16 := n2_; have HO_18 := n3_; have HO_20 := n4_; have HO249 := n5_; have HO253 := n6_; have HO257 := n7_; have HB := n8_; clear n0_ n1_ n2_ n3_ n4_ n5_ n6_ n7_ n8_; (try clear hb); (try clear hb2); (try clear hk); (try clear hi); (try clear ho0); obtain ⟨Ao54, co54, eo54⟩ := Kd.R_slice HO257.out; subst eo54) | ((with_reducible refine gate_callee (f := 19) rfl ?_); refine goesL_ (some 126) rfl rfl Try.func19 (by kernel_rfl) rfl #[.slice Ao47 t226.length co47, .slice Ao54 t254.length co54] rfl (by (try simp only [List.map_toArray, List.map_cons, List.map_nil]); first | done | rfl | (simp only [List.length_drop, List.length_take]; rfl)) ?_; (with_reducible refine (sketch_Merge.calls _ _ t226 _ _ t254 t258 t259 _ ?side1 ?side2 ?side3 ?side4 A43.out).mono ?_); (case side1 => repeat (first | exact (Kd.R_reads' HO_16.out).2.2 | (with_reducible refine Kd.C_alloc ?_ _) | (with_reducible refine Kd.C_drewN ?_ _) | (with_reducible refine Kd.C_drew ?_))); (case side2 => exact (Kd.R_reads' HO_16.out).2.1); (case side3 => repeat (first | exact (Kd.R_reads' HO257.out).2.2 | (with_reducible refine Kd.C_alloc ?_ _) | (with_reducible refine Kd.C_drewN ?_ _) | (with_reducible refine Kd.C_drew ?_))); (case side4 => exact (Kd.R_reads' HO257.out).2.1); rintro e w55 ⟨v260, rfl, ho0, hb⟩; refine ⟨_, rfl, ?_⟩; have n0_ := Aside0.mk (Kd.R_elder' (by (with_reducible repeat (first | apply Kd.R_alloc | apply Kd.R_drewN | apply Kd.R_drew)); exact HO_12.out) (Kd.R_base ho0) hb); have n1_ := Aside0.mk (Kd.R_elder' (by (with_reducible repeat (first | apply Kd.R_alloc | apply Kd.R_drewN | apply Kd.R_drew)); exact HO_14.out) (Kd.R_base ho0) hb); have n2_ := Aside0.mk (Kd.R_elder' (by (with_reducible repeat (first | apply Kd.R_alloc | apply Kd.R_drewN | apply Kd.R_drew)); exact HO_16.out) (Kd.R_base ho0) hb); have n3_ := Aside0.mk (Kd.R_elder' (by (with_reducible repeat (first | apply Kd.R_alloc | apply Kd.R_drewN | apply Kd.R_drew)); exact HO_18.out) (Kd.R_base ho0) hb); have n4_ := Aside0.mk (Kd.R_elder' (by (with_reducible repeat (first | apply Kd.R_alloc | apply Kd.R_drewN | apply Kd.R_drew)); exact HO_20.out) (Kd.R_base ho0) hb); have n5_ := Aside0.mk (Kd.R_elder' (by (with_reducible repeat (first | apply Kd.R_alloc | apply Kd.R_drewN | apply Kd.R_drew)); exact HO249.out) (Kd.R_base ho0) hb); have n6_ := Aside0.mk (Kd.R_elder' (by (with_reducible repeat (first | apply Kd.R_alloc | apply Kd.R_drewN | apply Kd.R_drew)); exact HO253.out) (Kd.R_base ho0) hb); have n7_ := Aside0.mk (Kd.R_elder' (by (with_reducible repeat (first | apply Kd.R_alloc | apply Kd.R_drewN | apply Kd.R_drew)); exact HO257.out) (Kd.R_base ho0) hb); have n8_ := Aside0.mk (Kd.R_lower (Kd.R_new' (Kd.R_new' (Kd.R_new' (Kd.R_new' (Kd.R_new' (Kd.R_new' (Kd.R_new' (Kd.R_new' ho0 (Kd.R_lt (by (with_reducible repeat (first | apply Kd.R_alloc | apply Kd.R_drewN | apply Kd.R_drew)); exact HO_12.out))) (Kd.R_lt (by (with_reducible repeat (first | apply Kd.R_alloc | apply Kd.R_drewN | apply Kd.R_drew)); exact HO_14.out))) (Kd.R_lt (by (with_reducible repeat (first | apply Kd.R_alloc | apply Kd.R_drewN | apply Kd.R_drew)); exact HO_16.out))) (Kd.R_lt (by (with_reducible repeat (first | apply Kd.R_alloc | apply Kd.R_drewN | apply Kd.R_drew)); exact HO_18.out))) (Kd.R_lt (by (with_reducible repeat (first | apply Kd.R_alloc | apply Kd.R_drewN | apply Kd.R_drew)); exact HO_20.out))) (Kd.R_lt (by (with_reducible repeat (first | apply Kd.R_alloc | apply Kd.R_drewN | apply Kd.R_drew)); exact HO249.out))) (Kd.R_lt (by (with_reducible repeat (first | apply Kd.R_alloc | apply Kd.R_drewN | apply Kd.R_drew)); exact HO253.out))) (Kd.R_lt (by (with_reducible repeat (first | apply Kd.R_alloc | apply Kd.R_drewN | apply Kd.R_drew)); exact HO257.out))) (below_size (by repeat (first | (with_reducible first | exact HB.out | apply below_alloc | apply pw_below_drewN | apply below_drew1) | exact HB.out)))); have n9_ := Aside0.mk (below_step (by repeat (first | (with_reducible first | exact HB.out | apply below_alloc | apply pw_below_drewN | apply below_drew1) | exact HB.out)) hb); clear HO_12; clear HO_14; clear HO_16; clear HO_18; clear HO_20; clear HO249; clear HO253; clear HO257; clear HB; have HO_12 := n0_; have HO_14 := n1_; have HO_16 := n2_; have HO_18 := n3_; have HO_20 := n4_; have HO249 := n5_; have HO253 := n6_; have HO257 := n7_; have HO261 := n8_; have HB := n9_; clear n0_ n1_ n2_ n3_ n4_ n5_ n6_ n7_ n8_ n9_; (try clear hb); (try clear hb2); (try clear hk); (try clear hi); (try clear ho0)) | ((with_reducible refine gate_callee (f := 19) rfl ?_); refine goesL_ (some 132) rfl rfl Try.func19 (by kernel_rfl) rfl #[.slice Ao48 t234.length co48, .slice Ao47 t226.length co47] rfl (by (try simp only [List.map_toArray, List.map_cons, List.map_nil]); first | done | rfl | (simp only [List.length_drop, List.length_take]; rfl)) ?_; (with_reducible refine (sketch_Merge.calls _ _ t234 _ _ t226 t262 t263 _ ?side1 ?side2 ?side3 ?side4 A44.out).mono ?_); (case side1 => repeat (first | exact (Kd.R_reads' HO_18.out).2.2 | (with_reducible refine Kd.C_alloc ?_ _) | (with_reducible refine Kd.C_drewN ?_ _) | (with_reducible refine Kd.C_drew ?_))); (case side2 => exact (Kd.R_reads' HO_18.out).2.1); (case side3 => repeat (first | exact (Kd.R_reads' HO_16.out).2.2 | (with_reducible refine Kd.C_alloc ?_ _) | (with_reducible refine Kd.C_drewN ?_ _) | (with_reducible refine Kd.C_drew ?_))); (case side4 => exact (Kd.R_reads' HO_16.out).2.1); rintro e w56 ⟨v264, rfl, ho0, hb⟩; refine ⟨_, rfl, ?_⟩; have n0_ := Aside0.mk (Kd.R_elder' (by (with_reducible repeat (first | apply Kd.R_alloc | apply Kd.R_drewN | apply Kd.R_drew)); exact HO_12.out) (Kd.R_base ho0) hb); have n1_ := Aside0.mk (Kd.R_elder' (by (with_reducible repeat (first | apply Kd.R_alloc | apply Kd.R_drewN | apply Kd.R_drew)); exact HO_14.out) (Kd.R_base ho0) hb); have n2_ := Aside0.mk (Kd.R_elder' (by (with_reducible repeat (first | apply Kd.R_alloc | apply Kd.R_drewN | apply Kd.R_drew)); exact HO_16.out) (Kd.R_base ho0) hb); have n3_ := Aside0.mk (Kd.R_elder' (by (with_reducible repeat (first | apply Kd.R_alloc | apply Kd.R_drewN | apply Kd.R_drew)); exact HO_18.out) (Kd.R_base ho0) hb); have n4_ := Aside0.mk (Kd.R_elder' (by (with_reducible repeat (first | apply Kd.R_alloc | apply Kd.R_drewN | apply Kd.R_drew)); exact HO_20.out) (Kd.R_base ho0) hb); have n5_ := Aside0.mk (Kd.R_elder' (by (with_reducible repeat (first | apply Kd.R_alloc | apply Kd.R_drewN | apply Kd.R_drew)); exact HO249.out) (Kd.R_base ho0) hb); have n6_ := Aside0.mk (Kd.R_elder' (by (with_reducible repeat (first | apply Kd.R_alloc | apply Kd.R_drewN | apply Kd.R_drew)); exact HO253.out) (Kd.R_base ho0) hb); have n7_ := Aside0.mk (Kd.R_elder' (by (with_reducible repeat (first | apply Kd.R_alloc | apply Kd.R_drewN | apply Kd.R_drew)); exact HO257.out) (Kd.R_base ho0) hb); have n8_ := Aside0.mk (Kd.R_elder' (by (with_reducible repeat (first | apply Kd.R_alloc | apply Kd.R_drewN | apply Kd.R_drew)); exact HO261.out) (Kd.R_base ho0) hb); have n9_ := Aside0.mk (Kd.R_lower (Kd.R_new' (Kd.R_new' (Kd.R_new' (Kd.R_new' (Kd.R_new' (Kd.R_new' (Kd.R_new' (Kd.R_new' (Kd.R_new' ho0 (Kd.R_lt (by (with_reducible repeat (first | apply Kd.R_alloc | apply Kd.R_drewN | apply Kd.R_drew)); exact HO_12.out))) (Kd.R_lt (by (with_reducible repeat (first | apply Kd.R_alloc | apply Kd.R_drewN | apply Kd.R_drew)); exact HO_14.out))) (Kd.R_lt (by (with_reducible repeat (first | apply Kd.R_alloc | apply Kd.R_drewN | apply Kd.R_drew)); exact HO_16.out))) (Kd.R_lt (by (with_reducible repeat (first | apply Kd.R_alloc | apply Kd.R_drewN | apply Kd.R_drew)); exact HO_18.out))) (Kd.R_lt (by (with_reducible repeat (first | apply Kd.R_alloc | apply Kd.R_drewN | apply Kd.R_drew)); exact HO_20.out))) (Kd.R_lt (by (with_reducible repeat (first | apply Kd.R_alloc | apply Kd.R_drewN | apply Kd.R_drew)); exact HO249.out))) (Kd.R_lt (by (with_reducible repeat (first | apply Kd.R_alloc | apply Kd.R_drewN | apply Kd.R_drew)); exact HO253.out))) (Kd.R_lt (by (with_reducible repeat (first | apply Kd.R_alloc | apply Kd.R_drewN | apply Kd.R_drew)); exact HO257.out))) (Kd.R_lt (by (with_reducible repeat (first | apply Kd.R_alloc | apply Kd.R_drewN | apply Kd.R_drew)); exact HO261.out))) (below_size (by repeat (first | (with_reducible first | exact HB.out | apply below_alloc | apply pw_below_drewN | apply below_drew1) | exact HB.out)))); have n10_ := Aside0.mk (below_step (by repeat (first | (with_reducible first | exact HB.out | apply below_alloc | apply pw_below_drewN | apply below_drew1) | exact HB.out)) hb); clear HO_12; clear HO_14; clear HO_16; clear HO_18; clear HO_20; clear HO249; clear HO253; clear HO257; clear HO261; clear HB; have HO_12 := n0_; have HO_14 := n1_; have HO_16 := n2_; have HO_18 := n3_; have HO_20 := n4_; have HO249 := n5_; have HO253 := n6_; have HO257 := n7_; have HO261 := n8_; have HO265 := n9_; have HB := n10_; clear n0_ n1_ n2_ n3_ n4_ n5_ n6_ n7_ n8_ n9_ n10_; (try clear hb); (try clear hb2); (try clear hk); (try clear hi); (try clear ho0); obtain ⟨Ao57, co57, eo57⟩ := Kd.R_slice HO_12.out; subst eo57) | ((with_reducible refine gate_callee (f := 19) rfl ?_); refine goesL_ (some 137) rfl rfl Try.func19 (by kernel_rfl) rfl #[.slice Ao57 t211.length co57, .slice none 0 0] rfl (by (try simp only [List.map_toArray, List.map_cons, List.map_nil]); first | done | rfl | (simp only [List.length_drop, List.length_take]; rfl)) ?_; (refine (sketch_Merge.calls _ _ t211 _ _ ([] : List (S61)) t266 t267 _ ?side1 ?side2 ?side3 ?side4 A45.out).mono ?_); (case side1 => repeat (first | exact (Kd.R_reads' HO_12.out).2.2 | (with_reducible refine Kd.C_alloc ?_ _) | (with_reducible refine Kd.C_drewN ?_ _) | (with_reducible refine Kd.C_drew ?_))); (case side2 => exact (Kd.R_reads' HO_12.out).2.1); (case side3 => exact Kd.C_nil _ _); (case side4 => exact Nat.le_refl _); rintro e w58 ⟨v268, rfl, ho0, hb⟩; refine ⟨_, rfl, ?_⟩; have n0_ := Aside0.mk (Kd.R_elder' (by (with_reducible repeat (first | apply Kd.R_alloc | apply Kd.R_drewN | apply Kd.R_drew)); exact HO_12.out) (Kd.R_base ho0) hb); have n1_ := Aside0.mk (Kd.R_elder' (by (with_reducible repeat (first | apply Kd.R_alloc | apply Kd.R_drewN | apply Kd.R_drew)); exact HO_14.out) (Kd.R_base ho0) hb); have n2_ := Aside0.mk (Kd.R_elder' (by (with_reducible repeat (first | apply Kd.R_alloc | apply Kd.R_drewN | apply Kd.R_drew)); exact HO_16.out) (Kd.R_base ho0) hb); have n3_ := Aside0.mk (Kd.R_elder' (by (with_reducible repeat (first | apply Kd.R_alloc | apply Kd.R_drewN | apply Kd.R_drew)); exact HO_18.out) (Kd.R_base ho0) hb); have n4_ := Aside0.mk (Kd.R_elder' (by (with_reducible repeat (first | apply Kd.R_alloc | apply Kd.R_drewN | apply Kd.R_drew)); exact HO_20.out) (Kd.R_base ho0) hb); have n5_ := Aside0.mk (Kd.R_elder' (by (with_reducible repeat (first | apply Kd.R_alloc | apply Kd.R_drewN | apply Kd.R_drew)); exact HO249.out) (Kd.R_base ho0) hb); have n6_ := Aside0.mk (Kd.R_elder' (by (with_reducible repeat (first | apply Kd.R_alloc | apply Kd.R_drewN | apply Kd.R_drew)); exact HO253.out) (Kd.R_base ho0) hb); have n7_ := Aside0.mk (Kd.R_elder' (by (with_reducible repeat (first | apply Kd.R_alloc | apply Kd.R_drewN | apply Kd.R_drew)); exact HO257.out) (Kd.R_base ho0) hb); have n8_ := Aside0.mk (Kd.R_elder' (by (with_reducible repeat (first | apply Kd.R_alloc | apply Kd.R_drewN | apply Kd.R_drew)); exact HO261.out) (Kd.R_base ho0) hb); have n9_ := Aside0.mk (Kd.R_elder' (by (with_reducible repeat (first | apply Kd.R_alloc | apply Kd.R_drewN | apply Kd.R_drew)); exact HO265.out) (Kd.R_base ho0) hb); have n10_ := Aside0.mk (Kd.R_lower (Kd.R_new' (Kd.R_new' (Kd.R_new' (Kd.R_new' (Kd.R_new' (Kd.R_new' (Kd.R_new' (Kd.R_new' (Kd.R_new' (Kd.R_new' ho0 (Kd.R_lt (by (with_reducible repeat (first | apply Kd.R_alloc | apply Kd.R_drewN | apply Kd.R_drew)); exact HO_12.out))) (Kd.R_lt (by (with_reducible repeat (first | apply Kd.R_alloc | apply Kd.R_drewN | apply Kd.R_drew)); exact HO_14.out))) (Kd.R_lt (by (with_reducible repeat (first | apply Kd.R_alloc | apply Kd.R_drewN | apply Kd.R_drew)); exact HO_16.out))) (Kd.R_lt (by (with_reducible repeat (first | apply Kd.R_alloc | apply Kd.R_drewN | apply Kd.R_drew)); exact HO_18.out))) (Kd.R_lt (by (with_reducible repeat (first | apply Kd.R_alloc | apply Kd.R_drewN | apply Kd.R_drew)); exact HO_20.out))) (Kd.R_lt (by (with_reducible repeat (first | apply Kd.R_alloc | apply Kd.R_drewN | apply Kd.R_drew)); exact HO249.out))) (Kd.R_lt (by (with_reducible repeat (first | apply Kd.R_alloc | apply Kd.R_drewN | apply Kd.R_drew)); exact HO253.out))) (Kd.R_lt (by (with_reducible repeat (first | apply Kd.R_alloc | apply Kd.R_drewN | apply Kd.R_drew)); exact HO257.out))) (Kd.R_lt (by (with_reducible repeat (first | apply Kd.R_alloc | apply Kd.R_drewN | apply Kd.R_drew)); exact HO261.out))) (Kd.R_lt (by (with_reducible repeat (first | apply Kd.R_alloc | apply Kd.R_drewN | apply Kd.R_drew)); exact HO265.out))) (below_size (by repeat (first | (with_reducible first | exact HB.out | apply below_alloc | apply pw_below_drewN | apply below_drew1) | exact HB.out)))); have n11_ := Aside0.mk (below_step (by repeat (first | (with_reducible first | exact HB.out | apply below_alloc | apply pw_below_drewN | apply below_drew1) | exact HB.out)) hb); clear HO_12; clear HO_14; clear HO_16; clear HO_18; clear HO_20; clear HO249; clear HO253; clear HO257; clear HO261; clear HO265; clear HB; have HO_12 := n0_; have HO_14 := n1_; have HO_16 := n2_; have HO_18 := n3_; have HO_20 := n4_; have HO249 := n5_; have HO253 := n6_; have HO257 := n7_; have HO261 := n8_; have HO265 := n9_; have HO269 := n10_; have HB := n11_; clear n0_ n1_ n2_ n3_ n4_ n5_ n6_ n7_ n8_ n9_ n10_ n11_; (try clear hb); (try clear hb2); (try clear hk); (try clear hi); (try clear ho0)))
                  (try simp only [Act.put, List.setIfInBounds_toArray, List.set_cons_zero, List.set_cons_succ])
                  go_cut [166] (fun v166 wc => ∃ (kq : Nat) (x166_45 : Bool), v166 = .bool x166_45 ∧ Aside0 (spoorlaw13_SketchSums.j1 kq t211 t218 t246 t250 t258 t262 t266 x166_45 = some r) ∧ Aside0 (kq ≤ kj21) ∧ Aside0 (Kd.R k61 61 wc w.heap.size (fun k_ => some k_ ≠ (v220 : Value).ownBlock ∧ some k_ ≠ ((.slice Ao50 t246.length co50) : Value).ownBlock ∧ some k_ ≠ (v252 : Value).ownBlock ∧ some k_ ≠ (v260 : Value).ownBlock ∧ some k_ ≠ (v264 : Value).ownBlock ∧ some k_ ≠ (v268 : Value).ownBlock) (.slice Ao57 t211.length co57) t211) ∧ Aside0 (Kd.R k61 61 wc w.heap.size (fun k_ => some k_ ≠ ((.slice Ao57 t211.length co57) : Value).ownBlock ∧ some k_ ≠ ((.slice Ao50 t246.length co50) : Value).ownBlock ∧ some k_ ≠ (v252 : Value).ownBlock ∧ some k_ ≠ (v260 : Value).ownBlock ∧ some k_ ≠ (v264 : Value).ownBlock ∧ some k_ ≠ (v268 : Value).ownBlock) v220 t218) ∧ Aside0 (Kd.R k61 61 wc w.heap.size (fun k_ => some k_ ≠ ((.slice Ao57 t211.length co57) : Value).ownBlock ∧ some k_ ≠ (v220 : Value).ownBlock ∧ some k_ ≠ (v252 : Value).ownBlock ∧ some k_ ≠ (v260 : Value).ownBlock ∧ some k_ ≠ (v264 : Value).ownBlock ∧ some k_ ≠ (v268 : Value).ownBlock) (.slice Ao50 t246.length co50) t246) ∧ Aside0 (Kd.R k61 61 wc w.heap.size (fun k_ => some k_ ≠ ((.slice Ao57 t211.length co57) : Value).ownBlock ∧ some k_ ≠ (v220 : Value).ownBlock ∧ some k_ ≠ ((.slice Ao50 t246.length co50) : Value).ownBlock ∧ some k_ ≠ (v260 : Value).ownBlock ∧ some k_ ≠ (v264 : Value).ownBlock ∧ some k_ ≠ (v268 : Value).ownBlock) v252 t250) ∧ Aside0 (Kd.R k61 61 wc w.heap.size (fun k_ => some k_ ≠ ((.slice Ao57 t211.length co57) : Value).ownBlock ∧ some k_ ≠ (v220 : Value).ownBlock ∧ some k_ ≠ ((.slice Ao50 t246.length co50) : Value).ownBlock ∧ some k_ ≠ (v252 : Value).ownBlock ∧ some k_ ≠ (v264 : Value).ownBlock ∧ some k_ ≠ (v268 : Value).ownBlock) v260 t258) ∧ Aside0 (Kd.R k61 61 wc w.heap.size (fun k_ => some k_ ≠ ((.slice Ao57 t211.length co57) : Value).ownBlock ∧ some k_ ≠ (v220 : Value).ownBlock ∧ some k_ ≠ ((.slice Ao50 t246.length co50) : Value).ownBlock ∧ some k_ ≠ (v252 : Value).ownBlock ∧ some k_ ≠ (v260 : Value).ownBlock ∧ some k_ ≠ (v268 : Value).ownBlock) v264 t262) ∧ Aside0 (Kd.R k61 61 wc w.heap.size (fun k_ => some k_ ≠ ((.slice Ao57 t211.length co57) : Value).ownBlock ∧ some k_ ≠ (v220 : Value).ownBlock ∧ some k_ ≠ ((.slice Ao50 t246.length co50) : Value).ownBlock ∧ some k_ ≠ (v252 : Value).ownBlock ∧ some k_ ≠ (v260 : Value).ownBlock ∧ some k_ ≠ (v264 : Value).ownBlock) v268 t266) ∧ Aside0 (Below w.heap.size w wc))
                  case first =>
                    have H := HC46.out
                    clear HC46
                    by_cases c59 : t247 = 0
                    · rw [if_pos c59] at H
                      have c59b0 : (t247 == 0) = true := beq_iff_eq.mpr c59
                      have c59b1 : (t247 != 0) = false := bne_eq_false_iff_eq.mpr c59
                      clear c59
                      (first | rw [c59b0] | (simp only [i64_w, i32_w]; rw [c59b0]) | skip)
                      by_cases c60 : t251 = 0
                      · rw [if_pos c60] at H
                        have c60b0 : (t251 == 0) = true := beq_iff_eq.mpr c60
                        have c60b1 : (t251 != 0) = false := bne_eq_false_iff_eq.mpr c60
                        clear c60
                        by_cases c61 : t255 = 0
                        · rw [if_pos c61] at H
                          have c61b0 : (t255 == 0) = true := beq_iff_eq.mpr c61
                          have c61b1 : (t255 != 0) = false := bne_eq_false_iff_eq.mpr c61
                          clear c61
                          by_cases c62 : t259 = 0
                          · rw [if_pos c62] at H
                            have c62b0 : (t259 == 0) = true := beq_iff_eq.mpr c62
                            have c62b1 : (t259 != 0) = false := bne_eq_false_iff_eq.mpr c62
                            clear c62
                            by_cases c63 : t263 = 0
                            · rw [if_pos c63] at H
                              have c63b0 : (t263 == 0) = true := beq_iff_eq.mpr c63
                              have c63b1 : (t263 != 0) = false := bne_eq_false_iff_eq.mpr c63
                              clear c63
                              by_cases c64 : t267 = 0
                              · rw [if_pos c64] at H
                                have c64b0 : (t267 == 0) = true := beq_iff_eq.mpr c64
                                have c64b1 : (t267 != 0) = false := bne_eq_false_iff_eq.mpr c64
                                clear c64
                                replace H := Option.bind_eq_some_iff.mp H
                                obtain ⟨t270, A650, H⟩ := H
                                replace H : (spoorlaw13_SketchSums.j1 kj21 t211 t218 t246 t250 t258 t262 t266 (t270 != 0)) = some r := H
                                have A65 := Aside0.mk A650
                                clear A650
                                have H' := Aside0.mk H
                                clear H
                                obtain ⟨Ao66, co66, eo66⟩ := Kd.R_slice HO253.out
                                subst eo66
                                go_wp2_with (first | (go_at_call 20; (with_reducible refine (sketch_Check.calls _ _ t250 t270 _ ?side1 ?side2 A65.out).mono ?_); (case side1 => repeat (first | exact (Kd.R_reads' HO253.out).2.2 | (with_reducible refine Kd.C_alloc ?_ _) | (with_reducible refine Kd.C_drewN ?_ _) | (with_reducible refine Kd.C_drew ?_))); (case side2 => exact (Kd.R_reads' HO253.out).2.1); rintro e w67 ⟨rfl, hb⟩; have n0_ := Aside0.mk (Kd.R_below (by (with_reducible repeat (first | apply Kd.R_alloc | apply Kd.R_drewN | apply Kd.R_drew)); exact HO_12.out) hb); have n1_ := Aside0.mk (Kd.R_below (by (with_reducible repeat (first | apply Kd.R_alloc | apply Kd.R_drewN | apply Kd.R_drew)); exact HO_14.out) hb); have n2_ := Aside0.mk (Kd.R_below (by (with_reducible repeat (first | apply Kd.R_alloc | apply Kd.R_drewN | apply Kd.R_drew)); exact HO_16.out) hb); have n3_ := Aside0.mk (Kd.R_below (by (with_reducible repeat (first | apply Kd.R_alloc | apply Kd.R_drewN | apply Kd.R_drew)); exact HO_18.out) hb); have n4_ := Aside0.mk (Kd.R_below (by (with_reducible repeat (first | apply Kd.R_alloc | apply Kd.R_drewN | apply Kd.R_drew)); exact HO_20.out) hb); have n5_ := Aside0.mk (Kd.R_below (by (with_reducible repeat (first | apply Kd.R_alloc | apply Kd.R_drewN | apply Kd.R_drew)); exact HO249.out) hb); have n6_ := Aside0.mk (Kd.R_below (by (with_reducible repeat (first | apply Kd.R_alloc | apply Kd.R_drewN | apply Kd.R_drew)); exact HO253.out) hb); have n7_ := Aside0.mk (Kd.R_below (by (with_reducible repeat (first | apply Kd.R_alloc | apply Kd.R_drewN | apply Kd.R_drew)); exact HO257.out) hb); have n8_ := Aside0.mk (Kd.R_below (by (with_reducible repeat (first | apply Kd.R_alloc | apply Kd.R_drewN | apply Kd.R_drew)); exact HO261.out) hb); have n9_ := Aside0.mk (Kd.R_below (by (with_reducible repeat (first | apply Kd.R_alloc | apply Kd.R_drewN | apply Kd.R_drew)); exact HO265.out) hb); have n10_ := Aside0.mk (Kd.R_below (by (with_reducible repeat (first | apply Kd.R_alloc | apply Kd.R_drewN | apply Kd.R_drew)); exact HO269.out) hb); have n11_ := Aside0.mk (below_step (by repeat (first | (with_reducible first | exact HB.out | apply below_alloc | apply pw_below_drewN | apply below_drew1) | exact HB.out)) hb); clear HO_12; clear HO_14; clear HO_16; clear HO_18; clear HO_20; clear HO249; clear HO253; clear HO257; clear HO261; clear HO265; clear HO269; clear HB; have HO_12 := n0_; have HO_14 := n1_; have HO_16 := n2_; have HO_18 := n3_; have HO_20 := n4_; have HO249 := n5_; have HO253 := n6_; have HO257 := n7_; have HO261 := n8_; have HO265 := n9_; have HO269 := n10_; have HB := n11_; clear n0_ n1_ n2_ n3_ n4_ n5_ n6_ n7_ n8_ n9_ n10_ n11_; (try clear hb); (try clear hb2); (try clear hk); (try clear hi)))
                                go_meet
                                case rel => exact ⟨_, ((t270 != 0)), (by first | rfl | (simp; done) | (simp [*]; done)), H', ⟨by have := HJ21.out; first | omega | exact Nat.le_refl _⟩, ⟨by (with_reducible repeat (first | apply Kd.R_alloc | apply Kd.R_drewN | apply Kd.R_drew)); exact Kd.R_mono HO_12.out (fun _ hk => ⟨hk.1.1.1.1.1.1.1, ⟨hk.1.1.1.1.1.2, ⟨hk.1.1.1.1.2, ⟨hk.1.1.2, ⟨hk.1.2, hk.2⟩⟩⟩⟩⟩)⟩, ⟨by (with_reducible repeat (first | apply Kd.R_alloc | apply Kd.R_drewN | apply Kd.R_drew)); exact Kd.R_mono HO_14.out (fun _ hk => ⟨hk.1.1.1.1.1.1.1, ⟨hk.1.1.1.1.1.2, ⟨hk.1.1.1.1.2, ⟨hk.1.1.2, ⟨hk.1.2, hk.2⟩⟩⟩⟩⟩)⟩, ⟨by (with_reducible repeat (first | apply Kd.R_alloc | apply Kd.R_drewN | apply Kd.R_drew)); exact Kd.R_mono HO249.out (fun _ hk => ⟨hk.1.1.1.1.1.1.1.1.1.2, ⟨hk.1.1.1.1.1.1.1.1.2, ⟨hk.1.1.1.1.2, ⟨hk.1.1.2, ⟨hk.1.2, hk.2⟩⟩⟩⟩⟩)⟩, ⟨by (with_reducible repeat (first | apply Kd.R_alloc | apply Kd.R_drewN | apply Kd.R_drew)); exact Kd.R_mono HO253.out (fun _ hk => ⟨hk.1.1.1.1.1.1.1.1.1.2, ⟨hk.1.1.1.1.1.1.1.1.2, ⟨hk.1.1.1.1.2, ⟨hk.1.1.2, ⟨hk.1.2, hk.2⟩⟩⟩⟩⟩)⟩, ⟨by (with_reducible repeat (first | apply Kd.R_alloc | apply Kd.R_drewN | apply Kd.R_drew)); exact Kd.R_mono HO261.out (fun _ hk => ⟨hk.1.1.1.1.1.1.1.1.1.2, ⟨hk.1.1.1.1.1.1.1.1.2, ⟨hk.1.1.1.1.2, ⟨hk.1.1.1.2, ⟨hk.1.2, hk.2⟩⟩⟩⟩⟩)⟩, ⟨by (with_reducible repeat (first | apply Kd.R_alloc | apply Kd.R_drewN | apply Kd.R_drew)); exact Kd.R_mono HO265.out (fun _ hk => ⟨hk.1.1.1.1.1.1.1.1.1.2, ⟨hk.1.1.1.1.1.1.1.1.2, ⟨hk.1.1.1.1.2, ⟨hk.1.1.1.2, ⟨hk.1.2, hk.2⟩⟩⟩⟩⟩)⟩, ⟨by (with_reducible repeat (first | apply Kd.R_alloc | apply Kd.R_drewN | apply Kd.R_drew)); exact Kd.R_mono HO269.out (fun _ hk => ⟨hk.1.1.1.1.1.1.1.1.1.2, ⟨hk.1.1.1.1.1.1.1.1.2, ⟨hk.1.1.1.1.2, ⟨hk.1.1.1.2, ⟨hk.1.2, hk.2⟩⟩⟩⟩⟩)⟩, ⟨by repeat (first | (with_reducible first | exact HB.out | apply below_alloc | apply pw_below_drewN | apply below_drew1) | exact HB.out)⟩⟩
                              · rw [if_neg c64] at H
                                have c64b0 : (t267 == 0) = false := beq_eq_false_iff_ne.mpr c64
                                have c64b1 : (t267 != 0) = true := bne_iff_ne.mpr c64
                                have H' := Aside0.mk H
                                clear H
                                go_wp2
                                go_meet
                                case rel => exact ⟨_, (true), (by first | rfl | (simp; done) | (simp [*]; done)), H', ⟨by have := HJ21.out; first | omega | exact Nat.le_refl _⟩, ⟨by (with_reducible repeat (first | apply Kd.R_alloc | apply Kd.R_drewN | apply Kd.R_drew)); exact Kd.R_mono HO_12.out (fun _ hk => ⟨hk.1.1.1.1.1.1.1, ⟨hk.1.1.1.1.1.2, ⟨hk.1.1.1.1.2, ⟨hk.1.1.2, ⟨hk.1.2, hk.2⟩⟩⟩⟩⟩)⟩, ⟨by (with_reducible repeat (first | apply Kd.R_alloc | apply Kd.R_drewN | apply Kd.R_drew)); exact Kd.R_mono HO_14.out (fun _ hk => ⟨hk.1.1.1.1.1.1.1, ⟨hk.1.1.1.1.1.2, ⟨hk.1.1.1.1.2, ⟨hk.1.1.2, ⟨hk.1.2, hk.2⟩⟩⟩⟩⟩)⟩, ⟨by (with_reducible repeat (first | apply Kd.R_alloc | apply Kd.R_drewN | apply Kd.R_drew)); exact Kd.R_mono HO249.out (fun _ hk => ⟨hk.1.1.1.1.1.1.1.1.1.2, ⟨hk.1.1.1.1.1.1.1.1.2, ⟨hk.1.1.1.1.2, ⟨hk.1.1.2, ⟨hk.1.2, hk.2⟩⟩⟩⟩⟩)⟩, ⟨by (with_reducible repeat (first | apply Kd.R_alloc | apply Kd.R_drewN | apply Kd.R_drew)); exact Kd.R_mono HO253.out (fun _ hk => ⟨hk.1.1.1.1.1.1.1.1.1.2, ⟨hk.1.1.1.1.1.1.1.1.2, ⟨hk.1.1.1.1.2, ⟨hk.1.1.2, ⟨hk.1.2, hk.2⟩⟩⟩⟩⟩)⟩, ⟨by (with_reducible repeat (first | apply Kd.R_alloc | apply Kd.R_drewN | apply Kd.R_drew)); exact Kd.R_mono HO261.out (fun _ hk => ⟨hk.1.1.1.1.1.1.1.1.1.2, ⟨hk.1.1.1.1.1.1.1.1.2, ⟨hk.1.1.1.1.2, ⟨hk.1.1.1.2, ⟨hk.1.2, hk.2⟩⟩⟩⟩⟩)⟩, ⟨by (with_reducible repeat (first | apply Kd.R_alloc | apply Kd.R_drewN | apply Kd.R_drew)); exact Kd.R_mono HO265.out (fun _ hk => ⟨hk.1.1.1.1.1.1.1.1.1.2, ⟨hk.1.1.1.1.1.1.1.1.2, ⟨hk.1.1.1.1.2, ⟨hk.1.1.1.2, ⟨hk.1.2, hk.2⟩⟩⟩⟩⟩)⟩, ⟨by (with_reducible repeat (first | apply Kd.R_alloc | apply Kd.R_drewN | apply Kd.R_drew)); exact Kd.R_mono HO269.out (fun _ hk => ⟨hk.1.1.1.1.1.1.1.1.1.2, ⟨hk.1.1.1.1.1.1.1.1.2, ⟨hk.1.1.1.1.2, ⟨hk.1.1.1.2, ⟨hk.1.2, hk.2⟩⟩⟩⟩⟩)⟩, ⟨by repeat (first | (with_reducible first | exact HB.out | apply below_alloc | apply pw_below_drewN | apply below_drew1) | exact HB.out)⟩⟩
                            · rw [if_neg c63] at H
                              have c63b0 : (t263 == 0) = false := beq_eq_false_iff_ne.mpr c63
                              have c63b1 : (t263 != 0) = true := bne_iff_ne.mpr c63
                              have H' := Aside0.mk H
                              clear H
                              go_wp2
                              go_meet
                              case rel => exact ⟨_, (true), (by first | rfl | (simp; done) | (simp [*]; done)), H', ⟨by have := HJ21.out; first | omega | exact Nat.le_refl _⟩, ⟨by (with_reducible repeat (first | apply Kd.R_alloc | apply Kd.R_drewN | apply Kd.R_drew)); exact Kd.R_mono HO_12.out (fun _ hk => ⟨hk.1.1.1.1.1.1.1, ⟨hk.1.1.1.1.1.2, ⟨hk.1.1.1.1.2, ⟨hk.1.1.2, ⟨hk.1.2, hk.2⟩⟩⟩⟩⟩)⟩, ⟨by (with_reducible repeat (first | apply Kd.R_alloc | apply Kd.R_drewN | apply Kd.R_drew)); exact Kd.R_mono HO_14.out (fun _ hk => ⟨hk.1.1.1.1.1.1.1, ⟨hk.1.1.1.1.1.2, ⟨hk.1.1.1.1.2, ⟨hk.1.1.2, ⟨hk.1.2, hk.2⟩⟩⟩⟩⟩)⟩, ⟨by (with_reducible repeat (first | apply Kd.R_alloc | apply Kd.R_drewN | apply Kd.R_drew)); exact Kd.R_mono HO249.out (fun _ hk => ⟨hk.1.1.1.1.1.1.1.1.1.2, ⟨hk.1.1.1.1.1.1.1.1.2, ⟨hk.1.1.1.1.2, ⟨hk.1.1.2, ⟨hk.1.2, hk.2⟩⟩⟩⟩⟩)⟩, ⟨by (with_reducible repeat (first | apply Kd.R_alloc | apply Kd.R_drewN | apply Kd.R_drew)); exact Kd.R_mono HO253.out (fun _ hk => ⟨hk.1.1.1.1.1.1.1.1.1.2, ⟨hk.1.1.1.1.1.1.1.1.2, ⟨hk.1.1.1.1.2, ⟨hk.1.1.2, ⟨hk.1.2, hk.2⟩⟩⟩⟩⟩)⟩, ⟨by (with_reducible repeat (first | apply Kd.R_alloc | apply Kd.R_drewN | apply Kd.R_drew)); exact Kd.R_mono HO261.out (fun _ hk => ⟨hk.1.1.1.1.1.1.1.1.1.2, ⟨hk.1.1.1.1.1.1.1.1.2, ⟨hk.1.1.1.1.2, ⟨hk.1.1.1.2, ⟨hk.1.2, hk.2⟩⟩⟩⟩⟩)⟩, ⟨by (with_reducible repeat (first | apply Kd.R_alloc | apply Kd.R_drewN | apply Kd.R_drew)); exact Kd.R_mono HO265.out (fun _ hk => ⟨hk.1.1.1.1.1.1.1.1.1.2, ⟨hk.1.1.1.1.1.1.1.1.2, ⟨hk.1.1.1.1.2, ⟨hk.1.1.1.2, ⟨hk.1.2, hk.2⟩⟩⟩⟩⟩)⟩, ⟨by (with_reducible repeat (first | apply Kd.R_alloc | apply Kd.R_drewN | apply Kd.R_drew)); exact Kd.R_mono HO269.out (fun _ hk => ⟨hk.1.1.1.1.1.1.1.1.1.2, ⟨hk.1.1.1.1.1.1.1.1.2, ⟨hk.1.1.1.1.2, ⟨hk.1.1.1.2, ⟨hk.1.2, hk.2⟩⟩⟩⟩⟩)⟩, ⟨by repeat (first | (with_reducible first | exact HB.out | apply below_alloc | apply pw_below_drewN | apply below_drew1) | exact HB.out)⟩⟩
                          · rw [if_neg c62] at H
                            have c62b0 : (t259 == 0) = false := beq_eq_false_iff_ne.mpr c62
                            have c62b1 : (t259 != 0) = true := bne_iff_ne.mpr c62
                            have H' := Aside0.mk H
                            clear H
                            go_wp2
                            go_meet
                            case rel => exact ⟨_, (true), (by first | rfl | (simp; done) | (simp [*]; done)), H', ⟨by have := HJ21.out; first | omega | exact Nat.le_refl _⟩, ⟨by (with_reducible repeat (first | apply Kd.R_alloc | apply Kd.R_drewN | apply Kd.R_drew)); exact Kd.R_mono HO_12.out (fun _ hk => ⟨hk.1.1.1.1.1.1.1, ⟨hk.1.1.1.1.1.2, ⟨hk.1.1.1.1.2, ⟨hk.1.1.2, ⟨hk.1.2, hk.2⟩⟩⟩⟩⟩)⟩, ⟨by (with_reducible repeat (first | apply Kd.R_alloc | apply Kd.R_drewN | apply Kd.R_drew)); exact Kd.R_mono HO_14.out (fun _ hk => ⟨hk.1.1.1.1.1.1.1, ⟨hk.1.1.1.1.1.2, ⟨hk.1.1.1.1.2, ⟨hk.1.1.2, ⟨hk.1.2, hk.2⟩⟩⟩⟩⟩)⟩, ⟨by (with_reducible repeat (first | apply Kd.R_alloc | apply Kd.R_drewN | apply Kd.R_drew)); exact Kd.R_mono HO249.out (fun _ hk => ⟨hk.1.1.1.1.1.1.1.1.1.2, ⟨hk.1.1.1.1.1.1.1.1.2, ⟨hk.1.1.1.1.2, ⟨hk.1.1.2, ⟨hk.1.2, hk.2⟩⟩⟩⟩⟩)⟩, ⟨by (with_reducible repeat (first | apply Kd.R_alloc | apply Kd.R_drewN | apply Kd.R_drew)); exact Kd.R_mono HO253.out (fun _ hk => ⟨hk.1.1.1.1.1.1.1.1.1.2, ⟨hk.1.1.1.1.1.1.1.1.2, ⟨hk.1.1.1.1.2, ⟨hk.1.1.2, ⟨hk.1.2, hk.2⟩⟩⟩⟩⟩)⟩, ⟨by (with_reducible repeat (first | apply Kd.R_alloc | apply Kd.R_drewN | apply Kd.R_drew)); exact Kd.R_mono HO261.out (fun _ hk => ⟨hk.1.1.1.1.1.1.1.1.1.2, ⟨hk.1.1.1.1.1.1.1.1.2, ⟨hk.1.1.1.1.2, ⟨hk.1.1.1.2, ⟨hk.1.2, hk.2⟩⟩⟩⟩⟩)⟩, ⟨by (with_reducible repeat (first | apply Kd.R_alloc | apply Kd.R_drewN | apply Kd.R_drew)); exact Kd.R_mono HO265.out (fun _ hk => ⟨hk.1.1.1.1.1.1.1.1.1.2, ⟨hk.1.1.1.1.1.1.1.1.2, ⟨hk.1.1.1.1.2, ⟨hk.1.1.1.2, ⟨hk.1.2, hk.2⟩⟩⟩⟩⟩)⟩, ⟨by (with_reducible repeat (first | apply Kd.R_alloc | apply Kd.R_drewN | apply Kd.R_drew)); exact Kd.R_mono HO269.out (fun _ hk => ⟨hk.1.1.1.1.1.1.1.1.1.2, ⟨hk.1.1.1.1.1.1.1.1.2, ⟨hk.1.1.1.1.2, ⟨hk.1.1.1.2, ⟨hk.1.2, hk.2⟩⟩⟩⟩⟩)⟩, ⟨by repeat (first | (with_reducible first | exact HB.out | apply below_alloc | apply pw_below_drewN | apply below_drew1) | exact HB.out)⟩⟩
                        · rw [if_neg c61] at H
                          have c61b0 : (t255 == 0) = false := beq_eq_false_iff_ne.mpr c61
                          have c61b1 : (t255 != 0) = true := bne_iff_ne.mpr c61
                          have H' := Aside0.mk H
                          clear H
                          go_wp2
                          go_meet
                          case rel => exact ⟨_, (true), (by first | rfl | (simp; done) | (simp [*]; done)), H', ⟨by have := HJ21.out; first | omega | exact Nat.le_refl _⟩, ⟨by (with_reducible repeat (first | apply Kd.R_alloc | apply Kd.R_drewN | apply Kd.R_drew)); exact Kd.R_mono HO_12.out (fun _ hk => ⟨hk.1.1.1.1.1.1.1, ⟨hk.1.1.1.1.1.2, ⟨hk.1.1.1.1.2, ⟨hk.1.1.2, ⟨hk.1.2, hk.2⟩⟩⟩⟩⟩)⟩, ⟨by (with_reducible repeat (first | apply Kd.R_alloc | apply Kd.R_drewN | apply Kd.R_drew)); exact Kd.R_mono HO_14.out (fun _ hk => ⟨hk.1.1.1.1.1.1.1, ⟨hk.1.1.1.1.1.2, ⟨hk.1.1.1.1.2, ⟨hk.1.1.2, ⟨hk.1.2, hk.2⟩⟩⟩⟩⟩)⟩, ⟨by (with_reducible repeat (first | apply Kd.R_alloc | apply Kd.R_drewN | apply Kd.R_drew)); exact Kd.R_mono HO249.out (fun _ hk => ⟨hk.1.1.1.1.1.1.1.1.1.2, ⟨hk.1.1.1.1.1.1.1.1.2, ⟨hk.1.1.1.1.2, ⟨hk.1.1.2, ⟨hk.1.2, hk.2⟩⟩⟩⟩⟩)⟩, ⟨by (with_reducible repeat (first | apply Kd.R_alloc | apply Kd.R_drewN | apply Kd.R_drew)); exact Kd.R_mono HO253.out (fun _ hk => ⟨hk.1.1.1.1.1.1.1.1.1.2, ⟨hk.1.1.1.1.1.1.1.1.2, ⟨hk.1.1.1.1.2, ⟨hk.1.1.2, ⟨hk.1.2, hk.2⟩⟩⟩⟩⟩)⟩, ⟨by (with_reducible repeat (first | apply Kd.R_alloc | apply Kd.R_drewN | apply Kd.R_drew)); exact Kd.R_mono HO261.out (fun _ hk => ⟨hk.1.1.1.1.1.1.1.1.1.2, ⟨hk.1.1.1.1.1.1.1.1.2, ⟨hk.1.1.1.1.2, ⟨hk.1.1.1.2, ⟨hk.1.2, hk.2⟩⟩⟩⟩⟩)⟩, ⟨by (with_reducible repeat (first | apply Kd.R_alloc | apply Kd.R_drewN | apply Kd.R_drew)); exact Kd.R_mono HO265.out (fun _ hk => ⟨hk.1.1.1.1.1.1.1.1.1.2, ⟨hk.1.1.1.1.1.1.1.1.2, ⟨hk.1.1.1.1.2, ⟨hk.1.1.1.2, ⟨hk.1.2, hk.2⟩⟩⟩⟩⟩)⟩, ⟨by (with_reducible repeat (first | apply Kd.R_alloc | apply Kd.R_drewN | apply Kd.R_drew)); exact Kd.R_mono HO269.out (fun _ hk => ⟨hk.1.1.1.1.1.1.1.1.1.2, ⟨hk.1.1.1.1.1.1.1.1.2, ⟨hk.1.1.1.1.2, ⟨hk.1.1.1.2, ⟨hk.1.2, hk.2⟩⟩⟩⟩⟩)⟩, ⟨by repeat (first | (with_reducible first | exact HB.out | apply below_alloc | apply pw_below_drewN | apply below_drew1) | exact HB.out)⟩⟩
                      · rw [if_neg c60] at H
                        have c60b0 : (t251 == 0) = false := beq_eq_false_iff_ne.mpr c60
                        have c60b1 : (t251 != 0) = true := bne_iff_ne.mpr c60
                        have H' := Aside0.mk H
                        clear H
                        go_wp2
                        go_meet
                        case rel => exact ⟨_, (true), (by first | rfl | (simp; done) | (simp [*]; done)), H', ⟨by have := HJ21.out; first | omega | exact Nat.le_refl _⟩, ⟨by (with_reducible repeat (first | apply Kd.R_alloc | apply Kd.R_drewN | apply Kd.R_drew)); exact Kd.R_mono HO_12.out (fun _ hk => ⟨hk.1.1.1.1.1.1.1, ⟨hk.1.1.1.1.1.2, ⟨hk.1.1.1.1.2, ⟨hk.1.1.2, ⟨hk.1.2, hk.2⟩⟩⟩⟩⟩)⟩, ⟨by (with_reducible repeat (first | apply Kd.R_alloc | apply Kd.R_drewN | apply Kd.R_drew)); exact Kd.R_mono HO_14.out (fun _ hk => ⟨hk.1.1.1.1.1.1.1, ⟨hk.1.1.1.1.1.2, ⟨hk.1.1.1.1.2, ⟨hk.1.1.2, ⟨hk.1.2, hk.2⟩⟩⟩⟩⟩)⟩, ⟨by (with_reducible repeat (first | apply Kd.R_alloc | apply Kd.R_drewN | apply Kd.R_drew)); exact Kd.R_mono HO249.out (fun _ hk => ⟨hk.1.1.1.1.1.1.1.1.1.2, ⟨hk.1.1.1.1.1.1.1.1.2, ⟨hk.1.1.1.1.2, ⟨hk.1.1.2, ⟨hk.1.2, hk.2⟩⟩⟩⟩⟩)⟩, ⟨by (with_reducible repeat (first | apply Kd.R_alloc | apply Kd.R_drewN | apply Kd.R_drew)); exact Kd.R_mono HO253.out (fun _ hk => ⟨hk.1.1.1.1.1.1.1.1.1.2, ⟨hk.1.1.1.1.1.1.1.1.2, ⟨hk.1.1.1.1.2, ⟨hk.1.1.2, ⟨hk.1.2, hk.2⟩⟩⟩⟩⟩)⟩, ⟨by (with_reducible repeat (first | apply Kd.R_alloc | apply Kd.R_drewN | apply Kd.R_drew)); exact Kd.R_mono HO261.out (fun _ hk => ⟨hk.1.1.1.1.1.1.1.1.1.2, ⟨hk.1.1.1.1.1.1.1.1.2, ⟨hk.1.1.1.1.2, ⟨hk.1.1.1.2, ⟨hk.1.2, hk.2⟩⟩⟩⟩⟩)⟩, ⟨by (with_reducible repeat (first | apply Kd.R_alloc | apply Kd.R_drewN | apply Kd.R_drew)); exact Kd.R_mono HO265.out (fun _ hk => ⟨hk.1.1.1.1.1.1.1.1.1.2, ⟨hk.1.1.1.1.1.1.1.1.2, ⟨hk.1.1.1.1.2, ⟨hk.1.1.1.2, ⟨hk.1.2, hk.2⟩⟩⟩⟩⟩)⟩, ⟨by (with_reducible repeat (first | apply Kd.R_alloc | apply Kd.R_drewN | apply Kd.R_drew)); exact Kd.R_mono HO269.out (fun _ hk => ⟨hk.1.1.1.1.1.1.1.1.1.2, ⟨hk.1.1.1.1.1.1.1.1.2, ⟨hk.1.1.1.1.2, ⟨hk.1.1.1.2, ⟨hk.1.2, hk.2⟩⟩⟩⟩⟩)⟩, ⟨by repeat (first | (with_reducible first | exact HB.out | apply below_alloc | apply pw_below_drewN | apply below_drew1) | exact HB.out)⟩⟩
                    · rw [if_neg c59] at H
                      have c59b0 : (t247 == 0) = false := beq_eq_false_iff_ne.mpr c59
                      have c59b1 : (t247 != 0) = true := bne_iff_ne.mpr c59
                      (first | rw [c59b0] | (simp only [i64_w, i32_w]; rw [c59b0]) | skip)
                      have H' := Aside0.mk H
                      clear H
                      go_wp2
                      go_meet
                      case rel => exact ⟨_, (true), (by first | rfl | (simp; done) | (simp [*]; done)), H', ⟨by have := HJ21.out; first | omega | exact Nat.le_refl _⟩, ⟨by (with_reducible repeat (first | apply Kd.R_alloc | apply Kd.R_drewN | apply Kd.R_drew)); exact Kd.R_mono HO_12.out (fun _ hk => ⟨hk.1.1.1.1.1.1.1, ⟨hk.1.1.1.1.1.2, ⟨hk.1.1.1.1.2, ⟨hk.1.1.2, ⟨hk.1.2, hk.2⟩⟩⟩⟩⟩)⟩, ⟨by (with_reducible repeat (first | apply Kd.R_alloc | apply Kd.R_drewN | apply Kd.R_drew)); exact Kd.R_mono HO_14.out (fun _ hk => ⟨hk.1.1.1.1.1.1.1, ⟨hk.1.1.1.1.1.2, ⟨hk.1.1.1.1.2, ⟨hk.1.1.2, ⟨hk.1.2, hk.2⟩⟩⟩⟩⟩)⟩, ⟨by (with_reducible repeat (first | apply Kd.R_alloc | apply Kd.R_drewN | apply Kd.R_drew)); exact Kd.R_mono HO249.out (fun _ hk => ⟨hk.1.1.1.1.1.1.1.1.1.2, ⟨hk.1.1.1.1.1.1.1.1.2, ⟨hk.1.1.1.1.2, ⟨hk.1.1.2, ⟨hk.1.2, hk.2⟩⟩⟩⟩⟩)⟩, ⟨by (with_reducible repeat (first | apply Kd.R_alloc | apply Kd.R_drewN | apply Kd.R_drew)); exact Kd.R_mono HO253.out (fun _ hk => ⟨hk.1.1.1.1.1.1.1.1.1.2, ⟨hk.1.1.1.1.1.1.1.1.2, ⟨hk.1.1.1.1.2, ⟨hk.1.1.2, ⟨hk.1.2, hk.2⟩⟩⟩⟩⟩)⟩, ⟨by (with_reducible repeat (first | apply Kd.R_alloc | apply Kd.R_drewN | apply Kd.R_drew)); exact Kd.R_mono HO261.out (fun _ hk => ⟨hk.1.1.1.1.1.1.1.1.1.2, ⟨hk.1.1.1.1.1.1.1.1.2, ⟨hk.1.1.1.1.2, ⟨hk.1.1.1.2, ⟨hk.1.2, hk.2⟩⟩⟩⟩⟩)⟩, ⟨by (with_reducible repeat (first | apply Kd.R_alloc | apply Kd.R_drewN | apply Kd.R_drew)); exact Kd.R_mono HO265.out (fun _ hk => ⟨hk.1.1.1.1.1.1.1.1.1.2, ⟨hk.1.1.1.1.1.1.1.1.2, ⟨hk.1.1.1.1.2, ⟨hk.1.1.1.2, ⟨hk.1.2, hk.2⟩⟩⟩⟩⟩)⟩, ⟨by (with_reducible repeat (first | apply Kd.R_alloc | apply Kd.R_drewN | apply Kd.R_drew)); exact Kd.R_mono HO269.out (fun _ hk => ⟨hk.1.1.1.1.1.1.1.1.1.2, ⟨hk.1.1.1.1.1.1.1.1.2, ⟨hk.1.1.1.1.2, ⟨hk.1.1.1.2, ⟨hk.1.2, hk.2⟩⟩⟩⟩⟩)⟩, ⟨by repeat (first | (with_reducible first | exact HB.out | apply below_alloc | apply pw_below_drewN | apply below_drew1) | exact HB.out)⟩⟩
                  case rest =>
                    clear HC46
                    try clear c1
                    try clear c2
                    try clear p2
                    try clear q2
                    try clear c3
                    try clear q3
                    try clear c5
                    try clear c6
                    try clear p6
                    try clear c9
                    try clear c11
                    try clear c11b0
                    try clear c11b1
                    try clear c12
                    try clear c12b0
                    try clear c12b1
                    try clear c14
                    try clear c14b0
                    try clear c15
                    try clear c15b0
                    try clear c15b1
                    try clear c16
                    try clear c16b0
                    try clear c16b1
                    try clear c17
                    try clear c18
                    try clear c19
                    try clear c19b0
                    try clear c19b1
                    try clear c20
                    try clear c20b0
                    try clear q28
                    try clear c30
                    try clear q30
                    try clear c32
                    try clear q32
                    try clear c34
                    try clear c35
                    try clear c36
                    try clear c37
                    try clear c38
                    try clear c39
                    try clear c59
                    try clear c59b0
                    try clear c59b1
                    try clear c60
                    try clear c60b0
                    try clear c60b1
                    try clear c61
                    try clear c61b0
                    try clear c61b1
                    try clear c62
                    try clear c62b0
                    try clear c62b1
                    try clear c63
                    try clear c63b0
                    try clear c63b1
                    try clear c64
                    try clear c64b0
                    try clear c64b1
                    try clear p64
                    try clear p2
                    try clear p6
                    try clear q030
                    try clear q032
                    try clear q2
                    try clear q28
                    try clear q3
                    try clear q30
                    try clear q32
                    obtain ⟨kq, x166_45, rfl, HA, HJ45, HO_12, HO_14, HO_22, HO_24, HO_28, HO_30, HO_32, HB⟩ := hcut
                    cases kq with
                    | zero => exact absurd HA.out (by simp [spoorlaw13_SketchSums.j1])
                    | succ kj45 =>
                      have H := HA.out
                      clear HA
                      simp only [spoorlaw13_SketchSums.j1] at H
                      by_cases c68 : x166_45 = true
                      · subst c68
                        have H1 : (some false) = some r := by rw [if_pos rfl] at H; exact H
                        clear H
                        have H := H1
                        clear H1
                        obtain rfl := Option.some.inj H
                        go_wp2
                        go_ret
                        exact ⟨by first | rfl | (simp [errW_none, errW_some] <;> rfl) | (simp only [← hji18]; first | rfl | (simp [errW_none, errW_some] <;> rfl)) | (simp [*, errW_none, errW_some] <;> rfl), by repeat (first | (with_reducible first | exact HB.out | apply below_alloc | apply pw_below_drewN | apply below_drew1) | exact HB.out)⟩
                      · replace c68 := Bool.eq_false_iff.mpr c68
                        subst c68
                        have H1 : ((spoorlaw13_sameBars.f kj45 t211 t218).bind fun t271 => (if t271 = true then ((spoorlaw13_sameBars.f kj45 t211 t250).bind fun t272 => (if t272 = true then ((spoorlaw13_sameBars.f kj45 t211 t258).bind fun t273 => (if t273 = true then ((spoorlaw13_sameBars.f kj45 t246 t262).bind fun t274 => (if t274 = true then ((spoorlaw13_sameBars.f kj45 t211 t266).bind fun t275 => (some t275)) else (some false))) else (some false))) else (some false))) else (some false))) = some r := by rw [if_neg (show ¬ (false = true) by decide)] at H; exact H
                        clear H
                        have H := H1
                        clear H1
                        replace H := Option.bind_eq_some_iff.mp H
                        obtain ⟨t271, A690, H⟩ := H
                        replace H : (if t271 = true then ((spoorlaw13_sameBars.f kj45 t211 t250).bind fun t272 => (if t272 = true then ((spoorlaw13_sameBars.f kj45 t211 t258).bind fun t273 => (if t273 = true then ((spoorlaw13_sameBars.f kj45 t246 t262).bind fun t274 => (if t274 = true then ((spoorlaw13_sameBars.f kj45 t211 t266).bind fun t275 => (some t275)) else (some false))) else (some false))) else (some false))) else (some false)) = some r := H
                        have A69 := Aside0.mk A690
                        clear A690
                        by_cases c70 : t271 = true
                        · subst c70
                          have H1 : ((spoorlaw13_sameBars.f kj45 t211 t250).bind fun t272 => (if t272 = true then ((spoorlaw13_sameBars.f kj45 t211 t258).bind fun t273 => (if t273 = true then ((spoorlaw13_sameBars.f kj45 t246 t262).bind fun t274 => (if t274 = true then ((spoorlaw13_sameBars.f kj45 t211 t266).bind fun t275 => (some t275)) else (some false))) else (some false))) else (some false))) = some r := by rw [if_pos rfl] at H; exact H
                          clear H
                          have H := H1
                          clear H1
                          replace H := Option.bind_eq_some_iff.mp H
                          obtain ⟨t272, A710, H⟩ := H
                          replace H : (if t272 = true then ((spoorlaw13_sameBars.f kj45 t211 t258).bind fun t273 => (if t273 = true then ((spoorlaw13_sameBars.f kj45 t246 t262).bind fun t274 => (if t274 = true then ((spoorlaw13_sameBars.f kj45 t211 t266).bind fun t275 => (some t275)) else (some false))) else (some false))) else (some false)) = some r := H
                          have A71 := Aside0.mk A710
                          clear A710
                          by_cases c72 : t272 = true
                          · subst c72
                            have H1 : ((spoorlaw13_sameBars.f kj45 t211 t258).bind fun t273 => (if t273 = true then ((spoorlaw13_sameBars.f kj45 t246 t262).bind fun t274 => (if t274 = true then ((spoorlaw13_sameBars.f kj45 t211 t266).bind fun t275 => (some t275)) else (some false))) else (some false))) = some r := by rw [if_pos rfl] at H; exact H
                            clear H
                            have H := H1
                            clear H1
                            replace H := Option.bind_eq_some_iff.mp H
                            obtain ⟨t273, A730, H⟩ := H
                            replace H : (if t273 = true then ((spoorlaw13_sameBars.f kj45 t246 t262).bind fun t274 => (if t274 = true then ((spoorlaw13_sameBars.f kj45 t211 t266).bind fun t275 => (some t275)) else (some false))) else (some false)) = some r := H
                            have A73 := Aside0.mk A730
                            clear A730
                            by_cases c74 : t273 = true
                            · subst c74
                              have H1 : ((spoorlaw13_sameBars.f kj45 t246 t262).bind fun t274 => (if t274 = true then ((spoorlaw13_sameBars.f kj45 t211 t266).bind fun t275 => (some t275)) else (some false))) = some r := by rw [if_pos rfl] at H; exact H
                              clear H
                              have H := H1
                              clear H1
                              replace H := Option.bind_eq_some_iff.mp H
                              obtain ⟨t274, A750, H⟩ := H
                              replace H : (if t274 = true then ((spoorlaw13_sameBars.f kj45 t211 t266).bind fun t275 => (some t275)) else (some false)) = some r := H
                              have A75 := Aside0.mk A750
                              clear A750
                              by_cases c76 : t274 = true
                              · subst c76
                                have H1 : ((spoorlaw13_sameBars.f kj45 t211 t266).bind fun t275 => (some t275)) = some r := by rw [if_pos rfl] at H; exact H
                                clear H
                                have H := H1
                                clear H1
                                replace H := Option.bind_eq_some_iff.mp H
                                obtain ⟨t275, A770, H⟩ := H
                                replace H : (some t275) = some r := H
                                have A77 := Aside0.mk A770
                                clear A770
                                obtain rfl := Option.some.inj H
                                obtain ⟨Ao78, co78, eo78⟩ := Kd.R_slice HO_14.out
                                subst eo78
                                go_wp2_with (first | ((with_reducible refine gate_callee (f := 21) rfl ?_); refine goesL_ (some 169) rfl rfl Try.func21 (by kernel_rfl) rfl #[.slice Ao57 t211.length co57, .slice Ao78 t218.length co78] rfl (by (try simp only [List.map_toArray, List.map_cons, List.map_nil]); first | done | rfl | (simp only [List.length_drop, List.length_take]; rfl)) ?_; (with_reducible refine (spoorlaw13_sameBars.calls kj45 _ _ t211 _ _ t218 true _ ?side1 ?side2 ?side3 ?side4 A69.out).mono ?_); (case side1 => repeat (first | exact (Kd.R_reads' HO_12.out).2.2 | (with_reducible refine Kd.C_alloc ?_ _) | (with_reducible refine Kd.C_drewN ?_ _) | (with_reducible refine Kd.C_drew ?_))); (case side2 => exact (Kd.R_reads' HO_12.out).2.1); (case side3 => repeat (first | exact (Kd.R_reads' HO_14.out).2.2 | (with_reducible refine Kd.C_alloc ?_ _) | (with_reducible refine Kd.C_drewN ?_ _) | (with_reducible refine Kd.C_drew ?_))); (case side4 => exact (Kd.R_reads' HO_14.out).2.1); rintro e w' ⟨rfl, ⟨nd, rfl⟩⟩; refine ⟨_, rfl, ?_⟩; obtain ⟨Ao79, co79, eo79⟩ := Kd.R_slice HO_24.out; subst eo79) | (go_at_call 21; (with_reducible refine (spoorlaw13_sameBars.calls kj45 _ _ t211 _ _ t250 true _ ?side1 ?side2 ?side3 ?side4 A71.out).mono ?_); (case side1 => repeat (first | exact (Kd.R_reads' HO_12.out).2.2 | (with_reducible refine Kd.C_alloc ?_ _) | (with_reducible refine Kd.C_drewN ?_ _) | (with_reducible refine Kd.C_drew ?_))); (case side2 => exact (Kd.R_reads' HO_12.out).2.1); (case side3 => repeat (first | exact (Kd.R_reads' HO_24.out).2.2 | (with_reducible refine Kd.C_alloc ?_ _) | (with_reducible refine Kd.C_drewN ?_ _) | (with_reducible refine Kd.C_drew ?_))); (case side4 => exact (Kd.R_reads' HO_24.out).2.1); rintro e w' ⟨rfl, ⟨nd, rfl⟩⟩; obtain ⟨Ao80, co80, eo80⟩ := Kd.R_slice HO_28.out; subst eo80) | (go_at_call 21; (with_reducible refine (spoorlaw13_sameBars.calls kj45 _ _ t211 _ _ t258 true _ ?side1 ?side2 ?side3 ?side4 A73.out).mono ?_); (case side1 => repeat (first | exact (Kd.R_reads' HO_12.out).2.2 | (with_reducible refine Kd.C_alloc ?_ _) | (with_reducible refine Kd.C_drewN ?_ _) | (with_reducible refine Kd.C_drew ?_))); (case side2 => exact (Kd.R_reads' HO_12.out).2.1); (case side3 => repeat (first | exact (Kd.R_reads' HO_28.out).2.2 | (with_reducible refine Kd.C_alloc ?_ _) | (with_reducible refine Kd.C_drewN ?_ _) | (with_reducible refine Kd.C_drew ?_))); (case side4 => exact (Kd.R_reads' HO_28.out).2.1); rintro e w' ⟨rfl, ⟨nd, rfl⟩⟩; obtain ⟨Ao81, co81, eo81⟩ := Kd.R_slice HO_30.out; subst eo81) | (go_at_call 21; (with_reducible refine (spoorlaw13_sameBars.calls kj45 _ _ t246 _ _ t262 true _ ?side1 ?side2 ?side3 ?side4 A75.out).mono ?_); (case side1 => repeat (first | exact (Kd.R_reads' HO_22.out).2.2 | (with_reducible refine Kd.C_alloc ?_ _) | (with_reducible refine Kd.C_drewN ?_ _) | (with_reducible refine Kd.C_drew ?_))); (case side2 => exact (Kd.R_reads' HO_22.out).2.1); (case side3 => repeat (first | exact (Kd.R_reads' HO_30.out).2.2 | (with_reducible refine Kd.C_alloc ?_ _) | (with_reducible refine Kd.C_drewN ?_ _) | (with_reducible refine Kd.C_drew ?_))); (case side4 => exact (Kd.R_reads' HO_30.out).2.1); rintro e w' ⟨rfl, ⟨nd, rfl⟩⟩; obtain ⟨Ao82, co82, eo82⟩ := Kd.R_slice HO_32.out; subst eo82) | (go_at_call 21; (with_reducible refine (spoorlaw13_sameBars.calls kj45 _ _ t211 _ _ t266 t275 _ ?side1 ?side2 ?side3 ?side4 A77.out).mono ?_); (case side1 => repeat (first | exact (Kd.R_reads' HO_12.out).2.2 | (with_reducible refine Kd.C_alloc ?_ _) | (with_reducible refine Kd.C_drewN ?_ _) | (with_reducible refine Kd.C_drew ?_))); (case side2 => exact (Kd.R_reads' HO_12.out).2.1); (case side3 => repeat (first | exact (Kd.R_reads' HO_32.out).2.2 | (with_reducible refine Kd.C_alloc ?_ _) | (with_reducible refine Kd.C_drewN ?_ _) | (with_reducible refine Kd.C_drew ?_))); (case side4 => exact (Kd.R_reads' HO_32.out).2.1); rintro e w' ⟨rfl, ⟨nd, rfl⟩⟩))
                                go_ret
                                exact ⟨by first | rfl | (simp [errW_none, errW_some] <;> rfl) | (simp only [← hji18]; first | rfl | (simp [errW_none, errW_some] <;> rfl)) | (simp [*, errW_none, errW_some] <;> rfl), by repeat (first | (with_reducible first | exact HB.out | apply below_alloc | apply pw_below_drewN | apply below_drew1) | exact HB.out)⟩
                              · replace c76 := Bool.eq_false_iff.mpr c76
                                subst c76
                                have H1 : (some false) = some r := by rw [if_neg (show ¬ (false = true) by decide)] at H; exact H
                                clear H
                                have H := H1
                                clear H1
                                obtain rfl := Option.some.inj H
                                obtain ⟨Ao83, co83, eo83⟩ := Kd.R_slice HO_14.out
                                subst eo83
                                go_wp2_with (first | ((with_reducible refine gate_callee (f := 21) rfl ?_); refine goesL_ (some 169) rfl rfl Try.func21 (by kernel_rfl) rfl #[.slice Ao57 t211.length co57, .slice Ao83 t218.length co83] rfl (by (try simp only [List.map_toArray, List.map_cons, List.map_nil]); first | done | rfl | (simp only [List.length_drop, List.length_take]; rfl)) ?_; (with_reducible refine (spoorlaw13_sameBars.calls kj45 _ _ t211 _ _ t218 true _ ?side1 ?side2 ?side3 ?side4 A69.out).mono ?_); (case side1 => repeat (first | exact (Kd.R_reads' HO_12.out).2.2 | (with_reducible refine Kd.C_alloc ?_ _) | (with_reducible refine Kd.C_drewN ?_ _) | (with_reducible refine Kd.C_drew ?_))); (case side2 => exact (Kd.R_reads' HO_12.out).2.1); (case side3 => repeat (first | exact (Kd.R_reads' HO_14.out).2.2 | (with_reducible refine Kd.C_alloc ?_ _) | (with_reducible refine Kd.C_drewN ?_ _) | (with_reducible refine Kd.C_drew ?_))); (case side4 => exact (Kd.R_reads' HO_14.out).2.1); rintro e w' ⟨rfl, ⟨nd, rfl⟩⟩; refine ⟨_, rfl, ?_⟩; obtain ⟨Ao84, co84, eo84⟩ := Kd.R_slice HO_24.out; subst eo84) | (go_at_call 21; (with_reducible refine (spoorlaw13_sameBars.calls kj45 _ _ t211 _ _ t250 true _ ?side1 ?side2 ?side3 ?side4 A71.out).mono ?_); (case side1 => repeat (first | exact (Kd.R_reads' HO_12.out).2.2 | (with_reducible refine Kd.C_alloc ?_ _) | (with_reducible refine Kd.C_drewN ?_ _) | (with_reducible refine Kd.C_drew ?_))); (case side2 => exact (Kd.R_reads' HO_12.out).2.1); (case side3 => repeat (first | exact (Kd.R_reads' HO_24.out).2.2 | (with_reducible refine Kd.C_alloc ?_ _) | (with_reducible refine Kd.C_drewN ?_ _) | (with_reducible refine Kd.C_drew ?_))); (case side4 => exact (Kd.R_reads' HO_24.out).2.1); rintro e w' ⟨rfl, ⟨nd, rfl⟩⟩; obtain ⟨Ao85, co85, eo85⟩ := Kd.R_slice HO_28.out; subst eo85) | (go_at_call 21; (with_reducible refine (spoorlaw13_sameBars.calls kj45 _ _ t211 _ _ t258 true _ ?side1 ?side2 ?side3 ?side4 A73.out).mono ?_); (case side1 => repeat (first | exact (Kd.R_reads' HO_12.out).2.2 | (with_reducible refine Kd.C_alloc ?_ _) | (with_reducible refine Kd.C_drewN ?_ _) | (with_reducible refine Kd.C_drew ?_))); (case side2 => exact (Kd.R_reads' HO_12.out).2.1); (case side3 => repeat (first | exact (Kd.R_reads' HO_28.out).2.2 | (with_reducible refine Kd.C_alloc ?_ _) | (with_reducible refine Kd.C_drewN ?_ _) | (with_reducible refine Kd.C_drew ?_))); (case side4 => exact (Kd.R_reads' HO_28.out).2.1); rintro e w' ⟨rfl, ⟨nd, rfl⟩⟩; obtain ⟨Ao86, co86, eo86⟩ := Kd.R_slice HO_30.out; subst eo86) | (go_at_call 21; (with_reducible refine (spoorlaw13_sameBars.calls kj45 _ _ t246 _ _ t262 false _ ?side1 ?side2 ?side3 ?side4 A75.out).mono ?_); (case side1 => repeat (first | exact (Kd.R_reads' HO_22.out).2.2 | (with_reducible refine Kd.C_alloc ?_ _) | (with_reducible refine Kd.C_drewN ?_ _) | (with_reducible refine Kd.C_drew ?_))); (case side2 => exact (Kd.R_reads' HO_22.out).2.1); (case side3 => repeat (first | exact (Kd.R_reads' HO_30.out).2.2 | (with_reducible refine Kd.C_alloc ?_ _) | (with_reducible refine Kd.C_drewN ?_ _) | (with_reducible refine Kd.C_drew ?_))); (case side4 => exact (Kd.R_reads' HO_30.out).2.1); rintro e w' ⟨rfl, ⟨nd, rfl⟩⟩))
                                go_ret
                                exact ⟨by first | rfl | (simp [errW_none, errW_some] <;> rfl) | (simp only [← hji18]; first | rfl | (simp [errW_none, errW_some] <;> rfl)) | (simp [*, errW_none, errW_some] <;> rfl), by repeat (first | (with_reducible first | exact HB.out | apply below_alloc | apply pw_below_drewN | apply below_drew1) | exact HB.out)⟩
                            · replace c74 := Bool.eq_false_iff.mpr c74
                              subst c74
                              have H1 : (some false) = some r := by rw [if_neg (show ¬ (false = true) by decide)] at H; exact H
                              clear H
                              have H := H1
                              clear H1
                              obtain rfl := Option.some.inj H
                              obtain ⟨Ao87, co87, eo87⟩ := Kd.R_slice HO_14.out
                              subst eo87
                              go_wp2_with (first | ((with_reducible refine gate_callee (f := 21) rfl ?_); refine goesL_ (some 169) rfl rfl Try.func21 (by kernel_rfl) rfl #[.slice Ao57 t211.length co57, .slice Ao87 t218.length co87] rfl (by (try simp only [List.map_toArray, List.map_cons, List.map_nil]); first | done | rfl | (simp only [List.length_drop, List.length_take]; rfl)) ?_; (with_reducible refine (spoorlaw13_sameBars.calls kj45 _ _ t211 _ _ t218 true _ ?side1 ?side2 ?side3 ?side4 A69.out).mono ?_); (case side1 => repeat (first | exact (Kd.R_reads' HO_12.out).2.2 | (with_reducible refine Kd.C_alloc ?_ _) | (with_reducible refine Kd.C_drewN ?_ _) | (with_reducible refine Kd.C_drew ?_))); (case side2 => exact (Kd.R_reads' HO_12.out).2.1); (case side3 => repeat (first | exact (Kd.R_reads' HO_14.out).2.2 | (with_reducible refine Kd.C_alloc ?_ _) | (with_reducible refine Kd.C_drewN ?_ _) | (with_reducible refine Kd.C_drew ?_))); (case side4 => exact (Kd.R_reads' HO_14.out).2.1); rintro e w' ⟨rfl, ⟨nd, rfl⟩⟩; refine ⟨_, rfl, ?_⟩; obtain ⟨Ao88, co88, eo88⟩ := Kd.R_slice HO_24.out; subst eo88) | (go_at_call 21; (with_reducible refine (spoorlaw13_sameBars.calls kj45 _ _ t211 _ _ t250 true _ ?side1 ?side2 ?side3 ?side4 A71.out).mono ?_); (case side1 => repeat (first | exact (Kd.R_reads' HO_12.out).2.2 | (with_reducible refine Kd.C_alloc ?_ _) | (with_reducible refine Kd.C_drewN ?_ _) | (with_reducible refine Kd.C_drew ?_))); (case side2 => exact (Kd.R_reads' HO_12.out).2.1); (case side3 => repeat (first | exact (Kd.R_reads' HO_24.out).2.2 | (with_reducible refine Kd.C_alloc ?_ _) | (with_reducible refine Kd.C_drewN ?_ _) | (with_reducible refine Kd.C_drew ?_))); (case side4 => exact (Kd.R_reads' HO_24.out).2.1); rintro e w' ⟨rfl, ⟨nd, rfl⟩⟩; obtain ⟨Ao89, co89, eo89⟩ := Kd.R_slice HO_28.out; subst eo89) | (go_at_call 21; (with_reducible refine (spoorlaw13_sameBars.calls kj45 _ _ t211 _ _ t258 false _ ?side1 ?side2 ?side3 ?side4 A73.out).mono ?_); (case side1 => repeat (first | exact (Kd.R_reads' HO_12.out).2.2 | (with_reducible refine Kd.C_alloc ?_ _) | (with_reducible refine Kd.C_drewN ?_ _) | (with_reducible refine Kd.C_drew ?_))); (case side2 => exact (Kd.R_reads' HO_12.out).2.1); (case side3 => repeat (first | exact (Kd.R_reads' HO_28.out).2.2 | (with_reducible refine Kd.C_alloc ?_ _) | (with_reducible refine Kd.C_drewN ?_ _) | (with_reducible refine Kd.C_drew ?_))); (case side4 => exact (Kd.R_reads' HO_28.out).2.1); rintro e w' ⟨rfl, ⟨nd, rfl⟩⟩))
                              go_ret
                              exact ⟨by first | rfl | (simp [errW_none, errW_some] <;> rfl) | (simp only [← hji18]; first | rfl | (simp [errW_none, errW_some] <;> rfl)) | (simp [*, errW_none, errW_some] <;> rfl), by repeat (first | (with_reducible first | exact HB.out | apply below_alloc | apply pw_below_drewN | apply below_drew1) | exact HB.out)⟩
                          · replace c72 := Bool.eq_false_iff.mpr c72
                            subst c72
                            have H1 : (some false) = some r := by rw [if_neg (show ¬ (false = true) by decide)] at H; exact H
                            clear H
                            have H := H1
                            clear H1
                            obtain rfl := Option.some.inj H
                            obtain ⟨Ao90, co90, eo90⟩ := Kd.R_slice HO_14.out
                            subst eo90
                            go_wp2_with (first | ((with_reducible refine gate_callee (f := 21) rfl ?_); refine goesL_ (some 169) rfl rfl Try.func21 (by kernel_rfl) rfl #[.slice Ao57 t211.length co57, .slice Ao90 t218.length co90] rfl (by (try simp only [List.map_toArray, List.map_cons, List.map_nil]); first | done | rfl | (simp only [List.length_drop, List.length_take]; rfl)) ?_; (with_reducible refine (spoorlaw13_sameBars.calls kj45 _ _ t211 _ _ t218 true _ ?side1 ?side2 ?side3 ?side4 A69.out).mono ?_); (case side1 => repeat (first | exact (Kd.R_reads' HO_12.out).2.2 | (with_reducible refine Kd.C_alloc ?_ _) | (with_reducible refine Kd.C_drewN ?_ _) | (with_reducible refine Kd.C_drew ?_))); (case side2 => exact (Kd.R_reads' HO_12.out).2.1); (case side3 => repeat (first | exact (Kd.R_reads' HO_14.out).2.2 | (with_reducible refine Kd.C_alloc ?_ _) | (with_reducible refine Kd.C_drewN ?_ _) | (with_reducible refine Kd.C_drew ?_))); (case side4 => exact (Kd.R_reads' HO_14.out).2.1); rintro e w' ⟨rfl, ⟨nd, rfl⟩⟩; refine ⟨_, rfl, ?_⟩; obtain ⟨Ao91, co91, eo91⟩ := Kd.R_slice HO_24.out; subst eo91) | (go_at_call 21; (with_reducible refine (spoorlaw13_sameBars.calls kj45 _ _ t211 _ _ t250 false _ ?side1 ?side2 ?side3 ?side4 A71.out).mono ?_); (case side1 => repeat (first | exact (Kd.R_reads' HO_12.out).2.2 | (with_reducible refine Kd.C_alloc ?_ _) | (with_reducible refine Kd.C_drewN ?_ _) | (with_reducible refine Kd.C_drew ?_))); (case side2 => exact (Kd.R_reads' HO_12.out).2.1); (case side3 => repeat (first | exact (Kd.R_reads' HO_24.out).2.2 | (with_reducible refine Kd.C_alloc ?_ _) | (with_reducible refine Kd.C_drewN ?_ _) | (with_reducible refine Kd.C_drew ?_))); (case side4 => exact (Kd.R_reads' HO_24.out).2.1); rintro e w' ⟨rfl, ⟨nd, rfl⟩⟩))
                            go_ret
                            exact ⟨by first | rfl | (simp [errW_none, errW_some] <;> rfl) | (simp only [← hji18]; first | rfl | (simp [errW_none, errW_some] <;> rfl)) | (simp [*, errW_none, errW_some] <;> rfl), by repeat (first | (with_reducible first | exact HB.out | apply below_alloc | apply pw_below_drewN | apply below_drew1) | exact HB.out)⟩
                        · replace c70 := Bool.eq_false_iff.mpr c70
                          subst c70
                          have H1 : (some false) = some r := by rw [if_neg (show ¬ (false = true) by decide)] at H; exact H
                          clear H
                          have H := H1
                          clear H1
                          obtain rfl := Option.some.inj H
                          obtain ⟨Ao92, co92, eo92⟩ := Kd.R_slice HO_14.out
                          subst eo92
                          go_wp2_with (first | ((with_reducible refine gate_callee (f := 21) rfl ?_); refine goesL_ (some 169) rfl rfl Try.func21 (by kernel_rfl) rfl #[.slice Ao57 t211.length co57, .slice Ao92 t218.length co92] rfl (by (try simp only [List.map_toArray, List.map_cons, List.map_nil]); first | done | rfl | (simp only [List.length_drop, List.length_take]; rfl)) ?_; (with_reducible refine (spoorlaw13_sameBars.calls kj45 _ _ t211 _ _ t218 false _ ?side1 ?side2 ?side3 ?side4 A69.out).mono ?_); (case side1 => repeat (first | exact (Kd.R_reads' HO_12.out).2.2 | (with_reducible refine Kd.C_alloc ?_ _) | (with_reducible refine Kd.C_drewN ?_ _) | (with_reducible refine Kd.C_drew ?_))); (case side2 => exact (Kd.R_reads' HO_12.out).2.1); (case side3 => repeat (first | exact (Kd.R_reads' HO_14.out).2.2 | (with_reducible refine Kd.C_alloc ?_ _) | (with_reducible refine Kd.C_drewN ?_ _) | (with_reducible refine Kd.C_drew ?_))); (case side4 => exact (Kd.R_reads' HO_14.out).2.1); rintro e w' ⟨rfl, ⟨nd, rfl⟩⟩; refine ⟨_, rfl, ?_⟩))
                          go_ret
                          exact ⟨by first | rfl | (simp [errW_none, errW_some] <;> rfl) | (simp only [← hji18]; first | rfl | (simp [errW_none, errW_some] <;> rfl)) | (simp [*, errW_none, errW_some] <;> rfl), by repeat (first | (with_reducible first | exact HB.out | apply below_alloc | apply pw_below_drewN | apply below_drew1) | exact HB.out)⟩
          · rw [if_neg c19] at H
            exact absurd H (by simp)
        · rw [if_neg c16] at H
          exact absurd H (by simp)
      · rw [if_neg c15] at H
        exact absurd H (by simp)
    · rw [if_neg c12] at H
      exact absurd H (by simp)
  · rw [if_neg c11] at H
    exact absurd H (by simp)

end Go.Proofs.Ytlnhpccapadpmaa.Pr
