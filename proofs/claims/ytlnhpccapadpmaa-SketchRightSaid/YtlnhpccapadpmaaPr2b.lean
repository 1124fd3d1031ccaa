-- by xprint.py, a program of the session's own, over the kit's print. Not trusted: Lean checks it.
import Derived.Test.YtlnhpccapadpmaaPr0
import Derived.Test.YtlnhpccapadpmaaPr0a
import Derived.Test.YtlnhpccapadpmaaPr0b
import Derived.Test.YtlnhpccapadpmaaPr2a
namespace Go.Proofs.Ytlnhpccapadpmaa.Pr
open Go.RowKit Go.Proofs.YtlnhpccapadpmaaW.PrintWords Go.Proofs.YtlnhpccapadpmaaW.PrintLast Go.Proofs.YtlnhpccapadpmaaW.PrintMore
attribute [local go_sem] max2_int min2_int max_two min_two max_three min_three max_four min_four   -- for this text's walks alone
set_option linter.unusedVariables false
set_option linter.unusedSimpArgs false

/-! ### spoorlaw13_SketchBars: function 4 -/
mutual
def spoorlaw13_SketchBars.j0 : Nat → Int → Int → Int → Int → Int → Bool → Option (Bool)
  | 0, _, _, _, _, _, _ => none
  | k + 1, x0, x1, x6, x7, x8, x67 => if x67 = true then (some false) else (if x0 < 64 then (if x7 = x0 then (if x8 = x0 then (if x6 = (wrap64 (x0)) then (if x0 ≥ 64 then (spoorlaw13_SketchBars.j1 k x1 (decide ((IntKind.u64.wrap (x8 - x7)) > (IntKind.u64.wrap (Int.tdiv x7 32))))) else (spoorlaw13_SketchBars.j1 k x1 false)) else (spoorlaw13_SketchBars.j1 k x1 true)) else (spoorlaw13_SketchBars.j1 k x1 true)) else (spoorlaw13_SketchBars.j1 k x1 true)) else (if x0 ≥ 64 then (spoorlaw13_SketchBars.j1 k x1 (decide ((IntKind.u64.wrap (x8 - x7)) > (IntKind.u64.wrap (Int.tdiv x7 32))))) else (spoorlaw13_SketchBars.j1 k x1 false)))
def spoorlaw13_SketchBars.j1 : Nat → Int → Bool → Option (Bool)
  | 0, _, _ => none
  | k + 1, x1, x97 => if x97 = true then (some false) else ((spoorlaw13_pick.f x1 1919).bind fun t161 => ((sketch_Span.f k t161).bind fun bt162 => ((sketch_Span.f k (wrap64 (t161 + 1))).bind fun bt165 => ((sketch_Span.f k 1919).bind fun bt168 => ((sketch_Span.f k 0).bind fun bt171 => (if bt162.2.2 = 0 then (if bt165.2.2 = 0 then (if bt168.2.2 = 0 then (if bt171.2.2 = 0 then (if bt162.2.1 < bt165.1 then (if bt165.1 = (IntKind.u64.wrap (bt162.2.1 + 1)) then (if bt165.1 ≤ bt165.2.1 then (if bt168.2.1 = 18446744073709551615 then (some (bt171.1 == 0)) else (some false)) else (some false)) else (some false)) else (some false)) else (some false)) else (some false)) else (some false)) else (some false)))))))
end
def spoorlaw13_SketchBars.f (k : Nat) (a0 : Int) (a1 : Int) : Option (Bool) := (spoorlaw13_awake.f k).bind fun t154 => ((sketch_Index.f k a0).bind fun t155 => ((sketch_Span.f k t155).bind fun bt156 => (if t154 = true then (if bt156.2.2 = 0 then (if t155 < 0 then (spoorlaw13_SketchBars.j0 k a0 a1 t155 bt156.1 bt156.2.1 true) else (if t155 ≥ 1920 then (spoorlaw13_SketchBars.j0 k a0 a1 t155 bt156.1 bt156.2.1 true) else (if a0 < bt156.1 then (spoorlaw13_SketchBars.j0 k a0 a1 t155 bt156.1 bt156.2.1 true) else (if a0 > bt156.2.1 then (spoorlaw13_SketchBars.j0 k a0 a1 t155 bt156.1 bt156.2.1 true) else ((sketch_Index.f k bt156.1).bind fun t159 => (if t159 = t155 then ((sketch_Index.f k bt156.2.1).bind fun t160 => (spoorlaw13_SketchBars.j0 k a0 a1 t155 bt156.1 bt156.2.1 (t160 != t155))) else (spoorlaw13_SketchBars.j0 k a0 a1 t155 bt156.1 bt156.2.1 true))))))) else (spoorlaw13_SketchBars.j0 k a0 a1 t155 bt156.1 bt156.2.1 true)) else (spoorlaw13_SketchBars.j0 k a0 a1 t155 bt156.1 bt156.2.1 true))))
theorem spoorlaw13_SketchBars.mono_l : ∀ k, (∀ y0 y1 y2 y3 y4 y5, LeO (spoorlaw13_SketchBars.j0 k y0 y1 y2 y3 y4 y5) (spoorlaw13_SketchBars.j0 (k + 1) y0 y1 y2 y3 y4 y5)) ∧ (∀ y0 y1, LeO (spoorlaw13_SketchBars.j1 k y0 y1) (spoorlaw13_SketchBars.j1 (k + 1) y0 y1))
  | 0 => ⟨fun _ _ _ _ _ _ r h => by simp [spoorlaw13_SketchBars.j0] at h, fun _ _ r h => by simp [spoorlaw13_SketchBars.j1] at h⟩
  | k + 1 => by
    obtain ⟨ih0, ih1⟩ := spoorlaw13_SketchBars.mono_l k
    refine ⟨?_, ?_⟩
    · intro y0 y1 y2 y3 y4 y5
      unfold spoorlaw13_SketchBars.j0
      repeat' first
      | (with_reducible exact ih0 _ _ _ _ _ _)
      | (with_reducible exact ih1 _ _)
      | (with_reducible exact sketch_Index.mono _ _)
      | (with_reducible exact sketch_Span.mono _ _)
      | (with_reducible exact spoorlaw13_awake.mono _)
      | (with_reducible exact LeO.refl _)
      | (with_reducible exact LeO.none _)
      | (with_reducible refine LeO.ite ?_ ?_)
      | (with_reducible refine LeO.bind ?_ (fun _ => ?_))
      | exact ih0 _ _ _ _ _ _
      | exact ih1 _ _
      | exact sketch_Index.mono _ _
      | exact sketch_Span.mono _ _
      | exact spoorlaw13_awake.mono _
      | exact LeO.none _
      | refine LeO.ite ?_ ?_
      | refine LeO.bind ?_ (fun _ => ?_)
    · intro y0 y1
      unfold spoorlaw13_SketchBars.j1
      repeat' first
      | (with_reducible exact ih0 _ _ _ _ _ _)
      | (with_reducible exact ih1 _ _)
      | (with_reducible exact sketch_Index.mono _ _)
      | (with_reducible exact sketch_Span.mono _ _)
      | (with_reducible exact spoorlaw13_awake.mono _)
      | (with_reducible exact LeO.refl _)
      | (with_reducible exact LeO.none _)
      | (with_reducible refine LeO.ite ?_ ?_)
      | (with_reducible refine LeO.bind ?_ (fun _ => ?_))
      | exact ih0 _ _ _ _ _ _
      | exact ih1 _ _
      | exact sketch_Index.mono _ _
      | exact sketch_Span.mono _ _
      | exact spoorlaw13_awake.mono _
      | exact LeO.none _
      | refine LeO.ite ?_ ?_
      | refine LeO.bind ?_ (fun _ => ?_)
theorem spoorlaw13_SketchBars.mono : ∀ a0 a1 k, LeO (spoorlaw13_SketchBars.f k a0 a1) (spoorlaw13_SketchBars.f (k + 1) a0 a1) := by
  intro a0 a1 k
  obtain ⟨ih0, ih1⟩ := spoorlaw13_SketchBars.mono_l k
  unfold spoorlaw13_SketchBars.f
  repeat' first
      | (with_reducible exact ih0 _ _ _ _ _ _)
      | (with_reducible exact ih1 _ _)
      | (with_reducible exact sketch_Index.mono _ _)
      | (with_reducible exact sketch_Span.mono _ _)
      | (with_reducible exact spoorlaw13_awake.mono _)
      | (with_reducible exact LeO.refl _)
      | (with_reducible exact LeO.none _)
      | (with_reducible refine LeO.ite ?_ ?_)
      | (with_reducible refine LeO.bind ?_ (fun _ => ?_))
      | exact ih0 _ _ _ _ _ _
      | exact ih1 _ _
      | exact sketch_Index.mono _ _
      | exact sketch_Span.mono _ _
      | exact spoorlaw13_awake.mono _
      | exact LeO.none _
      | refine LeO.ite ?_ ?_
      | refine LeO.bind ?_ (fun _ => ?_)
set_option maxHeartbeats 8000000 in
set_option maxRecDepth 100000 in
theorem spoorlaw13_SketchBars.calls (k : Nat) (a0 : Int) (a1 : Int) (r : Bool) (w : World) (h : spoorlaw13_SketchBars.f k a0 a1 = some r) :
    Calls Try.prog 4 #[.int .u64 a0, .int .i64 a1] w fun e w' => e = .returned (.bool r) ∧ Below w.heap.size w w' := by
  have HB := Aside0.mk (Below.refl w.heap.size w)
  have H : ((spoorlaw13_awake.f k).bind fun t154 => ((sketch_Index.f k a0).bind fun t155 => ((sketch_Span.f k t155).bind fun bt156 => (if t154 = true then (if bt156.2.2 = 0 then (if t155 < 0 then (spoorlaw13_SketchBars.j0 k a0 a1 t155 bt156.1 bt156.2.1 true) else (if t155 ≥ 1920 then (spoorlaw13_SketchBars.j0 k a0 a1 t155 bt156.1 bt156.2.1 true) else (if a0 < bt156.1 then (spoorlaw13_SketchBars.j0 k a0 a1 t155 bt156.1 bt156.2.1 true) else (if a0 > bt156.2.1 then (spoorlaw13_SketchBars.j0 k a0 a1 t155 bt156.1 bt156.2.1 true) else ((sketch_Index.f k bt156.1).bind fun t159 => (if t159 = t155 then ((sketch_Index.f k bt156.2.1).bind fun t160 => (spoorlaw13_SketchBars.j0 k a0 a1 t155 bt156.1 bt156.2.1 (t160 != t155))) else (spoorlaw13_SketchBars.j0 k a0 a1 t155 bt156.1 bt156.2.1 true))))))) else (spoorlaw13_SketchBars.j0 k a0 a1 t155 bt156.1 bt156.2.1 true)) else (spoorlaw13_SketchBars.j0 k a0 a1 t155 bt156.1 bt156.2.1 true))))) = some r := h
  clear h
  replace H := Option.bind_eq_some_iff.mp H
  obtain ⟨t154, A30, H⟩ := H
  replace H : ((sketch_Index.f k a0).bind fun t155 => ((sketch_Span.f k t155).bind fun bt156 => (if t154 = true then (if bt156.2.2 = 0 then (if t155 < 0 then (spoorlaw13_SketchBars.j0 k a0 a1 t155 bt156.1 bt156.2.1 true) else (if t155 ≥ 1920 then (spoorlaw13_SketchBars.j0 k a0 a1 t155 bt156.1 bt156.2.1 true) else (if a0 < bt156.1 then (spoorlaw13_SketchBars.j0 k a0 a1 t155 bt156.1 bt156.2.1 true) else (if a0 > bt156.2.1 then (spoorlaw13_SketchBars.j0 k a0 a1 t155 bt156.1 bt156.2.1 true) else ((sketch_Index.f k bt156.1).bind fun t159 => (if t159 = t155 then ((sketch_Index.f k bt156.2.1).bind fun t160 => (spoorlaw13_SketchBars.j0 k a0 a1 t155 bt156.1 bt156.2.1 (t160 != t155))) else (spoorlaw13_SketchBars.j0 k a0 a1 t155 bt156.1 bt156.2.1 true))))))) else (spoorlaw13_SketchBars.j0 k a0 a1 t155 bt156.1 bt156.2.1 true)) else (spoorlaw13_SketchBars.j0 k a0 a1 t155 bt156.1 bt156.2.1 true)))) = some r := H
  have A3 := Aside0.mk A30
  clear A30
  replace H := Option.bind_eq_some_iff.mp H
  obtain ⟨t155, A40, H⟩ := H
  replace H : ((sketch_Span.f k t155).bind fun bt156 => (if t154 = true then (if bt156.2.2 = 0 then (if t155 < 0 then (spoorlaw13_SketchBars.j0 k a0 a1 t155 bt156.1 bt156.2.1 true) else (if t155 ≥ 1920 then (spoorlaw13_SketchBars.j0 k a0 a1 t155 bt156.1 bt156.2.1 true) else (if a0 < bt156.1 then (spoorlaw13_SketchBars.j0 k a0 a1 t155 bt156.1 bt156.2.1 true) else (if a0 > bt156.2.1 then (spoorlaw13_SketchBars.j0 k a0 a1 t155 bt156.1 bt156.2.1 true) else ((sketch_Index.f k bt156.1).bind fun t159 => (if t159 = t155 then ((sketch_Index.f k bt156.2.1).bind fun t160 => (spoorlaw13_SketchBars.j0 k a0 a1 t155 bt156.1 bt156.2.1 (t160 != t155))) else (spoorlaw13_SketchBars.j0 k a0 a1 t155 bt156.1 bt156.2.1 true))))))) else (spoorlaw13_SketchBars.j0 k a0 a1 t155 bt156.1 bt156.2.1 true)) else (spoorlaw13_SketchBars.j0 k a0 a1 t155 bt156.1 bt156.2.1 true))) = some r := H
  have A4 := Aside0.mk A40
  clear A40
  replace H := Option.bind_eq_some_iff.mp H
  obtain ⟨⟨t156, t157, t158⟩, A50, H⟩ := H
  replace H : (if t154 = true then (if t158 = 0 then (if t155 < 0 then (spoorlaw13_SketchBars.j0 k a0 a1 t155 t156 t157 true) else (if t155 ≥ 1920 then (spoorlaw13_SketchBars.j0 k a0 a1 t155 t156 t157 true) else (if a0 < t156 then (spoorlaw13_SketchBars.j0 k a0 a1 t155 t156 t157 true) else (if a0 > t157 then (spoorlaw13_SketchBars.j0 k a0 a1 t155 t156 t157 true) else ((sketch_Index.f k t156).bind fun t159 => (if t159 = t155 then ((sketch_Index.f k t157).bind fun t160 => (spoorlaw13_SketchBars.j0 k a0 a1 t155 t156 t157 (t160 != t155))) else (spoorlaw13_SketchBars.j0 k a0 a1 t155 t156 t157 true))))))) else (spoorlaw13_SketchBars.j0 k a0 a1 t155 t156 t157 true)) else (spoorlaw13_SketchBars.j0 k a0 a1 t155 t156 t157 true)) = some r := H
  have A5 := Aside0.mk A50
  clear A50
  have HC6 := Aside0.mk H
  clear H
  go_enter Try.func4, Try.ntmps4
  go_upto_region 4 with (first | ((with_reducible refine gate_callee (f := 9) rfl ?_); refine goesL_ (some 23) rfl rfl Try.func9 (by kernel_rfl) rfl #[] rfl (by (try simp only [List.map_toArray, List.map_cons, List.map_nil]); first | done | rfl | (simp only [List.length_drop, List.length_take]; rfl)) ?_; (with_reducible refine (spoorlaw13_awake.calls k  t154 _ A3.out).mono ?_); rintro e w7 ⟨rfl, hb⟩; refine ⟨_, rfl, ?_⟩; have n0_ := Aside0.mk (below_step (by repeat (first | (with_reducible first | exact HB.out | apply below_alloc | apply pw_below_drewN | apply below_drew1) | exact HB.out)) hb); clear HB; have HB := n0_; clear n0_; (try clear hb); (try clear hb2); (try clear hk); (try clear hi)) | ((with_reducible refine gate_callee (f := 10) rfl ?_); refine goesL_ (some 25) rfl rfl Try.func10 (by kernel_rfl) rfl #[.int .u64 a0] rfl (by (try simp only [List.map_toArray, List.map_cons, List.map_nil]); first | done | rfl | (simp only [List.length_drop, List.length_take]; rfl)) ?_; (with_reducible refine (sketch_Index.calls k a0 t155 _ A4.out).mono ?_); rintro e w' ⟨rfl, ⟨nd, rfl⟩⟩; refine ⟨_, rfl, ?_⟩) | ((with_reducible refine gate_callee (f := 11) rfl ?_); refine goesL_ (some 28) rfl rfl Try.func11 (by kernel_rfl) rfl #[.int .i64 t155] rfl (by (try simp only [List.map_toArray, List.map_cons, List.map_nil]); first | done | rfl | (simp only [List.length_drop, List.length_take]; rfl)) ?_; (with_reducible refine (sketch_Span.calls k t155 t156 t157 t158 _ A5.out).mono ?_); rintro e w' ⟨rfl, ⟨nd, rfl⟩⟩; refine ⟨_, rfl, ?_⟩))
  (try simp only [Act.put, List.setIfInBounds_toArray, List.set_cons_zero, List.set_cons_succ])
  go_cut [67] (fun v67 wc => ∃ (kq : Nat) (x67_5 : Bool), v67 = .bool x67_5 ∧ Aside0 (spoorlaw13_SketchBars.j0 kq a0 a1 t155 t156 t157 x67_5 = some r) ∧ Aside0 (kq ≤ k) ∧ Aside0 (Below w.heap.size w wc))
  case first =>
    have H := HC6.out
    clear HC6
    by_cases c8 : t154 = true
    · subst c8
      have H1 : (if t158 = 0 then (if t155 < 0 then (spoorlaw13_SketchBars.j0 k a0 a1 t155 t156 t157 true) else (if t155 ≥ 1920 then (spoorlaw13_SketchBars.j0 k a0 a1 t155 t156 t157 true) else (if a0 < t156 then (spoorlaw13_SketchBars.j0 k a0 a1 t155 t156 t157 true) else (if a0 > t157 then (spoorlaw13_SketchBars.j0 k a0 a1 t155 t156 t157 true) else ((sketch_Index.f k t156).bind fun t159 => (if t159 = t155 then ((sketch_Index.f k t157).bind fun t160 => (spoorlaw13_SketchBars.j0 k a0 a1 t155 t156 t157 (t160 != t155))) else (spoorlaw13_SketchBars.j0 k a0 a1 t155 t156 t157 true))))))) else (spoorlaw13_SketchBars.j0 k a0 a1 t155 t156 t157 true)) = some r := by rw [if_pos rfl] at H; exact H
      clear H
      have H := H1
      clear H1
      by_cases c9 : t158 = 0
      · rw [if_pos c9] at H
        have c9b0 : (t158 == 0) = true := beq_iff_eq.mpr c9
        have c9b1 : (t158 != 0) = false := bne_eq_false_iff_eq.mpr c9
        clear c9
        (first | rw [c9b0] | (simp only [i64_w, i32_w]; rw [c9b0]) | skip)
        by_cases c10 : t155 < 0
        · rw [if_pos c10] at H
          have c10b0 : decide (t155 < 0) = true := decide_eq_true c10
          clear c10
          have H' := Aside0.mk H
          clear H
          go_wp2
          go_meet
          case rel => exact ⟨_, (true), (by first | rfl | (simp; done) | (simp [*]; done)), H', ⟨by first | omega | exact Nat.le_refl _⟩, ⟨by repeat (first | (with_reducible first | exact HB.out | apply below_alloc | apply pw_below_drewN | apply below_drew1) | exact HB.out)⟩⟩
        · rw [if_neg c10] at H
          have c10b0 : decide (t155 < 0) = false := decide_eq_false c10
          clear c10
          by_cases c11 : t155 ≥ 1920
          · rw [if_pos c11] at H
            have c11b0 : decide (1920 ≤ t155) = true := decide_eq_true c11
            clear c11
            have H' := Aside0.mk H
            clear H
            go_wp2
            go_meet
            case rel => exact ⟨_, (true), (by first | rfl | (simp; done) | (simp [*]; done)), H', ⟨by first | omega | exact Nat.le_refl _⟩, ⟨by repeat (first | (with_reducible first | exact HB.out | apply below_alloc | apply pw_below_drewN | apply below_drew1) | exact HB.out)⟩⟩
          · rw [if_neg c11] at H
            have c11b0 : decide (1920 ≤ t155) = false := decide_eq_false c11
            clear c11
            by_cases c12 : a0 < t156
            · rw [if_pos c12] at H
              have c12b0 : decide (a0 < t156) = true := decide_eq_true c12
              clear c12
              have H' := Aside0.mk H
              clear H
              go_wp2
              go_meet
              case rel => exact ⟨_, (true), (by first | rfl | (simp; done) | (simp [*]; done)), H', ⟨by first | omega | exact Nat.le_refl _⟩, ⟨by repeat (first | (with_reducible first | exact HB.out | apply below_alloc | apply pw_below_drewN | apply below_drew1) | exact HB.out)⟩⟩
            · rw [if_neg c12] at H
              have c12b0 : decide (a0 < t156) = false := decide_eq_false c12
              clear c12
              by_cases c13 : a0 > t157
              · rw [if_pos c13] at H
                have c13b0 : decide (t157 < a0) = true := decide_eq_true c13
                clear c13
                have H' := Aside0.mk H
                clear H
                go_wp2
                go_meet
                case rel => exact ⟨_, (true), (by first | rfl | (simp; done) | (simp [*]; done)), H', ⟨by first | omega | exact Nat.le_refl _⟩, ⟨by repeat (first | (with_reducible first | exact HB.out | apply below_alloc | apply pw_below_drewN | apply below_drew1) | exact HB.out)⟩⟩
              · rw [if_neg c13] at H
                have c13b0 : decide (t157 < a0) = false := decide_eq_false c13
                clear c13
                replace H := Option.bind_eq_some_iff.mp H
                obtain ⟨t159, A140, H⟩ := H
                replace H : (if t159 = t155 then ((sketch_Index.f k t157).bind fun t160 => (spoorlaw13_SketchBars.j0 k a0 a1 t155 t156 t157 (t160 != t155))) else (spoorlaw13_SketchBars.j0 k a0 a1 t155 t156 t157 true)) = some r := H
                have A14 := Aside0.mk A140
                clear A140
                by_cases c15 : t159 = t155
                · rw [if_pos c15] at H
                  have c15b0 : (t159 == t155) = true := beq_iff_eq.mpr c15
                  have c15b1 : (t159 != t155) = false := bne_eq_false_iff_eq.mpr c15
                  clear c15
                  replace H := Option.bind_eq_some_iff.mp H
                  obtain ⟨t160, A160, H⟩ := H
                  replace H : (spoorlaw13_SketchBars.j0 k a0 a1 t155 t156 t157 (t160 != t155)) = some r := H
                  have A16 := Aside0.mk A160
                  clear A160
                  have H' := Aside0.mk H
                  clear H
                  go_wp2_with (first | (go_at_call 10; (with_reducible refine (sketch_Index.calls k t156 t159 _ A14.out).mono ?_); rintro e w' ⟨rfl, ⟨nd, rfl⟩⟩) | (go_at_call 10; (with_reducible refine (sketch_Index.calls k t157 t160 _ A16.out).mono ?_); rintro e w' ⟨rfl, ⟨nd, rfl⟩⟩))
                  go_meet
                  case rel => exact ⟨_, ((t160 != t155)), (by first | rfl | (simp; done) | (simp [*]; done)), H', ⟨by first | omega | exact Nat.le_refl _⟩, ⟨by repeat (first | (with_reducible first | exact HB.out | apply below_alloc | apply pw_below_drewN | apply below_drew1) | exact HB.out)⟩⟩
                · rw [if_neg c15] at H
                  have c15b0 : (t159 == t155) = false := beq_eq_false_iff_ne.mpr c15
                  have c15b1 : (t159 != t155) = true := bne_iff_ne.mpr c15
                  have H' := Aside0.mk H
                  clear H
                  go_wp2_with (first | (go_at_call 10; (with_reducible refine (sketch_Index.calls k t156 t159 _ A14.out).mono ?_); rintro e w' ⟨rfl, ⟨nd, rfl⟩⟩))
                  go_meet
                  case rel => exact ⟨_, (true), (by first | rfl | (simp; done) | (simp [*]; done)), H', ⟨by first | omega | exact Nat.le_refl _⟩, ⟨by repeat (first | (with_reducible first | exact HB.out | apply below_alloc | apply pw_below_drewN | apply below_drew1) | exact HB.out)⟩⟩
      · rw [if_neg c9] at H
        have c9b0 : (t158 == 0) = false := beq_eq_false_iff_ne.mpr c9
        have c9b1 : (t158 != 0) = true := bne_iff_ne.mpr c9
        (first | rw [c9b0] | (simp only [i64_w, i32_w]; rw [c9b0]) | skip)
        have H' := Aside0.mk H
        clear H
        go_wp2
        go_meet
        case rel => exact ⟨_, (true), (by first | rfl | (simp; done) | (simp [*]; done)), H', ⟨by first | omega | exact Nat.le_refl _⟩, ⟨by repeat (first | (with_reducible first | exact HB.out | apply below_alloc | apply pw_below_drewN | apply below_drew1) | exact HB.out)⟩⟩
    · replace c8 := Bool.eq_false_iff.mpr c8
      subst c8
      have H1 : (spoorlaw13_SketchBars.j0 k a0 a1 t155 t156 t157 true) = some r := by rw [if_neg (show ¬ (false = true) by decide)] at H; exact H
      clear H
      have H := H1
      clear H1
      have H' := Aside0.mk H
      clear H
      go_wp2
      go_meet
      case rel => exact ⟨_, (true), (by first | rfl | (simp; done) | (simp [*]; done)), H', ⟨by first | omega | exact Nat.le_refl _⟩, ⟨by repeat (first | (with_reducible first | exact HB.out | apply below_alloc | apply pw_below_drewN | apply below_drew1) | exact HB.out)⟩⟩
  case rest =>
    clear HC6
    try clear c1
    try clear p2
    try clear c4
    try clear c8
    try clear c9
    try clear c9b0
    try clear c9b1
    try clear c10
    try clear c10b0
    try clear c11
    try clear c11b0
    try clear c12
    try clear c12b0
    try clear c13
    try clear c13b0
    try clear c15
    try clear c15b0
    try clear c15b1
    obtain ⟨kq, x67_5, rfl, HA, HJ5, HB⟩ := hcut
    cases kq with
    | zero => exact absurd HA.out (by simp [spoorlaw13_SketchBars.j0])
    | succ kj5 =>
      have H := HA.out
      clear HA
      simp only [spoorlaw13_SketchBars.j0] at H
      by_cases c17 : x67_5 = true
      · subst c17
        have H1 : (some false) = some r := by rw [if_pos rfl] at H; exact H
        clear H
        have H := H1
        clear H1
        obtain rfl := Option.some.inj H
        go_wp2
        go_ret
        exact ⟨by first | rfl | (simp [errW_none, errW_some] <;> rfl) | (simp [*, errW_none, errW_some] <;> rfl), by repeat (first | (with_reducible first | exact HB.out | apply below_alloc | apply pw_below_drewN | apply below_drew1) | exact HB.out)⟩
      · replace c17 := Bool.eq_false_iff.mpr c17
        subst c17
        have H1 : (if a0 < 64 then (if t156 = a0 then (if t157 = a0 then (if t155 = (wrap64 (a0)) then (if a0 ≥ 64 then (spoorlaw13_SketchBars.j1 kj5 a1 (decide ((IntKind.u64.wrap (t157 - t156)) > (IntKind.u64.wrap (Int.tdiv t156 32))))) else (spoorlaw13_SketchBars.j1 kj5 a1 false)) else (spoorlaw13_SketchBars.j1 kj5 a1 true)) else (spoorlaw13_SketchBars.j1 kj5 a1 true)) else (spoorlaw13_SketchBars.j1 kj5 a1 true)) else (if a0 ≥ 64 then (spoorlaw13_SketchBars.j1 kj5 a1 (decide ((IntKind.u64.wrap (t157 - t156)) > (IntKind.u64.wrap (Int.tdiv t156 32))))) else (spoorlaw13_SketchBars.j1 kj5 a1 false))) = some r := by rw [if_neg (show ¬ (false = true) by decide)] at H; exact H
        clear H
        have H := H1
        clear H1
        have HC18 := Aside0.mk H
        clear H
        go_upto_region 6 with (fail)
        go_cut [97] (fun v97 wc => ∃ (kq : Nat) (x97_17 : Bool), v97 = .bool x97_17 ∧ Aside0 (spoorlaw13_SketchBars.j1 kq a1 x97_17 = some r) ∧ Aside0 (kq ≤ kj5) ∧ Aside0 (Below w.heap.size w wc))
        case first =>
          have H := HC18.out
          clear HC18
          by_cases c19 : a0 < 64
          · rw [if_pos c19] at H
            have c19b0 : decide (a0 < 64) = true := decide_eq_true c19
            clear c19
            (first | rw [c19b0] | (simp only [i64_w, i32_w]; rw [c19b0]) | skip)
            by_cases c20 : t156 = a0
            · rw [if_pos c20] at H
              have c20b0 : (t156 == a0) = true := beq_iff_eq.mpr c20
              have c20b1 : (t156 != a0) = false := bne_eq_false_iff_eq.mpr c20
              clear c20
              by_cases c21 : t157 = a0
              · rw [if_pos c21] at H
                have c21b0 : (t157 == a0) = true := beq_iff_eq.mpr c21
                have c21b1 : (t157 != a0) = false := bne_eq_false_iff_eq.mpr c21
                clear c21
                by_cases c22 : t155 = (wrap64 (a0))
                · rw [if_pos c22] at H
                  have c22b0 : (t155 == (wrap64 (a0))) = true := beq_iff_eq.mpr c22
                  have c22b1 : (t155 != (wrap64 (a0))) = false := bne_eq_false_iff_eq.mpr c22
                  clear c22
                  by_cases c23 : a0 ≥ 64
                  · rw [if_pos c23] at H
                    have c23b0 : decide (64 ≤ a0) = true := decide_eq_true c23
                    clear c23
                    have H' := Aside0.mk H
                    clear H
                    go_wp2
                    go_meet
                    case rel => exact ⟨_, (decide ((IntKind.u64.wrap (t157 - t156)) > (IntKind.u64.wrap (Int.tdiv t156 32)))), (by first | rfl | (simp; done) | (simp [*]; done)), H', ⟨by have := HJ5.out; first | omega | exact Nat.le_refl _⟩, ⟨by repeat (first | (with_reducible first | exact HB.out | apply below_alloc | apply pw_below_drewN | apply below_drew1) | exact HB.out)⟩⟩
                  · rw [if_neg c23] at H
                    have c23b0 : decide (64 ≤ a0) = false := decide_eq_false c23
                    clear c23
                    have H' := Aside0.mk H
                    clear H
                    go_wp2
                    go_meet
                    case rel => exact ⟨_, (false), (by first | rfl | (simp; done) | (simp [*]; done)), H', ⟨by have := HJ5.out; first | omega | exact Nat.le_refl _⟩, ⟨by repeat (first | (with_reducible first | exact HB.out | apply below_alloc | apply pw_below_drewN | apply below_drew1) | exact HB.out)⟩⟩
                · rw [if_neg c22] at H
                  have c22b0 : (t155 == (wrap64 (a0))) = false := beq_eq_false_iff_ne.mpr c22
                  have c22b1 : (t155 != (wrap64 (a0))) = true := bne_iff_ne.mpr c22
                  have H' := Aside0.mk H
                  clear H
                  go_wp2
                  go_meet
                  case rel => exact ⟨_, (true), (by first | rfl | (simp; done) | (simp [*]; done)), H', ⟨by have := HJ5.out; first | omega | exact Nat.le_refl _⟩, ⟨by repeat (first | (with_reducible first | exact HB.out | apply below_alloc | apply pw_below_drewN | apply below_drew1) | exact HB.out)⟩⟩
              · rw [if_neg c21] at H
                have c21b0 : (t157 == a0) = false := beq_eq_false_iff_ne.mpr c21
                have c21b1 : (t157 != a0) = true := bne_iff_ne.mpr c21
                have H' := Aside0.mk H
                clear H
                go_wp2
                go_meet
                case rel => exact ⟨_, (true), (by first | rfl | (simp; done) | (simp [*]; done)), H', ⟨by have := HJ5.out; first | omega | exact Nat.le_refl _⟩, ⟨by repeat (first | (with_reducible first | exact HB.out | apply below_alloc | apply pw_below_drewN | apply below_drew1) | exact HB.out)⟩⟩
            · rw [if_neg c20] at H
              have c20b0 : (t156 == a0) = false := beq_eq_false_iff_ne.mpr c20
              have c20b1 : (t156 != a0) = true := bne_iff_ne.mpr c20
              have H' := Aside0.mk H
              clear H
              go_wp2
              go_meet
              case rel => exact ⟨_, (true), (by first | rfl | (simp; done) | (simp [*]; done)), H', ⟨by have := HJ5.out; first | omega | exact Nat.le_refl _⟩, ⟨by repeat (first | (with_reducible first | exact HB.out | apply below_alloc | apply pw_below_drewN | apply below_drew1) | exact HB.out)⟩⟩
          · rw [if_neg c19] at H
            have c19b0 : decide (a0 < 64) = false := decide_eq_false c19
            clear c19
            (first | rw [c19b0] | (simp only [i64_w, i32_w]; rw [c19b0]) | skip)
            by_cases c24 : a0 ≥ 64
            · rw [if_pos c24] at H
              have c24b0 : decide (64 ≤ a0) = true := decide_eq_true c24
              clear c24
              have H' := Aside0.mk H
              clear H
              go_wp2
              go_meet
              case rel => exact ⟨_, (decide ((IntKind.u64.wrap (t157 - t156)) > (IntKind.u64.wrap (Int.tdiv t156 32)))), (by first | rfl | (simp; done) | (simp [*]; done)), H', ⟨by have := HJ5.out; first | omega | exact Nat.le_refl _⟩, ⟨by repeat (first | (with_reducible first | exact HB.out | apply below_alloc | apply pw_below_drewN | apply below_drew1) | exact HB.out)⟩⟩
            · rw [if_neg c24] at H
              have c24b0 : decide (64 ≤ a0) = false := decide_eq_false c24
              clear c24
              have H' := Aside0.mk H
              clear H
              go_wp2
              go_meet
              case rel => exact ⟨_, (false), (by first | rfl | (simp; done) | (simp [*]; done)), H', ⟨by have := HJ5.out; first | omega | exact Nat.le_refl _⟩, ⟨by repeat (first | (with_reducible first | exact HB.out | apply below_alloc | apply pw_below_drewN | apply below_drew1) | exact HB.out)⟩⟩
        case rest =>
          clear HC18
          try clear c1
          try clear c2
          try clear p2
          try clear c4
          try clear p6
          try clear c8
          try clear c9
          try clear c9b0
          try clear c9b1
          try clear c10
          try clear c10b0
          try clear c11
          try clear c11b0
          try clear c12
          try clear c12b0
          try clear c13
          try clear c13b0
          try clear c15
          try clear c15b0
          try clear c15b1
          try clear c17
          try clear c19
          try clear c19b0
          try clear c20
          try clear c20b0
          try clear c20b1
          try clear c21
          try clear c21b0
          try clear c21b1
          try clear c22
          try clear c22b0
          try clear c22b1
          try clear c23
          try clear c23b0
          try clear c24
          try clear c24b0
          try clear p2
          obtain ⟨kq, x97_17, rfl, HA, HJ17, HB⟩ := hcut
          cases kq with
          | zero => exact absurd HA.out (by simp [spoorlaw13_SketchBars.j1])
          | succ kj17 =>
            have H := HA.out
            clear HA
            simp only [spoorlaw13_SketchBars.j1] at H
            by_cases c25 : x97_17 = true
            · subst c25
              have H1 : (some false) = some r := by rw [if_pos rfl] at H; exact H
              clear H
              have H := H1
              clear H1
              obtain rfl := Option.some.inj H
              go_wp2
              go_ret
              exact ⟨by first | rfl | (simp [errW_none, errW_some] <;> rfl) | (simp [*, errW_none, errW_some] <;> rfl), by repeat (first | (with_reducible first | exact HB.out | apply below_alloc | apply pw_below_drewN | apply below_drew1) | exact HB.out)⟩
            · replace c25 := Bool.eq_false_iff.mpr c25
              subst c25
              have H1 : ((spoorlaw13_pick.f a1 1919).bind fun t161 => ((sketch_Span.f kj17 t161).bind fun bt162 => ((sketch_Span.f kj17 (wrap64 (t161 + 1))).bind fun bt165 => ((sketch_Span.f kj17 1919).bind fun bt168 => ((sketch_Span.f kj17 0).bind fun bt171 => (if bt162.2.2 = 0 then (if bt165.2.2 = 0 then (if bt168.2.2 = 0 then (if bt171.2.2 = 0 then (if bt162.2.1 < bt165.1 then (if bt165.1 = (IntKind.u64.wrap (bt162.2.1 + 1)) then (if bt165.1 ≤ bt165.2.1 then (if bt168.2.1 = 18446744073709551615 then (some (bt171.1 == 0)) else (some false)) else (some false)) else (some false)) else (some false)) else (some false)) else (some false)) else (some false)) else (some false))))))) = some r := by rw [if_neg (show ¬ (false = true) by decide)] at H; exact H
              clear H
              have H := H1
              clear H1
              replace H := Option.bind_eq_some_iff.mp H
              obtain ⟨t161, A260, H⟩ := H
              replace H : ((sketch_Span.f kj17 t161).bind fun bt162 => ((sketch_Span.f kj17 (wrap64 (t161 + 1))).bind fun bt165 => ((sketch_Span.f kj17 1919).bind fun bt168 => ((sketch_Span.f kj17 0).bind fun bt171 => (if bt162.2.2 = 0 then (if bt165.2.2 = 0 then (if bt168.2.2 = 0 then (if bt171.2.2 = 0 then (if bt162.2.1 < bt165.1 then (if bt165.1 = (IntKind.u64.wrap (bt162.2.1 + 1)) then (if bt165.1 ≤ bt165.2.1 then (if bt168.2.1 = 18446744073709551615 then (some (bt171.1 == 0)) else (some false)) else (some false)) else (some false)) else (some false)) else (some false)) else (some false)) else (some false)) else (some false)))))) = some r := H
              have A26 := Aside0.mk A260
              clear A260
              replace H := Option.bind_eq_some_iff.mp H
              obtain ⟨⟨t162, t163, t164⟩, A270, H⟩ := H
              replace H : ((sketch_Span.f kj17 (wrap64 (t161 + 1))).bind fun bt165 => ((sketch_Span.f kj17 1919).bind fun bt168 => ((sketch_Span.f kj17 0).bind fun bt171 => (if t164 = 0 then (if bt165.2.2 = 0 then (if bt168.2.2 = 0 then (if bt171.2.2 = 0 then (if t163 < bt165.1 then (if bt165.1 = (IntKind.u64.wrap (t163 + 1)) then (if bt165.1 ≤ bt165.2.1 then (if bt168.2.1 = 18446744073709551615 then (some (bt171.1 == 0)) else (some false)) else (some false)) else (some false)) else (some false)) else (some false)) else (some false)) else (some false)) else (some false))))) = some r := H
              have A27 := Aside0.mk A270
              clear A270
              replace H := Option.bind_eq_some_iff.mp H
              obtain ⟨⟨t165, t166, t167⟩, A280, H⟩ := H
              replace H : ((sketch_Span.f kj17 1919).bind fun bt168 => ((sketch_Span.f kj17 0).bind fun bt171 => (if t164 = 0 then (if t167 = 0 then (if bt168.2.2 = 0 then (if bt171.2.2 = 0 then (if t163 < t165 then (if t165 = (IntKind.u64.wrap (t163 + 1)) then (if t165 ≤ t166 then (if bt168.2.1 = 18446744073709551615 then (some (bt171.1 == 0)) else (some false)) else (some false)) else (some false)) else (some false)) else (some false)) else (some false)) else (some false)) else (some false)))) = some r := H
              have A28 := Aside0.mk A280
              clear A280
              replace H := Option.bind_eq_some_iff.mp H
              obtain ⟨⟨t168, t169, t170⟩, A290, H⟩ := H
              replace H : ((sketch_Span.f kj17 0).bind fun bt171 => (if t164 = 0 then (if t167 = 0 then (if t170 = 0 then (if bt171.2.2 = 0 then (if t163 < t165 then (if t165 = (IntKind.u64.wrap (t163 + 1)) then (if t165 ≤ t166 then (if t169 = 18446744073709551615 then (some (bt171.1 == 0)) else (some false)) else (some false)) else (some false)) else (some false)) else (some false)) else (some false)) else (some false)) else (some false))) = some r := H
              have A29 := Aside0.mk A290
              clear A290
              replace H := Option.bind_eq_some_iff.mp H
              obtain ⟨⟨t171, t172, t173⟩, A300, H⟩ := H
              replace H : (if t164 = 0 then (if t167 = 0 then (if t170 = 0 then (if t173 = 0 then (if t163 < t165 then (if t165 = (IntKind.u64.wrap (t163 + 1)) then (if t165 ≤ t166 then (if t169 = 18446744073709551615 then (some (t171 == 0)) else (some false)) else (some false)) else (some false)) else (some false)) else (some false)) else (some false)) else (some false)) else (some false)) = some r := H
              have A30 := Aside0.mk A300
              clear A300
              by_cases c31 : t164 = 0
              · rw [if_pos c31] at H
                have c31b0 : (t164 == 0) = true := beq_iff_eq.mpr c31
                have c31b1 : (t164 != 0) = false := bne_eq_false_iff_eq.mpr c31
                clear c31
                by_cases c32 : t167 = 0
                · rw [if_pos c32] at H
                  have c32b0 : (t167 == 0) = true := beq_iff_eq.mpr c32
                  have c32b1 : (t167 != 0) = false := bne_eq_false_iff_eq.mpr c32
                  clear c32
                  by_cases c33 : t170 = 0
                  · rw [if_pos c33] at H
                    have c33b0 : (t170 == 0) = true := beq_iff_eq.mpr c33
                    have c33b1 : (t170 != 0) = false := bne_eq_false_iff_eq.mpr c33
                    clear c33
                    by_cases c34 : t173 = 0
                    · rw [if_pos c34] at H
                      have c34b0 : (t173 == 0) = true := beq_iff_eq.mpr c34
                      have c34b1 : (t173 != 0) = false := bne_eq_false_iff_eq.mpr c34
                      clear c34
                      by_cases c35 : t163 < t165
                      · rw [if_pos c35] at H
                        have c35b0 : decide (t163 < t165) = true := decide_eq_true c35
                        clear c35
                        by_cases c36 : t165 = (IntKind.u64.wrap (t163 + 1))
                        · rw [if_pos c36] at H
                          have c36b0 : (t165 == (IntKind.u64.wrap (t163 + 1))) = true := beq_iff_eq.mpr c36
                          have c36b1 : (t165 != (IntKind.u64.wrap (t163 + 1))) = false := bne_eq_false_iff_eq.mpr c36
                          clear c36
                          by_cases c37 : t165 ≤ t166
                          · rw [if_pos c37] at H
                            have c37b0 : decide (t165 ≤ t166) = true := decide_eq_true c37
                            clear c37
                            by_cases c38 : t169 = 18446744073709551615
                            · rw [if_pos c38] at H
                              have c38b0 : (t169 == 18446744073709551615) = true := beq_iff_eq.mpr c38
                              have c38b1 : (t169 != 18446744073709551615) = false := bne_eq_false_iff_eq.mpr c38
                              clear c38
                              obtain rfl := Option.some.inj H
                              go_wp2_with (first | ((with_reducible refine gate_callee (f := 12) rfl ?_); refine goesL_ (some 99) rfl rfl Try.func12 (by kernel_rfl) rfl #[.int .i64 a1, .int .i64 1919] rfl (by (try simp only [List.map_toArray, List.map_cons, List.map_nil]); first | done | rfl | (simp only [List.length_drop, List.length_take]; rfl)) ?_; (with_reducible refine (spoorlaw13_pick.calls a1 1919 t161 _ A26.out).mono ?_); rintro e w' ⟨rfl, ⟨nd, rfl⟩⟩; refine ⟨_, rfl, ?_⟩) | ((with_reducible refine gate_callee (f := 11) rfl ?_); refine goesL_ (some 102) rfl rfl Try.func11 (by kernel_rfl) rfl #[.int .i64 t161] rfl (by (try simp only [List.map_toArray, List.map_cons, List.map_nil]); first | done | rfl | (simp only [List.length_drop, List.length_take]; rfl)) ?_; (with_reducible refine (sketch_Span.calls kj17 t161 t162 t163 t164 _ A27.out).mono ?_); rintro e w' ⟨rfl, ⟨nd, rfl⟩⟩; refine ⟨_, rfl, ?_⟩) | ((with_reducible refine gate_callee (f := 11) rfl ?_); refine goesL_ (some 109) rfl rfl Try.func11 (by kernel_rfl) rfl #[.int .i64 (wrap64 (t161 + 1))] rfl (by (try simp only [List.map_toArray, List.map_cons, List.map_nil]); first | done | rfl | (simp only [List.length_drop, List.length_take]; rfl)) ?_; (with_reducible refine (sketch_Span.calls kj17 (wrap64 (t161 + 1)) t165 t166 t167 _ A28.out).mono ?_); rintro e w' ⟨rfl, ⟨nd, rfl⟩⟩; refine ⟨_, rfl, ?_⟩) | ((with_reducible refine gate_callee (f := 11) rfl ?_); refine goesL_ (some 114) rfl rfl Try.func11 (by kernel_rfl) rfl #[.int .i64 1919] rfl (by (try simp only [List.map_toArray, List.map_cons, List.map_nil]); first | done | rfl | (simp only [List.length_drop, List.length_take]; rfl)) ?_; (with_reducible refine (sketch_Span.calls kj17 1919 t168 t169 t170 _ A29.out).mono ?_); rintro e w' ⟨rfl, ⟨nd, rfl⟩⟩; refine ⟨_, rfl, ?_⟩) | ((with_reducible refine gate_callee (f := 11) rfl ?_); refine goesL_ (some 119) rfl rfl Try.func11 (by kernel_rfl) rfl #[.int .i64 0] rfl (by (try simp only [List.map_toArray, List.map_cons, List.map_nil]); first | done | rfl | (simp only [List.length_drop, List.length_take]; rfl)) ?_; (with_reducible refine (sketch_Span.calls kj17 0 t171 t172 t173 _ A30.out).mono ?_); rintro e w' ⟨rfl, ⟨nd, rfl⟩⟩; refine ⟨_, rfl, ?_⟩))
                              go_ret
                              exact ⟨by first | rfl | (simp [errW_none, errW_some] <;> rfl) | (simp [*, errW_none, errW_some] <;> rfl), by repeat (first | (with_reducible first | exact HB.out | apply below_alloc | apply pw_below_drewN | apply below_drew1) | exact HB.out)⟩
                            · rw [if_neg c38] at H
                              have c38b0 : (t169 == 18446744073709551615) = false := beq_eq_false_iff_ne.mpr c38
                              have c38b1 : (t169 != 18446744073709551615) = true := bne_iff_ne.mpr c38
                              obtain rfl := Option.some.inj H
                              go_wp2_with (first | ((with_reducible refine gate_callee (f := 12) rfl ?_); refine goesL_ (some 99) rfl rfl Try.func12 (by kernel_rfl) rfl #[.int .i64 a1, .int .i64 1919] rfl (by (try simp only [List.map_toArray, List.map_cons, List.map_nil]); first | done | rfl | (simp only [List.length_drop, List.length_take]; rfl)) ?_; (with_reducible refine (spoorlaw13_pick.calls a1 1919 t161 _ A26.out).mono ?_); rintro e w' ⟨rfl, ⟨nd, rfl⟩⟩; refine ⟨_, rfl, ?_⟩) | ((with_reducible refine gate_callee (f := 11) rfl ?_); refine goesL_ (some 102) rfl rfl Try.func11 (by kernel_rfl) rfl #[.int .i64 t161] rfl (by (try simp only [List.map_toArray, List.map_cons, List.map_nil]); first | done | rfl | (simp only [List.length_drop, List.length_take]; rfl)) ?_; (with_reducible refine (sketch_Span.calls kj17 t161 t162 t163 t164 _ A27.out).mono ?_); rintro e w' ⟨rfl, ⟨nd, rfl⟩⟩; refine ⟨_, rfl, ?_⟩) | ((with_reducible refine gate_callee (f := 11) rfl ?_); refine goesL_ (some 109) rfl rfl Try.func11 (by kernel_rfl) rfl #[.int .i64 (wrap64 (t161 + 1))] rfl (by (try simp only [List.map_toArray, List.map_cons, List.map_nil]); first | done | rfl | (simp only [List.length_drop, List.length_take]; rfl)) ?_; (with_reducible refine (sketch_Span.calls kj17 (wrap64 (t161 + 1)) t165 t166 t167 _ A28.out).mono ?_); rintro e w' ⟨rfl, ⟨nd, rfl⟩⟩; refine ⟨_, rfl, ?_⟩) | ((with_reducible refine gate_callee (f := 11) rfl ?_); refine goesL_ (some 114) rfl rfl Try.func11 (by kernel_rfl) rfl #[.int .i64 1919] rfl (by (try simp only [List.map_toArray, List.map_cons, List.map_nil]); first | done | rfl | (simp only [List.length_drop, List.length_take]; rfl)) ?_; (with_reducible refine (sketch_Span.calls kj17 1919 t168 t169 t170 _ A29.out).mono ?_); rintro e w' ⟨rfl, ⟨nd, rfl⟩⟩; refine ⟨_, rfl, ?_⟩) | ((with_reducible refine gate_callee (f := 11) rfl ?_); refine goesL_ (some 119) rfl rfl Try.func11 (by kernel_rfl) rfl #[.int .i64 0] rfl (by (try simp only [List.map_toArray, List.map_cons, List.map_nil]); first | done | rfl | (simp only [List.length_drop, List.length_take]; rfl)) ?_; (with_reducible refine (sketch_Span.calls kj17 0 t171 t172 t173 _ A30.out).mono ?_); rintro e w' ⟨rfl, ⟨nd, rfl⟩⟩; refine ⟨_, rfl, ?_⟩))
                              go_ret
                              exact ⟨by first | rfl | (simp [errW_none, errW_some] <;> rfl) | (simp [*, errW_none, errW_some] <;> rfl), by repeat (first | (with_reducible first | exact HB.out | apply below_alloc | apply pw_below_drewN | apply below_drew1) | exact HB.out)⟩
                          · rw [if_neg c37] at H
                            have c37b0 : decide (t165 ≤ t166) = false := decide_eq_false c37
                            clear c37
                            obtain rfl := Option.some.inj H
                            go_wp2_with (first | ((with_reducible refine gate_callee (f := 12) rfl ?_); refine goesL_ (some 99) rfl rfl Try.func12 (by kernel_rfl) rfl #[.int .i64 a1, .int .i64 1919] rfl (by (try simp only [List.map_toArray, List.map_cons, List.map_nil]); first | done | rfl | (simp only [List.length_drop, List.length_take]; rfl)) ?_; (with_reducible refine (spoorlaw13_pick.calls a1 1919 t161 _ A26.out).mono ?_); rintro e w' ⟨rfl, ⟨nd, rfl⟩⟩; refine ⟨_, rfl, ?_⟩) | ((with_reducible refine gate_callee (f := 11) rfl ?_); refine goesL_ (some 102) rfl rfl Try.func11 (by kernel_rfl) rfl #[.int .i64 t161] rfl (by (try simp only [List.map_toArray, List.map_cons, List.map_nil]); first | done | rfl | (simp only [List.length_drop, List.length_take]; rfl)) ?_; (with_reducible refine (sketch_Span.calls kj17 t161 t162 t163 t164 _ A27.out).mono ?_); rintro e w' ⟨rfl, ⟨nd, rfl⟩⟩; refine ⟨_, rfl, ?_⟩) | ((with_reducible refine gate_callee (f := 11) rfl ?_); refine goesL_ (some 109) rfl rfl Try.func11 (by kernel_rfl) rfl #[.int .i64 (wrap64 (t161 + 1))] rfl (by (try simp only [List.map_toArray, List.map_cons, List.map_nil]); first | done | rfl | (simp only [List.length_drop, List.length_take]; rfl)) ?_; (with_reducible refine (sketch_Span.calls kj17 (wrap64 (t161 + 1)) t165 t166 t167 _ A28.out).mono ?_); rintro e w' ⟨rfl, ⟨nd, rfl⟩⟩; refine ⟨_, rfl, ?_⟩) | ((with_reducible refine gate_callee (f := 11) rfl ?_); refine goesL_ (some 114) rfl rfl Try.func11 (by kernel_rfl) rfl #[.int .i64 1919] rfl (by (try simp only [List.map_toArray, List.map_cons, List.map_nil]); first | done | rfl | (simp only [List.length_drop, List.length_take]; rfl)) ?_; (with_reducible refine (sketch_Span.calls kj17 1919 t168 t169 t170 _ A29.out).mono ?_); rintro e w' ⟨rfl, ⟨nd, rfl⟩⟩; refine ⟨_, rfl, ?_⟩) | ((with_reducible refine gate_callee (f := 11) rfl ?_); refine goesL_ (some 119) rfl rfl Try.func11 (by kernel_rfl) rfl #[.int .i64 0] rfl (by (try simp only [List.map_toArray, List.map_cons, List.map_nil]); first | done | rfl | (simp only [List.length_drop, List.length_take]; rfl)) ?_; (with_reducible refine (sketch_Span.calls kj17 0 t171 t172 t173 _ A30.out).mono ?_); rintro e w' ⟨rfl, ⟨nd, rfl⟩⟩; refine ⟨_, rfl, ?_⟩))
                            go_ret
                            exact ⟨by first | rfl | (simp [errW_none, errW_some] <;> rfl) | (simp [*, errW_none, errW_some] <;> rfl), by repeat (first | (with_reducible first | exact HB.out | apply below_alloc | apply pw_below_drewN | apply below_drew1) | exact HB.out)⟩
                        · rw [if_neg c36] at H
                          have c36b0 : (t165 == (IntKind.u64.wrap (t163 + 1))) = false := beq_eq_false_iff_ne.mpr c36
                          have c36b1 : (t165 != (IntKind.u64.wrap (t163 + 1))) = true := bne_iff_ne.mpr c36
                          obtain rfl := Option.some.inj H
                          go_wp2_with (first | ((with_reducible refine gate_callee (f := 12) rfl ?_); refine goesL_ (some 99) rfl rfl Try.func12 (by kernel_rfl) rfl #[.int .i64 a1, .int .i64 1919] rfl (by (try simp only [List.map_toArray, List.map_cons, List.map_nil]); first | done | rfl | (simp only [List.length_drop, List.length_take]; rfl)) ?_; (with_reducible refine (spoorlaw13_pick.calls a1 1919 t161 _ A26.out).mono ?_); rintro e w' ⟨rfl, ⟨nd, rfl⟩⟩; refine ⟨_, rfl, ?_⟩) | ((with_reducible refine gate_callee (f := 11) rfl ?_); refine goesL_ (some 102) rfl rfl Try.func11 (by kernel_rfl) rfl #[.int .i64 t161] rfl (by (try simp only [List.map_toArray, List.map_cons, List.map_nil]); first | done | rfl | (simp only [List.length_drop, List.length_take]; rfl)) ?_; (with_reducible refine (sketch_Span.calls kj17 t161 t162 t163 t164 _ A27.out).mono ?_); rintro e w' ⟨rfl, ⟨nd, rfl⟩⟩; refine ⟨_, rfl, ?_⟩) | ((with_reducible refine gate_callee (f := 11) rfl ?_); refine goesL_ (some 109) rfl rfl Try.func11 (by kernel_rfl) rfl #[.int .i64 (wrap64 (t161 + 1))] rfl (by (try simp only [List.map_toArray, List.map_cons, List.map_nil]); first | done | rfl | (simp only [List.length_drop, List.length_take]; rfl)) ?_; (with_reducible refine (sketch_Span.calls kj17 (wrap64 (t161 + 1)) t165 t166 t167 _ A28.out).mono ?_); rintro e w' ⟨rfl, ⟨nd, rfl⟩⟩; refine ⟨_, rfl, ?_⟩) | ((with_reducible refine gate_callee (f := 11) rfl ?_); refine goesL_ (some 114) rfl rfl Try.func11 (by kernel_rfl) rfl #[.int .i64 1919] rfl (by (try simp only [List.map_toArray, List.map_cons, List.map_nil]); first | done | rfl | (simp only [List.length_drop, List.length_take]; rfl)) ?_; (with_reducible refine (sketch_Span.calls kj17 1919 t168 t169 t170 _ A29.out).mono ?_); rintro e w' ⟨rfl, ⟨nd, rfl⟩⟩; refine ⟨_, rfl, ?_⟩) | ((with_reducible refine gate_callee (f := 11) rfl ?_); refine goesL_ (some 119) rfl rfl Try.func11 (by kernel_rfl) rfl #[.int .i64 0] rfl (by (try simp only [List.map_toArray, List.map_cons, List.map_nil]); first | done | rfl | (simp only [List.length_drop, List.length_take]; rfl)) ?_; (with_reducible refine (sketch_Span.calls kj17 0 t171 t172 t173 _ A30.out).mono ?_); rintro e w' ⟨rfl, ⟨nd, rfl⟩⟩; refine ⟨_, rfl, ?_⟩))
                          go_ret
                          exact ⟨by first | rfl | (simp [errW_none, errW_some] <;> rfl) | (simp [*, errW_none, errW_some] <;> rfl), by repeat (first | (with_reducible first | exact HB.out | apply below_alloc | apply pw_below_drewN | apply below_drew1) | exact HB.out)⟩
                      · rw [if_neg c35] at H
                        have c35b0 : decide (t163 < t165) = false := decide_eq_false c35
                        clear c35
                        obtain rfl := Option.some.inj H
                        go_wp2_with (first | ((with_reducible refine gate_callee (f := 12) rfl ?_); refine goesL_ (some 99) rfl rfl Try.func12 (by kernel_rfl) rfl #[.int .i64 a1, .int .i64 1919] rfl (by (try simp only [List.map_toArray, List.map_cons, List.map_nil]); first | done | rfl | (simp only [List.length_drop, List.length_take]; rfl)) ?_; (with_reducible refine (spoorlaw13_pick.calls a1 1919 t161 _ A26.out).mono ?_); rintro e w' ⟨rfl, ⟨nd, rfl⟩⟩; refine ⟨_, rfl, ?_⟩) | ((with_reducible refine gate_callee (f := 11) rfl ?_); refine goesL_ (some 102) rfl rfl Try.func11 (by kernel_rfl) rfl #[.int .i64 t161] rfl (by (try simp only [List.map_toArray, List.map_cons, List.map_nil]); first | done | rfl | (simp only [List.length_drop, List.length_take]; rfl)) ?_; (with_reducible refine (sketch_Span.calls kj17 t161 t162 t163 t164 _ A27.out).mono ?_); rintro e w' ⟨rfl, ⟨nd, rfl⟩⟩; refine ⟨_, rfl, ?_⟩) | ((with_reducible refine gate_callee (f := 11) rfl ?_); refine goesL_ (some 109) rfl rfl Try.func11 (by kernel_rfl) rfl #[.int .i64 (wrap64 (t161 + 1))] rfl (by (try simp only [List.map_toArray, List.map_cons, List.map_nil]); first | done | rfl | (simp only [List.length_drop, List.length_take]; rfl)) ?_; (with_reducible refine (sketch_Span.calls kj17 (wrap64 (t161 + 1)) t165 t166 t167 _ A28.out).mono ?_); rintro e w' ⟨rfl, ⟨nd, rfl⟩⟩; refine ⟨_, rfl, ?_⟩) | ((with_reducible refine gate_callee (f := 11) rfl ?_); refine goesL_ (some 114) rfl rfl Try.func11 (by kernel_rfl) rfl #[.int .i64 1919] rfl (by (try simp only [List.map_toArray, List.map_cons, List.map_nil]); first | done | rfl | (simp only [List.length_drop, List.length_take]; rfl)) ?_; (with_reducible refine (sketch_Span.calls kj17 1919 t168 t169 t170 _ A29.out).mono ?_); rintro e w' ⟨rfl, ⟨nd, rfl⟩⟩; refine ⟨_, rfl, ?_⟩) | ((with_reducible refine gate_callee (f := 11) rfl ?_); refine goesL_ (some 119) rfl rfl Try.func11 (by kernel_rfl) rfl #[.int .i64 0] rfl (by (try simp only [List.map_toArray, List.map_cons, List.map_nil]); first | done | rfl | (simp only [List.length_drop, List.length_take]; rfl)) ?_; (with_reducible refine (sketch_Span.calls kj17 0 t171 t172 t173 _ A30.out).mono ?_); rintro e w' ⟨rfl, ⟨nd, rfl⟩⟩; refine ⟨_, rfl, ?_⟩))
                        go_ret
                        exact ⟨by first | rfl | (simp [errW_none, errW_some] <;> rfl) | (simp [*, errW_none, errW_some] <;> rfl), by repeat (first | (with_reducible first | exact HB.out | apply below_alloc | apply pw_below_drewN | apply below_drew1) | exact HB.out)⟩
                    · rw [if_neg c34] at H
                      have c34b0 : (t173 == 0) = false := beq_eq_false_iff_ne.mpr c34
                      have c34b1 : (t173 != 0) = true := bne_iff_ne.mpr c34
                      obtain rfl := Option.some.inj H
                      go_wp2_with (first | ((with_reducible refine gate_callee (f := 12) rfl ?_); refine goesL_ (some 99) rfl rfl Try.func12 (by kernel_rfl) rfl #[.int .i64 a1, .int .i64 1919] rfl (by (try simp only [List.map_toArray, List.map_cons, List.map_nil]); first | done | rfl | (simp only [List.length_drop, List.length_take]; rfl)) ?_; (with_reducible refine (spoorlaw13_pick.calls a1 1919 t161 _ A26.out).mono ?_); rintro e w' ⟨rfl, ⟨nd, rfl⟩⟩; refine ⟨_, rfl, ?_⟩) | ((with_reducible refine gate_callee (f := 11) rfl ?_); refine goesL_ (some 102) rfl rfl Try.func11 (by kernel_rfl) rfl #[.int .i64 t161] rfl (by (try simp only [List.map_toArray, List.map_cons, List.map_nil]); first | done | rfl | (simp only [List.length_drop, List.length_take]; rfl)) ?_; (with_reducible refine (sketch_Span.calls kj17 t161 t162 t163 t164 _ A27.out).mono ?_); rintro e w' ⟨rfl, ⟨nd, rfl⟩⟩; refine ⟨_, rfl, ?_⟩) | ((with_reducible refine gate_callee (f := 11) rfl ?_); refine goesL_ (some 109) rfl rfl Try.func11 (by kernel_rfl) rfl #[.int .i64 (wrap64 (t161 + 1))] rfl (by (try simp only [List.map_toArray, List.map_cons, List.map_nil]); first | done | rfl | (simp only [List.length_drop, List.length_take]; rfl)) ?_; (with_reducible refine (sketch_Span.calls kj17 (wrap64 (t161 + 1)) t165 t166 t167 _ A28.out).mono ?_); rintro e w' ⟨rfl, ⟨nd, rfl⟩⟩; refine ⟨_, rfl, ?_⟩) | ((with_reducible refine gate_callee (f := 11) rfl ?_); refine goesL_ (some 114) rfl rfl Try.func11 (by kernel_rfl) rfl #[.int .i64 1919] rfl (by (try simp only [List.map_toArray, List.map_cons, List.map_nil]); first | done | rfl | (simp only [List.length_drop, List.length_take]; rfl)) ?_; (with_reducible refine (sketch_Span.calls kj17 1919 t168 t169 t170 _ A29.out).mono ?_); rintro e w' ⟨rfl, ⟨nd, rfl⟩⟩; refine ⟨_, rfl, ?_⟩) | ((with_reducible refine gate_callee (f := 11) rfl ?_); refine goesL_ (some 119) rfl rfl Try.func11 (by kernel_rfl) rfl #[.int .i64 0] rfl (by (try simp only [List.map_toArray, List.map_cons, List.map_nil]); first | done | rfl | (simp only [List.length_drop, List.length_take]; rfl)) ?_; (with_reducible refine (sketch_Span.calls kj17 0 t171 t172 t173 _ A30.out).mono ?_); rintro e w' ⟨rfl, ⟨nd, rfl⟩⟩; refine ⟨_, rfl, ?_⟩))
                      go_ret
                      exact ⟨by first | rfl | (simp [errW_none, errW_some] <;> rfl) | (simp [*, errW_none, errW_some] <;> rfl), by repeat (first | (with_reducible first | exact HB.out | apply below_alloc | apply pw_below_drewN | apply below_drew1) | exact HB.out)⟩
                  · rw [if_neg c33] at H
                    have c33b0 : (t170 == 0) = false := beq_eq_false_iff_ne.mpr c33
                    have c33b1 : (t170 != 0) = true := bne_iff_ne.mpr c33
                    obtain rfl := Option.some.inj H
                    go_wp2_with (first | ((with_reducible refine gate_callee (f := 12) rfl ?_); refine goesL_ (some 99) rfl rfl Try.func12 (by kernel_rfl) rfl #[.int .i64 a1, .int .i64 1919] rfl (by (try simp only [List.map_toArray, List.map_cons, List.map_nil]); first | done | rfl | (simp only [List.length_drop, List.length_take]; rfl)) ?_; (with_reducible refine (spoorlaw13_pick.calls a1 1919 t161 _ A26.out).mono ?_); rintro e w' ⟨rfl, ⟨nd, rfl⟩⟩; refine ⟨_, rfl, ?_⟩) | ((with_reducible refine gate_callee (f := 11) rfl ?_); refine goesL_ (some 102) rfl rfl Try.func11 (by kernel_rfl) rfl #[.int .i64 t161] rfl (by (try simp only [List.map_toArray, List.map_cons, List.map_nil]); first | done | rfl | (simp only [List.length_drop, List.length_take]; rfl)) ?_; (with_reducible refine (sketch_Span.calls kj17 t161 t162 t163 t164 _ A27.out).mono ?_); rintro e w' ⟨rfl, ⟨nd, rfl⟩⟩; refine ⟨_, rfl, ?_⟩) | ((with_reducible refine gate_callee (f := 11) rfl ?_); refine goesL_ (some 109) rfl rfl Try.func11 (by kernel_rfl) rfl #[.int .i64 (wrap64 (t161 + 1))] rfl (by (try simp only [List.map_toArray, List.map_cons, List.map_nil]); first | done | rfl | (simp only [List.length_drop, List.length_take]; rfl)) ?_; (with_reducible refine (sketch_Span.calls kj17 (wrap64 (t161 + 1)) t165 t166 t167 _ A28.out).mono ?_); rintro e w' ⟨rfl, ⟨nd, rfl⟩⟩; refine ⟨_, rfl, ?_⟩) | ((with_reducible refine gate_callee (f := 11) rfl ?_); refine goesL_ (some 114) rfl rfl Try.func11 (by kernel_rfl) rfl #[.int .i64 1919] rfl (by (try simp only [List.map_toArray, List.map_cons, List.map_nil]); first | done | rfl | (simp only [List.length_drop, List.length_take]; rfl)) ?_; (with_reducible refine (sketch_Span.calls kj17 1919 t168 t169 t170 _ A29.out).mono ?_); rintro e w' ⟨rfl, ⟨nd, rfl⟩⟩; refine ⟨_, rfl, ?_⟩) | ((with_reducible refine gate_callee (f := 11) rfl ?_); refine goesL_ (some 119) rfl rfl Try.func11 (by kernel_rfl) rfl #[.int .i64 0] rfl (by (try simp only [List.map_toArray, List.map_cons, List.map_nil]); first | done | rfl | (simp only [List.length_drop, List.length_take]; rfl)) ?_; (with_reducible refine (sketch_Span.calls kj17 0 t171 t172 t173 _ A30.out).mono ?_); rintro e w' ⟨rfl, ⟨nd, rfl⟩⟩; refine ⟨_, rfl, ?_⟩))
                    go_ret
                    exact ⟨by first | rfl | (simp [errW_none, errW_some] <;> rfl) | (simp [*, errW_none, errW_some] <;> rfl), by repeat (first | (with_reducible first | exact HB.out | apply below_alloc | apply pw_below_drewN | apply below_drew1) | exact HB.out)⟩
                · rw [if_neg c32] at H
                  have c32b0 : (t167 == 0) = false := beq_eq_false_iff_ne.mpr c32
                  have c32b1 : (t167 != 0) = true := bne_iff_ne.mpr c32
                  obtain rfl := Option.some.inj H
                  go_wp2_with (first | ((with_reducible refine gate_callee (f := 12) rfl ?_); refine goesL_ (some 99) rfl rfl Try.func12 (by kernel_rfl) rfl #[.int .i64 a1, .int .i64 1919] rfl (by (try simp only [List.map_toArray, List.map_cons, List.map_nil]); first | done | rfl | (simp only [List.length_drop, List.length_take]; rfl)) ?_; (with_reducible refine (spoorlaw13_pick.calls a1 1919 t161 _ A26.out).mono ?_); rintro e w' ⟨rfl, ⟨nd, rfl⟩⟩; refine ⟨_, rfl, ?_⟩) | ((with_reducible refine gate_callee (f := 11) rfl ?_); refine goesL_ (some 102) rfl rfl Try.func11 (by kernel_rfl) rfl #[.int .i64 t161] rfl (by (try simp only [List.map_toArray, List.map_cons, List.map_nil]); first | done | rfl | (simp only [List.length_drop, List.length_take]; rfl)) ?_; (with_reducible refine (sketch_Span.calls kj17 t161 t162 t163 t164 _ A27.out).mono ?_); rintro e w' ⟨rfl, ⟨nd, rfl⟩⟩; refine ⟨_, rfl, ?_⟩) | ((with_reducible refine gate_callee (f := 11) rfl ?_); refine goesL_ (some 109) rfl rfl Try.func11 (by kernel_rfl) rfl #[.int .i64 (wrap64 (t161 + 1))] rfl (by (try simp only [List.map_toArray, List.map_cons, List.map_nil]); first | done | rfl | (simp only [List.length_drop, List.length_take]; rfl)) ?_; (with_reducible refine (sketch_Span.calls kj17 (wrap64 (t161 + 1)) t165 t166 t167 _ A28.out).mono ?_); rintro e w' ⟨rfl, ⟨nd, rfl⟩⟩; refine ⟨_, rfl, ?_⟩) | ((with_reducible refine gate_callee (f := 11) rfl ?_); refine goesL_ (some 114) rfl rfl Try.func11 (by kernel_rfl) rfl #[.int .i64 1919] rfl (by (try simp only [List.map_toArray, List.map_cons, List.map_nil]); first | done | rfl | (simp only [List.length_drop, List.length_take]; rfl)) ?_; (with_reducible refine (sketch_Span.calls kj17 1919 t168 t169 t170 _ A29.out).mono ?_); rintro e w' ⟨rfl, ⟨nd, rfl⟩⟩; refine ⟨_, rfl, ?_⟩) | ((with_reducible refine gate_callee (f := 11) rfl ?_); refine goesL_ (some 119) rfl rfl Try.func11 (by kernel_rfl) rfl #[.int .i64 0] rfl (by (try simp only [List.map_toArray, List.map_cons, List.map_nil]); first | done | rfl | (simp only [List.length_drop, List.length_take]; rfl)) ?_; (with_reducible refine (sketch_Span.calls kj17 0 t171 t172 t173 _ A30.out).mono ?_); rintro e w' ⟨rfl, ⟨nd, rfl⟩⟩; refine ⟨_, rfl, ?_⟩))
                  go_ret
                  exact ⟨by first | rfl | (simp [errW_none, errW_some] <;> rfl) | (simp [*, errW_none, errW_some] <;> rfl), by repeat (first | (with_reducible first | exact HB.out | apply below_alloc | apply pw_below_drewN | apply below_drew1) | exact HB.out)⟩
              · rw [if_neg c31] at H
                have c31b0 : (t164 == 0) = false := beq_eq_false_iff_ne.mpr c31
                have c31b1 : (t164 != 0) = true := bne_iff_ne.mpr c31
                obtain rfl := Option.some.inj H
                go_wp2_with (first | ((with_reducible refine gate_callee (f := 12) rfl ?_); refine goesL_ (some 99) rfl rfl Try.func12 (by kernel_rfl) rfl #[.int .i64 a1, .int .i64 1919] rfl (by (try simp only [List.map_toArray, List.map_cons, List.map_nil]); first | done | rfl | (simp only [List.length_drop, List.length_take]; rfl)) ?_; (with_reducible refine (spoorlaw13_pick.calls a1 1919 t161 _ A26.out).mono ?_); rintro e w' ⟨rfl, ⟨nd, rfl⟩⟩; refine ⟨_, rfl, ?_⟩) | ((with_reducible refine gate_callee (f := 11) rfl ?_); refine goesL_ (some 102) rfl rfl Try.func11 (by kernel_rfl) rfl #[.int .i64 t161] rfl (by (try simp only [List.map_toArray, List.map_cons, List.map_nil]); first | done | rfl | (simp only [List.length_drop, List.length_take]; rfl)) ?_; (with_reducible refine (sketch_Span.calls kj17 t161 t162 t163 t164 _ A27.out).mono ?_); rintro e w' ⟨rfl, ⟨nd, rfl⟩⟩; refine ⟨_, rfl, ?_⟩) | ((with_reducible refine gate_callee (f := 11) rfl ?_); refine goesL_ (some 109) rfl rfl Try.func11 (by kernel_rfl) rfl #[.int .i64 (wrap64 (t161 + 1))] rfl (by (try simp only [List.map_toArray, List.map_cons, List.map_nil]); first | done | rfl | (simp only [List.length_drop, List.length_take]; rfl)) ?_; (with_reducible refine (sketch_Span.calls kj17 (wrap64 (t161 + 1)) t165 t166 t167 _ A28.out).mono ?_); rintro e w' ⟨rfl, ⟨nd, rfl⟩⟩; refine ⟨_, rfl, ?_⟩) | ((with_reducible refine gate_callee (f := 11) rfl ?_); refine goesL_ (some 114) rfl rfl Try.func11 (by kernel_rfl) rfl #[.int .i64 1919] rfl (by (try simp only [List.map_toArray, List.map_cons, List.map_nil]); first | done | rfl | (simp only [List.length_drop, List.length_take]; rfl)) ?_; (with_reducible refine (sketch_Span.calls kj17 1919 t168 t169 t170 _ A29.out).mono ?_); rintro e w' ⟨rfl, ⟨nd, rfl⟩⟩; refine ⟨_, rfl, ?_⟩) | ((with_reducible refine gate_callee (f := 11) rfl ?_); refine goesL_ (some 119) rfl rfl Try.func11 (by kernel_rfl) rfl #[.int .i64 0] rfl (by (try simp only [List.map_toArray, List.map_cons, List.map_nil]); first | done | rfl | (simp only [List.length_drop, List.length_take]; rfl)) ?_; (with_reducible refine (sketch_Span.calls kj17 0 t171 t172 t173 _ A30.out).mono ?_); rintro e w' ⟨rfl, ⟨nd, rfl⟩⟩; refine ⟨_, rfl, ?_⟩))
                go_ret
                exact ⟨by first | rfl | (simp [errW_none, errW_some] <;> rfl) | (simp [*, errW_none, errW_some] <;> rfl), by repeat (first | (with_reducible first | exact HB.out | apply below_alloc | apply pw_below_drewN | apply below_drew1) | exact HB.out)⟩

/-- THE ONE PURE STATEMENT of spoorlaw13_SketchBars: yours. -/
def spoorlaw13_SketchBars.Pure : Prop := ∀ (a0 : Int) (a1 : Int), (Lit.int .u64 a0).wf = true → (Lit.int .i64 a1).wf = true → ∃ k, spoorlaw13_SketchBars.f k a0 a1 = some true
theorem spoorlaw13_SketchBars.walk (P : spoorlaw13_SketchBars.Pure) (a0 : Int) (a1 : Int) (w : World) (w0 : (Lit.int .u64 a0).wf = true) (w1 : (Lit.int .i64 a1).wf = true) :
    Calls Try.prog 4 #[.int .u64 a0, .int .i64 a1] w fun e w' => e = .returned (.bool true) ∧ Below w.heap.size w w' := by
  obtain ⟨k, h⟩ := P a0 a1 w0 w1
  refine (spoorlaw13_SketchBars.calls k a0 a1 true w h).mono ?_
  rintro e w' ⟨rfl, hd⟩
  exact ⟨rfl, hd⟩

end Go.Proofs.Ytlnhpccapadpmaa.Pr
