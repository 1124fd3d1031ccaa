-- by xprint.py, a program of the session's own, over the kit's print. Not trusted: Lean checks it.
import Derived.Test.YtdlnfmakfnggpaaDoorPr0
import Derived.Test.YtdlnfmakfnggpaaDoorSh
namespace Go.Proofs.YtdlnfmakfnggpaaDoor.Pr
open Go.RowKit Go.Proofs.YtdlnfmakfnggpaaDoorW.PrintWords Go.Proofs.YtdlnfmakfnggpaaDoorW.PrintLast Go.Proofs.YtdlnfmakfnggpaaDoorW.PrintMore
attribute [local go_sem] max2_int min2_int max_two min_two max_three min_three max_four min_four   -- for this text's walks alone
set_option linter.unusedVariables false
set_option linter.unusedSimpArgs false

/-! ### spoorlaw21_weight: function 16 -/
def spoorlaw21_weight.l0 : Nat → List (S43) → Int → Int → Option (Int)
  | 0, _, _, _ => none
  | k + 1, x0, x3, x4 => if x4 < (x0.length : Int) then (if x3 ≤ 2147483647 then (if 0 ≤ x4 then (spoorlaw21_weight.l0 k x0 (wrap64 ((wrap64 ((wrap64 ((wrap64 (x3 + 1)) + (((rd_T43 x0 x4).f3).length : Int))) + (((rd_T43 x0 x4).f10).length : Int))) + (((rd_T43 x0 x4).f11).length : Int))) (wrap64 (x4 + 1))) else (none)) else (some x3)) else (some x3)
def spoorlaw21_weight.f (k : Nat) (l0 : List (S43)) : Option (Int) := spoorlaw21_weight.l0 k l0 0 0
theorem spoorlaw21_weight.mono_l : ∀ k, (∀ y0 y1 y2, LeO (spoorlaw21_weight.l0 k y0 y1 y2) (spoorlaw21_weight.l0 (k + 1) y0 y1 y2))
  | 0 => fun _ _ _ r h => by simp [spoorlaw21_weight.l0] at h
  | k + 1 => by
    have ih0 := spoorlaw21_weight.mono_l k
    · intro y0 y1 y2
      unfold spoorlaw21_weight.l0
      repeat' first
      | (with_reducible exact ih0 _ _ _)
      | (with_reducible exact LeO.refl _)
      | (with_reducible exact LeO.none _)
      | (with_reducible refine LeO.ite ?_ ?_)
      | (with_reducible refine LeO.bind ?_ (fun _ => ?_))
      | exact ih0 _ _ _
      | exact LeO.none _
      | refine LeO.ite ?_ ?_
      | refine LeO.bind ?_ (fun _ => ?_)
theorem spoorlaw21_weight.mono : ∀ a0 k, LeO (spoorlaw21_weight.f k a0) (spoorlaw21_weight.f (k + 1) a0) := by
  intro a0 k
  have ih0 := spoorlaw21_weight.mono_l k
  unfold spoorlaw21_weight.f
  repeat' first
      | (with_reducible exact ih0 _ _ _)
      | (with_reducible exact LeO.refl _)
      | (with_reducible exact LeO.none _)
      | (with_reducible refine LeO.ite ?_ ?_)
      | (with_reducible refine LeO.bind ?_ (fun _ => ?_))
      | exact ih0 _ _ _
      | exact LeO.none _
      | refine LeO.ite ?_ ?_
      | refine LeO.bind ?_ (fun _ => ?_)
set_option maxHeartbeats 8000000 in
set_option maxRecDepth 100000 in
theorem spoorlaw21_weight.calls (k : Nat) (A0 : Option Addr) (c0 : Nat) (l0 : List (S43)) (r : Int) (w : World) (hr0 : Kd.C k43 w A0 l0.length l0) (hc0 : l0.length ≤ c0) (h : spoorlaw21_weight.f k l0 = some r) :
    Calls Tryd.prog 16 #[.slice A0 l0.length c0] w fun e w' => e = .returned (.int .i64 r) ∧ Drawn0 w w' := by
  have HR0 := Aside0.mk hr0
  have HC0 := Aside0.mk hc0
  clear hr0 hc0
  have H : (spoorlaw21_weight.l0 k l0 0 0) = some r := h
  clear h
  have H' := Aside0.mk H
  clear H
  go_enter Tryd.func16, Tryd.ntmps16
  go_wp2
  repeat (go_quiet (fail); try go_wp2)
  go_loopg [3, 4] k (fun kq v3 v4 w' => ∃ (x3_1 : Int) (x4_1 : Int), v3 = .int .i64 x3_1 ∧ v4 = .int .i64 x4_1 ∧ Aside0 (spoorlaw21_weight.l0 kq l0 x3_1 x4_1 = some r) ∧ Aside0 (kq ≤ k) ∧ Drawn0 w w')
  case atStart => exact ⟨(0), (0), (by first | rfl | (simp; done) | (simp [*]; done)), (by first | rfl | (simp; done) | (simp [*]; done)), H', ⟨Nat.le_refl _⟩, by repeat (first | exact Drawn0.refl _ | apply Drawn0.step)⟩
  case round =>
    clear H'
    try clear c1
    obtain ⟨x3_1, x4_1, rfl, rfl, HA, HK1, ⟨m1, rfl⟩⟩ := hrel
    cases gk with
    | zero => exact absurd HA.out (by simp [spoorlaw21_weight.l0])
    | succ k1 =>
      have H := HA.out
      clear HA
      simp only [spoorlaw21_weight.l0] at H
      by_cases c2 : x4_1 < (l0.length : Int)
      · rw [if_pos c2] at H
        have c2b0 : decide (x4_1 < (l0.length : Int)) = true := decide_eq_true c2
        clear c2
        by_cases c3 : x3_1 ≤ 2147483647
        · rw [if_pos c3] at H
          have c3b0 : decide (x3_1 ≤ 2147483647) = true := decide_eq_true c3
          clear c3
          by_cases c4 : 0 ≤ x4_1
          · rw [if_pos c4] at H
            have c4b0 : decide (0 ≤ x4_1) = true := decide_eq_true c4
            clear c4
            have H' := Aside0.mk H
            clear H
            have p211 : 0 ≤ (x4_1 : Int) := of_decide_eq_true (by first | (with_reducible assumption) | assumption)
            have q211 : x4_1 < (l0.length : Int) := of_decide_eq_true (by first | (with_reducible assumption) | assumption)
            obtain ⟨ad211, A211_4, c211_4, A211_11, c211_11, A211_12, c211_12, e211, hx211_0, hx211_1, hx211_2, hx211_3, hx211_4, hx211_5, hx211_6, hx211_7, hx211_8, hx211_9, hx211_10, hx211_11, hx211_12, hl211_4, hi211_4, hl211_11, hi211_11, hl211_12, hi211_12⟩ := at_T43 HR0.out x4_1 p211 q211
            cases e211
            have HR211_4 := Aside0.mk hi211_4
            have HC211_4 := Aside0.mk hl211_4
            clear hi211_4 hl211_4
            have HR211_11 := Aside0.mk hi211_11
            have HC211_11 := Aside0.mk hl211_11
            clear hi211_11 hl211_11
            have HR211_12 := Aside0.mk hi211_12
            have HC211_12 := Aside0.mk hl211_12
            clear hi211_12 hl211_12
            replace p211 := eq_true p211
            replace q211 := eq_true q211
            have p212 : 0 ≤ (x4_1 : Int) := of_decide_eq_true (by first | (with_reducible assumption) | assumption)
            have q212 : x4_1 < (l0.length : Int) := of_decide_eq_true (by first | (with_reducible assumption) | assumption)
            obtain ⟨ad212, A212_4, c212_4, A212_11, c212_11, A212_12, c212_12, e212, hx212_0, hx212_1, hx212_2, hx212_3, hx212_4, hx212_5, hx212_6, hx212_7, hx212_8, hx212_9, hx212_10, hx212_11, hx212_12, hl212_4, hi212_4, hl212_11, hi212_11, hl212_12, hi212_12⟩ := at_T43 HR0.out x4_1 p212 q212
            obtain rfl : ad211 = ad212 := (by injection e212)
            have HR212_4 := Aside0.mk hi212_4
            have HC212_4 := Aside0.mk hl212_4
            clear hi212_4 hl212_4
            have HR212_11 := Aside0.mk hi212_11
            have HC212_11 := Aside0.mk hl212_11
            clear hi212_11 hl212_11
            have HR212_12 := Aside0.mk hi212_12
            have HC212_12 := Aside0.mk hl212_12
            clear hi212_12 hl212_12
            replace p212 := eq_true p212
            replace q212 := eq_true q212
            have ea_ := Option.some.inj (hx211_4.symm.trans hx212_4)
            injection ea_ with ea_ en_ ec_
            subst ea_
            subst ec_
            clear en_
            have ea_ := Option.some.inj (hx211_11.symm.trans hx212_11)
            injection ea_ with ea_ en_ ec_
            subst ea_
            subst ec_
            clear en_
            have ea_ := Option.some.inj (hx211_12.symm.trans hx212_12)
            injection ea_ with ea_ en_ ec_
            subst ea_
            subst ec_
            clear en_
            have p213 : 0 ≤ (x4_1 : Int) := of_decide_eq_true (by first | (with_reducible assumption) | assumption)
            have q213 : x4_1 < (l0.length : Int) := of_decide_eq_true (by first | (with_reducible assumption) | assumption)
            obtain ⟨ad213, A213_4, c213_4, A213_11, c213_11, A213_12, c213_12, e213, hx213_0, hx213_1, hx213_2, hx213_3, hx213_4, hx213_5, hx213_6, hx213_7, hx213_8, hx213_9, hx213_10, hx213_11, hx213_12, hl213_4, hi213_4, hl213_11, hi213_11, hl213_12, hi213_12⟩ := at_T43 HR0.out x4_1 p213 q213
            obtain rfl : ad211 = ad213 := (by injection e213)
            have HR213_4 := Aside0.mk hi213_4
            have HC213_4 := Aside0.mk hl213_4
            clear hi213_4 hl213_4
            have HR213_11 := Aside0.mk hi213_11
            have HC213_11 := Aside0.mk hl213_11
            clear hi213_11 hl213_11
            have HR213_12 := Aside0.mk hi213_12
            have HC213_12 := Aside0.mk hl213_12
            clear hi213_12 hl213_12
            replace p213 := eq_true p213
            replace q213 := eq_true q213
            have ea_ := Option.some.inj (hx211_4.symm.trans hx213_4)
            injection ea_ with ea_ en_ ec_
            subst ea_
            subst ec_
            clear en_
            have ea_ := Option.some.inj (hx211_11.symm.trans hx213_11)
            injection ea_ with ea_ en_ ec_
            subst ea_
            subst ec_
            clear en_
            have ea_ := Option.some.inj (hx211_12.symm.trans hx213_12)
            injection ea_ with ea_ en_ ec_
            subst ea_
            subst ec_
            clear en_
            go_wp2
            repeat (go_quiet (fail); try go_wp2)
            go_roundg k1
            case measure => have := HK1.out; omega
            case rel => exact ⟨(wrap64 ((wrap64 ((wrap64 ((wrap64 (x3_1 + 1)) + (((rd_T43 l0 x4_1).f3).length : Int))) + (((rd_T43 l0 x4_1).f10).length : Int))) + (((rd_T43 l0 x4_1).f11).length : Int))), (wrap64 (x4_1 + 1)), (by first | rfl | (simp; done) | (simp [*]; done)), (by first | rfl | (simp; done) | (simp [*]; done)), H', ⟨by have := HK1.out; omega⟩, by repeat (first | exact Drawn0.refl _ | apply Drawn0.step)⟩
          · rw [if_neg c4] at H
            exact absurd H (by simp)
        · rw [if_neg c3] at H
          have c3b0 : decide (x3_1 ≤ 2147483647) = false := decide_eq_false c3
          clear c3
          obtain rfl := Option.some.inj H
          go_wp2
          repeat (go_quiet (fail); try go_wp2)
          go_ret
          exact ⟨by first | rfl | (simp; done) | (simp [*]; done), by repeat (first | exact Drawn0.refl _ | apply Drawn0.step)⟩
      · rw [if_neg c2] at H
        have c2b0 : decide (x4_1 < (l0.length : Int)) = false := decide_eq_false c2
        clear c2
        obtain rfl := Option.some.inj H
        go_wp2
        repeat (go_quiet (fail); try go_wp2)
        go_ret
        exact ⟨by first | rfl | (simp; done) | (simp [*]; done), by repeat (first | exact Drawn0.refl _ | apply Drawn0.step)⟩

/-! ### spoorref04_Clone: function 17 -/
def spoorref04_Clone.f (a0_0 : Int) (a0_1 : Int) (a0_2 : Int) (a0_3 : Int) (l0_4 : List Int) (a0_5 : ByteArray) (a0_6 : ByteArray) (a0_7 : Int) (a0_8 : Int) (a0_9 : Int) (a0_10 : Int) (l0_11 : List (S120)) (l0_12 : List (S122)) : Option (Int × Int × Int × Int × List Int × ByteArray × ByteArray × Int × Int × Int × Int × (List (S120)) × (List (S122))) := (some (([] : List Int) : List Int)).bind fun y216 => (if y216.length + l0_4.length < 17592186044416 then ((some (([] : List (S120)) : List (S120))).bind fun y222 => (if y222.length + l0_11.length < 2932031007402 then ((some (([] : List (S122)) : List (S122))).bind fun y228 => (if y228.length + l0_12.length < 5864062014805 then (some (a0_0, a0_1, a0_2, a0_3, (y216 ++ l0_4), a0_5, a0_6, a0_7, a0_8, a0_9, a0_10, (y222 ++ l0_11), (y228 ++ l0_12))) else (none))) else (none))) else (none))
set_option maxHeartbeats 8000000 in
set_option maxRecDepth 100000 in
theorem spoorref04_Clone.calls (a0_0 : Int) (a0_1 : Int) (a0_2 : Int) (a0_3 : Int) (A0_4 : Option Addr) (c0_4 : Nat) (l0_4 : List Int) (a0_5 : ByteArray) (a0_6 : ByteArray) (a0_7 : Int) (a0_8 : Int) (a0_9 : Int) (a0_10 : Int) (A0_11 : Option Addr) (c0_11 : Nat) (l0_11 : List (S120)) (A0_12 : Option Addr) (c0_12 : Nat) (l0_12 : List (S122)) (r1 : Int) (r2 : Int) (r3 : Int) (r4 : Int) (r5 : List Int) (r6 : ByteArray) (r7 : ByteArray) (r8 : Int) (r9 : Int) (r10 : Int) (r11 : Int) (r12 : List (S120)) (r13 : List (S122)) (w : World) (hr0_4 : Kd.C (Kd.int .u64) w A0_4 l0_4.length l0_4) (hc0_4 : l0_4.length ≤ c0_4) (hr0_11 : Kd.C k120 w A0_11 l0_11.length l0_11) (hc0_11 : l0_11.length ≤ c0_11) (hr0_12 : Kd.C k122 w A0_12 l0_12.length l0_12) (hc0_12 : l0_12.length ≤ c0_12) (h : spoorref04_Clone.f a0_0 a0_1 a0_2 a0_3 l0_4 a0_5 a0_6 a0_7 a0_8 a0_9 a0_10 l0_11 l0_12 = some (r1, r2, r3, r4, r5, r6, r7, r8, r9, r10, r11, r12, r13)) :
    Calls Tryd.prog 17 #[.agg #[.int .u64 a0_0, .int .u64 a0_1, .int .u64 a0_2, .int .u64 a0_3, .slice A0_4 l0_4.length c0_4, .string a0_5, .string a0_6, .int .i64 a0_7, .int .i64 a0_8, .int .i64 a0_9, .int .i64 a0_10, .slice A0_11 l0_11.length c0_11, .slice A0_12 l0_12.length c0_12]] w fun e w' => ∃ v4_ v11_ v12_ : Value, e = .returned (.agg #[.int .u64 r1, .int .u64 r2, .int .u64 r3, .int .u64 r4, v4_, .string r6, .string r7, .int .i64 r8, .int .i64 r9, .int .i64 r10, .int .i64 r11, v11_, v12_]) ∧ Kd.R (Kd.int .u64) 36 w' w.heap.size (fun _ => True) v4_ r5 ∧ Kd.R k120 120 w' w.heap.size (fun _ => True) v11_ r12 ∧ Kd.R k122 122 w' w.heap.size (fun _ => True) v12_ r13 ∧ Below w.heap.size w w' := by
  have hu43 := Tryd.underlying43
  have HR0_4 := Aside0.mk hr0_4
  have HC0_4 := Aside0.mk hc0_4
  clear hr0_4 hc0_4
  have HR0_11 := Aside0.mk hr0_11
  have HC0_11 := Aside0.mk hc0_11
  clear hr0_11 hc0_11
  have HR0_12 := Aside0.mk hr0_12
  have HC0_12 := Aside0.mk hc0_12
  clear hr0_12 hc0_12
  have HB := Aside0.mk (Below.refl w.heap.size w)
  have H : ((some (([] : List Int) : List Int)).bind fun y216 => (if y216.length + l0_4.length < 17592186044416 then ((some (([] : List (S120)) : List (S120))).bind fun y222 => (if y222.length + l0_11.length < 2932031007402 then ((some (([] : List (S122)) : List (S122))).bind fun y228 => (if y228.length + l0_12.length < 5864062014805 then (some (a0_0, a0_1, a0_2, a0_3, (y216 ++ l0_4), a0_5, a0_6, a0_7, a0_8, a0_9, a0_10, (y222 ++ l0_11), (y228 ++ l0_12))) else (none))) else (none))) else (none))) = some (r1, r2, r3, r4, r5, r6, r7, r8, r9, r10, r11, r12, r13) := h
  clear h
  obtain ⟨y216, hy216⟩ : ∃ y_ : List Int, y_ = (([] : List Int)) := ⟨_, rfl⟩
  replace H : (if y216.length + l0_4.length < 17592186044416 then ((some (([] : List (S120)) : List (S120))).bind fun y222 => (if y222.length + l0_11.length < 2932031007402 then ((some (([] : List (S122)) : List (S122))).bind fun y228 => (if y228.length + l0_12.length < 5864062014805 then (some (a0_0, a0_1, a0_2, a0_3, (y216 ++ l0_4), a0_5, a0_6, a0_7, a0_8, a0_9, a0_10, (y222 ++ l0_11), (y228 ++ l0_12))) else (none))) else (none))) else (none)) = some (r1, r2, r3, r4, r5, r6, r7, r8, r9, r10, r11, r12, r13) := by first | (rw [hy216]; with_reducible exact H) | (have H2_ := (Option.bind_some _ _).symm.trans H; rw [hy216]; with_reducible exact H2_) | (have H2_ := (Option.bind_some _ _).symm.trans H; with_reducible exact H2_) | with_reducible exact H | (rw [hy216]; exact H) | exact H
  have Ny216 := Aside0.mk hy216
  clear hy216
  by_cases c2 : y216.length + l0_4.length < 17592186044416
  · rw [if_pos c2] at H
    have LMc2 := Aside0.mk c2
    clear c2
    obtain ⟨y219, hy219⟩ : ∃ y_ : List Int, y_ = (y216 ++ l0_4) := ⟨_, rfl⟩
    replace H : ((some (([] : List (S120)) : List (S120))).bind fun y222 => (if y222.length + l0_11.length < 2932031007402 then ((some (([] : List (S122)) : List (S122))).bind fun y228 => (if y228.length + l0_12.length < 5864062014805 then (some (a0_0, a0_1, a0_2, a0_3, y219, a0_5, a0_6, a0_7, a0_8, a0_9, a0_10, (y222 ++ l0_11), (y228 ++ l0_12))) else (none))) else (none))) = some (r1, r2, r3, r4, r5, r6, r7, r8, r9, r10, r11, r12, r13) := by first | (rw [hy219]; with_reducible exact H) | (have H2_ := (Option.bind_some _ _).symm.trans H; rw [hy219]; with_reducible exact H2_) | (have H2_ := (Option.bind_some _ _).symm.trans H; with_reducible exact H2_) | with_reducible exact H | (rw [hy219]; exact H) | exact H
    have Ny219 := Aside0.mk hy219
    clear hy219
    obtain ⟨y222, hy222⟩ : ∃ y_ : List (S120), y_ = (([] : List (S120))) := ⟨_, rfl⟩
    replace H : (if y222.length + l0_11.length < 2932031007402 then ((some (([] : List (S122)) : List (S122))).bind fun y228 => (if y228.length + l0_12.length < 5864062014805 then (some (a0_0, a0_1, a0_2, a0_3, y219, a0_5, a0_6, a0_7, a0_8, a0_9, a0_10, (y222 ++ l0_11), (y228 ++ l0_12))) else (none))) else (none)) = some (r1, r2, r3, r4, r5, r6, r7, r8, r9, r10, r11, r12, r13) := by first | (rw [hy222]; with_reducible exact H) | (have H2_ := (Option.bind_some _ _).symm.trans H; rw [hy222]; with_reducible exact H2_) | (have H2_ := (Option.bind_some _ _).symm.trans H; with_reducible exact H2_) | with_reducible exact H | (rw [hy222]; exact H) | exact H
    have Ny222 := Aside0.mk hy222
    clear hy222
    by_cases c3 : y222.length + l0_11.length < 2932031007402
    · rw [if_pos c3] at H
      have LMc3 := Aside0.mk c3
      clear c3
      obtain ⟨y225, hy225⟩ : ∃ y_ : List (S120), y_ = (y222 ++ l0_11) := ⟨_, rfl⟩
      replace H : ((some (([] : List (S122)) : List (S122))).bind fun y228 => (if y228.length + l0_12.length < 5864062014805 then (some (a0_0, a0_1, a0_2, a0_3, y219, a0_5, a0_6, a0_7, a0_8, a0_9, a0_10, y225, (y228 ++ l0_12))) else (none))) = some (r1, r2, r3, r4, r5, r6, r7, r8, r9, r10, r11, r12, r13) := by first | (rw [hy225]; with_reducible exact H) | (have H2_ := (Option.bind_some _ _).symm.trans H; rw [hy225]; with_reducible exact H2_) | (have H2_ := (Option.bind_some _ _).symm.trans H; with_reducible exact H2_) | with_reducible exact H | (rw [hy225]; exact H) | exact H
      have Ny225 := Aside0.mk hy225
      clear hy225
      obtain ⟨y228, hy228⟩ : ∃ y_ : List (S122), y_ = (([] : List (S122))) := ⟨_, rfl⟩
      replace H : (if y228.length + l0_12.length < 5864062014805 then (some (a0_0, a0_1, a0_2, a0_3, y219, a0_5, a0_6, a0_7, a0_8, a0_9, a0_10, y225, (y228 ++ l0_12))) else (none)) = some (r1, r2, r3, r4, r5, r6, r7, r8, r9, r10, r11, r12, r13) := by first | (rw [hy228]; with_reducible exact H) | (have H2_ := (Option.bind_some _ _).symm.trans H; rw [hy228]; with_reducible exact H2_) | (have H2_ := (Option.bind_some _ _).symm.trans H; with_reducible exact H2_) | with_reducible exact H | (rw [hy228]; exact H) | exact H
      have Ny228 := Aside0.mk hy228
      clear hy228
      by_cases c4 : y228.length + l0_12.length < 5864062014805
      · rw [if_pos c4] at H
        have LMc4 := Aside0.mk c4
        clear c4
        obtain ⟨y231, hy231⟩ : ∃ y_ : List (S122), y_ = (y228 ++ l0_12) := ⟨_, rfl⟩
        replace H : (some (a0_0, a0_1, a0_2, a0_3, y219, a0_5, a0_6, a0_7, a0_8, a0_9, a0_10, y225, y231)) = some (r1, r2, r3, r4, r5, r6, r7, r8, r9, r10, r11, r12, r13) := by first | (rw [hy231]; with_reducible exact H) | (have H2_ := (Option.bind_some _ _).symm.trans H; rw [hy231]; with_reducible exact H2_) | (have H2_ := (Option.bind_some _ _).symm.trans H; with_reducible exact H2_) | with_reducible exact H | (rw [hy231]; exact H) | exact H
        have Ny231 := Aside0.mk hy231
        clear hy231
        simp only [Option.some.injEq, Prod.mk.injEq] at H
        obtain ⟨rfl, rfl, rfl, rfl, rfl, rfl, rfl, rfl, rfl, rfl, rfl, rfl, rfl⟩ := H
        go_enter Tryd.func17, Tryd.ntmps17
        go_wp2_with (first | ((with_reducible refine gate_dst (N := 1) rfl ?_); refine box_event ?hg (N := 1) ?hd (cs := #[.int .u64 a0_0, .int .u64 a0_1, .int .u64 a0_2, .int .u64 a0_3, .slice A0_4 l0_4.length c0_4, .string a0_5, .string a0_6, .int .i64 a0_7, .int .i64 a0_8, .int .i64 a0_9, .int .i64 a0_10, .slice A0_11 l0_11.length c0_11, .slice A0_12 l0_12.length c0_12]) (t := 43) ?hr ?_; (case hd => rfl); (case hg => rfl); (case hr => first | (go_simp; done) | (go_simp; rfl)); intro gb214 hg w5 hbox hb; have n0_ := Aside0.mk (below_step xq0 hb); have n1_ := Aside0.mk (hbox); have n2_ := Aside0.mk ((by rw [hg]; exact (below_size xq0) : w.heap.size ≤ gb214)); have n3_ := Aside0.mk ((by rw [hg]; exact (below_size xq0) : w.heap.size ≤ gb214)); clear HB; have HB := n0_; have BK214 := n1_; have GW214 := n2_; have GE214 := n3_; clear n0_ n1_ n2_ n3_; clear hb hbox hg) | ((with_reducible refine gate_dst (N := 2) rfl ?_); refine box_event ?hg (N := 2) ?hd (cs := #[.int .u64 0, .int .u64 0, .int .u64 0, .int .u64 0, .slice none 0 0, .string (⟨#[]⟩ : ByteArray), .string (⟨#[]⟩ : ByteArray), .int .i64 0, .int .i64 0, .int .i64 0, .int .i64 0, .slice none 0 0, .slice none 0 0]) (t := 43) ?hr ?_; (case hd => rfl); (case hg => rfl); (case hr => first | (go_simp; done) | (go_simp; rfl)); intro gb215 hg w6 hbox hb; have n0_ := Aside0.mk (blk_below (g := gb214) (o := .cells #[.int .u64 a0_0, .int .u64 a0_1, .int .u64 a0_2, .int .u64 a0_3, .slice A0_4 l0_4.length c0_4, .string a0_5, .string a0_6, .int .i64 a0_7, .int .i64 a0_8, .int .i64 a0_9, .int .i64 a0_10, .slice A0_11 l0_11.length c0_11, .slice A0_12 l0_12.length c0_12] 43 (0, 0)) (xb BK214) hb); have n1_ := Aside0.mk (below_step xq1 hb); have n2_ := Aside0.mk (hbox); have n3_ := Aside0.mk ((by rw [hg]; exact (below_size xq1) : w.heap.size ≤ gb215)); have n4_ := Aside0.mk ((by rw [hg]; exact (below_size xq1) : w.heap.size ≤ gb215)); have n5_ := Aside0.mk ((by rw [hg]; exact Nat.ne_of_lt (blk_lt (g := gb214) (o := .cells #[.int .u64 a0_0, .int .u64 a0_1, .int .u64 a0_2, .int .u64 a0_3, .slice A0_4 l0_4.length c0_4, .string a0_5, .string a0_6, .int .i64 a0_7, .int .i64 a0_8, .int .i64 a0_9, .int .i64 a0_10, .slice A0_11 l0_11.length c0_11, .slice A0_12 l0_12.length c0_12] 43 (0, 0)) (xb BK214)) : gb214 ≠ gb215)); have n6_ := Aside0.mk ((by rw [hg]; exact Nat.ne_of_gt (blk_lt (g := gb214) (o := .cells #[.int .u64 a0_0, .int .u64 a0_1, .int .u64 a0_2, .int .u64 a0_3, .slice A0_4 l0_4.length c0_4, .string a0_5, .string a0_6, .int .i64 a0_7, .int .i64 a0_8, .int .i64 a0_9, .int .i64 a0_10, .slice A0_11 l0_11.length c0_11, .slice A0_12 l0_12.length c0_12] 43 (0, 0)) (xb BK214)) : gb215 ≠ gb214)); clear BK214; clear HB; have BK214 := n0_; have HB := n1_; have BK215 := n2_; have GW215 := n3_; have GE215 := n4_; have NB214_215 := n5_; have NB215_214 := n6_; clear n0_ n1_ n2_ n3_ n4_ n5_ n6_; clear hb hbox hg) | ((with_reducible refine gate_dst (N := 3) rfl ?_); refine Kd.R_lit (Kd.int .u64) _ 36 ?hg (N := 3) ?hd (xs := ([] : List Int)) (inner := []) (ok := fun _ => True) (okp := fun _ => True) ?hr ?hp (fun _ hk => hk) trivial (Below.refl _ _) (Nat.le_refl _) (by simp) ?_; (case hd => rfl); (case hg => rfl); (case hr => first | (go_simp; done) | (go_simp; rfl)); (case hp => exact (Reps.none _ _)); intro v217 w7 ho8 hb hg_ hnew_; clear hg_ hnew_; (first | rw [← Ny216.out] at ho8 | (simp only [Int.reduceToNat] at ho8; rw [← Ny216.out] at ho8)); have n0_ := Aside0.mk (Kd.R_lower ho8 (below_size xq1)); have n1_ := Aside0.mk (blk_below (g := gb214) (o := .cells #[.int .u64 a0_0, .int .u64 a0_1, .int .u64 a0_2, .int .u64 a0_3, .slice A0_4 l0_4.length c0_4, .string a0_5, .string a0_6, .int .i64 a0_7, .int .i64 a0_8, .int .i64 a0_9, .int .i64 a0_10, .slice A0_11 l0_11.length c0_11, .slice A0_12 l0_12.length c0_12] 43 (0, 0)) (xb BK214) hb); have n2_ := Aside0.mk (blk_below (g := gb215) (o := .cells #[.int .u64 0, .int .u64 0, .int .u64 0, .int .u64 0, .slice none 0 0, .string (⟨#[]⟩ : ByteArray), .string (⟨#[]⟩ : ByteArray), .int .i64 0, .int .i64 0, .int .i64 0, .int .i64 0, .slice none 0 0, .slice none 0 0] 43 (0, 0)) (xb BK215) hb); have n3_ := Aside0.mk (below_step xq1 hb); clear BK214; clear BK215; clear HB; have HO218 := n0_; have BK214 := n1_; have BK215 := n2_; have HB := n3_; clear n0_ n1_ n2_ n3_; clear hb ho8; have hnb9 := NB214_215.out; have hnc9 := NB215_214.out; have hcz10_0 : w7.cell? ⟨gb214, 0, none⟩ = some (.int .u64 a0_0) := (blk_cell BK214.out 0).trans rfl; have hcz10_1 : w7.cell? ⟨gb214, 1, none⟩ = some (.int .u64 a0_1) := (blk_cell BK214.out 1).trans rfl; have hcz10_2 : w7.cell? ⟨gb214, 2, none⟩ = some (.int .u64 a0_2) := (blk_cell BK214.out 2).trans rfl; have hcz10_3 : w7.cell? ⟨gb214, 3, none⟩ = some (.int .u64 a0_3) := (blk_cell BK214.out 3).trans rfl; have hcz10_4 : w7.cell? ⟨gb214, 4, none⟩ = some (.slice A0_4 l0_4.length c0_4) := (blk_cell BK214.out 4).trans rfl; have hcz10_5 : w7.cell? ⟨gb214, 5, none⟩ = some (.string a0_5) := (blk_cell BK214.out 5).trans rfl; have hcz10_6 : w7.cell? ⟨gb214, 6, none⟩ = some (.string a0_6) := (blk_cell BK214.out 6).trans rfl; have hcz10_7 : w7.cell? ⟨gb214, 7, none⟩ = some (.int .i64 a0_7) := (blk_cell BK214.out 7).trans rfl; have hcz10_8 : w7.cell? ⟨gb214, 8, none⟩ = some (.int .i64 a0_8) := (blk_cell BK214.out 8).trans rfl; have hcz10_9 : w7.cell? ⟨gb214, 9, none⟩ = some (.int .i64 a0_9) := (blk_cell BK214.out 9).trans rfl; have hcz10_10 : w7.cell? ⟨gb214, 10, none⟩ = some (.int .i64 a0_10) := (blk_cell BK214.out 10).trans rfl; have hcz10_11 : w7.cell? ⟨gb214, 11, none⟩ = some (.slice A0_11 l0_11.length c0_11) := (blk_cell BK214.out 11).trans rfl; have hcz10_12 : w7.cell? ⟨gb214, 12, none⟩ = some (.slice A0_12 l0_12.length c0_12) := (blk_cell BK214.out 12).trans rfl; have hfz10_0 := blk_frozen BK214.out 0; have hfz10_1 := blk_frozen BK214.out 1; have hfz10_2 := blk_frozen BK214.out 2; have hfz10_3 := blk_frozen BK214.out 3; have hfz10_4 := blk_frozen BK214.out 4; have hfz10_5 := blk_frozen BK214.out 5; have hfz10_6 := blk_frozen BK214.out 6; have hfz10_7 := blk_frozen BK214.out 7; have hfz10_8 := blk_frozen BK214.out 8; have hfz10_9 := blk_frozen BK214.out 9; have hfz10_10 := blk_frozen BK214.out 10; have hfz10_11 := blk_frozen BK214.out 11; have hfz10_12 := blk_frozen BK214.out 12) | ((with_reducible refine gate_builtin (b := .append) (xs := #[.tmp 3, .tmp 5]) rfl ?_); at_builtin; refine Kd.R_append_rows (Kd.int .u64) (w0 := w) w.heap.size rfl (.tmp 3) (.tmp 5) 37 36 (.int .u64 0) 8 rfl Tryd.underlying37 info36 rfl (by decide) (by omega) v217 y216 l0_4 _ _ _ (fun _ => True) (fun _ => False) rfl rfl ?aO ?aR (fun _ _ h => h) (fun _ h => h.elim) ?aF ?aB ?aS ?aL ?_; (case aR => repeat (first | exact (Kd.C_below HR0_4.out HB.out) | (with_reducible refine Kd.C_alloc ?_ _) | (with_reducible refine Kd.C_drewN ?_ _) | (with_reducible refine Kd.C_drew ?_))); (case aB => exact xq1); (case aF => exact (fun _ _ => trivial)); (case aO => exact (xr HO218)); (case aS => exact (below_size xq1)); (case aL => have := LMc2.out; omega); intro v220 w11 ho hb hg hat; rw [← Ny219.out] at ho; have n0_ := Aside0.mk (blk_grown (g := gb214) (o := .cells #[.int .u64 a0_0, .int .u64 a0_1, .int .u64 a0_2, .int .u64 a0_3, .slice A0_4 l0_4.length c0_4, .string a0_5, .string a0_6, .int .i64 a0_7, .int .i64 a0_8, .int .i64 a0_9, .int .i64 a0_10, .slice A0_11 l0_11.length c0_11, .slice A0_12 l0_12.length c0_12] 43 (0, 0)) (xb BK214) hg (Kd.R_ne HO218.out BK214.out (by decide))); have n1_ := Aside0.mk (blk_grown (g := gb215) (o := .cells #[.int .u64 0, .int .u64 0, .int .u64 0, .int .u64 0, .slice none 0 0, .string (⟨#[]⟩ : ByteArray), .string (⟨#[]⟩ : ByteArray), .int .i64 0, .int .i64 0, .int .i64 0, .int .i64 0, .slice none 0 0, .slice none 0 0] 43 (0, 0)) (xb BK215) hg (Kd.R_ne HO218.out BK215.out (by decide))); have n2_ := Aside0.mk (hb); have n3_ := Aside0.mk (ho); clear BK214; clear BK215; clear HB; clear HO218; have BK214 := n0_; have BK215 := n1_; have HB := n2_; have HO221 := n3_; clear n0_ n1_ n2_ n3_; clear ho hb hg hat; obtain ⟨Ao12, co12, eo12⟩ := Kd.R_slice HO221.out; subst eo12; have hcz13_0 : w11.cell? ⟨gb214, 0, none⟩ = some (.int .u64 a0_0) := (blk_cell BK214.out 0).trans rfl; have hcz13_1 : w11.cell? ⟨gb214, 1, none⟩ = some (.int .u64 a0_1) := (blk_cell BK214.out 1).trans rfl; have hcz13_2 : w11.cell? ⟨gb214, 2, none⟩ = some (.int .u64 a0_2) := (blk_cell BK214.out 2).trans rfl; have hcz13_3 : w11.cell? ⟨gb214, 3, none⟩ = some (.int .u64 a0_3) := (blk_cell BK214.out 3).trans rfl; have hcz13_4 : w11.cell? ⟨gb214, 4, none⟩ = some (.slice A0_4 l0_4.length c0_4) := (blk_cell BK214.out 4).trans rfl; have hcz13_5 : w11.cell? ⟨gb214, 5, none⟩ = some (.string a0_5) := (blk_cell BK214.out 5).trans rfl; have hcz13_6 : w11.cell? ⟨gb214, 6, none⟩ = some (.string a0_6) := (blk_cell BK214.out 6).trans rfl; have hcz13_7 : w11.cell? ⟨gb214, 7, none⟩ = some (.int .i64 a0_7) := (blk_cell BK214.out 7).trans rfl; have hcz13_8 : w11.cell? ⟨gb214, 8, none⟩ = some (.int .i64 a0_8) := (blk_cell BK214.out 8).trans rfl; have hcz13_9 : w11.cell? ⟨gb214, 9, none⟩ = some (.int .i64 a0_9) := (blk_cell BK214.out 9).trans rfl; have hcz13_10 : w11.cell? ⟨gb214, 10, none⟩ = some (.int .i64 a0_10) := (blk_cell BK214.out 10).trans rfl; have hcz13_11 : w11.cell? ⟨gb214, 11, none⟩ = some (.slice A0_11 l0_11.length c0_11) := (blk_cell BK214.out 11).trans rfl; have hcz13_12 : w11.cell? ⟨gb214, 12, none⟩ = some (.slice A0_12 l0_12.length c0_12) := (blk_cell BK214.out 12).trans rfl; have hfz13_0 := blk_frozen BK214.out 0; have hfz13_1 := blk_frozen BK214.out 1; have hfz13_2 := blk_frozen BK214.out 2; have hfz13_3 := blk_frozen BK214.out 3; have hfz13_4 := blk_frozen BK214.out 4; have hfz13_5 := blk_frozen BK214.out 5; have hfz13_6 := blk_frozen BK214.out 6; have hfz13_7 := blk_frozen BK214.out 7; have hfz13_8 := blk_frozen BK214.out 8; have hfz13_9 := blk_frozen BK214.out 9; have hfz13_10 := blk_frozen BK214.out 10; have hfz13_11 := blk_frozen BK214.out 11; have hfz13_12 := blk_frozen BK214.out 12) | ((with_reducible refine gate_dst (N := 8) rfl ?_); refine Kd.R_lit k120 _ 120 ?hg (N := 8) ?hd (xs := ([] : List (S120))) (inner := []) (ok := fun _ => True) (okp := fun _ => True) ?hr ?hp (fun _ hk => hk) trivial (Below.refl _ _) (Nat.le_refl _) (by simp) ?_; (case hd => rfl); (case hg => rfl); (case hr => first | (go_simp; done) | (go_simp; rfl)); (case hp => exact (Reps.none _ _)); intro v223 w14 ho15 hb hg_ hnew_; clear hg_ hnew_; (first | rw [← Ny222.out] at ho15 | (simp only [Int.reduceToNat] at ho15; rw [← Ny222.out] at ho15)); have n0_ := Aside0.mk (Kd.R_below (by (with_reducible repeat (first | apply Kd.R_alloc | apply Kd.R_drewN | apply Kd.R_drew)); exact (Kd.R_mono (Kd.R_far (p := ⟨gb214, 4, none⟩) (Kd.R_types HO221.out BK214.out (by decide)) (fun _ hk => hk.2) (.slice Ao12 y219.length co12)) (fun _ h_ => h_.1))) hb); have n1_ := Aside0.mk (Kd.R_lower ho15 (below_size xq1)); have n2_ := Aside0.mk (blk_below (g := gb214) (o := .cells #[.int .u64 a0_0, .int .u64 a0_1, .int .u64 a0_2, .int .u64 a0_3, .slice Ao12 y219.length co12, .string a0_5, .string a0_6, .int .i64 a0_7, .int .i64 a0_8, .int .i64 a0_9, .int .i64 a0_10, .slice A0_11 l0_11.length c0_11, .slice A0_12 l0_12.length c0_12] 43 (0, 0)) (by (with_reducible repeat (first | refine blk_drewN ?_ _ | refine blk_drew ?_ | refine blk_alloc ?_ _)); refine blk_put (cs := #[.int .u64 a0_0, .int .u64 a0_1, .int .u64 a0_2, .int .u64 a0_3, .slice A0_4 l0_4.length c0_4, .string a0_5, .string a0_6, .int .i64 a0_7, .int .i64 a0_8, .int .i64 a0_9, .int .i64 a0_10, .slice A0_11 l0_11.length c0_11, .slice A0_12 l0_12.length c0_12]) ?_ 4 _ rfl; (with_reducible repeat (first | refine blk_drewN ?_ _ | refine blk_drew ?_ | refine blk_alloc ?_ _)); exact BK214.out) hb); have n3_ := Aside0.mk (blk_below (g := gb215) (o := .cells #[.int .u64 0, .int .u64 0, .int .u64 0, .int .u64 0, .slice none 0 0, .string (⟨#[]⟩ : ByteArray), .string (⟨#[]⟩ : ByteArray), .int .i64 0, .int .i64 0, .int .i64 0, .int .i64 0, .slice none 0 0, .slice none 0 0] 43 (0, 0)) (by (with_reducible repeat (first | refine blk_drewN ?_ _ | refine blk_drew ?_ | refine blk_alloc ?_ _)); refine blk_far ?_ NB215_214.out _; (with_reducible repeat (first | refine blk_drewN ?_ _ | refine blk_drew ?_ | refine blk_alloc ?_ _)); exact BK215.out) hb); have n4_ := Aside0.mk (below_step xq1 hb); clear HO221; clear BK214; clear BK215; clear HB; have HO221 := n0_; have HO224 := n1_; have BK214 := n2_; have BK215 := n3_; have HB := n4_; clear n0_ n1_ n2_ n3_ n4_; clear hb ho15; have hcz16_0 : w14.cell? ⟨gb214, 0, none⟩ = some (.int .u64 a0_0) := (blk_cell BK214.out 0).trans rfl; have hcz16_1 : w14.cell? ⟨gb214, 1, none⟩ = some (.int .u64 a0_1) := (blk_cell BK214.out 1).trans rfl; have hcz16_2 : w14.cell? ⟨gb214, 2, none⟩ = some (.int .u64 a0_2) := (blk_cell BK214.out 2).trans rfl; have hcz16_3 : w14.cell? ⟨gb214, 3, none⟩ = some (.int .u64 a0_3) := (blk_cell BK214.out 3).trans rfl; have hcz16_4 : w14.cell? ⟨gb214, 4, none⟩ = some (.slice Ao12 y219.length co12) := (blk_cell BK214.out 4).trans rfl; have hcz16_5 : w14.cell? ⟨gb214, 5, none⟩ = some (.string a0_5) := (blk_cell BK214.out 5).trans rfl; have hcz16_6 : w14.cell? ⟨gb214, 6, none⟩ = some (.string a0_6) := (blk_cell BK214.out 6).trans rfl; have hcz16_7 : w14.cell? ⟨gb214, 7, none⟩ = some (.int .i64 a0_7) := (blk_cell BK214.out 7).trans rfl; have hcz16_8 : w14.cell? ⟨gb214, 8, none⟩ = some (.int .i64 a0_8) := (blk_cell BK214.out 8).trans rfl; have hcz16_9 : w14.cell? ⟨gb214, 9, none⟩ = some (.int .i64 a0_9) := (blk_cell BK214.out 9).trans rfl; have hcz16_10 : w14.cell? ⟨gb214, 10, none⟩ = some (.int .i64 a0_10) := (blk_cell BK214.out 10).trans rfl; have hcz16_11 : w14.cell? ⟨gb214, 11, none⟩ = some (.slice A0_11 l0_11.length c0_11) := (blk_cell BK214.out 11).trans rfl; have hcz16_12 : w14.cell? ⟨gb214, 12, none⟩ = some (.slice A0_12 l0_12.length c0_12) := (blk_cell BK214.out 12).trans rfl; have hfz16_0 := blk_frozen BK214.out 0; have hfz16_1 := blk_frozen BK214.out 1; have hfz16_2 := blk_frozen BK214.out 2; have hfz16_3 := blk_frozen BK214.out 3; have hfz16_4 := blk_frozen BK214.out 4; have hfz16_5 := blk_frozen BK214.out 5; have hfz16_6 := blk_frozen BK214.out 6; have hfz16_7 := blk_frozen BK214.out 7; have hfz16_8 := blk_frozen BK214.out 8; have hfz16_9 := blk_frozen BK214.out 9; have hfz16_10 := blk_frozen BK214.out 10; have hfz16_11 := blk_frozen BK214.out 11; have hfz16_12 := blk_frozen BK214.out 12) | ((with_reducible refine gate_builtin (b := .append) (xs := #[.tmp 8, .tmp 10]) rfl ?_); at_builtin; refine Kd.R_append_rows k120 (w0 := w) w.heap.size rfl (.tmp 8) (.tmp 10) 40 120 (.agg #[(.string ⟨#[]⟩), (.int .i64 0), (.string ⟨#[]⟩), (.int .i64 0)]) 48 rfl Tryd.underlying40 info120 rfl (by decide) (by omega) v223 y222 l0_11 _ _ _ (fun _ => True) (fun _ => False) rfl rfl ?aO ?aR (fun _ _ h => h) (fun _ h => h.elim) ?aF ?aB ?aS ?aL ?_; (case aR => repeat (first | exact (Kd.C_below HR0_11.out HB.out) | (with_reducible refine Kd.C_alloc ?_ _) | (with_reducible refine Kd.C_drewN ?_ _) | (with_reducible refine Kd.C_drew ?_))); (case aB => exact xq1); (case aF => exact (fun _ _ => trivial)); (case aO => exact (xr HO224)); (case aS => exact (below_size xq1)); (case aL => have := LMc3.out; omega); intro v226 w17 ho hb hg hat; rw [← Ny225.out] at ho; have n0_ := Aside0.mk (blk_grown (g := gb214) (o := .cells #[.int .u64 a0_0, .int .u64 a0_1, .int .u64 a0_2, .int .u64 a0_3, .slice Ao12 y219.length co12, .string a0_5, .string a0_6, .int .i64 a0_7, .int .i64 a0_8, .int .i64 a0_9, .int .i64 a0_10, .slice A0_11 l0_11.length c0_11, .slice A0_12 l0_12.length c0_12] 43 (0, 0)) (xb BK214) hg (Kd.R_ne HO224.out BK214.out (by decide))); have n1_ := Aside0.mk (blk_grown (g := gb215) (o := .cells #[.int .u64 0, .int .u64 0, .int .u64 0, .int .u64 0, .slice none 0 0, .string (⟨#[]⟩ : ByteArray), .string (⟨#[]⟩ : ByteArray), .int .i64 0, .int .i64 0, .int .i64 0, .int .i64 0, .slice none 0 0, .slice none 0 0] 43 (0, 0)) (xb BK215) hg (Kd.R_ne HO224.out BK215.out (by decide))); have n2_ := Aside0.mk (Kd.R_over' (xr HO221) (Kd.R_typed (xr HO224)) (by decide) hg); have n3_ := Aside0.mk (hb); have n4_ := Aside0.mk (ho); clear BK214; clear BK215; clear HO221; clear HB; clear HO224; have BK214 := n0_; have BK215 := n1_; have HO221 := n2_; have HB := n3_; have HO227 := n4_; clear n0_ n1_ n2_ n3_ n4_; clear ho hb hg hat; obtain ⟨Ao18, co18, eo18⟩ := Kd.R_slice HO227.out; subst eo18; have hcz19_0 : w17.cell? ⟨gb214, 0, none⟩ = some (.int .u64 a0_0) := (blk_cell BK214.out 0).trans rfl; have hcz19_1 : w17.cell? ⟨gb214, 1, none⟩ = some (.int .u64 a0_1) := (blk_cell BK214.out 1).trans rfl; have hcz19_2 : w17.cell? ⟨gb214, 2, none⟩ = some (.int .u64 a0_2) := (blk_cell BK214.out 2).trans rfl; have hcz19_3 : w17.cell? ⟨gb214, 3, none⟩ = some (.int .u64 a0_3) := (blk_cell BK214.out 3).trans rfl; have hcz19_4 : w17.cell? ⟨gb214, 4, none⟩ = some (.slice Ao12 y219.length co12) := (blk_cell BK214.out 4).trans rfl; have hcz19_5 : w17.cell? ⟨gb214, 5, none⟩ = some (.string a0_5) := (blk_cell BK214.out 5).trans rfl; have hcz19_6 : w17.cell? ⟨gb214, 6, none⟩ = some (.string a0_6) := (blk_cell BK214.out 6).trans rfl; have hcz19_7 : w17.cell? ⟨gb214, 7, none⟩ = some (.int .i64 a0_7) := (blk_cell BK214.out 7).trans rfl; have hcz19_8 : w17.cell? ⟨gb214, 8, none⟩ = some (.int .i64 a0_8) := (blk_cell BK214.out 8).trans rfl; have hcz19_9 : w17.cell? ⟨gb214, 9, none⟩ = some (.int .i64 a0_9) := (blk_cell BK214.out 9).trans rfl; have hcz19_10 : w17.cell? ⟨gb214, 10, none⟩ = some (.int .i64 a0_10) := (blk_cell BK214.out 10).trans rfl; have hcz19_11 : w17.cell? ⟨gb214, 11, none⟩ = some (.slice A0_11 l0_11.length c0_11) := (blk_cell BK214.out 11).trans rfl; have hcz19_12 : w17.cell? ⟨gb214, 12, none⟩ = some (.slice A0_12 l0_12.length c0_12) := (blk_cell BK214.out 12).trans rfl; have hfz19_0 := blk_frozen BK214.out 0; have hfz19_1 := blk_frozen BK214.out 1; have hfz19_2 := blk_frozen BK214.out 2; have hfz19_3 := blk_frozen BK214.out 3; have hfz19_4 := blk_frozen BK214.out 4; have hfz19_5 := blk_frozen BK214.out 5; have hfz19_6 := blk_frozen BK214.out 6; have hfz19_7 := blk_frozen BK214.out 7; have hfz19_8 := blk_frozen BK214.out 8; have hfz19_9 := blk_frozen BK214.out 9; have hfz19_10 := blk_frozen BK214.out 10; have hfz19_11 := blk_frozen BK214.out 11; have hfz19_12 := blk_frozen BK214.out 12) | ((with_reducible refine gate_dst (N := 13) rfl ?_); refine Kd.R_lit k122 _ 122 ?hg (N := 13) ?hd (xs := ([] : List (S122))) (inner := []) (ok := fun _ => True) (okp := fun _ => True) ?hr ?hp (fun _ hk => hk) trivial (Below.refl _ _) (Nat.le_refl _) (by simp) ?_; (case hd => rfl); (case hg => rfl); (case hr => first | (go_simp; done) | (go_simp; rfl)); (case hp => exact (Reps.none _ _)); intro v229 w20 ho21 hb hg_ hnew_; clear hg_ hnew_; (first | rw [← Ny228.out] at ho21 | (simp only [Int.reduceToNat] at ho21; rw [← Ny228.out] at ho21)); have n0_ := Aside0.mk (Kd.R_below (by (with_reducible repeat (first | apply Kd.R_alloc | apply Kd.R_drewN | apply Kd.R_drew)); exact (Kd.R_mono (Kd.R_far (p := ⟨gb214, 11, none⟩) (Kd.R_types HO221.out BK214.out (by decide)) (fun _ hk => hk.2) (.slice Ao18 y225.length co18)) (fun _ h_ => h_.1))) hb); have n1_ := Aside0.mk (Kd.R_below (by (with_reducible repeat (first | apply Kd.R_alloc | apply Kd.R_drewN | apply Kd.R_drew)); exact (Kd.R_mono (Kd.R_far (p := ⟨gb214, 11, none⟩) (Kd.R_types HO227.out BK214.out (by decide)) (fun _ hk => hk.2) (.slice Ao18 y225.length co18)) (fun _ h_ => h_.1))) hb); have n2_ := Aside0.mk (Kd.R_lower ho21 (below_size xq1)); have n3_ := Aside0.mk (blk_below (g := gb214) (o := .cells #[.int .u64 a0_0, .int .u64 a0_1, .int .u64 a0_2, .int .u64 a0_3, .slice Ao12 y219.length co12, .string a0_5, .string a0_6, .int .i64 a0_7, .int .i64 a0_8, .int .i64 a0_9, .int .i64 a0_10, .slice Ao18 y225.length co18, .slice A0_12 l0_12.length c0_12] 43 (0, 0)) (by (with_reducible repeat (first | refine blk_drewN ?_ _ | refine blk_drew ?_ | refine blk_alloc ?_ _)); refine blk_put (cs := #[.int .u64 a0_0, .int .u64 a0_1, .int .u64 a0_2, .int .u64 a0_3, .slice Ao12 y219.length co12, .string a0_5, .string a0_6, .int .i64 a0_7, .int .i64 a0_8, .int .i64 a0_9, .int .i64 a0_10, .slice A0_11 l0_11.length c0_11, .slice A0_12 l0_12.length c0_12]) ?_ 11 _ rfl; (with_reducible repeat (first | refine blk_drewN ?_ _ | refine blk_drew ?_ | refine blk_alloc ?_ _)); exact BK214.out) hb); have n4_ := Aside0.mk (blk_below (g := gb215) (o := .cells #[.int .u64 0, .int .u64 0, .int .u64 0, .int .u64 0, .slice none 0 0, .string (⟨#[]⟩ : ByteArray), .string (⟨#[]⟩ : ByteArray), .int .i64 0, .int .i64 0, .int .i64 0, .int .i64 0, .slice none 0 0, .slice none 0 0] 43 (0, 0)) (by (with_reducible repeat (first | refine blk_drewN ?_ _ | refine blk_drew ?_ | refine blk_alloc ?_ _)); refine blk_far ?_ NB215_214.out _; (with_reducible repeat (first | refine blk_drewN ?_ _ | refine blk_drew ?_ | refine blk_alloc ?_ _)); exact BK215.out) hb); have n5_ := Aside0.mk (below_step xq1 hb); clear HO221; clear HO227; clear BK214; clear BK215; clear HB; have HO221 := n0_; have HO227 := n1_; have HO230 := n2_; have BK214 := n3_; have BK215 := n4_; have HB := n5_; clear n0_ n1_ n2_ n3_ n4_ n5_; clear hb ho21; have hcz22_0 : w20.cell? ⟨gb214, 0, none⟩ = some (.int .u64 a0_0) := (blk_cell BK214.out 0).trans rfl; have hcz22_1 : w20.cell? ⟨gb214, 1, none⟩ = some (.int .u64 a0_1) := (blk_cell BK214.out 1).trans rfl; have hcz22_2 : w20.cell? ⟨gb214, 2, none⟩ = some (.int .u64 a0_2) := (blk_cell BK214.out 2).trans rfl; have hcz22_3 : w20.cell? ⟨gb214, 3, none⟩ = some (.int .u64 a0_3) := (blk_cell BK214.out 3).trans rfl; have hcz22_4 : w20.cell? ⟨gb214, 4, none⟩ = some (.slice Ao12 y219.length co12) := (blk_cell BK214.out 4).trans rfl; have hcz22_5 : w20.cell? ⟨gb214, 5, none⟩ = some (.string a0_5) := (blk_cell BK214.out 5).trans rfl; have hcz22_6 : w20.cell? ⟨gb214, 6, none⟩ = some (.string a0_6) := (blk_cell BK214.out 6).trans rfl; have hcz22_7 : w20.cell? ⟨gb214, 7, none⟩ = some (.int .i64 a0_7) := (blk_cell BK214.out 7).trans rfl; have hcz22_8 : w20.cell? ⟨gb214, 8, none⟩ = some (.int .i64 a0_8) := (blk_cell BK214.out 8).trans rfl; have hcz22_9 : w20.cell? ⟨gb214, 9, none⟩ = some (.int .i64 a0_9) := (blk_cell BK214.out 9).trans rfl; have hcz22_10 : w20.cell? ⟨gb214, 10, none⟩ = some (.int .i64 a0_10) := (blk_cell BK214.out 10).trans rfl; have hcz22_11 : w20.cell? ⟨gb214, 11, none⟩ = some (.slice Ao18 y225.length co18) := (blk_cell BK214.out 11).trans rfl; have hcz22_12 : w20.cell? ⟨gb214, 12, none⟩ = some (.slice A0_12 l0_12.length c0_12) := (blk_cell BK214.out 12).trans rfl; have hfz22_0 := blk_frozen BK214.out 0; have hfz22_1 := blk_frozen BK214.out 1; have hfz22_2 := blk_frozen BK214.out 2; have hfz22_3 := blk_frozen BK214.out 3; have hfz22_4 := blk_frozen BK214.out 4; have hfz22_5 := blk_frozen BK214.out 5; have hfz22_6 := blk_frozen BK214.out 6; have hfz22_7 := blk_frozen BK214.out 7; have hfz22_8 := blk_frozen BK214.out 8; have hfz22_9 := blk_frozen BK214.out 9; have hfz22_10 := blk_frozen BK214.out 10; have hfz22_11 := blk_frozen BK214.out 11; have hfz22_12 := blk_frozen BK214.out 12) | ((with_reducible refine gate_builtin (b := .append) (xs := #[.tmp 13, .tmp 15]) rfl ?_); at_builtin; refine Kd.R_append_rows k122 (w0 := w) w.heap.size rfl (.tmp 13) (.tmp 15) 41 122 (.agg #[(.int .i64 0), (.string ⟨#[]⟩)]) 24 rfl Tryd.underlying41 info122 rfl (by decide) (by omega) v229 y228 l0_12 _ _ _ (fun _ => True) (fun _ => False) rfl rfl ?aO ?aR (fun _ _ h => h) (fun _ h => h.elim) ?aF ?aB ?aS ?aL ?_; (case aR => repeat (first | exact (Kd.C_below HR0_12.out HB.out) | (with_reducible refine Kd.C_alloc ?_ _) | (with_reducible refine Kd.C_drewN ?_ _) | (with_reducible refine Kd.C_drew ?_))); (case aB => exact xq1); (case aF => exact (fun _ _ => trivial)); (case aO => exact (xr HO230)); (case aS => exact (below_size xq1)); (case aL => have := LMc4.out; omega); intro v232 w23 ho hb hg hat; rw [← Ny231.out] at ho; have n0_ := Aside0.mk (blk_grown (g := gb214) (o := .cells #[.int .u64 a0_0, .int .u64 a0_1, .int .u64 a0_2, .int .u64 a0_3, .slice Ao12 y219.length co12, .string a0_5, .string a0_6, .int .i64 a0_7, .int .i64 a0_8, .int .i64 a0_9, .int .i64 a0_10, .slice Ao18 y225.length co18, .slice A0_12 l0_12.length c0_12] 43 (0, 0)) (xb BK214) hg (Kd.R_ne HO230.out BK214.out (by decide))); have n1_ := Aside0.mk (blk_grown (g := gb215) (o := .cells #[.int .u64 0, .int .u64 0, .int .u64 0, .int .u64 0, .slice none 0 0, .string (⟨#[]⟩ : ByteArray), .string (⟨#[]⟩ : ByteArray), .int .i64 0, .int .i64 0, .int .i64 0, .int .i64 0, .slice none 0 0, .slice none 0 0] 43 (0, 0)) (xb BK215) hg (Kd.R_ne HO230.out BK215.out (by decide))); have n2_ := Aside0.mk (Kd.R_over' (xr HO221) (Kd.R_typed (xr HO230)) (by decide) hg); have n3_ := Aside0.mk (Kd.R_over' (xr HO227) (Kd.R_typed (xr HO230)) (by decide) hg); have n4_ := Aside0.mk (hb); have n5_ := Aside0.mk (ho); clear BK214; clear BK215; clear HO221; clear HO227; clear HB; clear HO230; have BK214 := n0_; have BK215 := n1_; have HO221 := n2_; have HO227 := n3_; have HB := n4_; have HO233 := n5_; clear n0_ n1_ n2_ n3_ n4_ n5_; clear ho hb hg hat; obtain ⟨Ao24, co24, eo24⟩ := Kd.R_slice HO233.out; subst eo24; have hcz25_0 : w23.cell? ⟨gb214, 0, none⟩ = some (.int .u64 a0_0) := (blk_cell BK214.out 0).trans rfl; have hcz25_1 : w23.cell? ⟨gb214, 1, none⟩ = some (.int .u64 a0_1) := (blk_cell BK214.out 1).trans rfl; have hcz25_2 : w23.cell? ⟨gb214, 2, none⟩ = some (.int .u64 a0_2) := (blk_cell BK214.out 2).trans rfl; have hcz25_3 : w23.cell? ⟨gb214, 3, none⟩ = some (.int .u64 a0_3) := (blk_cell BK214.out 3).trans rfl; have hcz25_4 : w23.cell? ⟨gb214, 4, none⟩ = some (.slice Ao12 y219.length co12) := (blk_cell BK214.out 4).trans rfl; have hcz25_5 : w23.cell? ⟨gb214, 5, none⟩ = some (.string a0_5) := (blk_cell BK214.out 5).trans rfl; have hcz25_6 : w23.cell? ⟨gb214, 6, none⟩ = some (.string a0_6) := (blk_cell BK214.out 6).trans rfl; have hcz25_7 : w23.cell? ⟨gb214, 7, none⟩ = some (.int .i64 a0_7) := (blk_cell BK214.out 7).trans rfl; have hcz25_8 : w23.cell? ⟨gb214, 8, none⟩ = some (.int .i64 a0_8) := (blk_cell BK214.out 8).trans rfl; have hcz25_9 : w23.cell? ⟨gb214, 9, none⟩ = some (.int .i64 a0_9) := (blk_cell BK214.out 9).trans rfl; have hcz25_10 : w23.cell? ⟨gb214, 10, none⟩ = some (.int .i64 a0_10) := (blk_cell BK214.out 10).trans rfl; have hcz25_11 : w23.cell? ⟨gb214, 11, none⟩ = some (.slice Ao18 y225.length co18) := (blk_cell BK214.out 11).trans rfl; have hcz25_12 : w23.cell? ⟨gb214, 12, none⟩ = some (.slice A0_12 l0_12.length c0_12) := (blk_cell BK214.out 12).trans rfl; have hfz25_0 := blk_frozen BK214.out 0; have hfz25_1 := blk_frozen BK214.out 1; have hfz25_2 := blk_frozen BK214.out 2; have hfz25_3 := blk_frozen BK214.out 3; have hfz25_4 := blk_frozen BK214.out 4; have hfz25_5 := blk_frozen BK214.out 5; have hfz25_6 := blk_frozen BK214.out 6; have hfz25_7 := blk_frozen BK214.out 7; have hfz25_8 := blk_frozen BK214.out 8; have hfz25_9 := blk_frozen BK214.out 9; have hfz25_10 := blk_frozen BK214.out 10; have hfz25_11 := blk_frozen BK214.out 11; have hfz25_12 := blk_frozen BK214.out 12; have hcz26_0 : w23.cell? ⟨gb215, 0, none⟩ = some (.int .u64 0) := (blk_cell BK215.out 0).trans rfl; have hcz26_1 : w23.cell? ⟨gb215, 1, none⟩ = some (.int .u64 0) := (blk_cell BK215.out 1).trans rfl; have hcz26_2 : w23.cell? ⟨gb215, 2, none⟩ = some (.int .u64 0) := (blk_cell BK215.out 2).trans rfl; have hcz26_3 : w23.cell? ⟨gb215, 3, none⟩ = some (.int .u64 0) := (blk_cell BK215.out 3).trans rfl; have hcz26_4 : w23.cell? ⟨gb215, 4, none⟩ = some (.slice none 0 0) := (blk_cell BK215.out 4).trans rfl; have hcz26_5 : w23.cell? ⟨gb215, 5, none⟩ = some (.string (⟨#[]⟩ : ByteArray)) := (blk_cell BK215.out 5).trans rfl; have hcz26_6 : w23.cell? ⟨gb215, 6, none⟩ = some (.string (⟨#[]⟩ : ByteArray)) := (blk_cell BK215.out 6).trans rfl; have hcz26_7 : w23.cell? ⟨gb215, 7, none⟩ = some (.int .i64 0) := (blk_cell BK215.out 7).trans rfl; have hcz26_8 : w23.cell? ⟨gb215, 8, none⟩ = some (.int .i64 0) := (blk_cell BK215.out 8).trans rfl; have hcz26_9 : w23.cell? ⟨gb215, 9, none⟩ = some (.int .i64 0) := (blk_cell BK215.out 9).trans rfl; have hcz26_10 : w23.cell? ⟨gb215, 10, none⟩ = some (.int .i64 0) := (blk_cell BK215.out 10).trans rfl; have hcz26_11 : w23.cell? ⟨gb215, 11, none⟩ = some (.slice none 0 0) := (blk_cell BK215.out 11).trans rfl; have hcz26_12 : w23.cell? ⟨gb215, 12, none⟩ = some (.slice none 0 0) := (blk_cell BK215.out 12).trans rfl; have hfz26_0 := blk_frozen BK215.out 0; have hfz26_1 := blk_frozen BK215.out 1; have hfz26_2 := blk_frozen BK215.out 2; have hfz26_3 := blk_frozen BK215.out 3; have hfz26_4 := blk_frozen BK215.out 4; have hfz26_5 := blk_frozen BK215.out 5; have hfz26_6 := blk_frozen BK215.out 6; have hfz26_7 := blk_frozen BK215.out 7; have hfz26_8 := blk_frozen BK215.out 8; have hfz26_9 := blk_frozen BK215.out 9; have hfz26_10 := blk_frozen BK215.out 10; have hfz26_11 := blk_frozen BK215.out 11; have hfz26_12 := blk_frozen BK215.out 12))
        refine bodyPost_ret (results_cell_row rfl _ _ gb215 43 #[.int .u64 a0_0, .int .u64 a0_1, .int .u64 a0_2, .int .u64 a0_3, .slice Ao12 y219.length co12, .string a0_5, .string a0_6, .int .i64 a0_7, .int .i64 a0_8, .int .i64 a0_9, .int .i64 a0_10, .slice Ao18 y225.length co18, .slice Ao24 y231.length co24] (0, 0) _ rfl (by (with_reducible repeat (first | refine blk_drewN ?_ _ | refine blk_drew ?_ | refine blk_alloc ?_ _)); refine blk_put (cs := #[.int .u64 a0_0, .int .u64 a0_1, .int .u64 a0_2, .int .u64 a0_3, .slice Ao12 y219.length co12, .string a0_5, .string a0_6, .int .i64 a0_7, .int .i64 a0_8, .int .i64 a0_9, .int .i64 a0_10, .slice Ao18 y225.length co18, .slice none 0 0]) ?_ 12 _ rfl; (with_reducible repeat (first | refine blk_drewN ?_ _ | refine blk_drew ?_ | refine blk_alloc ?_ _)); refine blk_put (cs := #[.int .u64 a0_0, .int .u64 a0_1, .int .u64 a0_2, .int .u64 a0_3, .slice Ao12 y219.length co12, .string a0_5, .string a0_6, .int .i64 a0_7, .int .i64 a0_8, .int .i64 a0_9, .int .i64 a0_10, .slice none 0 0, .slice none 0 0]) ?_ 11 _ rfl; (with_reducible repeat (first | refine blk_drewN ?_ _ | refine blk_drew ?_ | refine blk_alloc ?_ _)); refine blk_put (cs := #[.int .u64 a0_0, .int .u64 a0_1, .int .u64 a0_2, .int .u64 a0_3, .slice Ao12 y219.length co12, .string a0_5, .string a0_6, .int .i64 a0_7, .int .i64 a0_8, .int .i64 a0_9, .int .i64 0, .slice none 0 0, .slice none 0 0]) ?_ 10 _ rfl; (with_reducible repeat (first | refine blk_drewN ?_ _ | refine blk_drew ?_ | refine blk_alloc ?_ _)); refine blk_put (cs := #[.int .u64 a0_0, .int .u64 a0_1, .int .u64 a0_2, .int .u64 a0_3, .slice Ao12 y219.length co12, .string a0_5, .string a0_6, .int .i64 a0_7, .int .i64 a0_8, .int .i64 0, .int .i64 0, .slice none 0 0, .slice none 0 0]) ?_ 9 _ rfl; (with_reducible repeat (first | refine blk_drewN ?_ _ | refine blk_drew ?_ | refine blk_alloc ?_ _)); refine blk_put (cs := #[.int .u64 a0_0, .int .u64 a0_1, .int .u64 a0_2, .int .u64 a0_3, .slice Ao12 y219.length co12, .string a0_5, .string a0_6, .int .i64 a0_7, .int .i64 0, .int .i64 0, .int .i64 0, .slice none 0 0, .slice none 0 0]) ?_ 8 _ rfl; (with_reducible repeat (first | refine blk_drewN ?_ _ | refine blk_drew ?_ | refine blk_alloc ?_ _)); refine blk_put (cs := #[.int .u64 a0_0, .int .u64 a0_1, .int .u64 a0_2, .int .u64 a0_3, .slice Ao12 y219.length co12, .string a0_5, .string a0_6, .int .i64 0, .int .i64 0, .int .i64 0, .int .i64 0, .slice none 0 0, .slice none 0 0]) ?_ 7 _ rfl; (with_reducible repeat (first | refine blk_drewN ?_ _ | refine blk_drew ?_ | refine blk_alloc ?_ _)); refine blk_put (cs := #[.int .u64 a0_0, .int .u64 a0_1, .int .u64 a0_2, .int .u64 a0_3, .slice Ao12 y219.length co12, .string a0_5, .string (⟨#[]⟩ : ByteArray), .int .i64 0, .int .i64 0, .int .i64 0, .int .i64 0, .slice none 0 0, .slice none 0 0]) ?_ 6 _ rfl; (with_reducible repeat (first | refine blk_drewN ?_ _ | refine blk_drew ?_ | refine blk_alloc ?_ _)); refine blk_put (cs := #[.int .u64 a0_0, .int .u64 a0_1, .int .u64 a0_2, .int .u64 a0_3, .slice Ao12 y219.length co12, .string (⟨#[]⟩ : ByteArray), .string (⟨#[]⟩ : ByteArray), .int .i64 0, .int .i64 0, .int .i64 0, .int .i64 0, .slice none 0 0, .slice none 0 0]) ?_ 5 _ rfl; (with_reducible repeat (first | refine blk_drewN ?_ _ | refine blk_drew ?_ | refine blk_alloc ?_ _)); refine blk_put (cs := #[.int .u64 a0_0, .int .u64 a0_1, .int .u64 a0_2, .int .u64 a0_3, .slice none 0 0, .string (⟨#[]⟩ : ByteArray), .string (⟨#[]⟩ : ByteArray), .int .i64 0, .int .i64 0, .int .i64 0, .int .i64 0, .slice none 0 0, .slice none 0 0]) ?_ 4 _ rfl; (with_reducible repeat (first | refine blk_drewN ?_ _ | refine blk_drew ?_ | refine blk_alloc ?_ _)); refine blk_put (cs := #[.int .u64 a0_0, .int .u64 a0_1, .int .u64 a0_2, .int .u64 0, .slice none 0 0, .string (⟨#[]⟩ : ByteArray), .string (⟨#[]⟩ : ByteArray), .int .i64 0, .int .i64 0, .int .i64 0, .int .i64 0, .slice none 0 0, .slice none 0 0]) ?_ 3 _ rfl; (with_reducible repeat (first | refine blk_drewN ?_ _ | refine blk_drew ?_ | refine blk_alloc ?_ _)); refine blk_put (cs := #[.int .u64 a0_0, .int .u64 a0_1, .int .u64 0, .int .u64 0, .slice none 0 0, .string (⟨#[]⟩ : ByteArray), .string (⟨#[]⟩ : ByteArray), .int .i64 0, .int .i64 0, .int .i64 0, .int .i64 0, .slice none 0 0, .slice none 0 0]) ?_ 2 _ rfl; (with_reducible repeat (first | refine blk_drewN ?_ _ | refine blk_drew ?_ | refine blk_alloc ?_ _)); refine blk_put (cs := #[.int .u64 a0_0, .int .u64 0, .int .u64 0, .int .u64 0, .slice none 0 0, .string (⟨#[]⟩ : ByteArray), .string (⟨#[]⟩ : ByteArray), .int .i64 0, .int .i64 0, .int .i64 0, .int .i64 0, .slice none 0 0, .slice none 0 0]) ?_ 1 _ rfl; (with_reducible repeat (first | refine blk_drewN ?_ _ | refine blk_drew ?_ | refine blk_alloc ?_ _)); refine blk_put (cs := #[.int .u64 0, .int .u64 0, .int .u64 0, .int .u64 0, .slice none 0 0, .string (⟨#[]⟩ : ByteArray), .string (⟨#[]⟩ : ByteArray), .int .i64 0, .int .i64 0, .int .i64 0, .int .i64 0, .slice none 0 0, .slice none 0 0]) ?_ 0 _ rfl; (with_reducible repeat (first | refine blk_drewN ?_ _ | refine blk_drew ?_ | refine blk_alloc ?_ _)); refine blk_far ?_ NB215_214.out _; (with_reducible repeat (first | refine blk_drewN ?_ _ | refine blk_drew ?_ | refine blk_alloc ?_ _)); exact BK215.out) Tryd.underlying43 rfl (by kernel_rfl)) rfl ?_
        exact ⟨_, _, _, by first | rfl | (simp [errW_none, errW_some] <;> rfl) | (simp [*, errW_none, errW_some] <;> rfl), by (with_reducible repeat (first | apply Kd.R_alloc | apply Kd.R_drewN | apply Kd.R_drew)); exact Kd.R_mono (Kd.R_far (p := ⟨gb215, 12, none⟩) (Kd.R_far (p := ⟨gb215, 11, none⟩) (Kd.R_far (p := ⟨gb215, 10, none⟩) (Kd.R_far (p := ⟨gb215, 9, none⟩) (Kd.R_far (p := ⟨gb215, 8, none⟩) (Kd.R_far (p := ⟨gb215, 7, none⟩) (Kd.R_far (p := ⟨gb215, 6, none⟩) (Kd.R_far (p := ⟨gb215, 5, none⟩) (Kd.R_far (p := ⟨gb215, 4, none⟩) (Kd.R_far (p := ⟨gb215, 3, none⟩) (Kd.R_far (p := ⟨gb215, 2, none⟩) (Kd.R_far (p := ⟨gb215, 1, none⟩) (Kd.R_far (p := ⟨gb215, 0, none⟩) (Kd.R_far (p := ⟨gb214, 12, none⟩) (Kd.R_types (Kd.R_types HO221.out BK214.out (by decide)) BK215.out (by decide)) (fun _ hk => hk.1.2) (.slice Ao24 y231.length co24)) (fun _ hk => hk.2) (.int .u64 a0_0)) (fun _ hk => hk.2) (.int .u64 a0_1)) (fun _ hk => hk.2) (.int .u64 a0_2)) (fun _ hk => hk.2) (.int .u64 a0_3)) (fun _ hk => hk.2) (.slice Ao12 y219.length co12)) (fun _ hk => hk.2) (.string a0_5)) (fun _ hk => hk.2) (.string a0_6)) (fun _ hk => hk.2) (.int .i64 a0_7)) (fun _ hk => hk.2) (.int .i64 a0_8)) (fun _ hk => hk.2) (.int .i64 a0_9)) (fun _ hk => hk.2) (.int .i64 a0_10)) (fun _ hk => hk.2) (.slice Ao18 y225.length co18)) (fun _ hk => hk.2) (.slice Ao24 y231.length co24)) (fun _ hk => trivial), by (with_reducible repeat (first | apply Kd.R_alloc | apply Kd.R_drewN | apply Kd.R_drew)); exact Kd.R_mono (Kd.R_far (p := ⟨gb215, 12, none⟩) (Kd.R_far (p := ⟨gb215, 11, none⟩) (Kd.R_far (p := ⟨gb215, 10, none⟩) (Kd.R_far (p := ⟨gb215, 9, none⟩) (Kd.R_far (p := ⟨gb215, 8, none⟩) (Kd.R_far (p := ⟨gb215, 7, none⟩) (Kd.R_far (p := ⟨gb215, 6, none⟩) (Kd.R_far (p := ⟨gb215, 5, none⟩) (Kd.R_far (p := ⟨gb215, 4, none⟩) (Kd.R_far (p := ⟨gb215, 3, none⟩) (Kd.R_far (p := ⟨gb215, 2, none⟩) (Kd.R_far (p := ⟨gb215, 1, none⟩) (Kd.R_far (p := ⟨gb215, 0, none⟩) (Kd.R_far (p := ⟨gb214, 12, none⟩) (Kd.R_types (Kd.R_types HO227.out BK214.out (by decide)) BK215.out (by decide)) (fun _ hk => hk.1.2) (.slice Ao24 y231.length co24)) (fun _ hk => hk.2) (.int .u64 a0_0)) (fun _ hk => hk.2) (.int .u64 a0_1)) (fun _ hk => hk.2) (.int .u64 a0_2)) (fun _ hk => hk.2) (.int .u64 a0_3)) (fun _ hk => hk.2) (.slice Ao12 y219.length co12)) (fun _ hk => hk.2) (.string a0_5)) (fun _ hk => hk.2) (.string a0_6)) (fun _ hk => hk.2) (.int .i64 a0_7)) (fun _ hk => hk.2) (.int .i64 a0_8)) (fun _ hk => hk.2) (.int .i64 a0_9)) (fun _ hk => hk.2) (.int .i64 a0_10)) (fun _ hk => hk.2) (.slice Ao18 y225.length co18)) (fun _ hk => hk.2) (.slice Ao24 y231.length co24)) (fun _ hk => trivial), by (with_reducible repeat (first | apply Kd.R_alloc | apply Kd.R_drewN | apply Kd.R_drew)); exact Kd.R_mono (Kd.R_far (p := ⟨gb215, 12, none⟩) (Kd.R_far (p := ⟨gb215, 11, none⟩) (Kd.R_far (p := ⟨gb215, 10, none⟩) (Kd.R_far (p := ⟨gb215, 9, none⟩) (Kd.R_far (p := ⟨gb215, 8, none⟩) (Kd.R_far (p := ⟨gb215, 7, none⟩) (Kd.R_far (p := ⟨gb215, 6, none⟩) (Kd.R_far (p := ⟨gb215, 5, none⟩) (Kd.R_far (p := ⟨gb215, 4, none⟩) (Kd.R_far (p := ⟨gb215, 3, none⟩) (Kd.R_far (p := ⟨gb215, 2, none⟩) (Kd.R_far (p := ⟨gb215, 1, none⟩) (Kd.R_far (p := ⟨gb215, 0, none⟩) (Kd.R_far (p := ⟨gb214, 12, none⟩) (Kd.R_types (Kd.R_types HO233.out BK214.out (by decide)) BK215.out (by decide)) (fun _ hk => hk.1.2) (.slice Ao24 y231.length co24)) (fun _ hk => hk.2) (.int .u64 a0_0)) (fun _ hk => hk.2) (.int .u64 a0_1)) (fun _ hk => hk.2) (.int .u64 a0_2)) (fun _ hk => hk.2) (.int .u64 a0_3)) (fun _ hk => hk.2) (.slice Ao12 y219.length co12)) (fun _ hk => hk.2) (.string a0_5)) (fun _ hk => hk.2) (.string a0_6)) (fun _ hk => hk.2) (.int .i64 a0_7)) (fun _ hk => hk.2) (.int .i64 a0_8)) (fun _ hk => hk.2) (.int .i64 a0_9)) (fun _ hk => hk.2) (.int .i64 a0_10)) (fun _ hk => hk.2) (.slice Ao18 y225.length co18)) (fun _ hk => hk.2) (.slice Ao24 y231.length co24)) (fun _ hk => trivial), by repeat (first | (with_reducible first | exact HB.out | apply below_alloc | apply pw_below_drewN | apply below_drew1 | refine below_set ?_ GE214.out | refine below_set ?_ GE215.out) | exact HB.out)⟩
      · rw [if_neg c4] at H
        exact absurd H (by simp)
    · rw [if_neg c3] at H
      exact absurd H (by simp)
  · rw [if_neg c2] at H
    exact absurd H (by simp)

/-! ### spoorref04_links: function 82 -/
def spoorref04_links.l0 : Nat → Int → Int → Int → Int → Int → List Int → ByteArray → ByteArray → Int → Int → Int → Int → List (S120) → List (S122) → Option (Bool)
  | 0, _, _, _, _, _, _, _, _, _, _, _, _, _, _ => none
  | k + 1, x3, x235000, x235001, x235002, x235003, x235004, x235005, x235006, x235007, x235008, x235009, x235010, x235011, x235012 => if x3 < (x235004.length : Int) then (if 0 ≤ x3 then (if (rd x235004 x3) = 0 then (some false) else (if (rd x235004 x3) = x235002 then (some false) else (if x3 > 0 then (if 0 ≤ (wrap64 (x3 - 1)) then (if (wrap64 (x3 - 1)) < (x235004.length : Int) then (if (rd x235004 x3) ≤ (rd x235004 (wrap64 (x3 - 1))) then (some false) else (spoorref04_links.l0 k (wrap64 (x3 + 1)) x235000 x235001 x235002 x235003 x235004 x235005 x235006 x235007 x235008 x235009 x235010 x235011 x235012)) else (none)) else (none)) else (spoorref04_links.l0 k (wrap64 (x3 + 1)) x235000 x235001 x235002 x235003 x235004 x235005 x235006 x235007 x235008 x235009 x235010 x235011 x235012)))) else (none)) else (some (decide ((x235004.length : Int) ≤ 16)))
def spoorref04_links.f (k : Nat) (a0_0 : Int) (a0_1 : Int) (a0_2 : Int) (a0_3 : Int) (l0_4 : List Int) (a0_5 : ByteArray) (a0_6 : ByteArray) (a0_7 : Int) (a0_8 : Int) (a0_9 : Int) (a0_10 : Int) (l0_11 : List (S120)) (l0_12 : List (S122)) : Option (Bool) := spoorref04_links.l0 k 0 a0_0 a0_1 a0_2 a0_3 l0_4 a0_5 a0_6 a0_7 a0_8 a0_9 a0_10 l0_11 l0_12
theorem spoorref04_links.mono_l : ∀ k, (∀ y0 y1 y2 y3 y4 y5 y6 y7 y8 y9 y10 y11 y12 y13, LeO (spoorref04_links.l0 k y0 y1 y2 y3 y4 y5 y6 y7 y8 y9 y10 y11 y12 y13) (spoorref04_links.l0 (k + 1) y0 y1 y2 y3 y4 y5 y6 y7 y8 y9 y10 y11 y12 y13))
  | 0 => fun _ _ _ _ _ _ _ _ _ _ _ _ _ _ r h => by simp [spoorref04_links.l0] at h
  | k + 1 => by
    have ih0 := spoorref04_links.mono_l k
    · intro y0 y1 y2 y3 y4 y5 y6 y7 y8 y9 y10 y11 y12 y13
      unfold spoorref04_links.l0
      repeat' first
      | (with_reducible exact ih0 _ _ _ _ _ _ _ _ _ _ _ _ _ _)
      | (with_reducible exact LeO.refl _)
      | (with_reducible exact LeO.none _)
      | (with_reducible refine LeO.ite ?_ ?_)
      | (with_reducible refine LeO.bind ?_ (fun _ => ?_))
      | exact ih0 _ _ _ _ _ _ _ _ _ _ _ _ _ _
      | exact LeO.none _
      | refine LeO.ite ?_ ?_
      | refine LeO.bind ?_ (fun _ => ?_)
theorem spoorref04_links.mono : ∀ a0 a1 a2 a3 a4 a5 a6 a7 a8 a9 a10 a11 a12 k, LeO (spoorref04_links.f k a0 a1 a2 a3 a4 a5 a6 a7 a8 a9 a10 a11 a12) (spoorref04_links.f (k + 1) a0 a1 a2 a3 a4 a5 a6 a7 a8 a9 a10 a11 a12) := by
  intro a0 a1 a2 a3 a4 a5 a6 a7 a8 a9 a10 a11 a12 k
  have ih0 := spoorref04_links.mono_l k
  unfold spoorref04_links.f
  repeat' first
      | (with_reducible exact ih0 _ _ _ _ _ _ _ _ _ _ _ _ _ _)
      | (with_reducible exact LeO.refl _)
      | (with_reducible exact LeO.none _)
      | (with_reducible refine LeO.ite ?_ ?_)
      | (with_reducible refine LeO.bind ?_ (fun _ => ?_))
      | exact ih0 _ _ _ _ _ _ _ _ _ _ _ _ _ _
      | exact LeO.none _
      | refine LeO.ite ?_ ?_
      | refine LeO.bind ?_ (fun _ => ?_)
set_option maxHeartbeats 8000000 in
set_option maxRecDepth 100000 in
theorem spoorref04_links.calls (k : Nat) (a0_0 : Int) (a0_1 : Int) (a0_2 : Int) (a0_3 : Int) (A0_4 : Option Addr) (c0_4 : Nat) (l0_4 : List Int) (a0_5 : ByteArray) (a0_6 : ByteArray) (a0_7 : Int) (a0_8 : Int) (a0_9 : Int) (a0_10 : Int) (A0_11 : Option Addr) (c0_11 : Nat) (l0_11 : List (S120)) (A0_12 : Option Addr) (c0_12 : Nat) (l0_12 : List (S122)) (r : Bool) (w : World) (hr0_4 : Kd.C (Kd.int .u64) w A0_4 l0_4.length l0_4) (hc0_4 : l0_4.length ≤ c0_4) (hr0_11 : Kd.C k120 w A0_11 l0_11.length l0_11) (hc0_11 : l0_11.length ≤ c0_11) (hr0_12 : Kd.C k122 w A0_12 l0_12.length l0_12) (hc0_12 : l0_12.length ≤ c0_12) (h : spoorref04_links.f k a0_0 a0_1 a0_2 a0_3 l0_4 a0_5 a0_6 a0_7 a0_8 a0_9 a0_10 l0_11 l0_12 = some r) :
    Calls Tryd.prog 82 #[.agg #[.int .u64 a0_0, .int .u64 a0_1, .int .u64 a0_2, .int .u64 a0_3, .slice A0_4 l0_4.length c0_4, .string a0_5, .string a0_6, .int .i64 a0_7, .int .i64 a0_8, .int .i64 a0_9, .int .i64 a0_10, .slice A0_11 l0_11.length c0_11, .slice A0_12 l0_12.length c0_12]] w fun e w' => e = .returned (.bool r) ∧ Below w.heap.size w w' := by
  have hu43 := Tryd.underlying43
  have HR0_4 := Aside0.mk hr0_4
  have HC0_4 := Aside0.mk hc0_4
  clear hr0_4 hc0_4
  have HR0_11 := Aside0.mk hr0_11
  have HC0_11 := Aside0.mk hc0_11
  clear hr0_11 hc0_11
  have HR0_12 := Aside0.mk hr0_12
  have HC0_12 := Aside0.mk hc0_12
  clear hr0_12 hc0_12
  have HB := Aside0.mk (Below.refl w.heap.size w)
  have H : (spoorref04_links.l0 k 0 a0_0 a0_1 a0_2 a0_3 l0_4 a0_5 a0_6 a0_7 a0_8 a0_9 a0_10 l0_11 l0_12) = some r := h
  clear h
  have H' := Aside0.mk H
  clear H
  go_enter Tryd.func82, Tryd.ntmps82
  go_wp2_with (first | ((with_reducible refine gate_dst (N := 1) rfl ?_); refine box_event ?hg (N := 1) ?hd (cs := #[.int .u64 a0_0, .int .u64 a0_1, .int .u64 a0_2, .int .u64 a0_3, .slice A0_4 l0_4.length c0_4, .string a0_5, .string a0_6, .int .i64 a0_7, .int .i64 a0_8, .int .i64 a0_9, .int .i64 a0_10, .slice A0_11 l0_11.length c0_11, .slice A0_12 l0_12.length c0_12]) (t := 43) ?hr ?_; (case hd => rfl); (case hg => rfl); (case hr => first | (go_simp; done) | (go_simp; rfl)); intro gb234 hg w2 hbox hb; have n0_ := Aside0.mk (below_step xq0 hb); have n1_ := Aside0.mk (hbox); have n2_ := Aside0.mk ((by rw [hg]; exact (below_size xq0) : w.heap.size ≤ gb234)); have n3_ := Aside0.mk ((by rw [hg]; exact (below_size xq0) : w.heap.size ≤ gb234)); clear HB; have HB := n0_; have BK234 := n1_; have GW234 := n2_; have GE234 := n3_; clear n0_ n1_ n2_ n3_; clear hb hbox hg))
  repeat (go_quiet (first | ((with_reducible refine gate_dst (N := 1) rfl ?_); refine box_event ?hg (N := 1) ?hd (cs := #[.int .u64 a0_0, .int .u64 a0_1, .int .u64 a0_2, .int .u64 a0_3, .slice A0_4 l0_4.length c0_4, .string a0_5, .string a0_6, .int .i64 a0_7, .int .i64 a0_8, .int .i64 a0_9, .int .i64 a0_10, .slice A0_11 l0_11.length c0_11, .slice A0_12 l0_12.length c0_12]) (t := 43) ?hr ?_; (case hd => rfl); (case hg => rfl); (case hr => first | (go_simp; done) | (go_simp; rfl)); intro gb234 hg w2 hbox hb; have n0_ := Aside0.mk (below_step xq0 hb); have n1_ := Aside0.mk (hbox); have n2_ := Aside0.mk ((by rw [hg]; exact (below_size xq0) : w.heap.size ≤ gb234)); have n3_ := Aside0.mk ((by rw [hg]; exact (below_size xq0) : w.heap.size ≤ gb234)); clear HB; have HB := n0_; have BK234 := n1_; have GW234 := n2_; have GE234 := n3_; clear n0_ n1_ n2_ n3_; clear hb hbox hg)); try go_wp2_with (first | ((with_reducible refine gate_dst (N := 1) rfl ?_); refine box_event ?hg (N := 1) ?hd (cs := #[.int .u64 a0_0, .int .u64 a0_1, .int .u64 a0_2, .int .u64 a0_3, .slice A0_4 l0_4.length c0_4, .string a0_5, .string a0_6, .int .i64 a0_7, .int .i64 a0_8, .int .i64 a0_9, .int .i64 a0_10, .slice A0_11 l0_11.length c0_11, .slice A0_12 l0_12.length c0_12]) (t := 43) ?hr ?_; (case hd => rfl); (case hg => rfl); (case hr => first | (go_simp; done) | (go_simp; rfl)); intro gb234 hg w2 hbox hb; have n0_ := Aside0.mk (below_step xq0 hb); have n1_ := Aside0.mk (hbox); have n2_ := Aside0.mk ((by rw [hg]; exact (below_size xq0) : w.heap.size ≤ gb234)); have n3_ := Aside0.mk ((by rw [hg]; exact (below_size xq0) : w.heap.size ≤ gb234)); clear HB; have HB := n0_; have BK234 := n1_; have GW234 := n2_; have GE234 := n3_; clear n0_ n1_ n2_ n3_; clear hb hbox hg)))
  go_loopg [3] k (fun kq v3 w' => ∃ (x3_1 : Int), v3 = .int .i64 x3_1 ∧ Aside0 (spoorref04_links.l0 kq x3_1 a0_0 a0_1 a0_2 a0_3 l0_4 a0_5 a0_6 a0_7 a0_8 a0_9 a0_10 l0_11 l0_12 = some r) ∧ Aside0 (kq ≤ k) ∧ Aside0 (w'.heap[gb234]? = some (.cells #[.int .u64 a0_0, .int .u64 a0_1, .int .u64 a0_2, .int .u64 a0_3, (.slice A0_4 l0_4.length c0_4), .string a0_5, .string a0_6, .int .i64 a0_7, .int .i64 a0_8, .int .i64 a0_9, .int .i64 a0_10, (.slice A0_11 l0_11.length c0_11), (.slice A0_12 l0_12.length c0_12)] 43 (0, 0))) ∧ Aside0 (Below w.heap.size w w'))
  case atStart => exact ⟨(0), (by first | rfl | (simp; done) | (simp [*]; done)), H', ⟨Nat.le_refl _⟩, ⟨by (with_reducible repeat (first | refine blk_drewN ?_ _ | refine blk_drew ?_ | refine blk_alloc ?_ _)); exact BK234.out⟩, ⟨by repeat (first | (with_reducible first | exact HB.out | apply below_alloc | apply pw_below_drewN | apply below_drew1 | refine below_set ?_ GE234.out) | exact HB.out)⟩⟩
  case round =>
    clear H'
    try clear p2
    obtain ⟨x3_1, rfl, HA, HK1, BK234, HB⟩ := hrel
    cases gk with
    | zero => exact absurd HA.out (by simp [spoorref04_links.l0])
    | succ k1 =>
      have H := HA.out
      clear HA
      simp only [spoorref04_links.l0] at H
      by_cases c3 : x3_1 < (l0_4.length : Int)
      · rw [if_pos c3] at H
        have c3b0 : decide (x3_1 < (l0_4.length : Int)) = true := decide_eq_true c3
        clear c3
        by_cases c4 : 0 ≤ x3_1
        · rw [if_pos c4] at H
          have c4b0 : decide (0 ≤ x3_1) = true := decide_eq_true c4
          clear c4
          by_cases c5 : (rd l0_4 x3_1) = 0
          · rw [if_pos c5] at H
            have c5b0 : ((rd l0_4 x3_1) == 0) = true := beq_iff_eq.mpr c5
            have c5b1 : ((rd l0_4 x3_1) != 0) = false := bne_eq_false_iff_eq.mpr c5
            clear c5
            obtain rfl := Option.some.inj H
            have hcz6_0 : wr.cell? ⟨gb234, 0, none⟩ = some (.int .u64 a0_0) := (blk_cell BK234.out 0).trans rfl
            have hcz6_1 : wr.cell? ⟨gb234, 1, none⟩ = some (.int .u64 a0_1) := (blk_cell BK234.out 1).trans rfl
            have hcz6_2 : wr.cell? ⟨gb234, 2, none⟩ = some (.int .u64 a0_2) := (blk_cell BK234.out 2).trans rfl
            have hcz6_3 : wr.cell? ⟨gb234, 3, none⟩ = some (.int .u64 a0_3) := (blk_cell BK234.out 3).trans rfl
            have hcz6_4 : wr.cell? ⟨gb234, 4, none⟩ = some (.slice A0_4 l0_4.length c0_4) := (blk_cell BK234.out 4).trans rfl
            have hcz6_5 : wr.cell? ⟨gb234, 5, none⟩ = some (.string a0_5) := (blk_cell BK234.out 5).trans rfl
            have hcz6_6 : wr.cell? ⟨gb234, 6, none⟩ = some (.string a0_6) := (blk_cell BK234.out 6).trans rfl
            have hcz6_7 : wr.cell? ⟨gb234, 7, none⟩ = some (.int .i64 a0_7) := (blk_cell BK234.out 7).trans rfl
            have hcz6_8 : wr.cell? ⟨gb234, 8, none⟩ = some (.int .i64 a0_8) := (blk_cell BK234.out 8).trans rfl
            have hcz6_9 : wr.cell? ⟨gb234, 9, none⟩ = some (.int .i64 a0_9) := (blk_cell BK234.out 9).trans rfl
            have hcz6_10 : wr.cell? ⟨gb234, 10, none⟩ = some (.int .i64 a0_10) := (blk_cell BK234.out 10).trans rfl
            have hcz6_11 : wr.cell? ⟨gb234, 11, none⟩ = some (.slice A0_11 l0_11.length c0_11) := (blk_cell BK234.out 11).trans rfl
            have hcz6_12 : wr.cell? ⟨gb234, 12, none⟩ = some (.slice A0_12 l0_12.length c0_12) := (blk_cell BK234.out 12).trans rfl
            have hfz6_0 := blk_frozen BK234.out 0
            have hfz6_1 := blk_frozen BK234.out 1
            have hfz6_2 := blk_frozen BK234.out 2
            have hfz6_3 := blk_frozen BK234.out 3
            have hfz6_4 := blk_frozen BK234.out 4
            have hfz6_5 := blk_frozen BK234.out 5
            have hfz6_6 := blk_frozen BK234.out 6
            have hfz6_7 := blk_frozen BK234.out 7
            have hfz6_8 := blk_frozen BK234.out 8
            have hfz6_9 := blk_frozen BK234.out 9
            have hfz6_10 := blk_frozen BK234.out 10
            have hfz6_11 := blk_frozen BK234.out 11
            have hfz6_12 := blk_frozen BK234.out 12
            have p235 : 0 ≤ (x3_1 : Int) := of_decide_eq_true (by first | (with_reducible assumption) | assumption)
            have q235 : x3_1 < (l0_4.length : Int) := of_decide_eq_true (by first | (with_reducible assumption) | assumption)
            obtain ⟨ad235, e235, hx235_0⟩ := Kd.at_int HR0_4.out x3_1 p235 q235
            cases e235
            replace hx235_0 := (HB.out.cell (World.block_lt_of_cell? w _ hx235_0)).trans hx235_0
            replace p235 := eq_true p235
            replace q235 := eq_true q235
            go_wp2
            repeat (go_quiet (fail); try go_wp2)
            go_ret
            exact ⟨by first | rfl | (simp [errW_none, errW_some] <;> rfl) | (simp [*, errW_none, errW_some] <;> rfl), by repeat (first | (with_reducible first | exact HB.out | apply below_alloc | apply pw_below_drewN | apply below_drew1 | refine below_set ?_ GE234.out) | exact HB.out)⟩
          · rw [if_neg c5] at H
            have c5b0 : ((rd l0_4 x3_1) == 0) = false := beq_eq_false_iff_ne.mpr c5
            have c5b1 : ((rd l0_4 x3_1) != 0) = true := bne_iff_ne.mpr c5
            by_cases c7 : (rd l0_4 x3_1) = a0_2
            · rw [if_pos c7] at H
              have c7b0 : ((rd l0_4 x3_1) == a0_2) = true := beq_iff_eq.mpr c7
              have c7b1 : ((rd l0_4 x3_1) != a0_2) = false := bne_eq_false_iff_eq.mpr c7
              clear c7
              obtain rfl := Option.some.inj H
              have hcz8_0 : wr.cell? ⟨gb234, 0, none⟩ = some (.int .u64 a0_0) := (blk_cell BK234.out 0).trans rfl
              have hcz8_1 : wr.cell? ⟨gb234, 1, none⟩ = some (.int .u64 a0_1) := (blk_cell BK234.out 1).trans rfl
              have hcz8_2 : wr.cell? ⟨gb234, 2, none⟩ = some (.int .u64 a0_2) := (blk_cell BK234.out 2).trans rfl
              have hcz8_3 : wr.cell? ⟨gb234, 3, none⟩ = some (.int .u64 a0_3) := (blk_cell BK234.out 3).trans rfl
              have hcz8_4 : wr.cell? ⟨gb234, 4, none⟩ = some (.slice A0_4 l0_4.length c0_4) := (blk_cell BK234.out 4).trans rfl
              have hcz8_5 : wr.cell? ⟨gb234, 5, none⟩ = some (.string a0_5) := (blk_cell BK234.out 5).trans rfl
              have hcz8_6 : wr.cell? ⟨gb234, 6, none⟩ = some (.string a0_6) := (blk_cell BK234.out 6).trans rfl
              have hcz8_7 : wr.cell? ⟨gb234, 7, none⟩ = some (.int .i64 a0_7) := (blk_cell BK234.out 7).trans rfl
              have hcz8_8 : wr.cell? ⟨gb234, 8, none⟩ = some (.int .i64 a0_8) := (blk_cell BK234.out 8).trans rfl
              have hcz8_9 : wr.cell? ⟨gb234, 9, none⟩ = some (.int .i64 a0_9) := (blk_cell BK234.out 9).trans rfl
              have hcz8_10 : wr.cell? ⟨gb234, 10, none⟩ = some (.int .i64 a0_10) := (blk_cell BK234.out 10).trans rfl
              have hcz8_11 : wr.cell? ⟨gb234, 11, none⟩ = some (.slice A0_11 l0_11.length c0_11) := (blk_cell BK234.out 11).trans rfl
              have hcz8_12 : wr.cell? ⟨gb234, 12, none⟩ = some (.slice A0_12 l0_12.length c0_12) := (blk_cell BK234.out 12).trans rfl
              have hfz8_0 := blk_frozen BK234.out 0
              have hfz8_1 := blk_frozen BK234.out 1
              have hfz8_2 := blk_frozen BK234.out 2
              have hfz8_3 := blk_frozen BK234.out 3
              have hfz8_4 := blk_frozen BK234.out 4
              have hfz8_5 := blk_frozen BK234.out 5
              have hfz8_6 := blk_frozen BK234.out 6
              have hfz8_7 := blk_frozen BK234.out 7
              have hfz8_8 := blk_frozen BK234.out 8
              have hfz8_9 := blk_frozen BK234.out 9
              have hfz8_10 := blk_frozen BK234.out 10
              have hfz8_11 := blk_frozen BK234.out 11
              have hfz8_12 := blk_frozen BK234.out 12
              have p235 : 0 ≤ (x3_1 : Int) := of_decide_eq_true (by first | (with_reducible assumption) | assumption)
              have q235 : x3_1 < (l0_4.length : Int) := of_decide_eq_true (by first | (with_reducible assumption) | assumption)
              obtain ⟨ad235, e235, hx235_0⟩ := Kd.at_int HR0_4.out x3_1 p235 q235
              cases e235
              replace hx235_0 := (HB.out.cell (World.block_lt_of_cell? w _ hx235_0)).trans hx235_0
              replace p235 := eq_true p235
              replace q235 := eq_true q235
              have p236 : 0 ≤ (x3_1 : Int) := of_decide_eq_true (by first | (with_reducible assumption) | assumption)
              have q236 : x3_1 < (l0_4.length : Int) := of_decide_eq_true (by first | (with_reducible assumption) | assumption)
              obtain ⟨ad236, e236, hx236_0⟩ := Kd.at_int HR0_4.out x3_1 p236 q236
              obtain rfl : ad235 = ad236 := (by injection e236)
              replace hx236_0 := (HB.out.cell (World.block_lt_of_cell? w _ hx236_0)).trans hx236_0
              replace p236 := eq_true p236
              replace q236 := eq_true q236
              go_wp2
              repeat (go_quiet (fail); try go_wp2)
              go_ret
              exact ⟨by first | rfl | (simp [errW_none, errW_some] <;> rfl) | (simp [*, errW_none, errW_some] <;> rfl), by repeat (first | (with_reducible first | exact HB.out | apply below_alloc | apply pw_below_drewN | apply below_drew1 | refine below_set ?_ GE234.out) | exact HB.out)⟩
            · rw [if_neg c7] at H
              have c7b0 : ((rd l0_4 x3_1) == a0_2) = false := beq_eq_false_iff_ne.mpr c7
              have c7b1 : ((rd l0_4 x3_1) != a0_2) = true := bne_iff_ne.mpr c7
              by_cases c9 : x3_1 > 0
              · rw [if_pos c9] at H
                have c9b0 : decide (0 < x3_1) = true := decide_eq_true c9
                clear c9
                obtain ⟨ji10, hji10⟩ : ∃ j_ : Int, (wrap64 (x3_1 - 1)) = j_ := ⟨_, rfl⟩
                replace H : (if 0 ≤ (ji10) then (if (ji10) < (l0_4.length : Int) then (if (rd l0_4 x3_1) ≤ (rd l0_4 (ji10)) then (some false) else (spoorref04_links.l0 k1 (wrap64 (x3_1 + 1)) a0_0 a0_1 a0_2 a0_3 l0_4 a0_5 a0_6 a0_7 a0_8 a0_9 a0_10 l0_11 l0_12)) else (none)) else (none)) = some r := by first | (rw [hji10] at H; exact H) | (simp only [hji10] at H ⊢; exact H)
                have hji10w : (IntKind.i64.wrap (x3_1 - 1)) = ji10 := (i64_w _).trans hji10
                by_cases c11 : 0 ≤ (ji10)
                · rw [if_pos c11] at H
                  have c11b0 : decide (0 ≤ (ji10)) = true := decide_eq_true c11
                  clear c11
                  by_cases c12 : (ji10) < (l0_4.length : Int)
                  · rw [if_pos c12] at H
                    have c12b0 : decide ((ji10) < (l0_4.length : Int)) = true := decide_eq_true c12
                    clear c12
                    by_cases c13 : (rd l0_4 x3_1) ≤ (rd l0_4 (ji10))
                    · rw [if_pos c13] at H
                      have c13b0 : decide ((rd l0_4 x3_1) ≤ (rd l0_4 (ji10))) = true := decide_eq_true c13
                      clear c13
                      obtain rfl := Option.some.inj H
                      have hcz14_0 : wr.cell? ⟨gb234, 0, none⟩ = some (.int .u64 a0_0) := (blk_cell BK234.out 0).trans rfl
                      have hcz14_1 : wr.cell? ⟨gb234, 1, none⟩ = some (.int .u64 a0_1) := (blk_cell BK234.out 1).trans rfl
                      have hcz14_2 : wr.cell? ⟨gb234, 2, none⟩ = some (.int .u64 a0_2) := (blk_cell BK234.out 2).trans rfl
                      have hcz14_3 : wr.cell? ⟨gb234, 3, none⟩ = some (.int .u64 a0_3) := (blk_cell BK234.out 3).trans rfl
                      have hcz14_4 : wr.cell? ⟨gb234, 4, none⟩ = some (.slice A0_4 l0_4.length c0_4) := (blk_cell BK234.out 4).trans rfl
                      have hcz14_5 : wr.cell? ⟨gb234, 5, none⟩ = some (.string a0_5) := (blk_cell BK234.out 5).trans rfl
                      have hcz14_6 : wr.cell? ⟨gb234, 6, none⟩ = some (.string a0_6) := (blk_cell BK234.out 6).trans rfl
                      have hcz14_7 : wr.cell? ⟨gb234, 7, none⟩ = some (.int .i64 a0_7) := (blk_cell BK234.out 7).trans rfl
                      have hcz14_8 : wr.cell? ⟨gb234, 8, none⟩ = some (.int .i64 a0_8) := (blk_cell BK234.out 8).trans rfl
                      have hcz14_9 : wr.cell? ⟨gb234, 9, none⟩ = some (.int .i64 a0_9) := (blk_cell BK234.out 9).trans rfl
                      have hcz14_10 : wr.cell? ⟨gb234, 10, none⟩ = some (.int .i64 a0_10) := (blk_cell BK234.out 10).trans rfl
                      have hcz14_11 : wr.cell? ⟨gb234, 11, none⟩ = some (.slice A0_11 l0_11.length c0_11) := (blk_cell BK234.out 11).trans rfl
                      have hcz14_12 : wr.cell? ⟨gb234, 12, none⟩ = some (.slice A0_12 l0_12.length c0_12) := (blk_cell BK234.out 12).trans rfl
                      have hfz14_0 := blk_frozen BK234.out 0
                      have hfz14_1 := blk_frozen BK234.out 1
                      have hfz14_2 := blk_frozen BK234.out 2
                      have hfz14_3 := blk_frozen BK234.out 3
                      have hfz14_4 := blk_frozen BK234.out 4
                      have hfz14_5 := blk_frozen BK234.out 5
                      have hfz14_6 := blk_frozen BK234.out 6
                      have hfz14_7 := blk_frozen BK234.out 7
                      have hfz14_8 := blk_frozen BK234.out 8
                      have hfz14_9 := blk_frozen BK234.out 9
                      have hfz14_10 := blk_frozen BK234.out 10
                      have hfz14_11 := blk_frozen BK234.out 11
                      have hfz14_12 := blk_frozen BK234.out 12
                      have p235 : 0 ≤ (x3_1 : Int) := of_decide_eq_true (by first | (with_reducible assumption) | assumption)
                      have q235 : x3_1 < (l0_4.length : Int) := of_decide_eq_true (by first | (with_reducible assumption) | assumption)
                      obtain ⟨ad235, e235, hx235_0⟩ := Kd.at_int HR0_4.out x3_1 p235 q235
                      cases e235
                      replace hx235_0 := (HB.out.cell (World.block_lt_of_cell? w _ hx235_0)).trans hx235_0
                      replace p235 := eq_true p235
                      replace q235 := eq_true q235
                      have p236 : 0 ≤ (x3_1 : Int) := of_decide_eq_true (by first | (with_reducible assumption) | assumption)
                      have q236 : x3_1 < (l0_4.length : Int) := of_decide_eq_true (by first | (with_reducible assumption) | assumption)
                      obtain ⟨ad236, e236, hx236_0⟩ := Kd.at_int HR0_4.out x3_1 p236 q236
                      obtain rfl : ad235 = ad236 := (by injection e236)
                      replace hx236_0 := (HB.out.cell (World.block_lt_of_cell? w _ hx236_0)).trans hx236_0
                      replace p236 := eq_true p236
                      replace q236 := eq_true q236
                      have p237 : 0 ≤ (x3_1 : Int) := of_decide_eq_true (by first | (with_reducible assumption) | assumption)
                      have q237 : x3_1 < (l0_4.length : Int) := of_decide_eq_true (by first | (with_reducible assumption) | assumption)
                      obtain ⟨ad237, e237, hx237_0⟩ := Kd.at_int HR0_4.out x3_1 p237 q237
                      obtain rfl : ad235 = ad237 := (by injection e237)
                      replace hx237_0 := (HB.out.cell (World.block_lt_of_cell? w _ hx237_0)).trans hx237_0
                      replace p237 := eq_true p237
                      replace q237 := eq_true q237
                      have p238 : 0 ≤ ((ji10) : Int) := of_decide_eq_true (by first | (with_reducible assumption) | assumption)
                      have q238 : (ji10) < (l0_4.length : Int) := of_decide_eq_true (by first | (with_reducible assumption) | assumption)
                      obtain ⟨ad238, e238, hx238_0⟩ := Kd.at_int HR0_4.out (ji10) p238 q238
                      obtain rfl : ad235 = ad238 := (by injection e238)
                      replace hx238_0 := (HB.out.cell (World.block_lt_of_cell? w _ hx238_0)).trans hx238_0
                      replace p238 := eq_true p238
                      replace q238 := eq_true q238
                      go_wp2
                      repeat (go_quiet (fail); try go_wp2)
                      go_ret
                      exact ⟨by first | rfl | (simp [errW_none, errW_some] <;> rfl) | (simp only [← hji10]; first | rfl | (simp [errW_none, errW_some] <;> rfl)) | (simp [*, errW_none, errW_some] <;> rfl), by repeat (first | (with_reducible first | exact HB.out | apply below_alloc | apply pw_below_drewN | apply below_drew1 | refine below_set ?_ GE234.out) | exact HB.out)⟩
                    · rw [if_neg c13] at H
                      have c13b0 : decide ((rd l0_4 x3_1) ≤ (rd l0_4 (ji10))) = false := decide_eq_false c13
                      clear c13
                      have H' := Aside0.mk H
                      clear H
                      have hcz15_0 : wr.cell? ⟨gb234, 0, none⟩ = some (.int .u64 a0_0) := (blk_cell BK234.out 0).trans rfl
                      have hcz15_1 : wr.cell? ⟨gb234, 1, none⟩ = some (.int .u64 a0_1) := (blk_cell BK234.out 1).trans rfl
                      have hcz15_2 : wr.cell? ⟨gb234, 2, none⟩ = some (.int .u64 a0_2) := (blk_cell BK234.out 2).trans rfl
                      have hcz15_3 : wr.cell? ⟨gb234, 3, none⟩ = some (.int .u64 a0_3) := (blk_cell BK234.out 3).trans rfl
                      have hcz15_4 : wr.cell? ⟨gb234, 4, none⟩ = some (.slice A0_4 l0_4.length c0_4) := (blk_cell BK234.out 4).trans rfl
                      have hcz15_5 : wr.cell? ⟨gb234, 5, none⟩ = some (.string a0_5) := (blk_cell BK234.out 5).trans rfl
                      have hcz15_6 : wr.cell? ⟨gb234, 6, none⟩ = some (.string a0_6) := (blk_cell BK234.out 6).trans rfl
                      have hcz15_7 : wr.cell? ⟨gb234, 7, none⟩ = some (.int .i64 a0_7) := (blk_cell BK234.out 7).trans rfl
                      have hcz15_8 : wr.cell? ⟨gb234, 8, none⟩ = some (.int .i64 a0_8) := (blk_cell BK234.out 8).trans rfl
                      have hcz15_9 : wr.cell? ⟨gb234, 9, none⟩ = some (.int .i64 a0_9) := (blk_cell BK234.out 9).trans rfl
                      have hcz15_10 : wr.cell? ⟨gb234, 10, none⟩ = some (.int .i64 a0_10) := (blk_cell BK234.out 10).trans rfl
                      have hcz15_11 : wr.cell? ⟨gb234, 11, none⟩ = some (.slice A0_11 l0_11.length c0_11) := (blk_cell BK234.out 11).trans rfl
                      have hcz15_12 : wr.cell? ⟨gb234, 12, none⟩ = some (.slice A0_12 l0_12.length c0_12) := (blk_cell BK234.out 12).trans rfl
                      have hfz15_0 := blk_frozen BK234.out 0
                      have hfz15_1 := blk_frozen BK234.out 1
                      have hfz15_2 := blk_frozen BK234.out 2
                      have hfz15_3 := blk_frozen BK234.out 3
                      have hfz15_4 := blk_frozen BK234.out 4
                      have hfz15_5 := blk_frozen BK234.out 5
                      have hfz15_6 := blk_frozen BK234.out 6
                      have hfz15_7 := blk_frozen BK234.out 7
                      have hfz15_8 := blk_frozen BK234.out 8
                      have hfz15_9 := blk_frozen BK234.out 9
                      have hfz15_10 := blk_frozen BK234.out 10
                      have hfz15_11 := blk_frozen BK234.out 11
                      have hfz15_12 := blk_frozen BK234.out 12
                      have p235 : 0 ≤ (x3_1 : Int) := of_decide_eq_true (by first | (with_reducible assumption) | assumption)
                      have q235 : x3_1 < (l0_4.length : Int) := of_decide_eq_true (by first | (with_reducible assumption) | assumption)
                      obtain ⟨ad235, e235, hx235_0⟩ := Kd.at_int HR0_4.out x3_1 p235 q235
                      cases e235
                      replace hx235_0 := (HB.out.cell (World.block_lt_of_cell? w _ hx235_0)).trans hx235_0
                      replace p235 := eq_true p235
                      replace q235 := eq_true q235
                      have p236 : 0 ≤ (x3_1 : Int) := of_decide_eq_true (by first | (with_reducible assumption) | assumption)
                      have q236 : x3_1 < (l0_4.length : Int) := of_decide_eq_true (by first | (with_reducible assumption) | assumption)
                      obtain ⟨ad236, e236, hx236_0⟩ := Kd.at_int HR0_4.out x3_1 p236 q236
                      obtain rfl : ad235 = ad236 := (by injection e236)
                      replace hx236_0 := (HB.out.cell (World.block_lt_of_cell? w _ hx236_0)).trans hx236_0
                      replace p236 := eq_true p236
                      replace q236 := eq_true q236
                      have p237 : 0 ≤ (x3_1 : Int) := of_decide_eq_true (by first | (with_reducible assumption) | assumption)
                      have q237 : x3_1 < (l0_4.length : Int) := of_decide_eq_true (by first | (with_reducible assumption) | assumption)
                      obtain ⟨ad237, e237, hx237_0⟩ := Kd.at_int HR0_4.out x3_1 p237 q237
                      obtain rfl : ad235 = ad237 := (by injection e237)
                      replace hx237_0 := (HB.out.cell (World.block_lt_of_cell? w _ hx237_0)).trans hx237_0
                      replace p237 := eq_true p237
                      replace q237 := eq_true q237
                      have p238 : 0 ≤ ((ji10) : Int) := of_decide_eq_true (by first | (with_reducible assumption) | assumption)
                      have q238 : (ji10) < (l0_4.length : Int) := of_decide_eq_true (by first | (with_reducible assumption) | assumption)
                      obtain ⟨ad238, e238, hx238_0⟩ := Kd.at_int HR0_4.out (ji10) p238 q238
                      obtain rfl : ad235 = ad238 := (by injection e238)
                      replace hx238_0 := (HB.out.cell (World.block_lt_of_cell? w _ hx238_0)).trans hx238_0
                      replace p238 := eq_true p238
                      replace q238 := eq_true q238
                      go_wp2
                      repeat (go_quiet (fail); try go_wp2)
                      go_roundg k1
                      case measure => have := HK1.out; omega
                      case rel => exact ⟨(wrap64 (x3_1 + 1)), (by first | rfl | (simp; done) | (simp [*]; done)), H', ⟨by have := HK1.out; omega⟩, ⟨by (with_reducible repeat (first | refine blk_drewN ?_ _ | refine blk_drew ?_ | refine blk_alloc ?_ _)); exact BK234.out⟩, ⟨by repeat (first | (with_reducible first | exact HB.out | apply below_alloc | apply pw_below_drewN | apply below_drew1 | refine below_set ?_ GE234.out) | exact HB.out)⟩⟩
                  · rw [if_neg c12] at H
                    exact absurd H (by simp)
                · rw [if_neg c11] at H
                  exact absurd H (by simp)
              · rw [if_neg c9] at H
                have c9b0 : decide (0 < x3_1) = false := decide_eq_false c9
                clear c9
                have H' := Aside0.mk H
                clear H
                have hcz16_0 : wr.cell? ⟨gb234, 0, none⟩ = some (.int .u64 a0_0) := (blk_cell BK234.out 0).trans rfl
                have hcz16_1 : wr.cell? ⟨gb234, 1, none⟩ = some (.int .u64 a0_1) := (blk_cell BK234.out 1).trans rfl
                have hcz16_2 : wr.cell? ⟨gb234, 2, none⟩ = some (.int .u64 a0_2) := (blk_cell BK234.out 2).trans rfl
                have hcz16_3 : wr.cell? ⟨gb234, 3, none⟩ = some (.int .u64 a0_3) := (blk_cell BK234.out 3).trans rfl
                have hcz16_4 : wr.cell? ⟨gb234, 4, none⟩ = some (.slice A0_4 l0_4.length c0_4) := (blk_cell BK234.out 4).trans rfl
                have hcz16_5 : wr.cell? ⟨gb234, 5, none⟩ = some (.string a0_5) := (blk_cell BK234.out 5).trans rfl
                have hcz16_6 : wr.cell? ⟨gb234, 6, none⟩ = some (.string a0_6) := (blk_cell BK234.out 6).trans rfl
                have hcz16_7 : wr.cell? ⟨gb234, 7, none⟩ = some (.int .i64 a0_7) := (blk_cell BK234.out 7).trans rfl
                have hcz16_8 : wr.cell? ⟨gb234, 8, none⟩ = some (.int .i64 a0_8) := (blk_cell BK234.out 8).trans rfl
                have hcz16_9 : wr.cell? ⟨gb234, 9, none⟩ = some (.int .i64 a0_9) := (blk_cell BK234.out 9).trans rfl
                have hcz16_10 : wr.cell? ⟨gb234, 10, none⟩ = some (.int .i64 a0_10) := (blk_cell BK234.out 10).trans rfl
                have hcz16_11 : wr.cell? ⟨gb234, 11, none⟩ = some (.slice A0_11 l0_11.length c0_11) := (blk_cell BK234.out 11).trans rfl
                have hcz16_12 : wr.cell? ⟨gb234, 12, none⟩ = some (.slice A0_12 l0_12.length c0_12) := (blk_cell BK234.out 12).trans rfl
                have hfz16_0 := blk_frozen BK234.out 0
                have hfz16_1 := blk_frozen BK234.out 1
                have hfz16_2 := blk_frozen BK234.out 2
                have hfz16_3 := blk_frozen BK234.out 3
                have hfz16_4 := blk_frozen BK234.out 4
                have hfz16_5 := blk_frozen BK234.out 5
                have hfz16_6 := blk_frozen BK234.out 6
                have hfz16_7 := blk_frozen BK234.out 7
                have hfz16_8 := blk_frozen BK234.out 8
                have hfz16_9 := blk_frozen BK234.out 9
                have hfz16_10 := blk_frozen BK234.out 10
                have hfz16_11 := blk_frozen BK234.out 11
                have hfz16_12 := blk_frozen BK234.out 12
                have p235 : 0 ≤ (x3_1 : Int) := of_decide_eq_true (by first | (with_reducible assumption) | assumption)
                have q235 : x3_1 < (l0_4.length : Int) := of_decide_eq_true (by first | (with_reducible assumption) | assumption)
                obtain ⟨ad235, e235, hx235_0⟩ := Kd.at_int HR0_4.out x3_1 p235 q235
                cases e235
                replace hx235_0 := (HB.out.cell (World.block_lt_of_cell? w _ hx235_0)).trans hx235_0
                replace p235 := eq_true p235
                replace q235 := eq_true q235
                have p236 : 0 ≤ (x3_1 : Int) := of_decide_eq_true (by first | (with_reducible assumption) | assumption)
                have q236 : x3_1 < (l0_4.length : Int) := of_decide_eq_true (by first | (with_reducible assumption) | assumption)
                obtain ⟨ad236, e236, hx236_0⟩ := Kd.at_int HR0_4.out x3_1 p236 q236
                obtain rfl : ad235 = ad236 := (by injection e236)
                replace hx236_0 := (HB.out.cell (World.block_lt_of_cell? w _ hx236_0)).trans hx236_0
                replace p236 := eq_true p236
                replace q236 := eq_true q236
                go_wp2
                repeat (go_quiet (fail); try go_wp2)
                go_roundg k1
                case measure => have := HK1.out; omega
                case rel => exact ⟨(wrap64 (x3_1 + 1)), (by first | rfl | (simp; done) | (simp [*]; done)), H', ⟨by have := HK1.out; omega⟩, ⟨by (with_reducible repeat (first | refine blk_drewN ?_ _ | refine blk_drew ?_ | refine blk_alloc ?_ _)); exact BK234.out⟩, ⟨by repeat (first | (with_reducible first | exact HB.out | apply below_alloc | apply pw_below_drewN | apply below_drew1 | refine below_set ?_ GE234.out) | exact HB.out)⟩⟩
        · rw [if_neg c4] at H
          exact absurd H (by simp)
      · rw [if_neg c3] at H
        have c3b0 : decide (x3_1 < (l0_4.length : Int)) = false := decide_eq_false c3
        clear c3
        obtain rfl := Option.some.inj H
        have hcz17_0 : wr.cell? ⟨gb234, 0, none⟩ = some (.int .u64 a0_0) := (blk_cell BK234.out 0).trans rfl
        have hcz17_1 : wr.cell? ⟨gb234, 1, none⟩ = some (.int .u64 a0_1) := (blk_cell BK234.out 1).trans rfl
        have hcz17_2 : wr.cell? ⟨gb234, 2, none⟩ = some (.int .u64 a0_2) := (blk_cell BK234.out 2).trans rfl
        have hcz17_3 : wr.cell? ⟨gb234, 3, none⟩ = some (.int .u64 a0_3) := (blk_cell BK234.out 3).trans rfl
        have hcz17_4 : wr.cell? ⟨gb234, 4, none⟩ = some (.slice A0_4 l0_4.length c0_4) := (blk_cell BK234.out 4).trans rfl
        have hcz17_5 : wr.cell? ⟨gb234, 5, none⟩ = some (.string a0_5) := (blk_cell BK234.out 5).trans rfl
        have hcz17_6 : wr.cell? ⟨gb234, 6, none⟩ = some (.string a0_6) := (blk_cell BK234.out 6).trans rfl
        have hcz17_7 : wr.cell? ⟨gb234, 7, none⟩ = some (.int .i64 a0_7) := (blk_cell BK234.out 7).trans rfl
        have hcz17_8 : wr.cell? ⟨gb234, 8, none⟩ = some (.int .i64 a0_8) := (blk_cell BK234.out 8).trans rfl
        have hcz17_9 : wr.cell? ⟨gb234, 9, none⟩ = some (.int .i64 a0_9) := (blk_cell BK234.out 9).trans rfl
        have hcz17_10 : wr.cell? ⟨gb234, 10, none⟩ = some (.int .i64 a0_10) := (blk_cell BK234.out 10).trans rfl
        have hcz17_11 : wr.cell? ⟨gb234, 11, none⟩ = some (.slice A0_11 l0_11.length c0_11) := (blk_cell BK234.out 11).trans rfl
        have hcz17_12 : wr.cell? ⟨gb234, 12, none⟩ = some (.slice A0_12 l0_12.length c0_12) := (blk_cell BK234.out 12).trans rfl
        have hfz17_0 := blk_frozen BK234.out 0
        have hfz17_1 := blk_frozen BK234.out 1
        have hfz17_2 := blk_frozen BK234.out 2
        have hfz17_3 := blk_frozen BK234.out 3
        have hfz17_4 := blk_frozen BK234.out 4
        have hfz17_5 := blk_frozen BK234.out 5
        have hfz17_6 := blk_frozen BK234.out 6
        have hfz17_7 := blk_frozen BK234.out 7
        have hfz17_8 := blk_frozen BK234.out 8
        have hfz17_9 := blk_frozen BK234.out 9
        have hfz17_10 := blk_frozen BK234.out 10
        have hfz17_11 := blk_frozen BK234.out 11
        have hfz17_12 := blk_frozen BK234.out 12
        go_wp2
        repeat (go_quiet (fail); try go_wp2)
        go_ret
        exact ⟨by first | rfl | (simp [errW_none, errW_some] <;> rfl) | (simp [*, errW_none, errW_some] <;> rfl), by repeat (first | (with_reducible first | exact HB.out | apply below_alloc | apply pw_below_drewN | apply below_drew1 | refine below_set ?_ GE234.out) | exact HB.out)⟩

end Go.Proofs.YtdlnfmakfnggpaaDoor.Pr
