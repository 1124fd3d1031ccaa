-- by xprint.py, a program of the session's own, over the kit's print. Not trusted: Lean checks it.
import Derived.Test.YtdlnfmakfnggpaaDoorPr0
import Derived.Test.YtdlnfmakfnggpaaDoorPr1a
import Derived.Test.YtdlnfmakfnggpaaDoorSh
namespace Go.Proofs.YtdlnfmakfnggpaaDoor.Pr
open Go.RowKit Go.Proofs.YtdlnfmakfnggpaaDoorW.PrintWords Go.Proofs.YtdlnfmakfnggpaaDoorW.PrintLast Go.Proofs.YtdlnfmakfnggpaaDoorW.PrintMore
attribute [local go_sem] max2_int min2_int max_two min_two max_three min_three max_four min_four   -- for this text's walks alone
set_option linter.unusedVariables false
set_option linter.unusedSimpArgs false
def bz1b_0 : Array Bool := #[false, false, false, false, false, false, false, false, false, false, false, false, false, false, false, false, false, false, false, false, false, false, false, false, false, false, false, false]
def bz1b_1 : Array Bool := #[true, false, false, false, false, false, false, false, false, false, false, false, false, false, false, false, false, false, false, false, false, false, false, false, false, false, false, false]
def bz1b_2 : Array Bool := #[true, true, false, false, false, false, false, false, false, false, false, false, false, false, false, false, false, false, false, false, false, false, false, false, false, false, false, false]
def bz1b_3 : Array Bool := #[true, true, true, false, false, false, false, false, false, false, false, false, false, false, false, false, false, false, false, false, false, false, false, false, false, false, false, false]
def bz1b_4 : Array Bool := #[true, true, true, true, false, false, false, false, false, false, false, false, false, false, false, false, false, false, false, false, false, false, false, false, false, false, false, false]
def bz1b_5 : Array Bool := #[true, true, true, true, true, false, false, false, false, false, false, false, false, false, false, false, false, false, false, false, false, false, false, false, false, false, false, false]
def bz1b_6 : Array Bool := #[true, true, true, true, true, true, false, false, false, false, false, false, false, false, false, false, false, false, false, false, false, false, false, false, false, false, false, false]
def bz1b_7 : Array Bool := #[true, true, true, true, true, true, true, false, false, false, false, false, false, false, false, false, false, false, false, false, false, false, false, false, false, false, false, false]
def bz1b_8 : Array Bool := #[true, true, true, true, true, true, true, true, false, false, false, false, false, false, false, false, false, false, false, false, false, false, false, false, false, false, false, false]
def bz1b_9 : Array Bool := #[true, true, true, true, true, true, true, true, true, false, false, false, false, false, false, false, false, false, false, false, false, false, false, false, false, false, false, false]
def bz1b_10 : Array Bool := #[true, true, true, true, true, true, true, true, true, true, false, false, false, false, false, false, false, false, false, false, false, false, false, false, false, false, false, false]
def bz1b_11 : Array Bool := #[true, true, true, true, true, true, true, true, true, true, true, false, false, false, false, false, false, false, false, false, false, false, false, false, false, false, false, false]
def bz1b_12 : Array Bool := #[true, true, true, true, true, true, true, true, true, true, true, true, false, false, false, false, false, false, false, false, false, false, false, false, false, false, false, false]
def bz1b_13 : Array Bool := #[true, true, true, true, true, true, true, true, true, true, true, true, true, false, false, false, false, false, false, false, false, false, false, false, false, false, false, false]
def bz1b_14 : Array Bool := #[true, true, true, true, true, true, true, true, true, true, true, true, true, true, false, false, false, false, false, false, false, false, false, false, false, false, false, false]
def bz1b_15 : Array Bool := #[true, true, true, true, true, true, true, true, true, true, true, true, true, true, true, false, false, false, false, false, false, false, false, false, false, false, false, false]
def bz1b_16 : Array Bool := #[true, true, true, true, true, true, true, true, true, true, true, true, true, true, true, true, false, false, false, false, false, false, false, false, false, false, false, false]
def bz1b_17 : Array Bool := #[true, true, true, true, true, true, true, true, true, true, true, true, true, true, true, true, true, false, false, false, false, false, false, false, false, false, false, false]
def bz1b_18 : Array Bool := #[true, true, true, true, true, true, true, true, true, true, true, true, true, true, true, true, true, true, false, false, false, false, false, false, false, false, false, false]
def bz1b_19 : Array Bool := #[true, true, true, true, true, true, true, true, true, true, true, true, true, true, true, true, true, true, true, false, false, false, false, false, false, false, false, false]
def bz1b_20 : Array Bool := #[true, true, true, true, true, true, true, true, true, true, true, true, true, true, true, true, true, true, true, true, false, false, false, false, false, false, false, false]
def bz1b_21 : Array Bool := #[true, true, true, true, true, true, true, true, true, true, true, true, true, true, true, true, true, true, true, true, true, false, false, false, false, false, false, false]
def bz1b_22 : Array Bool := #[true, true, true, true, true, true, true, true, true, true, true, true, true, true, true, true, true, true, true, true, true, true, false, false, false, false, false, false]
def bz1b_23 : Array Bool := #[true, true, true, true, true, true, true, true, true, true, true, true, true, true, true, true, true, true, true, true, true, true, true, false, false, false, false, false]
def bz1b_24 : Array Bool := #[true, true, true, true, true, true, true, true, true, true, true, true, true, true, true, true, true, true, true, true, true, true, true, true, false, false, false, false]
def bz1b_25 : Array Bool := #[true, true, true, true, true, true, true, true, true, true, true, true, true, true, true, true, true, true, true, true, true, true, true, true, true, false, false, false]
def bz1b_26 : Array Bool := #[true, true, true, true, true, true, true, true, true, true, true, true, true, true, true, true, true, true, true, true, true, true, true, true, true, true, false, false]
def bz1b_27 : Array Bool := #[true, true, true, true, true, true, true, true, true, true, true, true, true, true, true, true, true, true, true, true, true, true, true, true, true, true, true, false]
def bz1b_28 : Array Bool := #[true, true, true, true, true, true, true, true, true, true, true, true, true, true, true, true, true, true, true, true, true, true, true, true, true, true, true, true]

/-! ### span_told: function 80 -/
def span_told.l0 : Nat → List (S122) → List (S122) → Int → Int → Option (Bool)
  | 0, _, _, _, _ => none
  | k + 1, x0, x5, x6, x7 => if x7 < x6 then (if 0 ≤ x7 then (if x7 < (x5.length : Int) then (if ((rd_T122 x5 x7).f0) < 0 then (some false) else (if ((rd_T122 x5 x7).f0) > 4611686018427387904 then (some false) else ((span_plain.f k ((rd_T122 x5 x7).f1) 100 32).bind fun t125 => (if t125 = true then (if x7 > 0 then (if 0 ≤ (wrap64 (x7 - 1)) then (if (wrap64 (x7 - 1)) < (x0.length : Int) then ((span_events.f k ((rd_T122 x0 (wrap64 (x7 - 1))).f0) ((rd_T122 x0 (wrap64 (x7 - 1))).f1) ((rd_T122 x5 x7).f0) ((rd_T122 x5 x7).f1)).bind fun t127 => (if t127 ≥ 0 then (some false) else (span_told.l0 k x0 x5 x6 (wrap64 (x7 + 1))))) else (none)) else (none)) else (span_told.l0 k x0 x5 x6 (wrap64 (x7 + 1)))) else (some false))))) else (none)) else (none)) else (some (decide ((x0.length : Int) ≤ 32)))
def span_told.f (k : Nat) (l0 : List (S122)) : Option (Bool) := span_told.l0 k l0 l0 (l0.length : Int) 0
theorem span_told.mono_l : ∀ k, (∀ y0 y1 y2 y3, LeO (span_told.l0 k y0 y1 y2 y3) (span_told.l0 (k + 1) y0 y1 y2 y3))
  | 0 => fun _ _ _ _ r h => by simp [span_told.l0] at h
  | k + 1 => by
    have ih0 := span_told.mono_l k
    · intro y0 y1 y2 y3
      unfold span_told.l0
      repeat' first
      | (with_reducible exact ih0 _ _ _ _)
      | (with_reducible exact span_events.mono _ _ _ _ _)
      | (with_reducible exact span_plain.mono _ _ _ _)
      | (with_reducible exact LeO.refl _)
      | (with_reducible exact LeO.none _)
      | (with_reducible refine LeO.ite ?_ ?_)
      | (with_reducible refine LeO.bind ?_ (fun _ => ?_))
      | exact ih0 _ _ _ _
      | exact span_events.mono _ _ _ _ _
      | exact span_plain.mono _ _ _ _
      | exact LeO.none _
      | refine LeO.ite ?_ ?_
      | refine LeO.bind ?_ (fun _ => ?_)
theorem span_told.mono : ∀ a0 k, LeO (span_told.f k a0) (span_told.f (k + 1) a0) := by
  intro a0 k
  have ih0 := span_told.mono_l k
  unfold span_told.f
  repeat' first
      | (with_reducible exact ih0 _ _ _ _)
      | (with_reducible exact span_events.mono _ _ _ _ _)
      | (with_reducible exact span_plain.mono _ _ _ _)
      | (with_reducible exact LeO.refl _)
      | (with_reducible exact LeO.none _)
      | (with_reducible refine LeO.ite ?_ ?_)
      | (with_reducible refine LeO.bind ?_ (fun _ => ?_))
      | exact ih0 _ _ _ _
      | exact span_events.mono _ _ _ _ _
      | exact span_plain.mono _ _ _ _
      | exact LeO.none _
      | refine LeO.ite ?_ ?_
      | refine LeO.bind ?_ (fun _ => ?_)
def span_told.T4 : Bool × List (List Nat × List Nat) := (true, [([], []), ([0], [0]), ([1], [1]), ([2], [2]), ([3], [3]), ([4, 3], [3, 4]), ([5, 3], [3, 5]), ([3, 6], [3, 6]), ([7, 3], [7]), ([8], [8]), ([9, 8], [8, 9]), ([10, 8, 8], [8, 10]), ([11, 8], [8, 11]), ([8, 12], [8, 12]), ([13, 11], [13]), ([14], [14]), ([15, 14], [14, 15]), ([16, 14, 14], [14, 16]), ([17], [17]), ([17], [17]), ([19, 17], [17, 19]), ([18, 20, 17], [17, 18, 20]), ([21, 17], [17, 21]), ([17], [17]), ([22, 23, 17, 17], [17, 22, 23]), ([24, 17], [17, 24]), ([17, 25, 14], [14, 17, 25]), ([14, 26], [14, 26])])
def span_told.B4 : List Nat := [0, 1, 3, 7, 15, 31, 63, 127, 255, 511, 1023, 2047, 4095, 8191, 16383, 32767, 65535, 131071, 262143, 262143, 786431, 2097151, 4194303, 262143, 16777215, 33554431, 67108863, 134217727]
theorem span_told.tab4 : rtab .any (opsOf Tryd.f80 4) = span_told.T4 := by kernel_rfl
theorem span_told.bits4 : waitsOk span_told.T4.2 span_told.B4 = true := by kernel_rfl
set_option maxHeartbeats 8000000 in
set_option maxRecDepth 100000 in
theorem span_told.calls (k : Nat) (A0 : Option Addr) (c0 : Nat) (l0 : List (S122)) (r : Bool) (w : World) (hr0 : Kd.C k122 w A0 l0.length l0) (hc0 : l0.length ≤ c0) (h : span_told.f k l0 = some r) (hTabs_ : Tabs w) :
    Calls Tryd.prog 80 #[.slice A0 l0.length c0] w fun e w' => e = .returned (.bool r) ∧ Below w.heap.size w w' := by
  have HTabs0_ := Aside0.mk hTabs_
  clear hTabs_
  have hu122 := Tryd.underlying122
  have HR0 := Aside0.mk hr0
  have HC0 := Aside0.mk hc0
  clear hr0 hc0
  have HB := Aside0.mk (Below.refl w.heap.size w)
  have H : (span_told.l0 k l0 l0 (l0.length : Int) 0) = some r := h
  clear h
  have H' := Aside0.mk H
  clear H
  go_enter Tryd.func80, Tryd.ntmps80
  go_wp2
  go_loopg [7] k (fun kq v7 w' => ∃ (x7_1 : Int), v7 = .int .i64 x7_1 ∧ Aside0 (span_told.l0 kq l0 l0 (l0.length : Int) x7_1 = some r) ∧ Aside0 (kq ≤ k) ∧ Aside0 (Below w.heap.size w w'))
  case atStart => exact ⟨(0), (by first | rfl | (simp; done) | (simp [*]; done)), H', ⟨Nat.le_refl _⟩, ⟨by repeat (first | (with_reducible first | exact HB.out | apply below_alloc | apply pw_below_drewN | apply below_drew1) | exact HB.out)⟩⟩
  case round =>
    clear H'
    obtain ⟨x7_1, rfl, HA, HK1, HB⟩ := hrel
    cases gk with
    | zero => exact absurd HA.out (by simp [span_told.l0])
    | succ k1 =>
      have H := HA.out
      clear HA
      simp only [span_told.l0] at H
      by_cases c2 : x7_1 < (l0.length : Int)
      · rw [if_pos c2] at H
        have c2b0 : decide (x7_1 < (l0.length : Int)) = true := decide_eq_true c2
        clear c2
        by_cases c3 : 0 ≤ x7_1
        · rw [if_pos c3] at H
          have c3b0 : decide (0 ≤ x7_1) = true := decide_eq_true c3
          clear c3
          by_cases c4 : x7_1 < (l0.length : Int)
          · rw [if_pos c4] at H
            have c4b0 : decide (x7_1 < (l0.length : Int)) = true := decide_eq_true c4
            clear c4
            by_cases c5 : ((rd_T122 l0 x7_1).f0) < 0
            · rw [if_pos c5] at H
              have c5b0 : decide (((rd_T122 l0 x7_1).f0) < 0) = true := decide_eq_true c5
              clear c5
              obtain rfl := Option.some.inj H
              have p123 : 0 ≤ (x7_1 : Int) := of_decide_eq_true (by first | (with_reducible assumption) | assumption)
              have q123 : x7_1 < (l0.length : Int) := of_decide_eq_true (by first | (with_reducible assumption) | assumption)
              obtain ⟨ad123, e123, hx123_0, hx123_1⟩ := at_T122 HR0.out x7_1 p123 q123
              cases e123
              replace hx123_0 := (HB.out.cell (World.block_lt_of_cell? w _ hx123_0)).trans hx123_0
              replace hx123_1 := (HB.out.cell (World.block_lt_of_cell? w _ hx123_1)).trans hx123_1
              replace p123 := eq_true p123
              replace q123 := eq_true q123
              try go_wp2_with (first | ((with_reducible refine gate_dst (N := 4) rfl ?_); refine box_event ?hg (N := 4) ?hd (cs := #[.int .i64 0, .string (⟨#[]⟩ : ByteArray)]) (t := 122) ?hr ?_; (case hd => rfl); (case hg => rfl); (case hr => first | (go_simp; done) | (go_simp; rfl)); intro gb124 hg w6 hbox hb; have n0_ := Aside0.mk (below_step xq0 hb); have n1_ := Aside0.mk (hbox); have n2_ := Aside0.mk ((by rw [hg]; exact (below_size xq0) : w.heap.size ≤ gb124)); have n3_ := Aside0.mk ((by rw [hg]; exact (below_size xq0) : w.heap.size ≤ gb124)); clear HB; have HB := n0_; have BK124 := n1_; have GW124 := n2_; have GE124 := n3_; clear n0_ n1_ n2_ n3_; clear hb hbox hg; have hcz7_0 : w6.cell? ⟨gb124, 0, none⟩ = some (.int .i64 0) := (blk_cell BK124.out 0).trans rfl; have hcz7_1 : w6.cell? ⟨gb124, 1, none⟩ = some (.string (⟨#[]⟩ : ByteArray)) := (blk_cell BK124.out 1).trans rfl; have hfz7_0 := blk_frozen BK124.out 0; have hfz7_1 := blk_frozen BK124.out 1))
              have n0_ : Aside0 (((w6.setCell ⟨gb124, 0, none⟩ (.int .i64 ((rd_T122 l0 x7_1).f0))).setCell ⟨gb124, 1, none⟩ (.string ((rd_T122 l0 x7_1).f1))).heap[gb124]? = some (.cells #[.int .i64 ((rd_T122 l0 x7_1).f0), .string ((rd_T122 l0 x7_1).f1)] 122 (0, 0))) := ⟨by (with_reducible repeat (first | refine blk_drewN ?_ _ | refine blk_drew ?_ | refine blk_alloc ?_ _)); refine blk_put (cs := #[.int .i64 ((rd_T122 l0 x7_1).f0), .string (⟨#[]⟩ : ByteArray)]) ?_ 1 _ rfl; (with_reducible repeat (first | refine blk_drewN ?_ _ | refine blk_drew ?_ | refine blk_alloc ?_ _)); refine blk_put (cs := #[.int .i64 0, .string (⟨#[]⟩ : ByteArray)]) ?_ 0 _ rfl; (with_reducible repeat (first | refine blk_drewN ?_ _ | refine blk_drew ?_ | refine blk_alloc ?_ _)); exact BK124.out⟩
              have n1_ : Aside0 (Below w.heap.size w ((w6.setCell ⟨gb124, 0, none⟩ (.int .i64 ((rd_T122 l0 x7_1).f0))).setCell ⟨gb124, 1, none⟩ (.string ((rd_T122 l0 x7_1).f1)))) := ⟨by repeat (first | (with_reducible first | exact HB.out | apply below_alloc | apply pw_below_drewN | apply below_drew1 | refine below_set ?_ GE124.out) | exact HB.out)⟩
              (try clear BK124)
              (try clear HB)
              generalize ((w6.setCell ⟨gb124, 0, none⟩ (.int .i64 ((rd_T122 l0 x7_1).f0))).setCell ⟨gb124, 1, none⟩ (.string ((rd_T122 l0 x7_1).f1))) = w8 at n0_ n1_ ⊢
              have BK124 := n0_
              have HB := n1_
              clear n0_ n1_
              have n0_ := Aside0.mk (blk_drew BK124.out)
              have n1_ := Aside0.mk (below_drew1 HB.out)
              clear BK124
              clear HB
              have BK124 := n0_
              have HB := n1_
              clear n0_ n1_
              refine start_ (n := 28) (S := fun w' => w'.cell? ⟨gb124, 0, none⟩ = some (.int .i64 ((rd_T122 l0 x7_1).f0)) ∧ w'.cell? ⟨gb124, 1, none⟩ = some (.string ((rd_T122 l0 x7_1).f1))) (ds := []) bz1b_0 (by kernel_rfl) rfl rfl ⟨(blk_cell BK124.out 0).trans rfl, (blk_cell BK124.out 1).trans rfl⟩ (fun hHeld => ?_); refine with_tabW span_told.tab4 span_told.bits4 (fun HT_ HW_ => ?_)
              generalize w8.drew = w9 at BK124 HB hHeld ⊢
              refine pz_ (i := 0) (N := some 12) bz1b_1 (any_of HT_.out (by kernel_rfl)) ?_
              refine take_ (i := 1) (N := some 13) (v := ?_) (a' := ?_) bz1b_2 rfl rfl (take_ofW HT_.out HW_.out (by kernel_rfl)) (fun _ _ _ h => h) (Or.inl ⟨by rfl, ?_⟩) hHeld ?_ ?_
              rotate_left
              · rintro w' ⟨s0, s1⟩
                go_simp
                with_reducible rfl
              rotate_left
              · simp only [Act.put, List.setIfInBounds_toArray, List.set_cons_zero, List.set_cons_succ, i64_w, i32_w]
                rfl
              refine pz_ (i := 2) (N := some 14) bz1b_3 (any_of HT_.out (by kernel_rfl)) ?_
              refine pz_ (i := 3) (N := some 15) bz1b_4 (any_of HT_.out (by kernel_rfl)) ?_
              refine pu_ (i := 4) (N := some 16) bz1b_5 (any_of HT_.out (by kernel_rfl)) ?_
              refine pu_ (i := 5) (N := some 17) bz1b_6 (any_of HT_.out (by kernel_rfl)) ?_
              refine pu_ (i := 6) (N := some 18) bz1b_7 (any_of HT_.out (by kernel_rfl)) ?_
              refine pz_ (i := 7) (N := some 19) bz1b_8 (any_of HT_.out (by kernel_rfl)) ?_
              refine pz_ (i := 8) (N := some 20) bz1b_9 (any_of HT_.out (by kernel_rfl)) ?_
              refine pu_ (i := 9) (N := some 21) bz1b_10 (any_of HT_.out (by kernel_rfl)) ?_
              refine pu_ (i := 10) (N := some 22) bz1b_11 (any_of HT_.out (by kernel_rfl)) ?_
              refine pu_ (i := 11) (N := some 23) bz1b_12 (any_of HT_.out (by kernel_rfl)) ?_
              refine pu_ (i := 12) (N := some 24) bz1b_13 (any_of HT_.out (by kernel_rfl)) ?_
              refine pz_ (i := 13) (N := some 25) bz1b_14 (any_of HT_.out (by kernel_rfl)) ?_
              refine pz_ (i := 14) (N := some 26) bz1b_15 (any_of HT_.out (by kernel_rfl)) ?_
              refine pu_ (i := 15) (N := some 27) bz1b_16 (any_of HT_.out (by kernel_rfl)) ?_
              refine pu_ (i := 16) (N := some 28) bz1b_17 (any_of HT_.out (by kernel_rfl)) ?_
              refine pu_ (i := 17) (N := some 29) bz1b_18 (any_of HT_.out (by kernel_rfl)) ?_
              refine pu_ (i := 18) (N := some 30) bz1b_19 (any_of HT_.out (by kernel_rfl)) ?_
              refine pu_ (i := 19) (N := some 31) bz1b_20 (any_of HT_.out (by kernel_rfl)) ?_
              refine pu_ (i := 20) (N := some 32) bz1b_21 (any_of HT_.out (by kernel_rfl)) ?_
              refine pu_ (i := 21) (N := some 33) bz1b_22 (any_of HT_.out (by kernel_rfl)) ?_
              refine pu_ (i := 22) (N := some 34) bz1b_23 (any_of HT_.out (by kernel_rfl)) ?_
              refine pu_ (i := 23) (N := some 35) bz1b_24 (any_of HT_.out (by kernel_rfl)) ?_
              refine pu_ (i := 24) (N := some 36) bz1b_25 (any_of HT_.out (by kernel_rfl)) ?_
              refine pu_ (i := 25) (N := some 37) bz1b_26 (any_of HT_.out (by kernel_rfl)) ?_
              refine pu_ (i := 26) (N := some 38) bz1b_27 (any_of HT_.out (by kernel_rfl)) ?_
              refine pz_ (i := 27) (N := some 39) bz1b_28 (any_of HT_.out (by kernel_rfl)) ?_
              refine done_ (done_of HT_.out (by kernel_rfl)) ?_
              try go_wp2
              go_ret
              exact ⟨by first | rfl | (simp [errW_none, errW_some] <;> rfl) | (simp [*, errW_none, errW_some] <;> rfl), by repeat (first | (with_reducible first | exact HB.out | apply below_alloc | apply pw_below_drewN | apply below_drew1 | refine below_set ?_ GE124.out) | exact HB.out)⟩
            · rw [if_neg c5] at H
              have c5b0 : decide (((rd_T122 l0 x7_1).f0) < 0) = false := decide_eq_false c5
              clear c5
              by_cases c10 : ((rd_T122 l0 x7_1).f0) > 4611686018427387904
              · rw [if_pos c10] at H
                have c10b0 : decide (4611686018427387904 < ((rd_T122 l0 x7_1).f0)) = true := decide_eq_true c10
                clear c10
                obtain rfl := Option.some.inj H
                have p123 : 0 ≤ (x7_1 : Int) := of_decide_eq_true (by first | (with_reducible assumption) | assumption)
                have q123 : x7_1 < (l0.length : Int) := of_decide_eq_true (by first | (with_reducible assumption) | assumption)
                obtain ⟨ad123, e123, hx123_0, hx123_1⟩ := at_T122 HR0.out x7_1 p123 q123
                cases e123
                replace hx123_0 := (HB.out.cell (World.block_lt_of_cell? w _ hx123_0)).trans hx123_0
                replace hx123_1 := (HB.out.cell (World.block_lt_of_cell? w _ hx123_1)).trans hx123_1
                replace p123 := eq_true p123
                replace q123 := eq_true q123
                try go_wp2_with (first | ((with_reducible refine gate_dst (N := 4) rfl ?_); refine box_event ?hg (N := 4) ?hd (cs := #[.int .i64 0, .string (⟨#[]⟩ : ByteArray)]) (t := 122) ?hr ?_; (case hd => rfl); (case hg => rfl); (case hr => first | (go_simp; done) | (go_simp; rfl)); intro gb124 hg w11 hbox hb; have n0_ := Aside0.mk (below_step xq0 hb); have n1_ := Aside0.mk (hbox); have n2_ := Aside0.mk ((by rw [hg]; exact (below_size xq0) : w.heap.size ≤ gb124)); have n3_ := Aside0.mk ((by rw [hg]; exact (below_size xq0) : w.heap.size ≤ gb124)); clear HB; have HB := n0_; have BK124 := n1_; have GW124 := n2_; have GE124 := n3_; clear n0_ n1_ n2_ n3_; clear hb hbox hg; have hcz12_0 : w11.cell? ⟨gb124, 0, none⟩ = some (.int .i64 0) := (blk_cell BK124.out 0).trans rfl; have hcz12_1 : w11.cell? ⟨gb124, 1, none⟩ = some (.string (⟨#[]⟩ : ByteArray)) := (blk_cell BK124.out 1).trans rfl; have hfz12_0 := blk_frozen BK124.out 0; have hfz12_1 := blk_frozen BK124.out 1))
                have n0_ : Aside0 (((w11.setCell ⟨gb124, 0, none⟩ (.int .i64 ((rd_T122 l0 x7_1).f0))).setCell ⟨gb124, 1, none⟩ (.string ((rd_T122 l0 x7_1).f1))).heap[gb124]? = some (.cells #[.int .i64 ((rd_T122 l0 x7_1).f0), .string ((rd_T122 l0 x7_1).f1)] 122 (0, 0))) := ⟨by (with_reducible repeat (first | refine blk_drewN ?_ _ | refine blk_drew ?_ | refine blk_alloc ?_ _)); refine blk_put (cs := #[.int .i64 ((rd_T122 l0 x7_1).f0), .string (⟨#[]⟩ : ByteArray)]) ?_ 1 _ rfl; (with_reducible repeat (first | refine blk_drewN ?_ _ | refine blk_drew ?_ | refine blk_alloc ?_ _)); refine blk_put (cs := #[.int .i64 0, .string (⟨#[]⟩ : ByteArray)]) ?_ 0 _ rfl; (with_reducible repeat (first | refine blk_drewN ?_ _ | refine blk_drew ?_ | refine blk_alloc ?_ _)); exact BK124.out⟩
                have n1_ : Aside0 (Below w.heap.size w ((w11.setCell ⟨gb124, 0, none⟩ (.int .i64 ((rd_T122 l0 x7_1).f0))).setCell ⟨gb124, 1, none⟩ (.string ((rd_T122 l0 x7_1).f1)))) := ⟨by repeat (first | (with_reducible first | exact HB.out | apply below_alloc | apply pw_below_drewN | apply below_drew1 | refine below_set ?_ GE124.out) | exact HB.out)⟩
                (try clear BK124)
                (try clear HB)
                generalize ((w11.setCell ⟨gb124, 0, none⟩ (.int .i64 ((rd_T122 l0 x7_1).f0))).setCell ⟨gb124, 1, none⟩ (.string ((rd_T122 l0 x7_1).f1))) = w13 at n0_ n1_ ⊢
                have BK124 := n0_
                have HB := n1_
                clear n0_ n1_
                have n0_ := Aside0.mk (blk_drew BK124.out)
                have n1_ := Aside0.mk (below_drew1 HB.out)
                clear BK124
                clear HB
                have BK124 := n0_
                have HB := n1_
                clear n0_ n1_
                refine start_ (n := 28) (S := fun w' => w'.cell? ⟨gb124, 0, none⟩ = some (.int .i64 ((rd_T122 l0 x7_1).f0)) ∧ w'.cell? ⟨gb124, 1, none⟩ = some (.string ((rd_T122 l0 x7_1).f1))) (ds := []) bz1b_0 (by kernel_rfl) rfl rfl ⟨(blk_cell BK124.out 0).trans rfl, (blk_cell BK124.out 1).trans rfl⟩ (fun hHeld => ?_); refine with_tabW span_told.tab4 span_told.bits4 (fun HT_ HW_ => ?_)
                generalize w13.drew = w14 at BK124 HB hHeld ⊢
                refine pz_ (i := 0) (N := some 12) bz1b_1 (any_of HT_.out (by kernel_rfl)) ?_
                refine take_ (i := 1) (N := some 13) (v := ?_) (a' := ?_) bz1b_2 rfl rfl (take_ofW HT_.out HW_.out (by kernel_rfl)) (fun _ _ _ h => h) (Or.inl ⟨by rfl, ?_⟩) hHeld ?_ ?_
                rotate_left
                · rintro w' ⟨s0, s1⟩
                  go_simp
                  with_reducible rfl
                rotate_left
                · simp only [Act.put, List.setIfInBounds_toArray, List.set_cons_zero, List.set_cons_succ, i64_w, i32_w]
                  rfl
                refine pz_ (i := 2) (N := some 14) bz1b_3 (any_of HT_.out (by kernel_rfl)) ?_
                refine pz_ (i := 3) (N := some 15) bz1b_4 (any_of HT_.out (by kernel_rfl)) ?_
                refine pz_ (i := 4) (N := some 16) bz1b_5 (any_of HT_.out (by kernel_rfl)) ?_
                refine take_ (i := 5) (N := some 17) (v := ?_) (a' := ?_) bz1b_6 rfl rfl (take_ofW HT_.out HW_.out (by kernel_rfl)) (fun _ _ _ h => h) (Or.inl ⟨by rfl, ?_⟩) hHeld ?_ ?_
                rotate_left
                · rintro w' ⟨s0, s1⟩
                  go_simp
                  with_reducible rfl
                rotate_left
                · simp only [Act.put, List.setIfInBounds_toArray, List.set_cons_zero, List.set_cons_succ, i64_w, i32_w]
                  rfl
                refine pz_ (i := 6) (N := some 18) bz1b_7 (any_of HT_.out (by kernel_rfl)) ?_
                refine pz_ (i := 7) (N := some 19) bz1b_8 (any_of HT_.out (by kernel_rfl)) ?_
                refine pz_ (i := 8) (N := some 20) bz1b_9 (any_of HT_.out (by kernel_rfl)) ?_
                refine pu_ (i := 9) (N := some 21) bz1b_10 (any_of HT_.out (by kernel_rfl)) ?_
                refine pu_ (i := 10) (N := some 22) bz1b_11 (any_of HT_.out (by kernel_rfl)) ?_
                refine pu_ (i := 11) (N := some 23) bz1b_12 (any_of HT_.out (by kernel_rfl)) ?_
                refine pu_ (i := 12) (N := some 24) bz1b_13 (any_of HT_.out (by kernel_rfl)) ?_
                refine pz_ (i := 13) (N := some 25) bz1b_14 (any_of HT_.out (by kernel_rfl)) ?_
                refine pz_ (i := 14) (N := some 26) bz1b_15 (any_of HT_.out (by kernel_rfl)) ?_
                refine pu_ (i := 15) (N := some 27) bz1b_16 (any_of HT_.out (by kernel_rfl)) ?_
                refine pu_ (i := 16) (N := some 28) bz1b_17 (any_of HT_.out (by kernel_rfl)) ?_
                refine pu_ (i := 17) (N := some 29) bz1b_18 (any_of HT_.out (by kernel_rfl)) ?_
                refine pu_ (i := 18) (N := some 30) bz1b_19 (any_of HT_.out (by kernel_rfl)) ?_
                refine pu_ (i := 19) (N := some 31) bz1b_20 (any_of HT_.out (by kernel_rfl)) ?_
                refine pu_ (i := 20) (N := some 32) bz1b_21 (any_of HT_.out (by kernel_rfl)) ?_
                refine pu_ (i := 21) (N := some 33) bz1b_22 (any_of HT_.out (by kernel_rfl)) ?_
                refine pu_ (i := 22) (N := some 34) bz1b_23 (any_of HT_.out (by kernel_rfl)) ?_
                refine pu_ (i := 23) (N := some 35) bz1b_24 (any_of HT_.out (by kernel_rfl)) ?_
                refine pu_ (i := 24) (N := some 36) bz1b_25 (any_of HT_.out (by kernel_rfl)) ?_
                refine pu_ (i := 25) (N := some 37) bz1b_26 (any_of HT_.out (by kernel_rfl)) ?_
                refine pu_ (i := 26) (N := some 38) bz1b_27 (any_of HT_.out (by kernel_rfl)) ?_
                refine pz_ (i := 27) (N := some 39) bz1b_28 (any_of HT_.out (by kernel_rfl)) ?_
                refine done_ (done_of HT_.out (by kernel_rfl)) ?_
                try go_wp2
                go_ret
                exact ⟨by first | rfl | (simp [errW_none, errW_some] <;> rfl) | (simp [*, errW_none, errW_some] <;> rfl), by repeat (first | (with_reducible first | exact HB.out | apply below_alloc | apply pw_below_drewN | apply below_drew1 | refine below_set ?_ GE124.out) | exact HB.out)⟩
              · rw [if_neg c10] at H
                have c10b0 : decide (4611686018427387904 < ((rd_T122 l0 x7_1).f0)) = false := decide_eq_false c10
                clear c10
                replace H := Option.bind_eq_some_iff.mp H
                obtain ⟨t125, A150, H⟩ := H
                replace H : (if t125 = true then (if x7_1 > 0 then (if 0 ≤ (wrap64 (x7_1 - 1)) then (if (wrap64 (x7_1 - 1)) < (l0.length : Int) then ((span_events.f k1 ((rd_T122 l0 (wrap64 (x7_1 - 1))).f0) ((rd_T122 l0 (wrap64 (x7_1 - 1))).f1) ((rd_T122 l0 x7_1).f0) ((rd_T122 l0 x7_1).f1)).bind fun t127 => (if t127 ≥ 0 then (some false) else (span_told.l0 k1 l0 l0 (l0.length : Int) (wrap64 (x7_1 + 1))))) else (none)) else (none)) else (span_told.l0 k1 l0 l0 (l0.length : Int) (wrap64 (x7_1 + 1)))) else (some false)) = some r := H
                have A15 := Aside0.mk A150
                clear A150
                by_cases c16 : t125 = true
                · subst c16
                  have H1 : (if x7_1 > 0 then (if 0 ≤ (wrap64 (x7_1 - 1)) then (if (wrap64 (x7_1 - 1)) < (l0.length : Int) then ((span_events.f k1 ((rd_T122 l0 (wrap64 (x7_1 - 1))).f0) ((rd_T122 l0 (wrap64 (x7_1 - 1))).f1) ((rd_T122 l0 x7_1).f0) ((rd_T122 l0 x7_1).f1)).bind fun t127 => (if t127 ≥ 0 then (some false) else (span_told.l0 k1 l0 l0 (l0.length : Int) (wrap64 (x7_1 + 1))))) else (none)) else (none)) else (span_told.l0 k1 l0 l0 (l0.length : Int) (wrap64 (x7_1 + 1)))) = some r := by rw [if_pos rfl] at H; exact H
                  clear H
                  have H := H1
                  clear H1
                  by_cases c17 : x7_1 > 0
                  · rw [if_pos c17] at H
                    have c17b0 : decide (0 < x7_1) = true := decide_eq_true c17
                    clear c17
                    obtain ⟨ji18, hji18⟩ : ∃ j_ : Int, (wrap64 (x7_1 - 1)) = j_ := ⟨_, rfl⟩
                    replace H : (if 0 ≤ (ji18) then (if (ji18) < (l0.length : Int) then ((span_events.f k1 ((rd_T122 l0 (ji18)).f0) ((rd_T122 l0 (ji18)).f1) ((rd_T122 l0 x7_1).f0) ((rd_T122 l0 x7_1).f1)).bind fun t127 => (if t127 ≥ 0 then (some false) else (span_told.l0 k1 l0 l0 (l0.length : Int) (wrap64 (x7_1 + 1))))) else (none)) else (none)) = some r := by first | (rw [hji18] at H; exact H) | (simp only [hji18] at H ⊢; exact H)
                    (try rw [hji18] at A15)
                    have hji18w : (IntKind.i64.wrap (x7_1 - 1)) = ji18 := (i64_w _).trans hji18
                    by_cases c19 : 0 ≤ (ji18)
                    · rw [if_pos c19] at H
                      have c19b0 : decide (0 ≤ (ji18)) = true := decide_eq_true c19
                      clear c19
                      by_cases c20 : (ji18) < (l0.length : Int)
                      · rw [if_pos c20] at H
                        have c20b0 : decide ((ji18) < (l0.length : Int)) = true := decide_eq_true c20
                        clear c20
                        replace H := Option.bind_eq_some_iff.mp H
                        obtain ⟨t127, A210, H⟩ := H
                        replace H : (if t127 ≥ 0 then (some false) else (span_told.l0 k1 l0 l0 (l0.length : Int) (wrap64 (x7_1 + 1)))) = some r := H
                        have A21 := Aside0.mk A210
                        clear A210
                        by_cases c22 : t127 ≥ 0
                        · rw [if_pos c22] at H
                          have c22b0 : decide (0 ≤ t127) = true := decide_eq_true c22
                          clear c22
                          obtain rfl := Option.some.inj H
                          have p123 : 0 ≤ (x7_1 : Int) := of_decide_eq_true (by first | (with_reducible assumption) | assumption)
                          have q123 : x7_1 < (l0.length : Int) := of_decide_eq_true (by first | (with_reducible assumption) | assumption)
                          obtain ⟨ad123, e123, hx123_0, hx123_1⟩ := at_T122 HR0.out x7_1 p123 q123
                          cases e123
                          replace hx123_0 := (HB.out.cell (World.block_lt_of_cell? w _ hx123_0)).trans hx123_0
                          replace hx123_1 := (HB.out.cell (World.block_lt_of_cell? w _ hx123_1)).trans hx123_1
                          replace p123 := eq_true p123
                          replace q123 := eq_true q123
                          try go_wp2_with (first | ((with_reducible refine gate_dst (N := 4) rfl ?_); refine box_event ?hg (N := 4) ?hd (cs := #[.int .i64 0, .string (⟨#[]⟩ : ByteArray)]) (t := 122) ?hr ?_; (case hd => rfl); (case hg => rfl); (case hr => first | (go_simp; done) | (go_simp; rfl)); intro gb124 hg w23 hbox hb; have n0_ := Aside0.mk (below_step xq0 hb); have n1_ := Aside0.mk (hbox); have n2_ := Aside0.mk ((by rw [hg]; exact (below_size xq0) : w.heap.size ≤ gb124)); have n3_ := Aside0.mk ((by rw [hg]; exact (below_size xq0) : w.heap.size ≤ gb124)); clear HB; have HB := n0_; have BK124 := n1_; have GW124 := n2_; have GE124 := n3_; clear n0_ n1_ n2_ n3_; clear hb hbox hg; have hcz24_0 : w23.cell? ⟨gb124, 0, none⟩ = some (.int .i64 0) := (blk_cell BK124.out 0).trans rfl; have hcz24_1 : w23.cell? ⟨gb124, 1, none⟩ = some (.string (⟨#[]⟩ : ByteArray)) := (blk_cell BK124.out 1).trans rfl; have hfz24_0 := blk_frozen BK124.out 0; have hfz24_1 := blk_frozen BK124.out 1))
                          have n0_ : Aside0 (((w23.setCell ⟨gb124, 0, none⟩ (.int .i64 ((rd_T122 l0 x7_1).f0))).setCell ⟨gb124, 1, none⟩ (.string ((rd_T122 l0 x7_1).f1))).heap[gb124]? = some (.cells #[.int .i64 ((rd_T122 l0 x7_1).f0), .string ((rd_T122 l0 x7_1).f1)] 122 (0, 0))) := ⟨by (with_reducible repeat (first | refine blk_drewN ?_ _ | refine blk_drew ?_ | refine blk_alloc ?_ _)); refine blk_put (cs := #[.int .i64 ((rd_T122 l0 x7_1).f0), .string (⟨#[]⟩ : ByteArray)]) ?_ 1 _ rfl; (with_reducible repeat (first | refine blk_drewN ?_ _ | refine blk_drew ?_ | refine blk_alloc ?_ _)); refine blk_put (cs := #[.int .i64 0, .string (⟨#[]⟩ : ByteArray)]) ?_ 0 _ rfl; (with_reducible repeat (first | refine blk_drewN ?_ _ | refine blk_drew ?_ | refine blk_alloc ?_ _)); exact BK124.out⟩
                          have n1_ : Aside0 (Below w.heap.size w ((w23.setCell ⟨gb124, 0, none⟩ (.int .i64 ((rd_T122 l0 x7_1).f0))).setCell ⟨gb124, 1, none⟩ (.string ((rd_T122 l0 x7_1).f1)))) := ⟨by repeat (first | (with_reducible first | exact HB.out | apply below_alloc | apply pw_below_drewN | apply below_drew1 | refine below_set ?_ GE124.out) | exact HB.out)⟩
                          (try clear BK124)
                          (try clear HB)
                          generalize ((w23.setCell ⟨gb124, 0, none⟩ (.int .i64 ((rd_T122 l0 x7_1).f0))).setCell ⟨gb124, 1, none⟩ (.string ((rd_T122 l0 x7_1).f1))) = w25 at n0_ n1_ ⊢
                          have BK124 := n0_
                          have HB := n1_
                          clear n0_ n1_
                          have n0_ := Aside0.mk (blk_drew BK124.out)
                          have n1_ := Aside0.mk (below_drew1 HB.out)
                          clear BK124
                          clear HB
                          have BK124 := n0_
                          have HB := n1_
                          clear n0_ n1_
                          have p126 : 0 ≤ ((ji18) : Int) := of_decide_eq_true (by first | (with_reducible assumption) | assumption)
                          have q126 : (ji18) < (l0.length : Int) := of_decide_eq_true (by first | (with_reducible assumption) | assumption)
                          obtain ⟨ad126, e126, hx126_0, hx126_1⟩ := at_T122 HR0.out (ji18) p126 q126
                          have hw126_1 := hx126_1
                          have hw126_0 := hx126_0
                          obtain rfl : ad123 = ad126 := (by injection e126)
                          replace hx126_0 := (HB.out.cell (World.block_lt_of_cell? w _ hx126_0)).trans hx126_0
                          replace hx126_1 := (HB.out.cell (World.block_lt_of_cell? w _ hx126_1)).trans hx126_1
                          replace p126 := eq_true p126
                          replace q126 := eq_true q126
                          refine start_ (n := 28) (S := fun w' => w'.cell? ⟨gb124, 0, none⟩ = some (.int .i64 ((rd_T122 l0 x7_1).f0)) ∧ w'.cell? ⟨gb124, 1, none⟩ = some (.string ((rd_T122 l0 x7_1).f1)) ∧ w'.cell? (ad123.add (((ji18)).toNat * 2)) = some (.int .i64 ((rd_T122 l0 (ji18)).f0)) ∧ w'.cell? ⟨(ad123.add (((ji18)).toNat * 2)).block, (ad123.add (((ji18)).toNat * 2)).off + 1, none⟩ = some (.string ((rd_T122 l0 (ji18)).f1))) (ds := []) bz1b_0 (by kernel_rfl) rfl rfl ⟨(blk_cell BK124.out 0).trans rfl, (blk_cell BK124.out 1).trans rfl, ((HB.out.cell (World.block_lt_of_cell? w _ hw126_0)).trans hw126_0), ((HB.out.cell (World.block_lt_of_cell? w _ hw126_1)).trans hw126_1)⟩ (fun hHeld => ?_); refine with_tabW span_told.tab4 span_told.bits4 (fun HT_ HW_ => ?_)
                          generalize w25.drew = w26 at BK124 HB hx126_0 hx126_1 hHeld ⊢
                          refine pz_ (i := 0) (N := some 12) bz1b_1 (any_of HT_.out (by kernel_rfl)) ?_
                          refine take_ (i := 1) (N := some 13) (v := ?_) (a' := ?_) bz1b_2 rfl rfl (take_ofW HT_.out HW_.out (by kernel_rfl)) (fun _ _ _ h => h) (Or.inl ⟨by rfl, ?_⟩) hHeld ?_ ?_
                          rotate_left
                          · rintro w' ⟨s0, s1, s2, s3⟩
                            go_simp
                            with_reducible rfl
                          rotate_left
                          · simp only [Act.put, List.setIfInBounds_toArray, List.set_cons_zero, List.set_cons_succ, i64_w, i32_w]
                            rfl
                          refine pz_ (i := 2) (N := some 14) bz1b_3 (any_of HT_.out (by kernel_rfl)) ?_
                          refine pz_ (i := 3) (N := some 15) bz1b_4 (any_of HT_.out (by kernel_rfl)) ?_
                          refine pz_ (i := 4) (N := some 16) bz1b_5 (any_of HT_.out (by kernel_rfl)) ?_
                          refine take_ (i := 5) (N := some 17) (v := ?_) (a' := ?_) bz1b_6 rfl rfl (take_ofW HT_.out HW_.out (by kernel_rfl)) (fun _ _ _ h => h) (Or.inl ⟨by rfl, ?_⟩) hHeld ?_ ?_
                          rotate_left
                          · rintro w' ⟨s0, s1, s2, s3⟩
                            go_simp
                            with_reducible rfl
                          rotate_left
                          · simp only [Act.put, List.setIfInBounds_toArray, List.set_cons_zero, List.set_cons_succ, i64_w, i32_w]
                            rfl
                          refine pz_ (i := 6) (N := some 18) bz1b_7 (any_of HT_.out (by kernel_rfl)) ?_
                          refine pz_ (i := 7) (N := some 19) bz1b_8 (any_of HT_.out (by kernel_rfl)) ?_
                          refine pz_ (i := 8) (N := some 20) bz1b_9 (any_of HT_.out (by kernel_rfl)) ?_
                          refine pz_ (i := 9) (N := some 21) bz1b_10 (any_of HT_.out (by kernel_rfl)) ?_
                          refine take_ (i := 10) (N := some 22) (v := ?_) (a' := ?_) bz1b_11 rfl rfl (take_ofW HT_.out HW_.out (by kernel_rfl)) (fun _ _ _ h => h) (Or.inl ⟨by rfl, ?_⟩) hHeld ?_ ?_
                          rotate_left
                          · rintro w' ⟨s0, s1, s2, s3⟩
                            go_simp
                            with_reducible rfl
                          rotate_left
                          · simp only [Act.put, List.setIfInBounds_toArray, List.set_cons_zero, List.set_cons_succ, i64_w, i32_w]
                            rfl
                          refine one_ (i := 11) (N := some 23) bz1b_12 rfl rfl (one_of HT_.out (by kernel_rfl)) (by decide) (fun K hK => ?_)
                          refine goes_ Tryd.func77 (by kernel_rfl) rfl #[.string ((rd_T122 l0 x7_1).f1), .int .i64 100, .int .u8 32] (by rfl) rfl rfl xa ?_
                          with_reducible refine (span_plain.calls k1 ((rd_T122 l0 x7_1).f1) 100 32 true _ A15.out (Tabs.below HTabs0_.out xq1)).mono ?_
                          rintro e w27 ⟨rfl, hb⟩
                          refine ⟨_, rfl, ?_⟩
                          have n0_ := Aside0.mk (blk_below (g := gb124) (o := .cells #[.int .i64 ((rd_T122 l0 x7_1).f0), .string ((rd_T122 l0 x7_1).f1)] 122 (0, 0)) (xb BK124) hb)
                          have n1_ := Aside0.mk (below_step xq1 hb)
                          clear BK124
                          clear HB
                          have BK124 := n0_
                          have HB := n1_
                          clear n0_ n1_
                          (try clear hb)
                          (try clear hb2)
                          (try clear hk)
                          (try clear hi)
                          refine hK.out _ _ ⟨(blk_cell BK124.out 0).trans rfl, (blk_cell BK124.out 1).trans rfl, ((HB.out.cell (World.block_lt_of_cell? w _ hw126_0)).trans hw126_0), ((HB.out.cell (World.block_lt_of_cell? w _ hw126_1)).trans hw126_1)⟩ (fun hHeld => ?_)
                          clear hK K
                          refine norm_ (a' := ?_) ?_ ?_
                          rotate_left
                          · show Act.put _ (some 23) _ = _
                            simp only [Act.put, List.setIfInBounds_toArray, List.set_cons_zero, List.set_cons_succ, i64_w, i32_w]
                            rfl
                          refine pz_ (i := 12) (N := some 24) bz1b_13 (any_of HT_.out (by kernel_rfl)) ?_
                          refine pz_ (i := 13) (N := some 25) bz1b_14 (any_of HT_.out (by kernel_rfl)) ?_
                          refine pz_ (i := 14) (N := some 26) bz1b_15 (any_of HT_.out (by kernel_rfl)) ?_
                          refine pz_ (i := 15) (N := some 27) bz1b_16 (any_of HT_.out (by kernel_rfl)) ?_
                          refine pz_ (i := 16) (N := some 28) bz1b_17 (any_of HT_.out (by kernel_rfl)) ?_
                          refine pz_ (i := 17) (N := some 29) bz1b_18 (any_of HT_.out (by kernel_rfl)) ?_
                          refine pz_ (i := 18) (N := some 30) bz1b_19 (any_of HT_.out (by kernel_rfl)) ?_
                          refine pz_ (i := 19) (N := some 31) bz1b_20 (any_of HT_.out (by kernel_rfl)) ?_
                          refine pz_ (i := 20) (N := some 32) bz1b_21 (any_of HT_.out (by kernel_rfl)) ?_
                          refine pz_ (i := 21) (N := some 33) bz1b_22 (any_of HT_.out (by kernel_rfl)) ?_
                          refine take_ (i := 22) (N := some 34) (v := ?_) (a' := ?_) bz1b_23 rfl rfl (take_ofW HT_.out HW_.out (by kernel_rfl)) (fun _ _ _ h => h) (Or.inl ⟨by rfl, ?_⟩) hHeld ?_ ?_
                          rotate_left
                          · rintro w' ⟨s0, s1, s2, s3⟩
                            go_simp
                            with_reducible rfl
                          rotate_left
                          · simp only [Act.put, List.setIfInBounds_toArray, List.set_cons_zero, List.set_cons_succ, i64_w, i32_w]
                            rfl
                          refine take_ (i := 23) (N := some 35) (v := ?_) (a' := ?_) bz1b_24 rfl rfl (take_ofW HT_.out HW_.out (by kernel_rfl)) (fun _ _ _ h => h) (Or.inl ⟨by rfl, ?_⟩) hHeld ?_ ?_
                          rotate_left
                          · rintro w' ⟨s0, s1, s2, s3⟩
                            go_simp
                            with_reducible rfl
                          rotate_left
                          · simp only [Act.put, List.setIfInBounds_toArray, List.set_cons_zero, List.set_cons_succ, i64_w, i32_w]
                            rfl
                          refine one_ (i := 24) (N := some 36) bz1b_25 rfl rfl (one_of HT_.out (by kernel_rfl)) (by decide) (fun K hK => ?_)
                          refine goes_ Tryd.func93 (by kernel_rfl) rfl #[.agg #[.int .i64 ((rd_T122 l0 (ji18)).f0), .string ((rd_T122 l0 (ji18)).f1)], .agg #[.int .i64 ((rd_T122 l0 x7_1).f0), .string ((rd_T122 l0 x7_1).f1)]] (by rfl) rfl rfl (by (try simp only [List.map_toArray, List.map_cons, List.map_nil]); first | done | (simp only [hji18]; rfl) | rfl | (simp only [List.length_drop, List.length_take]; rfl)) ?_
                          with_reducible refine (span_events.calls k1 ((rd_T122 l0 (ji18)).f0) ((rd_T122 l0 (ji18)).f1) ((rd_T122 l0 x7_1).f0) ((rd_T122 l0 x7_1).f1) t127 _ A21.out).mono ?_
                          rintro e w28 ⟨rfl, hb⟩
                          refine ⟨_, rfl, ?_⟩
                          have n0_ := Aside0.mk (blk_below (g := gb124) (o := .cells #[.int .i64 ((rd_T122 l0 x7_1).f0), .string ((rd_T122 l0 x7_1).f1)] 122 (0, 0)) (xb BK124) hb)
                          have n1_ := Aside0.mk (below_step xq1 hb)
                          clear BK124
                          clear HB
                          have BK124 := n0_
                          have HB := n1_
                          clear n0_ n1_
                          (try clear hb)
                          (try clear hb2)
                          (try clear hk)
                          (try clear hi)
                          refine hK.out _ _ ⟨(blk_cell BK124.out 0).trans rfl, (blk_cell BK124.out 1).trans rfl, ((HB.out.cell (World.block_lt_of_cell? w _ hw126_0)).trans hw126_0), ((HB.out.cell (World.block_lt_of_cell? w _ hw126_1)).trans hw126_1)⟩ (fun hHeld => ?_)
                          clear hK K
                          refine norm_ (a' := ?_) ?_ ?_
                          rotate_left
                          · show Act.put _ (some 36) _ = _
                            simp only [Act.put, List.setIfInBounds_toArray, List.set_cons_zero, List.set_cons_succ, i64_w, i32_w]
                            rfl
                          refine pz_ (i := 25) (N := some 37) bz1b_26 (any_of HT_.out (by kernel_rfl)) ?_
                          refine pz_ (i := 26) (N := some 38) bz1b_27 (any_of HT_.out (by kernel_rfl)) ?_
                          refine pz_ (i := 27) (N := some 39) bz1b_28 (any_of HT_.out (by kernel_rfl)) ?_
                          refine done_ (done_of HT_.out (by kernel_rfl)) ?_
                          try go_wp2
                          go_ret
                          exact ⟨by first | rfl | (simp [errW_none, errW_some] <;> rfl) | (simp only [← hji18]; first | rfl | (simp [errW_none, errW_some] <;> rfl)) | (simp [*, errW_none, errW_some] <;> rfl), by repeat (first | (with_reducible first | exact HB.out | apply below_alloc | apply pw_below_drewN | apply below_drew1 | refine below_set ?_ GE124.out) | exact HB.out)⟩
                        · rw [if_neg c22] at H
                          have c22b0 : decide (0 ≤ t127) = false := decide_eq_false c22
                          clear c22
                          have H' := Aside0.mk H
                          clear H
                          have p123 : 0 ≤ (x7_1 : Int) := of_decide_eq_true (by first | (with_reducible assumption) | assumption)
                          have q123 : x7_1 < (l0.length : Int) := of_decide_eq_true (by first | (with_reducible assumption) | assumption)
                          obtain ⟨ad123, e123, hx123_0, hx123_1⟩ := at_T122 HR0.out x7_1 p123 q123
                          cases e123
                          replace hx123_0 := (HB.out.cell (World.block_lt_of_cell? w _ hx123_0)).trans hx123_0
                          replace hx123_1 := (HB.out.cell (World.block_lt_of_cell? w _ hx123_1)).trans hx123_1
                          replace p123 := eq_true p123
                          replace q123 := eq_true q123
                          try go_wp2_with (first | ((with_reducible refine gate_dst (N := 4) rfl ?_); refine box_event ?hg (N := 4) ?hd (cs := #[.int .i64 0, .string (⟨#[]⟩ : ByteArray)]) (t := 122) ?hr ?_; (case hd => rfl); (case hg => rfl); (case hr => first | (go_simp; done) | (go_simp; rfl)); intro gb124 hg w29 hbox hb; have n0_ := Aside0.mk (below_step xq0 hb); have n1_ := Aside0.mk (hbox); have n2_ := Aside0.mk ((by rw [hg]; exact (below_size xq0) : w.heap.size ≤ gb124)); have n3_ := Aside0.mk ((by rw [hg]; exact (below_size xq0) : w.heap.size ≤ gb124)); clear HB; have HB := n0_; have BK124 := n1_; have GW124 := n2_; have GE124 := n3_; clear n0_ n1_ n2_ n3_; clear hb hbox hg; have hcz30_0 : w29.cell? ⟨gb124, 0, none⟩ = some (.int .i64 0) := (blk_cell BK124.out 0).trans rfl; have hcz30_1 : w29.cell? ⟨gb124, 1, none⟩ = some (.string (⟨#[]⟩ : ByteArray)) := (blk_cell BK124.out 1).trans rfl; have hfz30_0 := blk_frozen BK124.out 0; have hfz30_1 := blk_frozen BK124.out 1))
                          have n0_ : Aside0 (((w29.setCell ⟨gb124, 0, none⟩ (.int .i64 ((rd_T122 l0 x7_1).f0))).setCell ⟨gb124, 1, none⟩ (.string ((rd_T122 l0 x7_1).f1))).heap[gb124]? = some (.cells #[.int .i64 ((rd_T122 l0 x7_1).f0), .string ((rd_T122 l0 x7_1).f1)] 122 (0, 0))) := ⟨by (with_reducible repeat (first | refine blk_drewN ?_ _ | refine blk_drew ?_ | refine blk_alloc ?_ _)); refine blk_put (cs := #[.int .i64 ((rd_T122 l0 x7_1).f0), .string (⟨#[]⟩ : ByteArray)]) ?_ 1 _ rfl; (with_reducible repeat (first | refine blk_drewN ?_ _ | refine blk_drew ?_ | refine blk_alloc ?_ _)); refine blk_put (cs := #[.int .i64 0, .string (⟨#[]⟩ : ByteArray)]) ?_ 0 _ rfl; (with_reducible repeat (first | refine blk_drewN ?_ _ | refine blk_drew ?_ | refine blk_alloc ?_ _)); exact BK124.out⟩
                          have n1_ : Aside0 (Below w.heap.size w ((w29.setCell ⟨gb124, 0, none⟩ (.int .i64 ((rd_T122 l0 x7_1).f0))).setCell ⟨gb124, 1, none⟩ (.string ((rd_T122 l0 x7_1).f1)))) := ⟨by repeat (first | (with_reducible first | exact HB.out | apply below_alloc | apply pw_below_drewN | apply below_drew1 | refine below_set ?_ GE124.out) | exact HB.out)⟩
                          (try clear BK124)
                          (try clear HB)
                          generalize ((w29.setCell ⟨gb124, 0, none⟩ (.int .i64 ((rd_T122 l0 x7_1).f0))).setCell ⟨gb124, 1, none⟩ (.string ((rd_T122 l0 x7_1).f1))) = w31 at n0_ n1_ ⊢
                          have BK124 := n0_
                          have HB := n1_
                          clear n0_ n1_
                          have n0_ := Aside0.mk (blk_drew BK124.out)
                          have n1_ := Aside0.mk (below_drew1 HB.out)
                          clear BK124
                          clear HB
                          have BK124 := n0_
                          have HB := n1_
                          clear n0_ n1_
                          have p126 : 0 ≤ ((ji18) : Int) := of_decide_eq_true (by first | (with_reducible assumption) | assumption)
                          have q126 : (ji18) < (l0.length : Int) := of_decide_eq_true (by first | (with_reducible assumption) | assumption)
                          obtain ⟨ad126, e126, hx126_0, hx126_1⟩ := at_T122 HR0.out (ji18) p126 q126
                          have hw126_1 := hx126_1
                          have hw126_0 := hx126_0
                          obtain rfl : ad123 = ad126 := (by injection e126)
                          replace hx126_0 := (HB.out.cell (World.block_lt_of_cell? w _ hx126_0)).trans hx126_0
                          replace hx126_1 := (HB.out.cell (World.block_lt_of_cell? w _ hx126_1)).trans hx126_1
                          replace p126 := eq_true p126
                          replace q126 := eq_true q126
                          refine start_ (n := 28) (S := fun w' => w'.cell? ⟨gb124, 0, none⟩ = some (.int .i64 ((rd_T122 l0 x7_1).f0)) ∧ w'.cell? ⟨gb124, 1, none⟩ = some (.string ((rd_T122 l0 x7_1).f1)) ∧ w'.cell? (ad123.add (((ji18)).toNat * 2)) = some (.int .i64 ((rd_T122 l0 (ji18)).f0)) ∧ w'.cell? ⟨(ad123.add (((ji18)).toNat * 2)).block, (ad123.add (((ji18)).toNat * 2)).off + 1, none⟩ = some (.string ((rd_T122 l0 (ji18)).f1))) (ds := []) bz1b_0 (by kernel_rfl) rfl rfl ⟨(blk_cell BK124.out 0).trans rfl, (blk_cell BK124.out 1).trans rfl, ((HB.out.cell (World.block_lt_of_cell? w _ hw126_0)).trans hw126_0), ((HB.out.cell (World.block_lt_of_cell? w _ hw126_1)).trans hw126_1)⟩ (fun hHeld => ?_); refine with_tabW span_told.tab4 span_told.bits4 (fun HT_ HW_ => ?_)
                          generalize w31.drew = w32 at BK124 HB hx126_0 hx126_1 hHeld ⊢
                          refine pz_ (i := 0) (N := some 12) bz1b_1 (any_of HT_.out (by kernel_rfl)) ?_
                          refine take_ (i := 1) (N := some 13) (v := ?_) (a' := ?_) bz1b_2 rfl rfl (take_ofW HT_.out HW_.out (by kernel_rfl)) (fun _ _ _ h => h) (Or.inl ⟨by rfl, ?_⟩) hHeld ?_ ?_
                          rotate_left
                          · rintro w' ⟨s0, s1, s2, s3⟩
                            go_simp
                            with_reducible rfl
                          rotate_left
                          · simp only [Act.put, List.setIfInBounds_toArray, List.set_cons_zero, List.set_cons_succ, i64_w, i32_w]
                            rfl
                          refine pz_ (i := 2) (N := some 14) bz1b_3 (any_of HT_.out (by kernel_rfl)) ?_
                          refine pz_ (i := 3) (N := some 15) bz1b_4 (any_of HT_.out (by kernel_rfl)) ?_
                          refine pz_ (i := 4) (N := some 16) bz1b_5 (any_of HT_.out (by kernel_rfl)) ?_
                          refine take_ (i := 5) (N := some 17) (v := ?_) (a' := ?_) bz1b_6 rfl rfl (take_ofW HT_.out HW_.out (by kernel_rfl)) (fun _ _ _ h => h) (Or.inl ⟨by rfl, ?_⟩) hHeld ?_ ?_
                          rotate_left
                          · rintro w' ⟨s0, s1, s2, s3⟩
                            go_simp
                            with_reducible rfl
                          rotate_left
                          · simp only [Act.put, List.setIfInBounds_toArray, List.set_cons_zero, List.set_cons_succ, i64_w, i32_w]
                            rfl
                          refine pz_ (i := 6) (N := some 18) bz1b_7 (any_of HT_.out (by kernel_rfl)) ?_
                          refine pz_ (i := 7) (N := some 19) bz1b_8 (any_of HT_.out (by kernel_rfl)) ?_
                          refine pz_ (i := 8) (N := some 20) bz1b_9 (any_of HT_.out (by kernel_rfl)) ?_
                          refine pz_ (i := 9) (N := some 21) bz1b_10 (any_of HT_.out (by kernel_rfl)) ?_
                          refine take_ (i := 10) (N := some 22) (v := ?_) (a' := ?_) bz1b_11 rfl rfl (take_ofW HT_.out HW_.out (by kernel_rfl)) (fun _ _ _ h => h) (Or.inl ⟨by rfl, ?_⟩) hHeld ?_ ?_
                          rotate_left
                          · rintro w' ⟨s0, s1, s2, s3⟩
                            go_simp
                            with_reducible rfl
                          rotate_left
                          · simp only [Act.put, List.setIfInBounds_toArray, List.set_cons_zero, List.set_cons_succ, i64_w, i32_w]
                            rfl
                          refine one_ (i := 11) (N := some 23) bz1b_12 rfl rfl (one_of HT_.out (by kernel_rfl)) (by decide) (fun K hK => ?_)
                          refine goes_ Tryd.func77 (by kernel_rfl) rfl #[.string ((rd_T122 l0 x7_1).f1), .int .i64 100, .int .u8 32] (by rfl) rfl rfl xa ?_
                          with_reducible refine (span_plain.calls k1 ((rd_T122 l0 x7_1).f1) 100 32 true _ A15.out (Tabs.below HTabs0_.out xq1)).mono ?_
                          rintro e w33 ⟨rfl, hb⟩
                          refine ⟨_, rfl, ?_⟩
                          have n0_ := Aside0.mk (blk_below (g := gb124) (o := .cells #[.int .i64 ((rd_T122 l0 x7_1).f0), .string ((rd_T122 l0 x7_1).f1)] 122 (0, 0)) (xb BK124) hb)
                          have n1_ := Aside0.mk (below_step xq1 hb)
                          clear BK124
                          clear HB
                          have BK124 := n0_
                          have HB := n1_
                          clear n0_ n1_
                          (try clear hb)
                          (try clear hb2)
                          (try clear hk)
                          (try clear hi)
                          refine hK.out _ _ ⟨(blk_cell BK124.out 0).trans rfl, (blk_cell BK124.out 1).trans rfl, ((HB.out.cell (World.block_lt_of_cell? w _ hw126_0)).trans hw126_0), ((HB.out.cell (World.block_lt_of_cell? w _ hw126_1)).trans hw126_1)⟩ (fun hHeld => ?_)
                          clear hK K
                          refine norm_ (a' := ?_) ?_ ?_
                          rotate_left
                          · show Act.put _ (some 23) _ = _
                            simp only [Act.put, List.setIfInBounds_toArray, List.set_cons_zero, List.set_cons_succ, i64_w, i32_w]
                            rfl
                          refine pz_ (i := 12) (N := some 24) bz1b_13 (any_of HT_.out (by kernel_rfl)) ?_
                          refine pz_ (i := 13) (N := some 25) bz1b_14 (any_of HT_.out (by kernel_rfl)) ?_
                          refine pz_ (i := 14) (N := some 26) bz1b_15 (any_of HT_.out (by kernel_rfl)) ?_
                          refine pz_ (i := 15) (N := some 27) bz1b_16 (any_of HT_.out (by kernel_rfl)) ?_
                          refine pz_ (i := 16) (N := some 28) bz1b_17 (any_of HT_.out (by kernel_rfl)) ?_
                          refine pz_ (i := 17) (N := some 29) bz1b_18 (any_of HT_.out (by kernel_rfl)) ?_
                          refine pz_ (i := 18) (N := some 30) bz1b_19 (any_of HT_.out (by kernel_rfl)) ?_
                          refine pz_ (i := 19) (N := some 31) bz1b_20 (any_of HT_.out (by kernel_rfl)) ?_
                          refine pz_ (i := 20) (N := some 32) bz1b_21 (any_of HT_.out (by kernel_rfl)) ?_
                          refine pz_ (i := 21) (N := some 33) bz1b_22 (any_of HT_.out (by kernel_rfl)) ?_
                          refine take_ (i := 22) (N := some 34) (v := ?_) (a' := ?_) bz1b_23 rfl rfl (take_ofW HT_.out HW_.out (by kernel_rfl)) (fun _ _ _ h => h) (Or.inl ⟨by rfl, ?_⟩) hHeld ?_ ?_
                          rotate_left
                          · rintro w' ⟨s0, s1, s2, s3⟩
                            go_simp
                            with_reducible rfl
                          rotate_left
                          · simp only [Act.put, List.setIfInBounds_toArray, List.set_cons_zero, List.set_cons_succ, i64_w, i32_w]
                            rfl
                          refine take_ (i := 23) (N := some 35) (v := ?_) (a' := ?_) bz1b_24 rfl rfl (take_ofW HT_.out HW_.out (by kernel_rfl)) (fun _ _ _ h => h) (Or.inl ⟨by rfl, ?_⟩) hHeld ?_ ?_
                          rotate_left
                          · rintro w' ⟨s0, s1, s2, s3⟩
                            go_simp
                            with_reducible rfl
                          rotate_left
                          · simp only [Act.put, List.setIfInBounds_toArray, List.set_cons_zero, List.set_cons_succ, i64_w, i32_w]
                            rfl
                          refine one_ (i := 24) (N := some 36) bz1b_25 rfl rfl (one_of HT_.out (by kernel_rfl)) (by decide) (fun K hK => ?_)
                          refine goes_ Tryd.func93 (by kernel_rfl) rfl #[.agg #[.int .i64 ((rd_T122 l0 (ji18)).f0), .string ((rd_T122 l0 (ji18)).f1)], .agg #[.int .i64 ((rd_T122 l0 x7_1).f0), .string ((rd_T122 l0 x7_1).f1)]] (by rfl) rfl rfl (by (try simp only [List.map_toArray, List.map_cons, List.map_nil]); first | done | (simp only [hji18]; rfl) | rfl | (simp only [List.length_drop, List.length_take]; rfl)) ?_
                          with_reducible refine (span_events.calls k1 ((rd_T122 l0 (ji18)).f0) ((rd_T122 l0 (ji18)).f1) ((rd_T122 l0 x7_1).f0) ((rd_T122 l0 x7_1).f1) t127 _ A21.out).mono ?_
                          rintro e w34 ⟨rfl, hb⟩
                          refine ⟨_, rfl, ?_⟩
                          have n0_ := Aside0.mk (blk_below (g := gb124) (o := .cells #[.int .i64 ((rd_T122 l0 x7_1).f0), .string ((rd_T122 l0 x7_1).f1)] 122 (0, 0)) (xb BK124) hb)
                          have n1_ := Aside0.mk (below_step xq1 hb)
                          clear BK124
                          clear HB
                          have BK124 := n0_
                          have HB := n1_
                          clear n0_ n1_
                          (try clear hb)
                          (try clear hb2)
                          (try clear hk)
                          (try clear hi)
                          refine hK.out _ _ ⟨(blk_cell BK124.out 0).trans rfl, (blk_cell BK124.out 1).trans rfl, ((HB.out.cell (World.block_lt_of_cell? w _ hw126_0)).trans hw126_0), ((HB.out.cell (World.block_lt_of_cell? w _ hw126_1)).trans hw126_1)⟩ (fun hHeld => ?_)
                          clear hK K
                          refine norm_ (a' := ?_) ?_ ?_
                          rotate_left
                          · show Act.put _ (some 36) _ = _
                            simp only [Act.put, List.setIfInBounds_toArray, List.set_cons_zero, List.set_cons_succ, i64_w, i32_w]
                            rfl
                          refine pz_ (i := 25) (N := some 37) bz1b_26 (any_of HT_.out (by kernel_rfl)) ?_
                          refine pz_ (i := 26) (N := some 38) bz1b_27 (any_of HT_.out (by kernel_rfl)) ?_
                          refine pz_ (i := 27) (N := some 39) bz1b_28 (any_of HT_.out (by kernel_rfl)) ?_
                          refine done_ (done_of HT_.out (by kernel_rfl)) ?_
                          try go_wp2
                          go_roundg k1
                          case measure => have := HK1.out; omega
                          case rel => exact ⟨(wrap64 (x7_1 + 1)), (by first | rfl | (simp; done) | (simp [*]; done)), H', ⟨by have := HK1.out; omega⟩, ⟨by repeat (first | (with_reducible first | exact HB.out | apply below_alloc | apply pw_below_drewN | apply below_drew1 | refine below_set ?_ GE124.out) | exact HB.out)⟩⟩
                      · rw [if_neg c20] at H
                        exact absurd H (by simp)
                    · rw [if_neg c19] at H
                      exact absurd H (by simp)
                  · rw [if_neg c17] at H
                    have c17b0 : decide (0 < x7_1) = false := decide_eq_false c17
                    clear c17
                    have H' := Aside0.mk H
                    clear H
                    have p123 : 0 ≤ (x7_1 : Int) := of_decide_eq_true (by first | (with_reducible assumption) | assumption)
                    have q123 : x7_1 < (l0.length : Int) := of_decide_eq_true (by first | (with_reducible assumption) | assumption)
                    obtain ⟨ad123, e123, hx123_0, hx123_1⟩ := at_T122 HR0.out x7_1 p123 q123
                    cases e123
                    replace hx123_0 := (HB.out.cell (World.block_lt_of_cell? w _ hx123_0)).trans hx123_0
                    replace hx123_1 := (HB.out.cell (World.block_lt_of_cell? w _ hx123_1)).trans hx123_1
                    replace p123 := eq_true p123
                    replace q123 := eq_true q123
                    try go_wp2_with (first | ((with_reducible refine gate_dst (N := 4) rfl ?_); refine box_event ?hg (N := 4) ?hd (cs := #[.int .i64 0, .string (⟨#[]⟩ : ByteArray)]) (t := 122) ?hr ?_; (case hd => rfl); (case hg => rfl); (case hr => first | (go_simp; done) | (go_simp; rfl)); intro gb124 hg w35 hbox hb; have n0_ := Aside0.mk (below_step xq0 hb); have n1_ := Aside0.mk (hbox); have n2_ := Aside0.mk ((by rw [hg]; exact (below_size xq0) : w.heap.size ≤ gb124)); have n3_ := Aside0.mk ((by rw [hg]; exact (below_size xq0) : w.heap.size ≤ gb124)); clear HB; have HB := n0_; have BK124 := n1_; have GW124 := n2_; have GE124 := n3_; clear n0_ n1_ n2_ n3_; clear hb hbox hg; have hcz36_0 : w35.cell? ⟨gb124, 0, none⟩ = some (.int .i64 0) := (blk_cell BK124.out 0).trans rfl; have hcz36_1 : w35.cell? ⟨gb124, 1, none⟩ = some (.string (⟨#[]⟩ : ByteArray)) := (blk_cell BK124.out 1).trans rfl; have hfz36_0 := blk_frozen BK124.out 0; have hfz36_1 := blk_frozen BK124.out 1))
                    have n0_ : Aside0 (((w35.setCell ⟨gb124, 0, none⟩ (.int .i64 ((rd_T122 l0 x7_1).f0))).setCell ⟨gb124, 1, none⟩ (.string ((rd_T122 l0 x7_1).f1))).heap[gb124]? = some (.cells #[.int .i64 ((rd_T122 l0 x7_1).f0), .string ((rd_T122 l0 x7_1).f1)] 122 (0, 0))) := ⟨by (with_reducible repeat (first | refine blk_drewN ?_ _ | refine blk_drew ?_ | refine blk_alloc ?_ _)); refine blk_put (cs := #[.int .i64 ((rd_T122 l0 x7_1).f0), .string (⟨#[]⟩ : ByteArray)]) ?_ 1 _ rfl; (with_reducible repeat (first | refine blk_drewN ?_ _ | refine blk_drew ?_ | refine blk_alloc ?_ _)); refine blk_put (cs := #[.int .i64 0, .string (⟨#[]⟩ : ByteArray)]) ?_ 0 _ rfl; (with_reducible repeat (first | refine blk_drewN ?_ _ | refine blk_drew ?_ | refine blk_alloc ?_ _)); exact BK124.out⟩
                    have n1_ : Aside0 (Below w.heap.size w ((w35.setCell ⟨gb124, 0, none⟩ (.int .i64 ((rd_T122 l0 x7_1).f0))).setCell ⟨gb124, 1, none⟩ (.string ((rd_T122 l0 x7_1).f1)))) := ⟨by repeat (first | (with_reducible first | exact HB.out | apply below_alloc | apply pw_below_drewN | apply below_drew1 | refine below_set ?_ GE124.out) | exact HB.out)⟩
                    (try clear BK124)
                    (try clear HB)
                    generalize ((w35.setCell ⟨gb124, 0, none⟩ (.int .i64 ((rd_T122 l0 x7_1).f0))).setCell ⟨gb124, 1, none⟩ (.string ((rd_T122 l0 x7_1).f1))) = w37 at n0_ n1_ ⊢
                    have BK124 := n0_
                    have HB := n1_
                    clear n0_ n1_
                    have n0_ := Aside0.mk (blk_drew BK124.out)
                    have n1_ := Aside0.mk (below_drew1 HB.out)
                    clear BK124
                    clear HB
                    have BK124 := n0_
                    have HB := n1_
                    clear n0_ n1_
                    refine start_ (n := 28) (S := fun w' => w'.cell? ⟨gb124, 0, none⟩ = some (.int .i64 ((rd_T122 l0 x7_1).f0)) ∧ w'.cell? ⟨gb124, 1, none⟩ = some (.string ((rd_T122 l0 x7_1).f1))) (ds := []) bz1b_0 (by kernel_rfl) rfl rfl ⟨(blk_cell BK124.out 0).trans rfl, (blk_cell BK124.out 1).trans rfl⟩ (fun hHeld => ?_); refine with_tabW span_told.tab4 span_told.bits4 (fun HT_ HW_ => ?_)
                    generalize w37.drew = w38 at BK124 HB hHeld ⊢
                    refine pz_ (i := 0) (N := some 12) bz1b_1 (any_of HT_.out (by kernel_rfl)) ?_
                    refine take_ (i := 1) (N := some 13) (v := ?_) (a' := ?_) bz1b_2 rfl rfl (take_ofW HT_.out HW_.out (by kernel_rfl)) (fun _ _ _ h => h) (Or.inl ⟨by rfl, ?_⟩) hHeld ?_ ?_
                    rotate_left
                    · rintro w' ⟨s0, s1⟩
                      go_simp
                      with_reducible rfl
                    rotate_left
                    · simp only [Act.put, List.setIfInBounds_toArray, List.set_cons_zero, List.set_cons_succ, i64_w, i32_w]
                      rfl
                    refine pz_ (i := 2) (N := some 14) bz1b_3 (any_of HT_.out (by kernel_rfl)) ?_
                    refine pz_ (i := 3) (N := some 15) bz1b_4 (any_of HT_.out (by kernel_rfl)) ?_
                    refine pz_ (i := 4) (N := some 16) bz1b_5 (any_of HT_.out (by kernel_rfl)) ?_
                    refine take_ (i := 5) (N := some 17) (v := ?_) (a' := ?_) bz1b_6 rfl rfl (take_ofW HT_.out HW_.out (by kernel_rfl)) (fun _ _ _ h => h) (Or.inl ⟨by rfl, ?_⟩) hHeld ?_ ?_
                    rotate_left
                    · rintro w' ⟨s0, s1⟩
                      go_simp
                      with_reducible rfl
                    rotate_left
                    · simp only [Act.put, List.setIfInBounds_toArray, List.set_cons_zero, List.set_cons_succ, i64_w, i32_w]
                      rfl
                    refine pz_ (i := 6) (N := some 18) bz1b_7 (any_of HT_.out (by kernel_rfl)) ?_
                    refine pz_ (i := 7) (N := some 19) bz1b_8 (any_of HT_.out (by kernel_rfl)) ?_
                    refine pz_ (i := 8) (N := some 20) bz1b_9 (any_of HT_.out (by kernel_rfl)) ?_
                    refine pz_ (i := 9) (N := some 21) bz1b_10 (any_of HT_.out (by kernel_rfl)) ?_
                    refine take_ (i := 10) (N := some 22) (v := ?_) (a' := ?_) bz1b_11 rfl rfl (take_ofW HT_.out HW_.out (by kernel_rfl)) (fun _ _ _ h => h) (Or.inl ⟨by rfl, ?_⟩) hHeld ?_ ?_
                    rotate_left
                    · rintro w' ⟨s0, s1⟩
                      go_simp
                      with_reducible rfl
                    rotate_left
                    · simp only [Act.put, List.setIfInBounds_toArray, List.set_cons_zero, List.set_cons_succ, i64_w, i32_w]
                      rfl
                    refine one_ (i := 11) (N := some 23) bz1b_12 rfl rfl (one_of HT_.out (by kernel_rfl)) (by decide) (fun K hK => ?_)
                    refine goes_ Tryd.func77 (by kernel_rfl) rfl #[.string ((rd_T122 l0 x7_1).f1), .int .i64 100, .int .u8 32] (by rfl) rfl rfl xa ?_
                    with_reducible refine (span_plain.calls k1 ((rd_T122 l0 x7_1).f1) 100 32 true _ A15.out (Tabs.below HTabs0_.out xq1)).mono ?_
                    rintro e w39 ⟨rfl, hb⟩
                    refine ⟨_, rfl, ?_⟩
                    have n0_ := Aside0.mk (blk_below (g := gb124) (o := .cells #[.int .i64 ((rd_T122 l0 x7_1).f0), .string ((rd_T122 l0 x7_1).f1)] 122 (0, 0)) (xb BK124) hb)
                    have n1_ := Aside0.mk (below_step xq1 hb)
                    clear BK124
                    clear HB
                    have BK124 := n0_
                    have HB := n1_
                    clear n0_ n1_
                    (try clear hb)
                    (try clear hb2)
                    (try clear hk)
                    (try clear hi)
                    refine hK.out _ _ ⟨(blk_cell BK124.out 0).trans rfl, (blk_cell BK124.out 1).trans rfl⟩ (fun hHeld => ?_)
                    clear hK K
                    refine norm_ (a' := ?_) ?_ ?_
                    rotate_left
                    · show Act.put _ (some 23) _ = _
                      simp only [Act.put, List.setIfInBounds_toArray, List.set_cons_zero, List.set_cons_succ, i64_w, i32_w]
                      rfl
                    refine pz_ (i := 12) (N := some 24) bz1b_13 (any_of HT_.out (by kernel_rfl)) ?_
                    refine pz_ (i := 13) (N := some 25) bz1b_14 (any_of HT_.out (by kernel_rfl)) ?_
                    refine pz_ (i := 14) (N := some 26) bz1b_15 (any_of HT_.out (by kernel_rfl)) ?_
                    refine pz_ (i := 15) (N := some 27) bz1b_16 (any_of HT_.out (by kernel_rfl)) ?_
                    refine pz_ (i := 16) (N := some 28) bz1b_17 (any_of HT_.out (by kernel_rfl)) ?_
                    refine pz_ (i := 17) (N := some 29) bz1b_18 (any_of HT_.out (by kernel_rfl)) ?_
                    refine pu_ (i := 18) (N := some 30) bz1b_19 (any_of HT_.out (by kernel_rfl)) ?_
                    refine pu_ (i := 19) (N := some 31) bz1b_20 (any_of HT_.out (by kernel_rfl)) ?_
                    refine pu_ (i := 20) (N := some 32) bz1b_21 (any_of HT_.out (by kernel_rfl)) ?_
                    refine pu_ (i := 21) (N := some 33) bz1b_22 (any_of HT_.out (by kernel_rfl)) ?_
                    refine pu_ (i := 22) (N := some 34) bz1b_23 (any_of HT_.out (by kernel_rfl)) ?_
                    refine pu_ (i := 23) (N := some 35) bz1b_24 (any_of HT_.out (by kernel_rfl)) ?_
                    refine pu_ (i := 24) (N := some 36) bz1b_25 (any_of HT_.out (by kernel_rfl)) ?_
                    refine pu_ (i := 25) (N := some 37) bz1b_26 (any_of HT_.out (by kernel_rfl)) ?_
                    refine pz_ (i := 26) (N := some 38) bz1b_27 (any_of HT_.out (by kernel_rfl)) ?_
                    refine pz_ (i := 27) (N := some 39) bz1b_28 (any_of HT_.out (by kernel_rfl)) ?_
                    refine done_ (done_of HT_.out (by kernel_rfl)) ?_
                    try go_wp2
                    go_roundg k1
                    case measure => have := HK1.out; omega
                    case rel => exact ⟨(wrap64 (x7_1 + 1)), (by first | rfl | (simp; done) | (simp [*]; done)), H', ⟨by have := HK1.out; omega⟩, ⟨by repeat (first | (with_reducible first | exact HB.out | apply below_alloc | apply pw_below_drewN | apply below_drew1 | refine below_set ?_ GE124.out) | exact HB.out)⟩⟩
                · replace c16 := Bool.eq_false_iff.mpr c16
                  subst c16
                  have H1 : (some false) = some r := by rw [if_neg (show ¬ (false = true) by decide)] at H; exact H
                  clear H
                  have H := H1
                  clear H1
                  obtain rfl := Option.some.inj H
                  have p123 : 0 ≤ (x7_1 : Int) := of_decide_eq_true (by first | (with_reducible assumption) | assumption)
                  have q123 : x7_1 < (l0.length : Int) := of_decide_eq_true (by first | (with_reducible assumption) | assumption)
                  obtain ⟨ad123, e123, hx123_0, hx123_1⟩ := at_T122 HR0.out x7_1 p123 q123
                  cases e123
                  replace hx123_0 := (HB.out.cell (World.block_lt_of_cell? w _ hx123_0)).trans hx123_0
                  replace hx123_1 := (HB.out.cell (World.block_lt_of_cell? w _ hx123_1)).trans hx123_1
                  replace p123 := eq_true p123
                  replace q123 := eq_true q123
                  try go_wp2_with (first | ((with_reducible refine gate_dst (N := 4) rfl ?_); refine box_event ?hg (N := 4) ?hd (cs := #[.int .i64 0, .string (⟨#[]⟩ : ByteArray)]) (t := 122) ?hr ?_; (case hd => rfl); (case hg => rfl); (case hr => first | (go_simp; done) | (go_simp; rfl)); intro gb124 hg w40 hbox hb; have n0_ := Aside0.mk (below_step xq0 hb); have n1_ := Aside0.mk (hbox); have n2_ := Aside0.mk ((by rw [hg]; exact (below_size xq0) : w.heap.size ≤ gb124)); have n3_ := Aside0.mk ((by rw [hg]; exact (below_size xq0) : w.heap.size ≤ gb124)); clear HB; have HB := n0_; have BK124 := n1_; have GW124 := n2_; have GE124 := n3_; clear n0_ n1_ n2_ n3_; clear hb hbox hg; have hcz41_0 : w40.cell? ⟨gb124, 0, none⟩ = some (.int .i64 0) := (blk_cell BK124.out 0).trans rfl; have hcz41_1 : w40.cell? ⟨gb124, 1, none⟩ = some (.string (⟨#[]⟩ : ByteArray)) := (blk_cell BK124.out 1).trans rfl; have hfz41_0 := blk_frozen BK124.out 0; have hfz41_1 := blk_frozen BK124.out 1))
                  have n0_ : Aside0 (((w40.setCell ⟨gb124, 0, none⟩ (.int .i64 ((rd_T122 l0 x7_1).f0))).setCell ⟨gb124, 1, none⟩ (.string ((rd_T122 l0 x7_1).f1))).heap[gb124]? = some (.cells #[.int .i64 ((rd_T122 l0 x7_1).f0), .string ((rd_T122 l0 x7_1).f1)] 122 (0, 0))) := ⟨by (with_reducible repeat (first | refine blk_drewN ?_ _ | refine blk_drew ?_ | refine blk_alloc ?_ _)); refine blk_put (cs := #[.int .i64 ((rd_T122 l0 x7_1).f0), .string (⟨#[]⟩ : ByteArray)]) ?_ 1 _ rfl; (with_reducible repeat (first | refine blk_drewN ?_ _ | refine blk_drew ?_ | refine blk_alloc ?_ _)); refine blk_put (cs := #[.int .i64 0, .string (⟨#[]⟩ : ByteArray)]) ?_ 0 _ rfl; (with_reducible repeat (first | refine blk_drewN ?_ _ | refine blk_drew ?_ | refine blk_alloc ?_ _)); exact BK124.out⟩
                  have n1_ : Aside0 (Below w.heap.size w ((w40.setCell ⟨gb124, 0, none⟩ (.int .i64 ((rd_T122 l0 x7_1).f0))).setCell ⟨gb124, 1, none⟩ (.string ((rd_T122 l0 x7_1).f1)))) := ⟨by repeat (first | (with_reducible first | exact HB.out | apply below_alloc | apply pw_below_drewN | apply below_drew1 | refine below_set ?_ GE124.out) | exact HB.out)⟩
                  (try clear BK124)
                  (try clear HB)
                  generalize ((w40.setCell ⟨gb124, 0, none⟩ (.int .i64 ((rd_T122 l0 x7_1).f0))).setCell ⟨gb124, 1, none⟩ (.string ((rd_T122 l0 x7_1).f1))) = w42 at n0_ n1_ ⊢
                  have BK124 := n0_
                  have HB := n1_
                  clear n0_ n1_
                  have n0_ := Aside0.mk (blk_drew BK124.out)
                  have n1_ := Aside0.mk (below_drew1 HB.out)
                  clear BK124
                  clear HB
                  have BK124 := n0_
                  have HB := n1_
                  clear n0_ n1_
                  refine start_ (n := 28) (S := fun w' => w'.cell? ⟨gb124, 0, none⟩ = some (.int .i64 ((rd_T122 l0 x7_1).f0)) ∧ w'.cell? ⟨gb124, 1, none⟩ = some (.string ((rd_T122 l0 x7_1).f1))) (ds := []) bz1b_0 (by kernel_rfl) rfl rfl ⟨(blk_cell BK124.out 0).trans rfl, (blk_cell BK124.out 1).trans rfl⟩ (fun hHeld => ?_); refine with_tabW span_told.tab4 span_told.bits4 (fun HT_ HW_ => ?_)
                  generalize w42.drew = w43 at BK124 HB hHeld ⊢
                  refine pz_ (i := 0) (N := some 12) bz1b_1 (any_of HT_.out (by kernel_rfl)) ?_
                  refine take_ (i := 1) (N := some 13) (v := ?_) (a' := ?_) bz1b_2 rfl rfl (take_ofW HT_.out HW_.out (by kernel_rfl)) (fun _ _ _ h => h) (Or.inl ⟨by rfl, ?_⟩) hHeld ?_ ?_
                  rotate_left
                  · rintro w' ⟨s0, s1⟩
                    go_simp
                    with_reducible rfl
                  rotate_left
                  · simp only [Act.put, List.setIfInBounds_toArray, List.set_cons_zero, List.set_cons_succ, i64_w, i32_w]
                    rfl
                  refine pz_ (i := 2) (N := some 14) bz1b_3 (any_of HT_.out (by kernel_rfl)) ?_
                  refine pz_ (i := 3) (N := some 15) bz1b_4 (any_of HT_.out (by kernel_rfl)) ?_
                  refine pz_ (i := 4) (N := some 16) bz1b_5 (any_of HT_.out (by kernel_rfl)) ?_
                  refine take_ (i := 5) (N := some 17) (v := ?_) (a' := ?_) bz1b_6 rfl rfl (take_ofW HT_.out HW_.out (by kernel_rfl)) (fun _ _ _ h => h) (Or.inl ⟨by rfl, ?_⟩) hHeld ?_ ?_
                  rotate_left
                  · rintro w' ⟨s0, s1⟩
                    go_simp
                    with_reducible rfl
                  rotate_left
                  · simp only [Act.put, List.setIfInBounds_toArray, List.set_cons_zero, List.set_cons_succ, i64_w, i32_w]
                    rfl
                  refine pz_ (i := 6) (N := some 18) bz1b_7 (any_of HT_.out (by kernel_rfl)) ?_
                  refine pz_ (i := 7) (N := some 19) bz1b_8 (any_of HT_.out (by kernel_rfl)) ?_
                  refine pz_ (i := 8) (N := some 20) bz1b_9 (any_of HT_.out (by kernel_rfl)) ?_
                  refine pz_ (i := 9) (N := some 21) bz1b_10 (any_of HT_.out (by kernel_rfl)) ?_
                  refine take_ (i := 10) (N := some 22) (v := ?_) (a' := ?_) bz1b_11 rfl rfl (take_ofW HT_.out HW_.out (by kernel_rfl)) (fun _ _ _ h => h) (Or.inl ⟨by rfl, ?_⟩) hHeld ?_ ?_
                  rotate_left
                  · rintro w' ⟨s0, s1⟩
                    go_simp
                    with_reducible rfl
                  rotate_left
                  · simp only [Act.put, List.setIfInBounds_toArray, List.set_cons_zero, List.set_cons_succ, i64_w, i32_w]
                    rfl
                  refine one_ (i := 11) (N := some 23) bz1b_12 rfl rfl (one_of HT_.out (by kernel_rfl)) (by decide) (fun K hK => ?_)
                  refine goes_ Tryd.func77 (by kernel_rfl) rfl #[.string ((rd_T122 l0 x7_1).f1), .int .i64 100, .int .u8 32] (by rfl) rfl rfl xa ?_
                  with_reducible refine (span_plain.calls k1 ((rd_T122 l0 x7_1).f1) 100 32 false _ A15.out (Tabs.below HTabs0_.out xq1)).mono ?_
                  rintro e w44 ⟨rfl, hb⟩
                  refine ⟨_, rfl, ?_⟩
                  have n0_ := Aside0.mk (blk_below (g := gb124) (o := .cells #[.int .i64 ((rd_T122 l0 x7_1).f0), .string ((rd_T122 l0 x7_1).f1)] 122 (0, 0)) (xb BK124) hb)
                  have n1_ := Aside0.mk (below_step xq1 hb)
                  clear BK124
                  clear HB
                  have BK124 := n0_
                  have HB := n1_
                  clear n0_ n1_
                  (try clear hb)
                  (try clear hb2)
                  (try clear hk)
                  (try clear hi)
                  refine hK.out _ _ ⟨(blk_cell BK124.out 0).trans rfl, (blk_cell BK124.out 1).trans rfl⟩ (fun hHeld => ?_)
                  clear hK K
                  refine norm_ (a' := ?_) ?_ ?_
                  rotate_left
                  · show Act.put _ (some 23) _ = _
                    simp only [Act.put, List.setIfInBounds_toArray, List.set_cons_zero, List.set_cons_succ, i64_w, i32_w]
                    rfl
                  refine pz_ (i := 12) (N := some 24) bz1b_13 (any_of HT_.out (by kernel_rfl)) ?_
                  refine pz_ (i := 13) (N := some 25) bz1b_14 (any_of HT_.out (by kernel_rfl)) ?_
                  refine pz_ (i := 14) (N := some 26) bz1b_15 (any_of HT_.out (by kernel_rfl)) ?_
                  refine pu_ (i := 15) (N := some 27) bz1b_16 (any_of HT_.out (by kernel_rfl)) ?_
                  refine pu_ (i := 16) (N := some 28) bz1b_17 (any_of HT_.out (by kernel_rfl)) ?_
                  refine pu_ (i := 17) (N := some 29) bz1b_18 (any_of HT_.out (by kernel_rfl)) ?_
                  refine pu_ (i := 18) (N := some 30) bz1b_19 (any_of HT_.out (by kernel_rfl)) ?_
                  refine pu_ (i := 19) (N := some 31) bz1b_20 (any_of HT_.out (by kernel_rfl)) ?_
                  refine pu_ (i := 20) (N := some 32) bz1b_21 (any_of HT_.out (by kernel_rfl)) ?_
                  refine pu_ (i := 21) (N := some 33) bz1b_22 (any_of HT_.out (by kernel_rfl)) ?_
                  refine pu_ (i := 22) (N := some 34) bz1b_23 (any_of HT_.out (by kernel_rfl)) ?_
                  refine pu_ (i := 23) (N := some 35) bz1b_24 (any_of HT_.out (by kernel_rfl)) ?_
                  refine pu_ (i := 24) (N := some 36) bz1b_25 (any_of HT_.out (by kernel_rfl)) ?_
                  refine pu_ (i := 25) (N := some 37) bz1b_26 (any_of HT_.out (by kernel_rfl)) ?_
                  refine pu_ (i := 26) (N := some 38) bz1b_27 (any_of HT_.out (by kernel_rfl)) ?_
                  refine pz_ (i := 27) (N := some 39) bz1b_28 (any_of HT_.out (by kernel_rfl)) ?_
                  refine done_ (done_of HT_.out (by kernel_rfl)) ?_
                  try go_wp2
                  go_ret
                  exact ⟨by first | rfl | (simp [errW_none, errW_some] <;> rfl) | (simp [*, errW_none, errW_some] <;> rfl), by repeat (first | (with_reducible first | exact HB.out | apply below_alloc | apply pw_below_drewN | apply below_drew1 | refine below_set ?_ GE124.out) | exact HB.out)⟩
          · rw [if_neg c4] at H
            exact absurd H (by simp)
        · rw [if_neg c3] at H
          exact absurd H (by simp)
      · rw [if_neg c2] at H
        have c2b0 : decide (x7_1 < (l0.length : Int)) = false := decide_eq_false c2
        clear c2
        obtain rfl := Option.some.inj H
        go_wp2
        go_ret
        exact ⟨by first | rfl | (simp [errW_none, errW_some] <;> rfl) | (simp [*, errW_none, errW_some] <;> rfl), by repeat (first | (with_reducible first | exact HB.out | apply below_alloc | apply pw_below_drewN | apply below_drew1) | exact HB.out)⟩

end Go.Proofs.YtdlnfmakfnggpaaDoor.Pr
