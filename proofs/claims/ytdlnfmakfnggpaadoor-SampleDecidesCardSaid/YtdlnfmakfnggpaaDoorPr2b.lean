-- by xprint.py, a program of the session's own, over the kit's print. Not trusted: Lean checks it.
import Derived.Test.YtdlnfmakfnggpaaDoorLe
import Derived.Test.YtdlnfmakfnggpaaDoorPr0
import Derived.Test.YtdlnfmakfnggpaaDoorPr1a
import Derived.Test.YtdlnfmakfnggpaaDoorPr2a
import Derived.Test.YtdlnfmakfnggpaaDoorSh
namespace Go.Proofs.YtdlnfmakfnggpaaDoor.Pr
open Go.RowKit Go.Proofs.YtdlnfmakfnggpaaDoorW.PrintWords Go.Proofs.YtdlnfmakfnggpaaDoorW.PrintLast Go.Proofs.YtdlnfmakfnggpaaDoorW.PrintMore
attribute [local go_sem] max2_int min2_int max_two min_two max_three min_three max_four min_four   -- for this text's walks alone
set_option linter.unusedVariables false
set_option linter.unusedSimpArgs false
def bz2b_0 : Array Bool := #[false, false, false, false, false, false, false, false, false, false, false, false, false, false, false, false, false, false, false, false, false, false, false, false, false]
def bz2b_1 : Array Bool := #[true, false, false, false, false, false, false, false, false, false, false, false, false, false, false, false, false, false, false, false, false, false, false, false, false]
def bz2b_2 : Array Bool := #[true, true, false, false, false, false, false, false, false, false, false, false, false, false, false, false, false, false, false, false, false, false, false, false, false]
def bz2b_3 : Array Bool := #[true, true, true, false, false, false, false, false, false, false, false, false, false, false, false, false, false, false, false, false, false, false, false, false, false]
def bz2b_4 : Array Bool := #[true, true, true, true, false, false, false, false, false, false, false, false, false, false, false, false, false, false, false, false, false, false, false, false, false]
def bz2b_5 : Array Bool := #[true, true, true, true, true, false, false, false, false, false, false, false, false, false, false, false, false, false, false, false, false, false, false, false, false]
def bz2b_6 : Array Bool := #[true, true, true, true, true, true, false, false, false, false, false, false, false, false, false, false, false, false, false, false, false, false, false, false, false]
def bz2b_7 : Array Bool := #[true, true, true, true, true, true, true, false, false, false, false, false, false, false, false, false, false, false, false, false, false, false, false, false, false]
def bz2b_8 : Array Bool := #[true, true, true, true, true, true, true, true, false, false, false, false, false, false, false, false, false, false, false, false, false, false, false, false, false]
def bz2b_9 : Array Bool := #[true, true, true, true, true, true, true, true, true, false, false, false, false, false, false, false, false, false, false, false, false, false, false, false, false]
def bz2b_10 : Array Bool := #[true, true, true, true, true, true, true, true, true, true, false, false, false, false, false, false, false, false, false, false, false, false, false, false, false]
def bz2b_11 : Array Bool := #[true, true, true, true, true, true, true, true, true, true, true, false, false, false, false, false, false, false, false, false, false, false, false, false, false]
def bz2b_12 : Array Bool := #[true, true, true, true, true, true, true, true, true, true, true, true, false, false, false, false, false, false, false, false, false, false, false, false, false]
def bz2b_13 : Array Bool := #[true, true, true, true, true, true, true, true, true, true, true, true, true, false, false, false, false, false, false, false, false, false, false, false, false]
def bz2b_14 : Array Bool := #[true, true, true, true, true, true, true, true, true, true, true, true, true, true, false, false, false, false, false, false, false, false, false, false, false]
def bz2b_15 : Array Bool := #[true, true, true, true, true, true, true, true, true, true, true, true, true, true, true, false, false, false, false, false, false, false, false, false, false]
def bz2b_16 : Array Bool := #[true, true, true, true, true, true, true, true, true, true, true, true, true, true, true, true, false, false, false, false, false, false, false, false, false]
def bz2b_17 : Array Bool := #[true, true, true, true, true, true, true, true, true, true, true, true, true, true, true, true, true, false, false, false, false, false, false, false, false]
def bz2b_18 : Array Bool := #[true, true, true, true, true, true, true, true, true, true, true, true, true, true, true, true, true, true, false, false, false, false, false, false, false]
def bz2b_19 : Array Bool := #[true, true, true, true, true, true, true, true, true, true, true, true, true, true, true, true, true, true, true, false, false, false, false, false, false]
def bz2b_20 : Array Bool := #[true, true, true, true, true, true, true, true, true, true, true, true, true, true, true, true, true, true, true, false, true, false, false, false, false]
def bz2b_21 : Array Bool := #[true, true, true, true, true, true, true, true, true, true, true, true, true, true, true, true, true, true, true, true, true, false, false, false, false]
def bz2b_22 : Array Bool := #[true, true, true, true, true, true, true, true, true, true, true, true, true, true, true, true, true, true, true, true, true, true, false, false, false]
def bz2b_23 : Array Bool := #[true, true, true, true, true, true, true, true, true, true, true, true, true, true, true, true, true, true, true, true, true, true, true, false, false]
def bz2b_24 : Array Bool := #[true, true, true, true, true, true, true, true, true, true, true, true, true, true, true, true, true, true, true, true, true, true, true, true, false]
def bz2b_25 : Array Bool := #[true, true, true, true, true, true, true, true, true, true, true, true, true, true, true, true, true, true, true, true, true, true, true, true, true]
def bz2b_26 : Array Bool := #[true, true, true, true, true, true, true, true, true, true, true, true, true, true, true, true, true, true, true, true, false, false, false, false, false]

/-! ### span_carried: function 79 -/
def span_carried.l0 : Nat → List (S120) → List (S120) → Int → Int → Option (Bool)
  | 0, _, _, _, _ => none
  | k + 1, x0, x5, x6, x7 => if x7 < x6 then (if 0 ≤ x7 then (if x7 < (x5.length : Int) then ((span_keyed.f k ((rd_T120 x5 x7).f0)).bind fun t109 => (if t109 = true then ((span_valued.f ((rd_T120 x5 x7).f1.f0) ((rd_T120 x5 x7).f1.f1) ((rd_T120 x5 x7).f1.f2)).bind fun t110 => (if t110 = true then (if x7 > 0 then (if 0 ≤ (wrap64 (x7 - 1)) then (if (wrap64 (x7 - 1)) < (x0.length : Int) then (if ((Op.bytesLess (((rd_T120 x0 (wrap64 (x7 - 1))).f0).toList) (((rd_T120 x5 x7).f0).toList)) = true) then (span_carried.l0 k x0 x5 x6 (wrap64 (x7 + 1))) else (some false)) else (none)) else (none)) else (span_carried.l0 k x0 x5 x6 (wrap64 (x7 + 1)))) else (some false))) else (some false))) else (none)) else (none)) else (some (decide ((x0.length : Int) ≤ 32)))
def span_carried.f (k : Nat) (l0 : List (S120)) : Option (Bool) := span_carried.l0 k l0 l0 (l0.length : Int) 0
theorem span_carried.mono_l : ∀ k, (∀ y0 y1 y2 y3, LeO (span_carried.l0 k y0 y1 y2 y3) (span_carried.l0 (k + 1) y0 y1 y2 y3))
  | 0 => fun _ _ _ _ r h => by simp [span_carried.l0] at h
  | k + 1 => by
    have ih0 := span_carried.mono_l k
    · intro y0 y1 y2 y3
      unfold span_carried.l0
      repeat' first
      | (with_reducible exact ih0 _ _ _ _)
      | (with_reducible exact span_keyed.mono _ _)
      | (with_reducible exact LeO.refl _)
      | (with_reducible exact LeO.none _)
      | (with_reducible refine LeO.ite ?_ ?_)
      | (with_reducible refine LeO.bind ?_ (fun _ => ?_))
      | exact ih0 _ _ _ _
      | exact span_keyed.mono _ _
      | exact LeO.none _
      | refine LeO.ite ?_ ?_
      | refine LeO.bind ?_ (fun _ => ?_)
theorem span_carried.mono : ∀ a0 k, LeO (span_carried.f k a0) (span_carried.f (k + 1) a0) := by
  intro a0 k
  have ih0 := span_carried.mono_l k
  unfold span_carried.f
  repeat' first
      | (with_reducible exact ih0 _ _ _ _)
      | (with_reducible exact span_keyed.mono _ _)
      | (with_reducible exact LeO.refl _)
      | (with_reducible exact LeO.none _)
      | (with_reducible refine LeO.ite ?_ ?_)
      | (with_reducible refine LeO.bind ?_ (fun _ => ?_))
      | exact ih0 _ _ _ _
      | exact span_keyed.mono _ _
      | exact LeO.none _
      | refine LeO.ite ?_ ?_
      | refine LeO.bind ?_ (fun _ => ?_)
def span_carried.T4 : Bool × List (List Nat × List Nat) := (true, [([], []), ([0], [0]), ([1], [1]), ([2], [2]), ([3, 2], [3]), ([4], [4]), ([5, 4], [4, 5]), ([6, 4, 4], [4, 6]), ([7, 4], [4, 7]), ([4, 8], [4, 8]), ([9, 7], [9]), ([10], [10]), ([11, 10], [10, 11]), ([12, 10, 10], [10, 12]), ([13], [13]), ([13], [13]), ([15, 13], [13, 15]), ([14, 16, 13], [13, 14, 16]), ([17, 13], [13, 17]), ([18, 13], [13, 18]), ([13], [13]), ([20, 13], [13, 20]), ([19, 21, 13], [13, 19, 21]), ([13, 22, 10], [10, 13, 22]), ([10, 23], [10, 23])])
def span_carried.B4 : List Nat := [0, 1, 3, 7, 15, 31, 63, 127, 255, 511, 1023, 2047, 4095, 8191, 16383, 16383, 49151, 131071, 262143, 524287, 16383, 1064959, 4194303, 8388607, 16777215]
theorem span_carried.tab4 : rtab .any (opsOf Tryd.f79 4) = span_carried.T4 := by kernel_rfl
theorem span_carried.bits4 : waitsOk span_carried.T4.2 span_carried.B4 = true := by kernel_rfl
set_option maxHeartbeats 8000000 in
set_option maxRecDepth 100000 in
theorem span_carried.calls (k : Nat) (A0 : Option Addr) (c0 : Nat) (l0 : List (S120)) (r : Bool) (w : World) (hr0 : Kd.C k120 w A0 l0.length l0) (hc0 : l0.length ≤ c0) (h : span_carried.f k l0 = some r) (hTabs_ : Tabs w) :
    Calls Tryd.prog 79 #[.slice A0 l0.length c0] w fun e w' => e = .returned (.bool r) ∧ Below w.heap.size w w' := by
  have HTabs0_ := Aside0.mk hTabs_
  clear hTabs_
  have hu120 := Tryd.underlying120
  have hu118 := Tryd.underlying118
  have HR0 := Aside0.mk hr0
  have HC0 := Aside0.mk hc0
  clear hr0 hc0
  have HB := Aside0.mk (Below.refl w.heap.size w)
  have H : (span_carried.l0 k l0 l0 (l0.length : Int) 0) = some r := h
  clear h
  have H' := Aside0.mk H
  clear H
  go_enter Tryd.func79, Tryd.ntmps79
  go_wp2
  go_loopg [7] k (fun kq v7 w' => ∃ (x7_1 : Int), v7 = .int .i64 x7_1 ∧ Aside0 (span_carried.l0 kq l0 l0 (l0.length : Int) x7_1 = some r) ∧ Aside0 (kq ≤ k) ∧ Aside0 (Below w.heap.size w w'))
  case atStart => exact ⟨(0), (by first | rfl | (simp; done) | (simp [*]; done)), H', ⟨Nat.le_refl _⟩, ⟨by repeat (first | (with_reducible first | exact HB.out | apply below_alloc | apply pw_below_drewN | apply below_drew1) | exact HB.out)⟩⟩
  case round =>
    clear H'
    obtain ⟨x7_1, rfl, HA, HK1, HB⟩ := hrel
    cases gk with
    | zero => exact absurd HA.out (by simp [span_carried.l0])
    | succ k1 =>
      have H := HA.out
      clear HA
      simp only [span_carried.l0] at H
      by_cases c2 : x7_1 < (l0.length : Int)
      · rw [if_pos c2] at H
        have c2b0 : decide (x7_1 < (l0.length : Int)) = true := decide_eq_true c2
        clear c2
        by_cases c3 : 0 ≤ x7_1
        · rw [if_pos c3] at H
          have c3b0 : decide (0 ≤ x7_1) = true := decide_eq_true c3
          clear c3
          by_cases c4 : x7_1 < (l0.length : Int)
          · rw [if_pos c4] at H
            have c4b0 : decide (x7_1 < (l0.length : Int)) = true := decide_eq_true c4
            clear c4
            replace H := Option.bind_eq_some_iff.mp H
            obtain ⟨t109, A50, H⟩ := H
            replace H : (if t109 = true then ((span_valued.f ((rd_T120 l0 x7_1).f1.f0) ((rd_T120 l0 x7_1).f1.f1) ((rd_T120 l0 x7_1).f1.f2)).bind fun t110 => (if t110 = true then (if x7_1 > 0 then (if 0 ≤ (wrap64 (x7_1 - 1)) then (if (wrap64 (x7_1 - 1)) < (l0.length : Int) then (if ((Op.bytesLess (((rd_T120 l0 (wrap64 (x7_1 - 1))).f0).toList) (((rd_T120 l0 x7_1).f0).toList)) = true) then (span_carried.l0 k1 l0 l0 (l0.length : Int) (wrap64 (x7_1 + 1))) else (some false)) else (none)) else (none)) else (span_carried.l0 k1 l0 l0 (l0.length : Int) (wrap64 (x7_1 + 1)))) else (some false))) else (some false)) = some r := H
            have A5 := Aside0.mk A50
            clear A50
            by_cases c6 : t109 = true
            · subst c6
              have H1 : ((span_valued.f ((rd_T120 l0 x7_1).f1.f0) ((rd_T120 l0 x7_1).f1.f1) ((rd_T120 l0 x7_1).f1.f2)).bind fun t110 => (if t110 = true then (if x7_1 > 0 then (if 0 ≤ (wrap64 (x7_1 - 1)) then (if (wrap64 (x7_1 - 1)) < (l0.length : Int) then (if ((Op.bytesLess (((rd_T120 l0 (wrap64 (x7_1 - 1))).f0).toList) (((rd_T120 l0 x7_1).f0).toList)) = true) then (span_carried.l0 k1 l0 l0 (l0.length : Int) (wrap64 (x7_1 + 1))) else (some false)) else (none)) else (none)) else (span_carried.l0 k1 l0 l0 (l0.length : Int) (wrap64 (x7_1 + 1)))) else (some false))) = some r := by rw [if_pos rfl] at H; exact H
              clear H
              have H := H1
              clear H1
              replace H := Option.bind_eq_some_iff.mp H
              obtain ⟨t110, A70, H⟩ := H
              replace H : (if t110 = true then (if x7_1 > 0 then (if 0 ≤ (wrap64 (x7_1 - 1)) then (if (wrap64 (x7_1 - 1)) < (l0.length : Int) then (if ((Op.bytesLess (((rd_T120 l0 (wrap64 (x7_1 - 1))).f0).toList) (((rd_T120 l0 x7_1).f0).toList)) = true) then (span_carried.l0 k1 l0 l0 (l0.length : Int) (wrap64 (x7_1 + 1))) else (some false)) else (none)) else (none)) else (span_carried.l0 k1 l0 l0 (l0.length : Int) (wrap64 (x7_1 + 1)))) else (some false)) = some r := H
              have A7 := Aside0.mk A70
              clear A70
              by_cases c8 : t110 = true
              · subst c8
                have H1 : (if x7_1 > 0 then (if 0 ≤ (wrap64 (x7_1 - 1)) then (if (wrap64 (x7_1 - 1)) < (l0.length : Int) then (if ((Op.bytesLess (((rd_T120 l0 (wrap64 (x7_1 - 1))).f0).toList) (((rd_T120 l0 x7_1).f0).toList)) = true) then (span_carried.l0 k1 l0 l0 (l0.length : Int) (wrap64 (x7_1 + 1))) else (some false)) else (none)) else (none)) else (span_carried.l0 k1 l0 l0 (l0.length : Int) (wrap64 (x7_1 + 1)))) = some r := by rw [if_pos rfl] at H; exact H
                clear H
                have H := H1
                clear H1
                by_cases c9 : x7_1 > 0
                · rw [if_pos c9] at H
                  have c9b0 : decide (0 < x7_1) = true := decide_eq_true c9
                  clear c9
                  obtain ⟨ji10, hji10⟩ : ∃ j_ : Int, (wrap64 (x7_1 - 1)) = j_ := ⟨_, rfl⟩
                  replace H : (if 0 ≤ (ji10) then (if (ji10) < (l0.length : Int) then (if ((Op.bytesLess (((rd_T120 l0 (ji10)).f0).toList) (((rd_T120 l0 x7_1).f0).toList)) = true) then (span_carried.l0 k1 l0 l0 (l0.length : Int) (wrap64 (x7_1 + 1))) else (some false)) else (none)) else (none)) = some r := by first | (rw [hji10] at H; exact H) | (simp only [hji10] at H ⊢; exact H)
                  (try rw [hji10] at A5)
                  (try rw [hji10] at A7)
                  have hji10w : (IntKind.i64.wrap (x7_1 - 1)) = ji10 := (i64_w _).trans hji10
                  by_cases c11 : 0 ≤ (ji10)
                  · rw [if_pos c11] at H
                    have c11b0 : decide (0 ≤ (ji10)) = true := decide_eq_true c11
                    clear c11
                    by_cases c12 : (ji10) < (l0.length : Int)
                    · rw [if_pos c12] at H
                      have c12b0 : decide ((ji10) < (l0.length : Int)) = true := decide_eq_true c12
                      clear c12
                      by_cases c13 : ((Op.bytesLess (((rd_T120 l0 (ji10)).f0).toList) (((rd_T120 l0 x7_1).f0).toList)) = true)
                      · rw [if_pos c13] at H
                        have c13b0 : (Op.bytesLess (((rd_T120 l0 (ji10)).f0).toList) (((rd_T120 l0 x7_1).f0).toList)) = true := c13
                        clear c13
                        have H' := Aside0.mk H
                        clear H
                        have p107 : 0 ≤ (x7_1 : Int) := of_decide_eq_true (by first | (with_reducible assumption) | assumption)
                        have q107 : x7_1 < (l0.length : Int) := of_decide_eq_true (by first | (with_reducible assumption) | assumption)
                        obtain ⟨ad107, e107, hx107_0, hx107_1, hx107_2, hx107_3⟩ := at_T120 HR0.out x7_1 p107 q107
                        cases e107
                        replace hx107_0 := (HB.out.cell (World.block_lt_of_cell? w _ hx107_0)).trans hx107_0
                        replace hx107_1 := (HB.out.cell (World.block_lt_of_cell? w _ hx107_1)).trans hx107_1
                        replace hx107_2 := (HB.out.cell (World.block_lt_of_cell? w _ hx107_2)).trans hx107_2
                        replace hx107_3 := (HB.out.cell (World.block_lt_of_cell? w _ hx107_3)).trans hx107_3
                        replace p107 := eq_true p107
                        replace q107 := eq_true q107
                        try go_wp2_with (first | ((with_reducible refine gate_dst (N := 4) rfl ?_); refine box_event ?hg (N := 4) ?hd (cs := #[.string (⟨#[]⟩ : ByteArray), .int .i64 0, .string (⟨#[]⟩ : ByteArray), .int .i64 0]) (t := 120) ?hr ?_; (case hd => rfl); (case hg => rfl); (case hr => first | (go_simp; done) | (go_simp; rfl)); intro gb108 hg w14 hbox hb; have n0_ := Aside0.mk (below_step xq0 hb); have n1_ := Aside0.mk (hbox); have n2_ := Aside0.mk ((by rw [hg]; exact (below_size xq0) : w.heap.size ≤ gb108)); have n3_ := Aside0.mk ((by rw [hg]; exact (below_size xq0) : w.heap.size ≤ gb108)); clear HB; have HB := n0_; have BK108 := n1_; have GW108 := n2_; have GE108 := n3_; clear n0_ n1_ n2_ n3_; clear hb hbox hg; have hcz15_0 : w14.cell? ⟨gb108, 0, none⟩ = some (.string (⟨#[]⟩ : ByteArray)) := (blk_cell BK108.out 0).trans rfl; have hcz15_1 : w14.cell? ⟨gb108, 1, none⟩ = some (.int .i64 0) := (blk_cell BK108.out 1).trans rfl; have hcz15_2 : w14.cell? ⟨gb108, 2, none⟩ = some (.string (⟨#[]⟩ : ByteArray)) := (blk_cell BK108.out 2).trans rfl; have hcz15_3 : w14.cell? ⟨gb108, 3, none⟩ = some (.int .i64 0) := (blk_cell BK108.out 3).trans rfl; have hfz15_0 := blk_frozen BK108.out 0; have hfz15_1 := blk_frozen BK108.out 1; have hfz15_2 := blk_frozen BK108.out 2; have hfz15_3 := blk_frozen BK108.out 3))
                        have n0_ : Aside0 (((((w14.setCell ⟨gb108, 0, none⟩ (.string ((rd_T120 l0 x7_1).f0))).setCell ⟨gb108, 1, none⟩ (.int .i64 ((rd_T120 l0 x7_1).f1.f0))).setCell ⟨gb108, 2, none⟩ (.string ((rd_T120 l0 x7_1).f1.f1))).setCell ⟨gb108, 3, none⟩ (.int .i64 ((rd_T120 l0 x7_1).f1.f2))).heap[gb108]? = some (.cells #[.string ((rd_T120 l0 x7_1).f0), .int .i64 ((rd_T120 l0 x7_1).f1.f0), .string ((rd_T120 l0 x7_1).f1.f1), .int .i64 ((rd_T120 l0 x7_1).f1.f2)] 120 (0, 0))) := ⟨by (with_reducible repeat (first | refine blk_drewN ?_ _ | refine blk_drew ?_ | refine blk_alloc ?_ _)); refine blk_put (cs := #[.string ((rd_T120 l0 x7_1).f0), .int .i64 ((rd_T120 l0 x7_1).f1.f0), .string ((rd_T120 l0 x7_1).f1.f1), .int .i64 0]) ?_ 3 _ rfl; (with_reducible repeat (first | refine blk_drewN ?_ _ | refine blk_drew ?_ | refine blk_alloc ?_ _)); refine blk_put (cs := #[.string ((rd_T120 l0 x7_1).f0), .int .i64 ((rd_T120 l0 x7_1).f1.f0), .string (⟨#[]⟩ : ByteArray), .int .i64 0]) ?_ 2 _ rfl; (with_reducible repeat (first | refine blk_drewN ?_ _ | refine blk_drew ?_ | refine blk_alloc ?_ _)); refine blk_put (cs := #[.string ((rd_T120 l0 x7_1).f0), .int .i64 0, .string (⟨#[]⟩ : ByteArray), .int .i64 0]) ?_ 1 _ rfl; (with_reducible repeat (first | refine blk_drewN ?_ _ | refine blk_drew ?_ | refine blk_alloc ?_ _)); refine blk_put (cs := #[.string (⟨#[]⟩ : ByteArray), .int .i64 0, .string (⟨#[]⟩ : ByteArray), .int .i64 0]) ?_ 0 _ rfl; (with_reducible repeat (first | refine blk_drewN ?_ _ | refine blk_drew ?_ | refine blk_alloc ?_ _)); exact BK108.out⟩
                        have n1_ : Aside0 (Below w.heap.size w ((((w14.setCell ⟨gb108, 0, none⟩ (.string ((rd_T120 l0 x7_1).f0))).setCell ⟨gb108, 1, none⟩ (.int .i64 ((rd_T120 l0 x7_1).f1.f0))).setCell ⟨gb108, 2, none⟩ (.string ((rd_T120 l0 x7_1).f1.f1))).setCell ⟨gb108, 3, none⟩ (.int .i64 ((rd_T120 l0 x7_1).f1.f2)))) := ⟨by repeat (first | (with_reducible first | exact HB.out | apply below_alloc | apply pw_below_drewN | apply below_drew1 | refine below_set ?_ GE108.out) | exact HB.out)⟩
                        (try clear BK108)
                        (try clear HB)
                        generalize ((((w14.setCell ⟨gb108, 0, none⟩ (.string ((rd_T120 l0 x7_1).f0))).setCell ⟨gb108, 1, none⟩ (.int .i64 ((rd_T120 l0 x7_1).f1.f0))).setCell ⟨gb108, 2, none⟩ (.string ((rd_T120 l0 x7_1).f1.f1))).setCell ⟨gb108, 3, none⟩ (.int .i64 ((rd_T120 l0 x7_1).f1.f2))) = w16 at n0_ n1_ ⊢
                        have BK108 := n0_
                        have HB := n1_
                        clear n0_ n1_
                        have n0_ := Aside0.mk (blk_drew BK108.out)
                        have n1_ := Aside0.mk (below_drew1 HB.out)
                        clear BK108
                        clear HB
                        have BK108 := n0_
                        have HB := n1_
                        clear n0_ n1_
                        have p111 : 0 ≤ ((ji10) : Int) := of_decide_eq_true (by first | (with_reducible assumption) | assumption)
                        have q111 : (ji10) < (l0.length : Int) := of_decide_eq_true (by first | (with_reducible assumption) | assumption)
                        obtain ⟨ad111, e111, hx111_0, hx111_1, hx111_2, hx111_3⟩ := at_T120 HR0.out (ji10) p111 q111
                        have hw111_3 := hx111_3
                        have hw111_2 := hx111_2
                        have hw111_1 := hx111_1
                        have hw111_0 := hx111_0
                        obtain rfl : ad107 = ad111 := (by injection e111)
                        replace hx111_0 := (HB.out.cell (World.block_lt_of_cell? w _ hx111_0)).trans hx111_0
                        replace hx111_1 := (HB.out.cell (World.block_lt_of_cell? w _ hx111_1)).trans hx111_1
                        replace hx111_2 := (HB.out.cell (World.block_lt_of_cell? w _ hx111_2)).trans hx111_2
                        replace hx111_3 := (HB.out.cell (World.block_lt_of_cell? w _ hx111_3)).trans hx111_3
                        replace p111 := eq_true p111
                        replace q111 := eq_true q111
                        refine start_ (n := 25) (S := fun w' => w'.cell? ⟨gb108, 0, none⟩ = some (.string ((rd_T120 l0 x7_1).f0)) ∧ w'.cell? ⟨gb108, 1, none⟩ = some (.int .i64 ((rd_T120 l0 x7_1).f1.f0)) ∧ w'.cell? ⟨gb108, 2, none⟩ = some (.string ((rd_T120 l0 x7_1).f1.f1)) ∧ w'.cell? ⟨gb108, 3, none⟩ = some (.int .i64 ((rd_T120 l0 x7_1).f1.f2)) ∧ w'.cell? (ad107.add (((ji10)).toNat * 4)) = some (.string ((rd_T120 l0 (ji10)).f0)) ∧ w'.cell? ⟨(ad107.add (((ji10)).toNat * 4)).block, (ad107.add (((ji10)).toNat * 4)).off + 1, none⟩ = some (.int .i64 ((rd_T120 l0 (ji10)).f1.f0)) ∧ w'.cell? ⟨(ad107.add (((ji10)).toNat * 4)).block, (ad107.add (((ji10)).toNat * 4)).off + 2, none⟩ = some (.string ((rd_T120 l0 (ji10)).f1.f1)) ∧ w'.cell? ⟨(ad107.add (((ji10)).toNat * 4)).block, (ad107.add (((ji10)).toNat * 4)).off + 3, none⟩ = some (.int .i64 ((rd_T120 l0 (ji10)).f1.f2))) (ds := []) bz2b_0 (by kernel_rfl) rfl rfl ⟨(blk_cell BK108.out 0).trans rfl, (blk_cell BK108.out 1).trans rfl, (blk_cell BK108.out 2).trans rfl, (blk_cell BK108.out 3).trans rfl, ((HB.out.cell (World.block_lt_of_cell? w _ hw111_0)).trans hw111_0), ((HB.out.cell (World.block_lt_of_cell? w _ hw111_1)).trans hw111_1), ((HB.out.cell (World.block_lt_of_cell? w _ hw111_2)).trans hw111_2), ((HB.out.cell (World.block_lt_of_cell? w _ hw111_3)).trans hw111_3)⟩ (fun hHeld => ?_); refine with_tabW span_carried.tab4 span_carried.bits4 (fun HT_ HW_ => ?_)
                        generalize w16.drew = w17 at BK108 HB hx111_0 hx111_1 hx111_2 hx111_3 hHeld ⊢
                        refine pz_ (i := 0) (N := some 12) bz2b_1 (any_of HT_.out (by kernel_rfl)) ?_
                        refine take_ (i := 1) (N := some 13) (v := ?_) (a' := ?_) bz2b_2 rfl rfl (take_ofW HT_.out HW_.out (by kernel_rfl)) (fun _ _ _ h => h) (Or.inl ⟨by rfl, ?_⟩) hHeld ?_ ?_
                        rotate_left
                        · rintro w' ⟨s0, s1, s2, s3, s4, s5, s6, s7⟩
                          go_simp
                          with_reducible rfl
                        rotate_left
                        · simp only [Act.put, List.setIfInBounds_toArray, List.set_cons_zero, List.set_cons_succ, i64_w, i32_w]
                          rfl
                        refine one_ (i := 2) (N := some 14) bz2b_3 rfl rfl (one_of HT_.out (by kernel_rfl)) (by decide) (fun K hK => ?_)
                        refine goes_ Tryd.func91 (by kernel_rfl) rfl #[.string ((rd_T120 l0 x7_1).f0)] (by rfl) rfl rfl xa ?_
                        with_reducible refine (span_keyed.calls k1 ((rd_T120 l0 x7_1).f0) true _ A5.out).mono ?_
                        rintro e w' ⟨rfl, ⟨nd, rfl⟩⟩
                        refine ⟨_, rfl, ?_⟩
                        refine hK.out _ _ ⟨(blk_cell BK108.out 0).trans rfl, (blk_cell BK108.out 1).trans rfl, (blk_cell BK108.out 2).trans rfl, (blk_cell BK108.out 3).trans rfl, ((HB.out.cell (World.block_lt_of_cell? w _ hw111_0)).trans hw111_0), ((HB.out.cell (World.block_lt_of_cell? w _ hw111_1)).trans hw111_1), ((HB.out.cell (World.block_lt_of_cell? w _ hw111_2)).trans hw111_2), ((HB.out.cell (World.block_lt_of_cell? w _ hw111_3)).trans hw111_3)⟩ (fun hHeld => ?_)
                        clear hK K
                        refine norm_ (a' := ?_) ?_ ?_
                        rotate_left
                        · show Act.put _ (some 14) _ = _
                          simp only [Act.put, List.setIfInBounds_toArray, List.set_cons_zero, List.set_cons_succ, i64_w, i32_w]
                          rfl
                        refine pz_ (i := 3) (N := some 15) bz2b_4 (any_of HT_.out (by kernel_rfl)) ?_
                        refine pz_ (i := 4) (N := some 16) bz2b_5 (any_of HT_.out (by kernel_rfl)) ?_
                        refine pz_ (i := 5) (N := some 17) bz2b_6 (any_of HT_.out (by kernel_rfl)) ?_
                        refine take_ (i := 6) (N := some 18) (v := ?_) (a' := ?_) bz2b_7 rfl rfl (take_ofW HT_.out HW_.out (by kernel_rfl)) (fun _ _ _ h => h) (Or.inl ⟨by rfl, ?_⟩) hHeld ?_ ?_
                        rotate_left
                        · rintro w' ⟨s0, s1, s2, s3, s4, s5, s6, s7⟩
                          go_simp
                          with_reducible rfl
                        rotate_left
                        · simp only [Act.put, List.setIfInBounds_toArray, List.set_cons_zero, List.set_cons_succ, i64_w, i32_w]
                          rfl
                        refine one_ (i := 7) (N := some 19) bz2b_8 rfl rfl (one_of HT_.out (by kernel_rfl)) (by decide) (fun K hK => ?_)
                        refine goes_ Tryd.func92 (by kernel_rfl) rfl #[.agg #[.int .i64 ((rd_T120 l0 x7_1).f1.f0), .string ((rd_T120 l0 x7_1).f1.f1), .int .i64 ((rd_T120 l0 x7_1).f1.f2)]] (by rfl) rfl rfl xa ?_
                        with_reducible refine (span_valued.calls ((rd_T120 l0 x7_1).f1.f0) ((rd_T120 l0 x7_1).f1.f1) ((rd_T120 l0 x7_1).f1.f2) true _ A7.out (Tabs.below HTabs0_.out xq1)).mono ?_
                        rintro e w18 ⟨rfl, hb⟩
                        refine ⟨_, rfl, ?_⟩
                        have n0_ := Aside0.mk (blk_below (g := gb108) (o := .cells #[.string ((rd_T120 l0 x7_1).f0), .int .i64 ((rd_T120 l0 x7_1).f1.f0), .string ((rd_T120 l0 x7_1).f1.f1), .int .i64 ((rd_T120 l0 x7_1).f1.f2)] 120 (0, 0)) (xb BK108) hb)
                        have n1_ := Aside0.mk (below_step xq1 hb)
                        clear BK108
                        clear HB
                        have BK108 := n0_
                        have HB := n1_
                        clear n0_ n1_
                        (try clear hb)
                        (try clear hb2)
                        (try clear hk)
                        (try clear hi)
                        refine hK.out _ _ ⟨(blk_cell BK108.out 0).trans rfl, (blk_cell BK108.out 1).trans rfl, (blk_cell BK108.out 2).trans rfl, (blk_cell BK108.out 3).trans rfl, ((HB.out.cell (World.block_lt_of_cell? w _ hw111_0)).trans hw111_0), ((HB.out.cell (World.block_lt_of_cell? w _ hw111_1)).trans hw111_1), ((HB.out.cell (World.block_lt_of_cell? w _ hw111_2)).trans hw111_2), ((HB.out.cell (World.block_lt_of_cell? w _ hw111_3)).trans hw111_3)⟩ (fun hHeld => ?_)
                        clear hK K
                        refine norm_ (a' := ?_) ?_ ?_
                        rotate_left
                        · show Act.put _ (some 19) _ = _
                          simp only [Act.put, List.setIfInBounds_toArray, List.set_cons_zero, List.set_cons_succ, i64_w, i32_w]
                          rfl
                        refine pz_ (i := 8) (N := some 20) bz2b_9 (any_of HT_.out (by kernel_rfl)) ?_
                        refine pz_ (i := 9) (N := some 21) bz2b_10 (any_of HT_.out (by kernel_rfl)) ?_
                        refine pz_ (i := 10) (N := some 22) bz2b_11 (any_of HT_.out (by kernel_rfl)) ?_
                        refine pz_ (i := 11) (N := some 23) bz2b_12 (any_of HT_.out (by kernel_rfl)) ?_
                        refine pz_ (i := 12) (N := some 24) bz2b_13 (any_of HT_.out (by kernel_rfl)) ?_
                        refine pz_ (i := 13) (N := some 25) bz2b_14 (any_of HT_.out (by kernel_rfl)) ?_
                        refine pz_ (i := 14) (N := some 26) bz2b_15 (any_of HT_.out (by kernel_rfl)) ?_
                        refine pz_ (i := 15) (N := some 27) bz2b_16 (any_of HT_.out (by kernel_rfl)) ?_
                        refine pz_ (i := 16) (N := some 28) bz2b_17 (any_of HT_.out (by kernel_rfl)) ?_
                        refine pz_ (i := 17) (N := some 29) bz2b_18 (any_of HT_.out (by kernel_rfl)) ?_
                        refine pz_ (i := 18) (N := some 30) bz2b_19 (any_of HT_.out (by kernel_rfl)) ?_
                        refine pz_ (i := 20) (N := some 32) bz2b_20 (any_of HT_.out (by kernel_rfl)) ?_
                        refine take_ (i := 19) (N := some 31) (v := ?_) (a' := ?_) bz2b_21 rfl rfl (take_ofW HT_.out HW_.out (by kernel_rfl)) (fun _ _ _ h => h) (Or.inl ⟨by rfl, ?_⟩) hHeld ?_ ?_
                        rotate_left
                        · rintro w' ⟨s0, s1, s2, s3, s4, s5, s6, s7⟩
                          go_simp
                          with_reducible rfl
                        rotate_left
                        · simp only [Act.put, List.setIfInBounds_toArray, List.set_cons_zero, List.set_cons_succ, i64_w, i32_w]
                          rfl
                        refine take_ (i := 21) (N := some 33) (v := ?_) (a' := ?_) bz2b_22 rfl rfl (take_ofW HT_.out HW_.out (by kernel_rfl)) (fun _ _ _ h => h) (Or.inl ⟨by rfl, ?_⟩) hHeld ?_ ?_
                        rotate_left
                        · rintro w' ⟨s0, s1, s2, s3, s4, s5, s6, s7⟩
                          go_simp
                          with_reducible rfl
                        rotate_left
                        · simp only [Act.put, List.setIfInBounds_toArray, List.set_cons_zero, List.set_cons_succ, i64_w, i32_w]
                          rfl
                        refine pz_ (i := 22) (N := some 34) bz2b_23 (any_of HT_.out (by kernel_rfl)) ?_
                        refine pz_ (i := 23) (N := some 35) bz2b_24 (any_of HT_.out (by kernel_rfl)) ?_
                        refine pz_ (i := 24) (N := some 36) bz2b_25 (any_of HT_.out (by kernel_rfl)) ?_
                        refine done_ (done_of HT_.out (by kernel_rfl)) ?_
                        try go_wp2
                        go_roundg k1
                        case measure => have := HK1.out; omega
                        case rel => exact ⟨(wrap64 (x7_1 + 1)), (by first | rfl | (simp; done) | (simp [*]; done)), H', ⟨by have := HK1.out; omega⟩, ⟨by repeat (first | (with_reducible first | exact HB.out | apply below_alloc | apply pw_below_drewN | apply below_drew1 | refine below_set ?_ GE108.out) | exact HB.out)⟩⟩
                      · rw [if_neg c13] at H
                        have c13b0 : (Op.bytesLess (((rd_T120 l0 (ji10)).f0).toList) (((rd_T120 l0 x7_1).f0).toList)) = false := by simpa using c13
                        clear c13
                        obtain rfl := Option.some.inj H
                        have p107 : 0 ≤ (x7_1 : Int) := of_decide_eq_true (by first | (with_reducible assumption) | assumption)
                        have q107 : x7_1 < (l0.length : Int) := of_decide_eq_true (by first | (with_reducible assumption) | assumption)
                        obtain ⟨ad107, e107, hx107_0, hx107_1, hx107_2, hx107_3⟩ := at_T120 HR0.out x7_1 p107 q107
                        cases e107
                        replace hx107_0 := (HB.out.cell (World.block_lt_of_cell? w _ hx107_0)).trans hx107_0
                        replace hx107_1 := (HB.out.cell (World.block_lt_of_cell? w _ hx107_1)).trans hx107_1
                        replace hx107_2 := (HB.out.cell (World.block_lt_of_cell? w _ hx107_2)).trans hx107_2
                        replace hx107_3 := (HB.out.cell (World.block_lt_of_cell? w _ hx107_3)).trans hx107_3
                        replace p107 := eq_true p107
                        replace q107 := eq_true q107
                        try go_wp2_with (first | ((with_reducible refine gate_dst (N := 4) rfl ?_); refine box_event ?hg (N := 4) ?hd (cs := #[.string (⟨#[]⟩ : ByteArray), .int .i64 0, .string (⟨#[]⟩ : ByteArray), .int .i64 0]) (t := 120) ?hr ?_; (case hd => rfl); (case hg => rfl); (case hr => first | (go_simp; done) | (go_simp; rfl)); intro gb108 hg w19 hbox hb; have n0_ := Aside0.mk (below_step xq0 hb); have n1_ := Aside0.mk (hbox); have n2_ := Aside0.mk ((by rw [hg]; exact (below_size xq0) : w.heap.size ≤ gb108)); have n3_ := Aside0.mk ((by rw [hg]; exact (below_size xq0) : w.heap.size ≤ gb108)); clear HB; have HB := n0_; have BK108 := n1_; have GW108 := n2_; have GE108 := n3_; clear n0_ n1_ n2_ n3_; clear hb hbox hg; have hcz20_0 : w19.cell? ⟨gb108, 0, none⟩ = some (.string (⟨#[]⟩ : ByteArray)) := (blk_cell BK108.out 0).trans rfl; have hcz20_1 : w19.cell? ⟨gb108, 1, none⟩ = some (.int .i64 0) := (blk_cell BK108.out 1).trans rfl; have hcz20_2 : w19.cell? ⟨gb108, 2, none⟩ = some (.string (⟨#[]⟩ : ByteArray)) := (blk_cell BK108.out 2).trans rfl; have hcz20_3 : w19.cell? ⟨gb108, 3, none⟩ = some (.int .i64 0) := (blk_cell BK108.out 3).trans rfl; have hfz20_0 := blk_frozen BK108.out 0; have hfz20_1 := blk_frozen BK108.out 1; have hfz20_2 := blk_frozen BK108.out 2; have hfz20_3 := blk_frozen BK108.out 3))
                        have n0_ : Aside0 (((((w19.setCell ⟨gb108, 0, none⟩ (.string ((rd_T120 l0 x7_1).f0))).setCell ⟨gb108, 1, none⟩ (.int .i64 ((rd_T120 l0 x7_1).f1.f0))).setCell ⟨gb108, 2, none⟩ (.string ((rd_T120 l0 x7_1).f1.f1))).setCell ⟨gb108, 3, none⟩ (.int .i64 ((rd_T120 l0 x7_1).f1.f2))).heap[gb108]? = some (.cells #[.string ((rd_T120 l0 x7_1).f0), .int .i64 ((rd_T120 l0 x7_1).f1.f0), .string ((rd_T120 l0 x7_1).f1.f1), .int .i64 ((rd_T120 l0 x7_1).f1.f2)] 120 (0, 0))) := ⟨by (with_reducible repeat (first | refine blk_drewN ?_ _ | refine blk_drew ?_ | refine blk_alloc ?_ _)); refine blk_put (cs := #[.string ((rd_T120 l0 x7_1).f0), .int .i64 ((rd_T120 l0 x7_1).f1.f0), .string ((rd_T120 l0 x7_1).f1.f1), .int .i64 0]) ?_ 3 _ rfl; (with_reducible repeat (first | refine blk_drewN ?_ _ | refine blk_drew ?_ | refine blk_alloc ?_ _)); refine blk_put (cs := #[.string ((rd_T120 l0 x7_1).f0), .int .i64 ((rd_T120 l0 x7_1).f1.f0), .string (⟨#[]⟩ : ByteArray), .int .i64 0]) ?_ 2 _ rfl; (with_reducible repeat (first | refine blk_drewN ?_ _ | refine blk_drew ?_ | refine blk_alloc ?_ _)); refine blk_put (cs := #[.string ((rd_T120 l0 x7_1).f0), .int .i64 0, .string (⟨#[]⟩ : ByteArray), .int .i64 0]) ?_ 1 _ rfl; (with_reducible repeat (first | refine blk_drewN ?_ _ | refine blk_drew ?_ | refine blk_alloc ?_ _)); refine blk_put (cs := #[.string (⟨#[]⟩ : ByteArray), .int .i64 0, .string (⟨#[]⟩ : ByteArray), .int .i64 0]) ?_ 0 _ rfl; (with_reducible repeat (first | refine blk_drewN ?_ _ | refine blk_drew ?_ | refine blk_alloc ?_ _)); exact BK108.out⟩
                        have n1_ : Aside0 (Below w.heap.size w ((((w19.setCell ⟨gb108, 0, none⟩ (.string ((rd_T120 l0 x7_1).f0))).setCell ⟨gb108, 1, none⟩ (.int .i64 ((rd_T120 l0 x7_1).f1.f0))).setCell ⟨gb108, 2, none⟩ (.string ((rd_T120 l0 x7_1).f1.f1))).setCell ⟨gb108, 3, none⟩ (.int .i64 ((rd_T120 l0 x7_1).f1.f2)))) := ⟨by repeat (first | (with_reducible first | exact HB.out | apply below_alloc | apply pw_below_drewN | apply below_drew1 | refine below_set ?_ GE108.out) | exact HB.out)⟩
                        (try clear BK108)
                        (try clear HB)
                        generalize ((((w19.setCell ⟨gb108, 0, none⟩ (.string ((rd_T120 l0 x7_1).f0))).setCell ⟨gb108, 1, none⟩ (.int .i64 ((rd_T120 l0 x7_1).f1.f0))).setCell ⟨gb108, 2, none⟩ (.string ((rd_T120 l0 x7_1).f1.f1))).setCell ⟨gb108, 3, none⟩ (.int .i64 ((rd_T120 l0 x7_1).f1.f2))) = w21 at n0_ n1_ ⊢
                        have BK108 := n0_
                        have HB := n1_
                        clear n0_ n1_
                        have n0_ := Aside0.mk (blk_drew BK108.out)
                        have n1_ := Aside0.mk (below_drew1 HB.out)
                        clear BK108
                        clear HB
                        have BK108 := n0_
                        have HB := n1_
                        clear n0_ n1_
                        have p111 : 0 ≤ ((ji10) : Int) := of_decide_eq_true (by first | (with_reducible assumption) | assumption)
                        have q111 : (ji10) < (l0.length : Int) := of_decide_eq_true (by first | (with_reducible assumption) | assumption)
                        obtain ⟨ad111, e111, hx111_0, hx111_1, hx111_2, hx111_3⟩ := at_T120 HR0.out (ji10) p111 q111
                        have hw111_3 := hx111_3
                        have hw111_2 := hx111_2
                        have hw111_1 := hx111_1
                        have hw111_0 := hx111_0
                        obtain rfl : ad107 = ad111 := (by injection e111)
                        replace hx111_0 := (HB.out.cell (World.block_lt_of_cell? w _ hx111_0)).trans hx111_0
                        replace hx111_1 := (HB.out.cell (World.block_lt_of_cell? w _ hx111_1)).trans hx111_1
                        replace hx111_2 := (HB.out.cell (World.block_lt_of_cell? w _ hx111_2)).trans hx111_2
                        replace hx111_3 := (HB.out.cell (World.block_lt_of_cell? w _ hx111_3)).trans hx111_3
                        replace p111 := eq_true p111
                        replace q111 := eq_true q111
                        refine start_ (n := 25) (S := fun w' => w'.cell? ⟨gb108, 0, none⟩ = some (.string ((rd_T120 l0 x7_1).f0)) ∧ w'.cell? ⟨gb108, 1, none⟩ = some (.int .i64 ((rd_T120 l0 x7_1).f1.f0)) ∧ w'.cell? ⟨gb108, 2, none⟩ = some (.string ((rd_T120 l0 x7_1).f1.f1)) ∧ w'.cell? ⟨gb108, 3, none⟩ = some (.int .i64 ((rd_T120 l0 x7_1).f1.f2)) ∧ w'.cell? (ad107.add (((ji10)).toNat * 4)) = some (.string ((rd_T120 l0 (ji10)).f0)) ∧ w'.cell? ⟨(ad107.add (((ji10)).toNat * 4)).block, (ad107.add (((ji10)).toNat * 4)).off + 1, none⟩ = some (.int .i64 ((rd_T120 l0 (ji10)).f1.f0)) ∧ w'.cell? ⟨(ad107.add (((ji10)).toNat * 4)).block, (ad107.add (((ji10)).toNat * 4)).off + 2, none⟩ = some (.string ((rd_T120 l0 (ji10)).f1.f1)) ∧ w'.cell? ⟨(ad107.add (((ji10)).toNat * 4)).block, (ad107.add (((ji10)).toNat * 4)).off + 3, none⟩ = some (.int .i64 ((rd_T120 l0 (ji10)).f1.f2))) (ds := []) bz2b_0 (by kernel_rfl) rfl rfl ⟨(blk_cell BK108.out 0).trans rfl, (blk_cell BK108.out 1).trans rfl, (blk_cell BK108.out 2).trans rfl, (blk_cell BK108.out 3).trans rfl, ((HB.out.cell (World.block_lt_of_cell? w _ hw111_0)).trans hw111_0), ((HB.out.cell (World.block_lt_of_cell? w _ hw111_1)).trans hw111_1), ((HB.out.cell (World.block_lt_of_cell? w _ hw111_2)).trans hw111_2), ((HB.out.cell (World.block_lt_of_cell? w _ hw111_3)).trans hw111_3)⟩ (fun hHeld => ?_); refine with_tabW span_carried.tab4 span_carried.bits4 (fun HT_ HW_ => ?_)
                        generalize w21.drew = w22 at BK108 HB hx111_0 hx111_1 hx111_2 hx111_3 hHeld ⊢
                        refine pz_ (i := 0) (N := some 12) bz2b_1 (any_of HT_.out (by kernel_rfl)) ?_
                        refine take_ (i := 1) (N := some 13) (v := ?_) (a' := ?_) bz2b_2 rfl rfl (take_ofW HT_.out HW_.out (by kernel_rfl)) (fun _ _ _ h => h) (Or.inl ⟨by rfl, ?_⟩) hHeld ?_ ?_
                        rotate_left
                        · rintro w' ⟨s0, s1, s2, s3, s4, s5, s6, s7⟩
                          go_simp
                          with_reducible rfl
                        rotate_left
                        · simp only [Act.put, List.setIfInBounds_toArray, List.set_cons_zero, List.set_cons_succ, i64_w, i32_w]
                          rfl
                        refine one_ (i := 2) (N := some 14) bz2b_3 rfl rfl (one_of HT_.out (by kernel_rfl)) (by decide) (fun K hK => ?_)
                        refine goes_ Tryd.func91 (by kernel_rfl) rfl #[.string ((rd_T120 l0 x7_1).f0)] (by rfl) rfl rfl xa ?_
                        with_reducible refine (span_keyed.calls k1 ((rd_T120 l0 x7_1).f0) true _ A5.out).mono ?_
                        rintro e w' ⟨rfl, ⟨nd, rfl⟩⟩
                        refine ⟨_, rfl, ?_⟩
                        refine hK.out _ _ ⟨(blk_cell BK108.out 0).trans rfl, (blk_cell BK108.out 1).trans rfl, (blk_cell BK108.out 2).trans rfl, (blk_cell BK108.out 3).trans rfl, ((HB.out.cell (World.block_lt_of_cell? w _ hw111_0)).trans hw111_0), ((HB.out.cell (World.block_lt_of_cell? w _ hw111_1)).trans hw111_1), ((HB.out.cell (World.block_lt_of_cell? w _ hw111_2)).trans hw111_2), ((HB.out.cell (World.block_lt_of_cell? w _ hw111_3)).trans hw111_3)⟩ (fun hHeld => ?_)
                        clear hK K
                        refine norm_ (a' := ?_) ?_ ?_
                        rotate_left
                        · show Act.put _ (some 14) _ = _
                          simp only [Act.put, List.setIfInBounds_toArray, List.set_cons_zero, List.set_cons_succ, i64_w, i32_w]
                          rfl
                        refine pz_ (i := 3) (N := some 15) bz2b_4 (any_of HT_.out (by kernel_rfl)) ?_
                        refine pz_ (i := 4) (N := some 16) bz2b_5 (any_of HT_.out (by kernel_rfl)) ?_
                        refine pz_ (i := 5) (N := some 17) bz2b_6 (any_of HT_.out (by kernel_rfl)) ?_
                        refine take_ (i := 6) (N := some 18) (v := ?_) (a' := ?_) bz2b_7 rfl rfl (take_ofW HT_.out HW_.out (by kernel_rfl)) (fun _ _ _ h => h) (Or.inl ⟨by rfl, ?_⟩) hHeld ?_ ?_
                        rotate_left
                        · rintro w' ⟨s0, s1, s2, s3, s4, s5, s6, s7⟩
                          go_simp
                          with_reducible rfl
                        rotate_left
                        · simp only [Act.put, List.setIfInBounds_toArray, List.set_cons_zero, List.set_cons_succ, i64_w, i32_w]
                          rfl
                        refine one_ (i := 7) (N := some 19) bz2b_8 rfl rfl (one_of HT_.out (by kernel_rfl)) (by decide) (fun K hK => ?_)
                        refine goes_ Tryd.func92 (by kernel_rfl) rfl #[.agg #[.int .i64 ((rd_T120 l0 x7_1).f1.f0), .string ((rd_T120 l0 x7_1).f1.f1), .int .i64 ((rd_T120 l0 x7_1).f1.f2)]] (by rfl) rfl rfl xa ?_
                        with_reducible refine (span_valued.calls ((rd_T120 l0 x7_1).f1.f0) ((rd_T120 l0 x7_1).f1.f1) ((rd_T120 l0 x7_1).f1.f2) true _ A7.out (Tabs.below HTabs0_.out xq1)).mono ?_
                        rintro e w23 ⟨rfl, hb⟩
                        refine ⟨_, rfl, ?_⟩
                        have n0_ := Aside0.mk (blk_below (g := gb108) (o := .cells #[.string ((rd_T120 l0 x7_1).f0), .int .i64 ((rd_T120 l0 x7_1).f1.f0), .string ((rd_T120 l0 x7_1).f1.f1), .int .i64 ((rd_T120 l0 x7_1).f1.f2)] 120 (0, 0)) (xb BK108) hb)
                        have n1_ := Aside0.mk (below_step xq1 hb)
                        clear BK108
                        clear HB
                        have BK108 := n0_
                        have HB := n1_
                        clear n0_ n1_
                        (try clear hb)
                        (try clear hb2)
                        (try clear hk)
                        (try clear hi)
                        refine hK.out _ _ ⟨(blk_cell BK108.out 0).trans rfl, (blk_cell BK108.out 1).trans rfl, (blk_cell BK108.out 2).trans rfl, (blk_cell BK108.out 3).trans rfl, ((HB.out.cell (World.block_lt_of_cell? w _ hw111_0)).trans hw111_0), ((HB.out.cell (World.block_lt_of_cell? w _ hw111_1)).trans hw111_1), ((HB.out.cell (World.block_lt_of_cell? w _ hw111_2)).trans hw111_2), ((HB.out.cell (World.block_lt_of_cell? w _ hw111_3)).trans hw111_3)⟩ (fun hHeld => ?_)
                        clear hK K
                        refine norm_ (a' := ?_) ?_ ?_
                        rotate_left
                        · show Act.put _ (some 19) _ = _
                          simp only [Act.put, List.setIfInBounds_toArray, List.set_cons_zero, List.set_cons_succ, i64_w, i32_w]
                          rfl
                        refine pz_ (i := 8) (N := some 20) bz2b_9 (any_of HT_.out (by kernel_rfl)) ?_
                        refine pz_ (i := 9) (N := some 21) bz2b_10 (any_of HT_.out (by kernel_rfl)) ?_
                        refine pz_ (i := 10) (N := some 22) bz2b_11 (any_of HT_.out (by kernel_rfl)) ?_
                        refine pz_ (i := 11) (N := some 23) bz2b_12 (any_of HT_.out (by kernel_rfl)) ?_
                        refine pz_ (i := 12) (N := some 24) bz2b_13 (any_of HT_.out (by kernel_rfl)) ?_
                        refine pz_ (i := 13) (N := some 25) bz2b_14 (any_of HT_.out (by kernel_rfl)) ?_
                        refine pz_ (i := 14) (N := some 26) bz2b_15 (any_of HT_.out (by kernel_rfl)) ?_
                        refine pz_ (i := 15) (N := some 27) bz2b_16 (any_of HT_.out (by kernel_rfl)) ?_
                        refine pz_ (i := 16) (N := some 28) bz2b_17 (any_of HT_.out (by kernel_rfl)) ?_
                        refine pz_ (i := 17) (N := some 29) bz2b_18 (any_of HT_.out (by kernel_rfl)) ?_
                        refine pz_ (i := 18) (N := some 30) bz2b_19 (any_of HT_.out (by kernel_rfl)) ?_
                        refine pz_ (i := 20) (N := some 32) bz2b_20 (any_of HT_.out (by kernel_rfl)) ?_
                        refine take_ (i := 19) (N := some 31) (v := ?_) (a' := ?_) bz2b_21 rfl rfl (take_ofW HT_.out HW_.out (by kernel_rfl)) (fun _ _ _ h => h) (Or.inl ⟨by rfl, ?_⟩) hHeld ?_ ?_
                        rotate_left
                        · rintro w' ⟨s0, s1, s2, s3, s4, s5, s6, s7⟩
                          go_simp
                          with_reducible rfl
                        rotate_left
                        · simp only [Act.put, List.setIfInBounds_toArray, List.set_cons_zero, List.set_cons_succ, i64_w, i32_w]
                          rfl
                        refine take_ (i := 21) (N := some 33) (v := ?_) (a' := ?_) bz2b_22 rfl rfl (take_ofW HT_.out HW_.out (by kernel_rfl)) (fun _ _ _ h => h) (Or.inl ⟨by rfl, ?_⟩) hHeld ?_ ?_
                        rotate_left
                        · rintro w' ⟨s0, s1, s2, s3, s4, s5, s6, s7⟩
                          go_simp
                          with_reducible rfl
                        rotate_left
                        · simp only [Act.put, List.setIfInBounds_toArray, List.set_cons_zero, List.set_cons_succ, i64_w, i32_w]
                          rfl
                        refine pz_ (i := 22) (N := some 34) bz2b_23 (any_of HT_.out (by kernel_rfl)) ?_
                        refine pz_ (i := 23) (N := some 35) bz2b_24 (any_of HT_.out (by kernel_rfl)) ?_
                        refine pz_ (i := 24) (N := some 36) bz2b_25 (any_of HT_.out (by kernel_rfl)) ?_
                        refine done_ (done_of HT_.out (by kernel_rfl)) ?_
                        try go_wp2
                        go_ret
                        exact ⟨by first | rfl | (simp [errW_none, errW_some] <;> rfl) | (simp only [← hji10]; first | rfl | (simp [errW_none, errW_some] <;> rfl)) | (simp [*, errW_none, errW_some] <;> rfl), by repeat (first | (with_reducible first | exact HB.out | apply below_alloc | apply pw_below_drewN | apply below_drew1 | refine below_set ?_ GE108.out) | exact HB.out)⟩
                    · rw [if_neg c12] at H
                      exact absurd H (by simp)
                  · rw [if_neg c11] at H
                    exact absurd H (by simp)
                · rw [if_neg c9] at H
                  have c9b0 : decide (0 < x7_1) = false := decide_eq_false c9
                  clear c9
                  have H' := Aside0.mk H
                  clear H
                  have p107 : 0 ≤ (x7_1 : Int) := of_decide_eq_true (by first | (with_reducible assumption) | assumption)
                  have q107 : x7_1 < (l0.length : Int) := of_decide_eq_true (by first | (with_reducible assumption) | assumption)
                  obtain ⟨ad107, e107, hx107_0, hx107_1, hx107_2, hx107_3⟩ := at_T120 HR0.out x7_1 p107 q107
                  cases e107
                  replace hx107_0 := (HB.out.cell (World.block_lt_of_cell? w _ hx107_0)).trans hx107_0
                  replace hx107_1 := (HB.out.cell (World.block_lt_of_cell? w _ hx107_1)).trans hx107_1
                  replace hx107_2 := (HB.out.cell (World.block_lt_of_cell? w _ hx107_2)).trans hx107_2
                  replace hx107_3 := (HB.out.cell (World.block_lt_of_cell? w _ hx107_3)).trans hx107_3
                  replace p107 := eq_true p107
                  replace q107 := eq_true q107
                  try go_wp2_with (first | ((with_reducible refine gate_dst (N := 4) rfl ?_); refine box_event ?hg (N := 4) ?hd (cs := #[.string (⟨#[]⟩ : ByteArray), .int .i64 0, .string (⟨#[]⟩ : ByteArray), .int .i64 0]) (t := 120) ?hr ?_; (case hd => rfl); (case hg => rfl); (case hr => first | (go_simp; done) | (go_simp; rfl)); intro gb108 hg w24 hbox hb; have n0_ := Aside0.mk (below_step xq0 hb); have n1_ := Aside0.mk (hbox); have n2_ := Aside0.mk ((by rw [hg]; exact (below_size xq0) : w.heap.size ≤ gb108)); have n3_ := Aside0.mk ((by rw [hg]; exact (below_size xq0) : w.heap.size ≤ gb108)); clear HB; have HB := n0_; have BK108 := n1_; have GW108 := n2_; have GE108 := n3_; clear n0_ n1_ n2_ n3_; clear hb hbox hg; have hcz25_0 : w24.cell? ⟨gb108, 0, none⟩ = some (.string (⟨#[]⟩ : ByteArray)) := (blk_cell BK108.out 0).trans rfl; have hcz25_1 : w24.cell? ⟨gb108, 1, none⟩ = some (.int .i64 0) := (blk_cell BK108.out 1).trans rfl; have hcz25_2 : w24.cell? ⟨gb108, 2, none⟩ = some (.string (⟨#[]⟩ : ByteArray)) := (blk_cell BK108.out 2).trans rfl; have hcz25_3 : w24.cell? ⟨gb108, 3, none⟩ = some (.int .i64 0) := (blk_cell BK108.out 3).trans rfl; have hfz25_0 := blk_frozen BK108.out 0; have hfz25_1 := blk_frozen BK108.out 1; have hfz25_2 := blk_frozen BK108.out 2; have hfz25_3 := blk_frozen BK108.out 3))
                  have n0_ : Aside0 (((((w24.setCell ⟨gb108, 0, none⟩ (.string ((rd_T120 l0 x7_1).f0))).setCell ⟨gb108, 1, none⟩ (.int .i64 ((rd_T120 l0 x7_1).f1.f0))).setCell ⟨gb108, 2, none⟩ (.string ((rd_T120 l0 x7_1).f1.f1))).setCell ⟨gb108, 3, none⟩ (.int .i64 ((rd_T120 l0 x7_1).f1.f2))).heap[gb108]? = some (.cells #[.string ((rd_T120 l0 x7_1).f0), .int .i64 ((rd_T120 l0 x7_1).f1.f0), .string ((rd_T120 l0 x7_1).f1.f1), .int .i64 ((rd_T120 l0 x7_1).f1.f2)] 120 (0, 0))) := ⟨by (with_reducible repeat (first | refine blk_drewN ?_ _ | refine blk_drew ?_ | refine blk_alloc ?_ _)); refine blk_put (cs := #[.string ((rd_T120 l0 x7_1).f0), .int .i64 ((rd_T120 l0 x7_1).f1.f0), .string ((rd_T120 l0 x7_1).f1.f1), .int .i64 0]) ?_ 3 _ rfl; (with_reducible repeat (first | refine blk_drewN ?_ _ | refine blk_drew ?_ | refine blk_alloc ?_ _)); refine blk_put (cs := #[.string ((rd_T120 l0 x7_1).f0), .int .i64 ((rd_T120 l0 x7_1).f1.f0), .string (⟨#[]⟩ : ByteArray), .int .i64 0]) ?_ 2 _ rfl; (with_reducible repeat (first | refine blk_drewN ?_ _ | refine blk_drew ?_ | refine blk_alloc ?_ _)); refine blk_put (cs := #[.string ((rd_T120 l0 x7_1).f0), .int .i64 0, .string (⟨#[]⟩ : ByteArray), .int .i64 0]) ?_ 1 _ rfl; (with_reducible repeat (first | refine blk_drewN ?_ _ | refine blk_drew ?_ | refine blk_alloc ?_ _)); refine blk_put (cs := #[.string (⟨#[]⟩ : ByteArray), .int .i64 0, .string (⟨#[]⟩ : ByteArray), .int .i64 0]) ?_ 0 _ rfl; (with_reducible repeat (first | refine blk_drewN ?_ _ | refine blk_drew ?_ | refine blk_alloc ?_ _)); exact BK108.out⟩
                  have n1_ : Aside0 (Below w.heap.size w ((((w24.setCell ⟨gb108, 0, none⟩ (.string ((rd_T120 l0 x7_1).f0))).setCell ⟨gb108, 1, none⟩ (.int .i64 ((rd_T120 l0 x7_1).f1.f0))).setCell ⟨gb108, 2, none⟩ (.string ((rd_T120 l0 x7_1).f1.f1))).setCell ⟨gb108, 3, none⟩ (.int .i64 ((rd_T120 l0 x7_1).f1.f2)))) := ⟨by repeat (first | (with_reducible first | exact HB.out | apply below_alloc | apply pw_below_drewN | apply below_drew1 | refine below_set ?_ GE108.out) | exact HB.out)⟩
                  (try clear BK108)
                  (try clear HB)
                  generalize ((((w24.setCell ⟨gb108, 0, none⟩ (.string ((rd_T120 l0 x7_1).f0))).setCell ⟨gb108, 1, none⟩ (.int .i64 ((rd_T120 l0 x7_1).f1.f0))).setCell ⟨gb108, 2, none⟩ (.string ((rd_T120 l0 x7_1).f1.f1))).setCell ⟨gb108, 3, none⟩ (.int .i64 ((rd_T120 l0 x7_1).f1.f2))) = w26 at n0_ n1_ ⊢
                  have BK108 := n0_
                  have HB := n1_
                  clear n0_ n1_
                  have n0_ := Aside0.mk (blk_drew BK108.out)
                  have n1_ := Aside0.mk (below_drew1 HB.out)
                  clear BK108
                  clear HB
                  have BK108 := n0_
                  have HB := n1_
                  clear n0_ n1_
                  refine start_ (n := 25) (S := fun w' => w'.cell? ⟨gb108, 0, none⟩ = some (.string ((rd_T120 l0 x7_1).f0)) ∧ w'.cell? ⟨gb108, 1, none⟩ = some (.int .i64 ((rd_T120 l0 x7_1).f1.f0)) ∧ w'.cell? ⟨gb108, 2, none⟩ = some (.string ((rd_T120 l0 x7_1).f1.f1)) ∧ w'.cell? ⟨gb108, 3, none⟩ = some (.int .i64 ((rd_T120 l0 x7_1).f1.f2))) (ds := []) bz2b_0 (by kernel_rfl) rfl rfl ⟨(blk_cell BK108.out 0).trans rfl, (blk_cell BK108.out 1).trans rfl, (blk_cell BK108.out 2).trans rfl, (blk_cell BK108.out 3).trans rfl⟩ (fun hHeld => ?_); refine with_tabW span_carried.tab4 span_carried.bits4 (fun HT_ HW_ => ?_)
                  generalize w26.drew = w27 at BK108 HB hHeld ⊢
                  refine pz_ (i := 0) (N := some 12) bz2b_1 (any_of HT_.out (by kernel_rfl)) ?_
                  refine take_ (i := 1) (N := some 13) (v := ?_) (a' := ?_) bz2b_2 rfl rfl (take_ofW HT_.out HW_.out (by kernel_rfl)) (fun _ _ _ h => h) (Or.inl ⟨by rfl, ?_⟩) hHeld ?_ ?_
                  rotate_left
                  · rintro w' ⟨s0, s1, s2, s3⟩
                    go_simp
                    with_reducible rfl
                  rotate_left
                  · simp only [Act.put, List.setIfInBounds_toArray, List.set_cons_zero, List.set_cons_succ, i64_w, i32_w]
                    rfl
                  refine one_ (i := 2) (N := some 14) bz2b_3 rfl rfl (one_of HT_.out (by kernel_rfl)) (by decide) (fun K hK => ?_)
                  refine goes_ Tryd.func91 (by kernel_rfl) rfl #[.string ((rd_T120 l0 x7_1).f0)] (by rfl) rfl rfl xa ?_
                  with_reducible refine (span_keyed.calls k1 ((rd_T120 l0 x7_1).f0) true _ A5.out).mono ?_
                  rintro e w' ⟨rfl, ⟨nd, rfl⟩⟩
                  refine ⟨_, rfl, ?_⟩
                  refine hK.out _ _ ⟨(blk_cell BK108.out 0).trans rfl, (blk_cell BK108.out 1).trans rfl, (blk_cell BK108.out 2).trans rfl, (blk_cell BK108.out 3).trans rfl⟩ (fun hHeld => ?_)
                  clear hK K
                  refine norm_ (a' := ?_) ?_ ?_
                  rotate_left
                  · show Act.put _ (some 14) _ = _
                    simp only [Act.put, List.setIfInBounds_toArray, List.set_cons_zero, List.set_cons_succ, i64_w, i32_w]
                    rfl
                  refine pz_ (i := 3) (N := some 15) bz2b_4 (any_of HT_.out (by kernel_rfl)) ?_
                  refine pz_ (i := 4) (N := some 16) bz2b_5 (any_of HT_.out (by kernel_rfl)) ?_
                  refine pz_ (i := 5) (N := some 17) bz2b_6 (any_of HT_.out (by kernel_rfl)) ?_
                  refine take_ (i := 6) (N := some 18) (v := ?_) (a' := ?_) bz2b_7 rfl rfl (take_ofW HT_.out HW_.out (by kernel_rfl)) (fun _ _ _ h => h) (Or.inl ⟨by rfl, ?_⟩) hHeld ?_ ?_
                  rotate_left
                  · rintro w' ⟨s0, s1, s2, s3⟩
                    go_simp
                    with_reducible rfl
                  rotate_left
                  · simp only [Act.put, List.setIfInBounds_toArray, List.set_cons_zero, List.set_cons_succ, i64_w, i32_w]
                    rfl
                  refine one_ (i := 7) (N := some 19) bz2b_8 rfl rfl (one_of HT_.out (by kernel_rfl)) (by decide) (fun K hK => ?_)
                  refine goes_ Tryd.func92 (by kernel_rfl) rfl #[.agg #[.int .i64 ((rd_T120 l0 x7_1).f1.f0), .string ((rd_T120 l0 x7_1).f1.f1), .int .i64 ((rd_T120 l0 x7_1).f1.f2)]] (by rfl) rfl rfl xa ?_
                  with_reducible refine (span_valued.calls ((rd_T120 l0 x7_1).f1.f0) ((rd_T120 l0 x7_1).f1.f1) ((rd_T120 l0 x7_1).f1.f2) true _ A7.out (Tabs.below HTabs0_.out xq1)).mono ?_
                  rintro e w28 ⟨rfl, hb⟩
                  refine ⟨_, rfl, ?_⟩
                  have n0_ := Aside0.mk (blk_below (g := gb108) (o := .cells #[.string ((rd_T120 l0 x7_1).f0), .int .i64 ((rd_T120 l0 x7_1).f1.f0), .string ((rd_T120 l0 x7_1).f1.f1), .int .i64 ((rd_T120 l0 x7_1).f1.f2)] 120 (0, 0)) (xb BK108) hb)
                  have n1_ := Aside0.mk (below_step xq1 hb)
                  clear BK108
                  clear HB
                  have BK108 := n0_
                  have HB := n1_
                  clear n0_ n1_
                  (try clear hb)
                  (try clear hb2)
                  (try clear hk)
                  (try clear hi)
                  refine hK.out _ _ ⟨(blk_cell BK108.out 0).trans rfl, (blk_cell BK108.out 1).trans rfl, (blk_cell BK108.out 2).trans rfl, (blk_cell BK108.out 3).trans rfl⟩ (fun hHeld => ?_)
                  clear hK K
                  refine norm_ (a' := ?_) ?_ ?_
                  rotate_left
                  · show Act.put _ (some 19) _ = _
                    simp only [Act.put, List.setIfInBounds_toArray, List.set_cons_zero, List.set_cons_succ, i64_w, i32_w]
                    rfl
                  refine pz_ (i := 8) (N := some 20) bz2b_9 (any_of HT_.out (by kernel_rfl)) ?_
                  refine pz_ (i := 9) (N := some 21) bz2b_10 (any_of HT_.out (by kernel_rfl)) ?_
                  refine pz_ (i := 10) (N := some 22) bz2b_11 (any_of HT_.out (by kernel_rfl)) ?_
                  refine pz_ (i := 11) (N := some 23) bz2b_12 (any_of HT_.out (by kernel_rfl)) ?_
                  refine pz_ (i := 12) (N := some 24) bz2b_13 (any_of HT_.out (by kernel_rfl)) ?_
                  refine pz_ (i := 13) (N := some 25) bz2b_14 (any_of HT_.out (by kernel_rfl)) ?_
                  refine pu_ (i := 14) (N := some 26) bz2b_15 (any_of HT_.out (by kernel_rfl)) ?_
                  refine pu_ (i := 15) (N := some 27) bz2b_16 (any_of HT_.out (by kernel_rfl)) ?_
                  refine pu_ (i := 16) (N := some 28) bz2b_17 (any_of HT_.out (by kernel_rfl)) ?_
                  refine pu_ (i := 17) (N := some 29) bz2b_18 (any_of HT_.out (by kernel_rfl)) ?_
                  refine pu_ (i := 18) (N := some 30) bz2b_19 (any_of HT_.out (by kernel_rfl)) ?_
                  refine pu_ (i := 19) (N := some 31) bz2b_26 (any_of HT_.out (by kernel_rfl)) ?_
                  refine pu_ (i := 20) (N := some 32) bz2b_21 (any_of HT_.out (by kernel_rfl)) ?_
                  refine pu_ (i := 21) (N := some 33) bz2b_22 (any_of HT_.out (by kernel_rfl)) ?_
                  refine pu_ (i := 22) (N := some 34) bz2b_23 (any_of HT_.out (by kernel_rfl)) ?_
                  refine pz_ (i := 23) (N := some 35) bz2b_24 (any_of HT_.out (by kernel_rfl)) ?_
                  refine pz_ (i := 24) (N := some 36) bz2b_25 (any_of HT_.out (by kernel_rfl)) ?_
                  refine done_ (done_of HT_.out (by kernel_rfl)) ?_
                  try go_wp2
                  go_roundg k1
                  case measure => have := HK1.out; omega
                  case rel => exact ⟨(wrap64 (x7_1 + 1)), (by first | rfl | (simp; done) | (simp [*]; done)), H', ⟨by have := HK1.out; omega⟩, ⟨by repeat (first | (with_reducible first | exact HB.out | apply below_alloc | apply pw_below_drewN | apply below_drew1 | refine below_set ?_ GE108.out) | exact HB.out)⟩⟩
              · replace c8 := Bool.eq_false_iff.mpr c8
                subst c8
                have H1 : (some false) = some r := by rw [if_neg (show ¬ (false = true) by decide)] at H; exact H
                clear H
                have H := H1
                clear H1
                obtain rfl := Option.some.inj H
                have p107 : 0 ≤ (x7_1 : Int) := of_decide_eq_true (by first | (with_reducible assumption) | assumption)
                have q107 : x7_1 < (l0.length : Int) := of_decide_eq_true (by first | (with_reducible assumption) | assumption)
                obtain ⟨ad107, e107, hx107_0, hx107_1, hx107_2, hx107_3⟩ := at_T120 HR0.out x7_1 p107 q107
                cases e107
                replace hx107_0 := (HB.out.cell (World.block_lt_of_cell? w _ hx107_0)).trans hx107_0
                replace hx107_1 := (HB.out.cell (World.block_lt_of_cell? w _ hx107_1)).trans hx107_1
                replace hx107_2 := (HB.out.cell (World.block_lt_of_cell? w _ hx107_2)).trans hx107_2
                replace hx107_3 := (HB.out.cell (World.block_lt_of_cell? w _ hx107_3)).trans hx107_3
                replace p107 := eq_true p107
                replace q107 := eq_true q107
                try go_wp2_with (first | ((with_reducible refine gate_dst (N := 4) rfl ?_); refine box_event ?hg (N := 4) ?hd (cs := #[.string (⟨#[]⟩ : ByteArray), .int .i64 0, .string (⟨#[]⟩ : ByteArray), .int .i64 0]) (t := 120) ?hr ?_; (case hd => rfl); (case hg => rfl); (case hr => first | (go_simp; done) | (go_simp; rfl)); intro gb108 hg w29 hbox hb; have n0_ := Aside0.mk (below_step xq0 hb); have n1_ := Aside0.mk (hbox); have n2_ := Aside0.mk ((by rw [hg]; exact (below_size xq0) : w.heap.size ≤ gb108)); have n3_ := Aside0.mk ((by rw [hg]; exact (below_size xq0) : w.heap.size ≤ gb108)); clear HB; have HB := n0_; have BK108 := n1_; have GW108 := n2_; have GE108 := n3_; clear n0_ n1_ n2_ n3_; clear hb hbox hg; have hcz30_0 : w29.cell? ⟨gb108, 0, none⟩ = some (.string (⟨#[]⟩ : ByteArray)) := (blk_cell BK108.out 0).trans rfl; have hcz30_1 : w29.cell? ⟨gb108, 1, none⟩ = some (.int .i64 0) := (blk_cell BK108.out 1).trans rfl; have hcz30_2 : w29.cell? ⟨gb108, 2, none⟩ = some (.string (⟨#[]⟩ : ByteArray)) := (blk_cell BK108.out 2).trans rfl; have hcz30_3 : w29.cell? ⟨gb108, 3, none⟩ = some (.int .i64 0) := (blk_cell BK108.out 3).trans rfl; have hfz30_0 := blk_frozen BK108.out 0; have hfz30_1 := blk_frozen BK108.out 1; have hfz30_2 := blk_frozen BK108.out 2; have hfz30_3 := blk_frozen BK108.out 3))
                have n0_ : Aside0 (((((w29.setCell ⟨gb108, 0, none⟩ (.string ((rd_T120 l0 x7_1).f0))).setCell ⟨gb108, 1, none⟩ (.int .i64 ((rd_T120 l0 x7_1).f1.f0))).setCell ⟨gb108, 2, none⟩ (.string ((rd_T120 l0 x7_1).f1.f1))).setCell ⟨gb108, 3, none⟩ (.int .i64 ((rd_T120 l0 x7_1).f1.f2))).heap[gb108]? = some (.cells #[.string ((rd_T120 l0 x7_1).f0), .int .i64 ((rd_T120 l0 x7_1).f1.f0), .string ((rd_T120 l0 x7_1).f1.f1), .int .i64 ((rd_T120 l0 x7_1).f1.f2)] 120 (0, 0))) := ⟨by (with_reducible repeat (first | refine blk_drewN ?_ _ | refine blk_drew ?_ | refine blk_alloc ?_ _)); refine blk_put (cs := #[.string ((rd_T120 l0 x7_1).f0), .int .i64 ((rd_T120 l0 x7_1).f1.f0), .string ((rd_T120 l0 x7_1).f1.f1), .int .i64 0]) ?_ 3 _ rfl; (with_reducible repeat (first | refine blk_drewN ?_ _ | refine blk_drew ?_ | refine blk_alloc ?_ _)); refine blk_put (cs := #[.string ((rd_T120 l0 x7_1).f0), .int .i64 ((rd_T120 l0 x7_1).f1.f0), .string (⟨#[]⟩ : ByteArray), .int .i64 0]) ?_ 2 _ rfl; (with_reducible repeat (first | refine blk_drewN ?_ _ | refine blk_drew ?_ | refine blk_alloc ?_ _)); refine blk_put (cs := #[.string ((rd_T120 l0 x7_1).f0), .int .i64 0, .string (⟨#[]⟩ : ByteArray), .int .i64 0]) ?_ 1 _ rfl; (with_reducible repeat (first | refine blk_drewN ?_ _ | refine blk_drew ?_ | refine blk_alloc ?_ _)); refine blk_put (cs := #[.string (⟨#[]⟩ : ByteArray), .int .i64 0, .string (⟨#[]⟩ : ByteArray), .int .i64 0]) ?_ 0 _ rfl; (with_reducible repeat (first | refine blk_drewN ?_ _ | refine blk_drew ?_ | refine blk_alloc ?_ _)); exact BK108.out⟩
                have n1_ : Aside0 (Below w.heap.size w ((((w29.setCell ⟨gb108, 0, none⟩ (.string ((rd_T120 l0 x7_1).f0))).setCell ⟨gb108, 1, none⟩ (.int .i64 ((rd_T120 l0 x7_1).f1.f0))).setCell ⟨gb108, 2, none⟩ (.string ((rd_T120 l0 x7_1).f1.f1))).setCell ⟨gb108, 3, none⟩ (.int .i64 ((rd_T120 l0 x7_1).f1.f2)))) := ⟨by repeat (first | (with_reducible first | exact HB.out | apply below_alloc | apply pw_below_drewN | apply below_drew1 | refine below_set ?_ GE108.out) | exact HB.out)⟩
                (try clear BK108)
                (try clear HB)
                generalize ((((w29.setCell ⟨gb108, 0, none⟩ (.string ((rd_T120 l0 x7_1).f0))).setCell ⟨gb108, 1, none⟩ (.int .i64 ((rd_T120 l0 x7_1).f1.f0))).setCell ⟨gb108, 2, none⟩ (.string ((rd_T120 l0 x7_1).f1.f1))).setCell ⟨gb108, 3, none⟩ (.int .i64 ((rd_T120 l0 x7_1).f1.f2))) = w31 at n0_ n1_ ⊢
                have BK108 := n0_
                have HB := n1_
                clear n0_ n1_
                have n0_ := Aside0.mk (blk_drew BK108.out)
                have n1_ := Aside0.mk (below_drew1 HB.out)
                clear BK108
                clear HB
                have BK108 := n0_
                have HB := n1_
                clear n0_ n1_
                refine start_ (n := 25) (S := fun w' => w'.cell? ⟨gb108, 0, none⟩ = some (.string ((rd_T120 l0 x7_1).f0)) ∧ w'.cell? ⟨gb108, 1, none⟩ = some (.int .i64 ((rd_T120 l0 x7_1).f1.f0)) ∧ w'.cell? ⟨gb108, 2, none⟩ = some (.string ((rd_T120 l0 x7_1).f1.f1)) ∧ w'.cell? ⟨gb108, 3, none⟩ = some (.int .i64 ((rd_T120 l0 x7_1).f1.f2))) (ds := []) bz2b_0 (by kernel_rfl) rfl rfl ⟨(blk_cell BK108.out 0).trans rfl, (blk_cell BK108.out 1).trans rfl, (blk_cell BK108.out 2).trans rfl, (blk_cell BK108.out 3).trans rfl⟩ (fun hHeld => ?_); refine with_tabW span_carried.tab4 span_carried.bits4 (fun HT_ HW_ => ?_)
                generalize w31.drew = w32 at BK108 HB hHeld ⊢
                refine pz_ (i := 0) (N := some 12) bz2b_1 (any_of HT_.out (by kernel_rfl)) ?_
                refine take_ (i := 1) (N := some 13) (v := ?_) (a' := ?_) bz2b_2 rfl rfl (take_ofW HT_.out HW_.out (by kernel_rfl)) (fun _ _ _ h => h) (Or.inl ⟨by rfl, ?_⟩) hHeld ?_ ?_
                rotate_left
                · rintro w' ⟨s0, s1, s2, s3⟩
                  go_simp
                  with_reducible rfl
                rotate_left
                · simp only [Act.put, List.setIfInBounds_toArray, List.set_cons_zero, List.set_cons_succ, i64_w, i32_w]
                  rfl
                refine one_ (i := 2) (N := some 14) bz2b_3 rfl rfl (one_of HT_.out (by kernel_rfl)) (by decide) (fun K hK => ?_)
                refine goes_ Tryd.func91 (by kernel_rfl) rfl #[.string ((rd_T120 l0 x7_1).f0)] (by rfl) rfl rfl xa ?_
                with_reducible refine (span_keyed.calls k1 ((rd_T120 l0 x7_1).f0) true _ A5.out).mono ?_
                rintro e w' ⟨rfl, ⟨nd, rfl⟩⟩
                refine ⟨_, rfl, ?_⟩
                refine hK.out _ _ ⟨(blk_cell BK108.out 0).trans rfl, (blk_cell BK108.out 1).trans rfl, (blk_cell BK108.out 2).trans rfl, (blk_cell BK108.out 3).trans rfl⟩ (fun hHeld => ?_)
                clear hK K
                refine norm_ (a' := ?_) ?_ ?_
                rotate_left
                · show Act.put _ (some 14) _ = _
                  simp only [Act.put, List.setIfInBounds_toArray, List.set_cons_zero, List.set_cons_succ, i64_w, i32_w]
                  rfl
                refine pz_ (i := 3) (N := some 15) bz2b_4 (any_of HT_.out (by kernel_rfl)) ?_
                refine pz_ (i := 4) (N := some 16) bz2b_5 (any_of HT_.out (by kernel_rfl)) ?_
                refine pz_ (i := 5) (N := some 17) bz2b_6 (any_of HT_.out (by kernel_rfl)) ?_
                refine take_ (i := 6) (N := some 18) (v := ?_) (a' := ?_) bz2b_7 rfl rfl (take_ofW HT_.out HW_.out (by kernel_rfl)) (fun _ _ _ h => h) (Or.inl ⟨by rfl, ?_⟩) hHeld ?_ ?_
                rotate_left
                · rintro w' ⟨s0, s1, s2, s3⟩
                  go_simp
                  with_reducible rfl
                rotate_left
                · simp only [Act.put, List.setIfInBounds_toArray, List.set_cons_zero, List.set_cons_succ, i64_w, i32_w]
                  rfl
                refine one_ (i := 7) (N := some 19) bz2b_8 rfl rfl (one_of HT_.out (by kernel_rfl)) (by decide) (fun K hK => ?_)
                refine goes_ Tryd.func92 (by kernel_rfl) rfl #[.agg #[.int .i64 ((rd_T120 l0 x7_1).f1.f0), .string ((rd_T120 l0 x7_1).f1.f1), .int .i64 ((rd_T120 l0 x7_1).f1.f2)]] (by rfl) rfl rfl xa ?_
                with_reducible refine (span_valued.calls ((rd_T120 l0 x7_1).f1.f0) ((rd_T120 l0 x7_1).f1.f1) ((rd_T120 l0 x7_1).f1.f2) false _ A7.out (Tabs.below HTabs0_.out xq1)).mono ?_
                rintro e w33 ⟨rfl, hb⟩
                refine ⟨_, rfl, ?_⟩
                have n0_ := Aside0.mk (blk_below (g := gb108) (o := .cells #[.string ((rd_T120 l0 x7_1).f0), .int .i64 ((rd_T120 l0 x7_1).f1.f0), .string ((rd_T120 l0 x7_1).f1.f1), .int .i64 ((rd_T120 l0 x7_1).f1.f2)] 120 (0, 0)) (xb BK108) hb)
                have n1_ := Aside0.mk (below_step xq1 hb)
                clear BK108
                clear HB
                have BK108 := n0_
                have HB := n1_
                clear n0_ n1_
                (try clear hb)
                (try clear hb2)
                (try clear hk)
                (try clear hi)
                refine hK.out _ _ ⟨(blk_cell BK108.out 0).trans rfl, (blk_cell BK108.out 1).trans rfl, (blk_cell BK108.out 2).trans rfl, (blk_cell BK108.out 3).trans rfl⟩ (fun hHeld => ?_)
                clear hK K
                refine norm_ (a' := ?_) ?_ ?_
                rotate_left
                · show Act.put _ (some 19) _ = _
                  simp only [Act.put, List.setIfInBounds_toArray, List.set_cons_zero, List.set_cons_succ, i64_w, i32_w]
                  rfl
                refine pz_ (i := 8) (N := some 20) bz2b_9 (any_of HT_.out (by kernel_rfl)) ?_
                refine pz_ (i := 9) (N := some 21) bz2b_10 (any_of HT_.out (by kernel_rfl)) ?_
                refine pz_ (i := 10) (N := some 22) bz2b_11 (any_of HT_.out (by kernel_rfl)) ?_
                refine pu_ (i := 11) (N := some 23) bz2b_12 (any_of HT_.out (by kernel_rfl)) ?_
                refine pu_ (i := 12) (N := some 24) bz2b_13 (any_of HT_.out (by kernel_rfl)) ?_
                refine pu_ (i := 13) (N := some 25) bz2b_14 (any_of HT_.out (by kernel_rfl)) ?_
                refine pu_ (i := 14) (N := some 26) bz2b_15 (any_of HT_.out (by kernel_rfl)) ?_
                refine pu_ (i := 15) (N := some 27) bz2b_16 (any_of HT_.out (by kernel_rfl)) ?_
                refine pu_ (i := 16) (N := some 28) bz2b_17 (any_of HT_.out (by kernel_rfl)) ?_
                refine pu_ (i := 17) (N := some 29) bz2b_18 (any_of HT_.out (by kernel_rfl)) ?_
                refine pu_ (i := 18) (N := some 30) bz2b_19 (any_of HT_.out (by kernel_rfl)) ?_
                refine pu_ (i := 19) (N := some 31) bz2b_26 (any_of HT_.out (by kernel_rfl)) ?_
                refine pu_ (i := 20) (N := some 32) bz2b_21 (any_of HT_.out (by kernel_rfl)) ?_
                refine pu_ (i := 21) (N := some 33) bz2b_22 (any_of HT_.out (by kernel_rfl)) ?_
                refine pu_ (i := 22) (N := some 34) bz2b_23 (any_of HT_.out (by kernel_rfl)) ?_
                refine pu_ (i := 23) (N := some 35) bz2b_24 (any_of HT_.out (by kernel_rfl)) ?_
                refine pz_ (i := 24) (N := some 36) bz2b_25 (any_of HT_.out (by kernel_rfl)) ?_
                refine done_ (done_of HT_.out (by kernel_rfl)) ?_
                try go_wp2
                go_ret
                exact ⟨by first | rfl | (simp [errW_none, errW_some] <;> rfl) | (simp [*, errW_none, errW_some] <;> rfl), by repeat (first | (with_reducible first | exact HB.out | apply below_alloc | apply pw_below_drewN | apply below_drew1 | refine below_set ?_ GE108.out) | exact HB.out)⟩
            · replace c6 := Bool.eq_false_iff.mpr c6
              subst c6
              have H1 : (some false) = some r := by rw [if_neg (show ¬ (false = true) by decide)] at H; exact H
              clear H
              have H := H1
              clear H1
              obtain rfl := Option.some.inj H
              have p107 : 0 ≤ (x7_1 : Int) := of_decide_eq_true (by first | (with_reducible assumption) | assumption)
              have q107 : x7_1 < (l0.length : Int) := of_decide_eq_true (by first | (with_reducible assumption) | assumption)
              obtain ⟨ad107, e107, hx107_0, hx107_1, hx107_2, hx107_3⟩ := at_T120 HR0.out x7_1 p107 q107
              cases e107
              replace hx107_0 := (HB.out.cell (World.block_lt_of_cell? w _ hx107_0)).trans hx107_0
              replace hx107_1 := (HB.out.cell (World.block_lt_of_cell? w _ hx107_1)).trans hx107_1
              replace hx107_2 := (HB.out.cell (World.block_lt_of_cell? w _ hx107_2)).trans hx107_2
              replace hx107_3 := (HB.out.cell (World.block_lt_of_cell? w _ hx107_3)).trans hx107_3
              replace p107 := eq_true p107
              replace q107 := eq_true q107
              try go_wp2_with (first | ((with_reducible refine gate_dst (N := 4) rfl ?_); refine box_event ?hg (N := 4) ?hd (cs := #[.string (⟨#[]⟩ : ByteArray), .int .i64 0, .string (⟨#[]⟩ : ByteArray), .int .i64 0]) (t := 120) ?hr ?_; (case hd => rfl); (case hg => rfl); (case hr => first | (go_simp; done) | (go_simp; rfl)); intro gb108 hg w34 hbox hb; have n0_ := Aside0.mk (below_step xq0 hb); have n1_ := Aside0.mk (hbox); have n2_ := Aside0.mk ((by rw [hg]; exact (below_size xq0) : w.heap.size ≤ gb108)); have n3_ := Aside0.mk ((by rw [hg]; exact (below_size xq0) : w.heap.size ≤ gb108)); clear HB; have HB := n0_; have BK108 := n1_; have GW108 := n2_; have GE108 := n3_; clear n0_ n1_ n2_ n3_; clear hb hbox hg; have hcz35_0 : w34.cell? ⟨gb108, 0, none⟩ = some (.string (⟨#[]⟩ : ByteArray)) := (blk_cell BK108.out 0).trans rfl; have hcz35_1 : w34.cell? ⟨gb108, 1, none⟩ = some (.int .i64 0) := (blk_cell BK108.out 1).trans rfl; have hcz35_2 : w34.cell? ⟨gb108, 2, none⟩ = some (.string (⟨#[]⟩ : ByteArray)) := (blk_cell BK108.out 2).trans rfl; have hcz35_3 : w34.cell? ⟨gb108, 3, none⟩ = some (.int .i64 0) := (blk_cell BK108.out 3).trans rfl; have hfz35_0 := blk_frozen BK108.out 0; have hfz35_1 := blk_frozen BK108.out 1; have hfz35_2 := blk_frozen BK108.out 2; have hfz35_3 := blk_frozen BK108.out 3))
              have n0_ : Aside0 (((((w34.setCell ⟨gb108, 0, none⟩ (.string ((rd_T120 l0 x7_1).f0))).setCell ⟨gb108, 1, none⟩ (.int .i64 ((rd_T120 l0 x7_1).f1.f0))).setCell ⟨gb108, 2, none⟩ (.string ((rd_T120 l0 x7_1).f1.f1))).setCell ⟨gb108, 3, none⟩ (.int .i64 ((rd_T120 l0 x7_1).f1.f2))).heap[gb108]? = some (.cells #[.string ((rd_T120 l0 x7_1).f0), .int .i64 ((rd_T120 l0 x7_1).f1.f0), .string ((rd_T120 l0 x7_1).f1.f1), .int .i64 ((rd_T120 l0 x7_1).f1.f2)] 120 (0, 0))) := ⟨by (with_reducible repeat (first | refine blk_drewN ?_ _ | refine blk_drew ?_ | refine blk_alloc ?_ _)); refine blk_put (cs := #[.string ((rd_T120 l0 x7_1).f0), .int .i64 ((rd_T120 l0 x7_1).f1.f0), .string ((rd_T120 l0 x7_1).f1.f1), .int .i64 0]) ?_ 3 _ rfl; (with_reducible repeat (first | refine blk_drewN ?_ _ | refine blk_drew ?_ | refine blk_alloc ?_ _)); refine blk_put (cs := #[.string ((rd_T120 l0 x7_1).f0), .int .i64 ((rd_T120 l0 x7_1).f1.f0), .string (⟨#[]⟩ : ByteArray), .int .i64 0]) ?_ 2 _ rfl; (with_reducible repeat (first | refine blk_drewN ?_ _ | refine blk_drew ?_ | refine blk_alloc ?_ _)); refine blk_put (cs := #[.string ((rd_T120 l0 x7_1).f0), .int .i64 0, .string (⟨#[]⟩ : ByteArray), .int .i64 0]) ?_ 1 _ rfl; (with_reducible repeat (first | refine blk_drewN ?_ _ | refine blk_drew ?_ | refine blk_alloc ?_ _)); refine blk_put (cs := #[.string (⟨#[]⟩ : ByteArray), .int .i64 0, .string (⟨#[]⟩ : ByteArray), .int .i64 0]) ?_ 0 _ rfl; (with_reducible repeat (first | refine blk_drewN ?_ _ | refine blk_drew ?_ | refine blk_alloc ?_ _)); exact BK108.out⟩
              have n1_ : Aside0 (Below w.heap.size w ((((w34.setCell ⟨gb108, 0, none⟩ (.string ((rd_T120 l0 x7_1).f0))).setCell ⟨gb108, 1, none⟩ (.int .i64 ((rd_T120 l0 x7_1).f1.f0))).setCell ⟨gb108, 2, none⟩ (.string ((rd_T120 l0 x7_1).f1.f1))).setCell ⟨gb108, 3, none⟩ (.int .i64 ((rd_T120 l0 x7_1).f1.f2)))) := ⟨by repeat (first | (with_reducible first | exact HB.out | apply below_alloc | apply pw_below_drewN | apply below_drew1 | refine below_set ?_ GE108.out) | exact HB.out)⟩
              (try clear BK108)
              (try clear HB)
              generalize ((((w34.setCell ⟨gb108, 0, none⟩ (.string ((rd_T120 l0 x7_1).f0))).setCell ⟨gb108, 1, none⟩ (.int .i64 ((rd_T120 l0 x7_1).f1.f0))).setCell ⟨gb108, 2, none⟩ (.string ((rd_T120 l0 x7_1).f1.f1))).setCell ⟨gb108, 3, none⟩ (.int .i64 ((rd_T120 l0 x7_1).f1.f2))) = w36 at n0_ n1_ ⊢
              have BK108 := n0_
              have HB := n1_
              clear n0_ n1_
              have n0_ := Aside0.mk (blk_drew BK108.out)
              have n1_ := Aside0.mk (below_drew1 HB.out)
              clear BK108
              clear HB
              have BK108 := n0_
              have HB := n1_
              clear n0_ n1_
              refine start_ (n := 25) (S := fun w' => w'.cell? ⟨gb108, 0, none⟩ = some (.string ((rd_T120 l0 x7_1).f0)) ∧ w'.cell? ⟨gb108, 1, none⟩ = some (.int .i64 ((rd_T120 l0 x7_1).f1.f0)) ∧ w'.cell? ⟨gb108, 2, none⟩ = some (.string ((rd_T120 l0 x7_1).f1.f1)) ∧ w'.cell? ⟨gb108, 3, none⟩ = some (.int .i64 ((rd_T120 l0 x7_1).f1.f2))) (ds := []) bz2b_0 (by kernel_rfl) rfl rfl ⟨(blk_cell BK108.out 0).trans rfl, (blk_cell BK108.out 1).trans rfl, (blk_cell BK108.out 2).trans rfl, (blk_cell BK108.out 3).trans rfl⟩ (fun hHeld => ?_); refine with_tabW span_carried.tab4 span_carried.bits4 (fun HT_ HW_ => ?_)
              generalize w36.drew = w37 at BK108 HB hHeld ⊢
              refine pz_ (i := 0) (N := some 12) bz2b_1 (any_of HT_.out (by kernel_rfl)) ?_
              refine take_ (i := 1) (N := some 13) (v := ?_) (a' := ?_) bz2b_2 rfl rfl (take_ofW HT_.out HW_.out (by kernel_rfl)) (fun _ _ _ h => h) (Or.inl ⟨by rfl, ?_⟩) hHeld ?_ ?_
              rotate_left
              · rintro w' ⟨s0, s1, s2, s3⟩
                go_simp
                with_reducible rfl
              rotate_left
              · simp only [Act.put, List.setIfInBounds_toArray, List.set_cons_zero, List.set_cons_succ, i64_w, i32_w]
                rfl
              refine one_ (i := 2) (N := some 14) bz2b_3 rfl rfl (one_of HT_.out (by kernel_rfl)) (by decide) (fun K hK => ?_)
              refine goes_ Tryd.func91 (by kernel_rfl) rfl #[.string ((rd_T120 l0 x7_1).f0)] (by rfl) rfl rfl xa ?_
              with_reducible refine (span_keyed.calls k1 ((rd_T120 l0 x7_1).f0) false _ A5.out).mono ?_
              rintro e w' ⟨rfl, ⟨nd, rfl⟩⟩
              refine ⟨_, rfl, ?_⟩
              refine hK.out _ _ ⟨(blk_cell BK108.out 0).trans rfl, (blk_cell BK108.out 1).trans rfl, (blk_cell BK108.out 2).trans rfl, (blk_cell BK108.out 3).trans rfl⟩ (fun hHeld => ?_)
              clear hK K
              refine norm_ (a' := ?_) ?_ ?_
              rotate_left
              · show Act.put _ (some 14) _ = _
                simp only [Act.put, List.setIfInBounds_toArray, List.set_cons_zero, List.set_cons_succ, i64_w, i32_w]
                rfl
              refine pz_ (i := 3) (N := some 15) bz2b_4 (any_of HT_.out (by kernel_rfl)) ?_
              refine pz_ (i := 4) (N := some 16) bz2b_5 (any_of HT_.out (by kernel_rfl)) ?_
              refine pu_ (i := 5) (N := some 17) bz2b_6 (any_of HT_.out (by kernel_rfl)) ?_
              refine pu_ (i := 6) (N := some 18) bz2b_7 (any_of HT_.out (by kernel_rfl)) ?_
              refine pu_ (i := 7) (N := some 19) bz2b_8 (any_of HT_.out (by kernel_rfl)) ?_
              refine pu_ (i := 8) (N := some 20) bz2b_9 (any_of HT_.out (by kernel_rfl)) ?_
              refine pz_ (i := 9) (N := some 21) bz2b_10 (any_of HT_.out (by kernel_rfl)) ?_
              refine pz_ (i := 10) (N := some 22) bz2b_11 (any_of HT_.out (by kernel_rfl)) ?_
              refine pu_ (i := 11) (N := some 23) bz2b_12 (any_of HT_.out (by kernel_rfl)) ?_
              refine pu_ (i := 12) (N := some 24) bz2b_13 (any_of HT_.out (by kernel_rfl)) ?_
              refine pu_ (i := 13) (N := some 25) bz2b_14 (any_of HT_.out (by kernel_rfl)) ?_
              refine pu_ (i := 14) (N := some 26) bz2b_15 (any_of HT_.out (by kernel_rfl)) ?_
              refine pu_ (i := 15) (N := some 27) bz2b_16 (any_of HT_.out (by kernel_rfl)) ?_
              refine pu_ (i := 16) (N := some 28) bz2b_17 (any_of HT_.out (by kernel_rfl)) ?_
              refine pu_ (i := 17) (N := some 29) bz2b_18 (any_of HT_.out (by kernel_rfl)) ?_
              refine pu_ (i := 18) (N := some 30) bz2b_19 (any_of HT_.out (by kernel_rfl)) ?_
              refine pu_ (i := 19) (N := some 31) bz2b_26 (any_of HT_.out (by kernel_rfl)) ?_
              refine pu_ (i := 20) (N := some 32) bz2b_21 (any_of HT_.out (by kernel_rfl)) ?_
              refine pu_ (i := 21) (N := some 33) bz2b_22 (any_of HT_.out (by kernel_rfl)) ?_
              refine pu_ (i := 22) (N := some 34) bz2b_23 (any_of HT_.out (by kernel_rfl)) ?_
              refine pu_ (i := 23) (N := some 35) bz2b_24 (any_of HT_.out (by kernel_rfl)) ?_
              refine pz_ (i := 24) (N := some 36) bz2b_25 (any_of HT_.out (by kernel_rfl)) ?_
              refine done_ (done_of HT_.out (by kernel_rfl)) ?_
              try go_wp2
              go_ret
              exact ⟨by first | rfl | (simp [errW_none, errW_some] <;> rfl) | (simp [*, errW_none, errW_some] <;> rfl), by repeat (first | (with_reducible first | exact HB.out | apply below_alloc | apply pw_below_drewN | apply below_drew1 | refine below_set ?_ GE108.out) | exact HB.out)⟩
          · rw [if_neg c4] at H
            exact absurd H (by simp)
        · rw [if_neg c3] at H
          exact absurd H (by simp)
      · rw [if_neg c2] at H
        have c2b0 : decide (x7_1 < (l0.length : Int)) = false := decide_eq_false c2
        clear c2
        obtain rfl := Option.some.inj H
        go_wp2
        go_ret
        exact ⟨by first | rfl | (simp [errW_none, errW_some] <;> rfl) | (simp [*, errW_none, errW_some] <;> rfl), by repeat (first | (with_reducible first | exact HB.out | apply below_alloc | apply pw_below_drewN | apply below_drew1) | exact HB.out)⟩

end Go.Proofs.YtdlnfmakfnggpaaDoor.Pr
