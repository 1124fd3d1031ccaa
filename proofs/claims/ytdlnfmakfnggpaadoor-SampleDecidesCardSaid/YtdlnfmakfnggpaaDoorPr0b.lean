-- by xprint.py, a program of the session's own, over the kit's print. Not trusted: Lean checks it.
import Derived.Test.YtdlnfmakfnggpaaDoorPr0
namespace Go.Proofs.YtdlnfmakfnggpaaDoor.Pr
open Go.RowKit Go.Proofs.YtdlnfmakfnggpaaDoorW.PrintWords Go.Proofs.YtdlnfmakfnggpaaDoorW.PrintLast Go.Proofs.YtdlnfmakfnggpaaDoorW.PrintMore
attribute [local go_sem] max2_int min2_int max_two min_two max_three min_three max_four min_four   -- for this text's walks alone
set_option linter.unusedVariables false
set_option linter.unusedSimpArgs false

/-! ### sample_took: function 66 -/
def sample_took.l0 : Nat → Int → Int → List (S43) → Int → Int → Option (Int)
  | 0, _, _, _, _, _ => none
  | k + 1, x3, x4, x15, x16, x17 => if x17 < x16 then (if 0 ≤ x17 then (if x17 < (x15.length : Int) then (sample_took.l0 k (mn x3 ((rd_T43 x15 x17).f8)) (mx x4 ((rd_T43 x15 x17).f9)) x15 x16 (wrap64 (x17 + 1))) else (none)) else (none)) else (some (IntKind.u64.wrap (wrap64 (x4 - x3))))
def sample_took.f (k : Nat) (l0 : List (S43)) : Option (Int) := if 0 < (l0.length : Int) then (sample_took.l0 k ((rd_T43 l0 0).f8) ((rd_T43 l0 0).f9) l0 (l0.length : Int) 0) else (none)
theorem sample_took.mono_l : ∀ k, (∀ y0 y1 y2 y3 y4, LeO (sample_took.l0 k y0 y1 y2 y3 y4) (sample_took.l0 (k + 1) y0 y1 y2 y3 y4))
  | 0 => fun _ _ _ _ _ r h => by simp [sample_took.l0] at h
  | k + 1 => by
    have ih0 := sample_took.mono_l k
    · intro y0 y1 y2 y3 y4
      unfold sample_took.l0
      repeat' first
      | (with_reducible exact ih0 _ _ _ _ _)
      | (with_reducible exact LeO.refl _)
      | (with_reducible exact LeO.none _)
      | (with_reducible refine LeO.ite ?_ ?_)
      | (with_reducible refine LeO.bind ?_ (fun _ => ?_))
      | exact ih0 _ _ _ _ _
      | exact LeO.none _
      | refine LeO.ite ?_ ?_
      | refine LeO.bind ?_ (fun _ => ?_)
theorem sample_took.mono : ∀ a0 k, LeO (sample_took.f k a0) (sample_took.f (k + 1) a0) := by
  intro a0 k
  have ih0 := sample_took.mono_l k
  unfold sample_took.f
  repeat' first
      | (with_reducible exact ih0 _ _ _ _ _)
      | (with_reducible exact LeO.refl _)
      | (with_reducible exact LeO.none _)
      | (with_reducible refine LeO.ite ?_ ?_)
      | (with_reducible refine LeO.bind ?_ (fun _ => ?_))
      | exact ih0 _ _ _ _ _
      | exact LeO.none _
      | refine LeO.ite ?_ ?_
      | refine LeO.bind ?_ (fun _ => ?_)
set_option maxHeartbeats 8000000 in
set_option maxRecDepth 100000 in
theorem sample_took.calls (k : Nat) (A0 : Option Addr) (c0 : Nat) (l0 : List (S43)) (r : Int) (w : World) (hr0 : Kd.C k43 w A0 l0.length l0) (hc0 : l0.length ≤ c0) (h : sample_took.f k l0 = some r) :
    Calls Tryd.prog 66 #[.slice A0 l0.length c0] w fun e w' => e = .returned (.int .u64 r) ∧ Below w.heap.size w w' := by
  have hu43 := Tryd.underlying43
  have HR0 := Aside0.mk hr0
  have HC0 := Aside0.mk hc0
  clear hr0 hc0
  have HB := Aside0.mk (Below.refl w.heap.size w)
  have H : (if 0 < (l0.length : Int) then (sample_took.l0 k ((rd_T43 l0 0).f8) ((rd_T43 l0 0).f9) l0 (l0.length : Int) 0) else (none)) = some r := h
  clear h
  by_cases c2 : 0 < (l0.length : Int)
  · rw [if_pos c2] at H
    have c2b0 : decide (0 < (l0.length : Int)) = true := decide_eq_true c2
    have c2b1 : decide (0 < l0.length) = true := decide_eq_true (by omega)
    clear c2
    have H' := Aside0.mk H
    clear H
    have p138 : 0 ≤ (0 : Int) := (by omega)
    have q138 : 0 < (l0.length : Int) := of_decide_eq_true (by first | (with_reducible assumption) | assumption)
    obtain ⟨ad138, A138_4, c138_4, A138_11, c138_11, A138_12, c138_12, e138, hx138_0, hx138_1, hx138_2, hx138_3, hx138_4, hx138_5, hx138_6, hx138_7, hx138_8, hx138_9, hx138_10, hx138_11, hx138_12, hl138_4, hi138_4, hl138_11, hi138_11, hl138_12, hi138_12⟩ := at_T43 HR0.out 0 p138 q138
    cases e138
    have qi138 : (0 < l0.length) = True := eq_true (by omega)
    (try rw [show ((0 : Int)).toNat = 0 from rfl] at hx138_0)
    (try rw [show 0 * 13 = 0 from rfl] at hx138_0)
    (try rw [Addr.add_zero'] at hx138_0)
    (try rw [show ((0 : Int)).toNat = 0 from rfl] at hx138_1)
    (try rw [show 0 * 13 = 0 from rfl] at hx138_1)
    (try rw [Addr.add_zero'] at hx138_1)
    (try rw [show ((0 : Int)).toNat = 0 from rfl] at hx138_2)
    (try rw [show 0 * 13 = 0 from rfl] at hx138_2)
    (try rw [Addr.add_zero'] at hx138_2)
    (try rw [show ((0 : Int)).toNat = 0 from rfl] at hx138_3)
    (try rw [show 0 * 13 = 0 from rfl] at hx138_3)
    (try rw [Addr.add_zero'] at hx138_3)
    (try rw [show ((0 : Int)).toNat = 0 from rfl] at hx138_4)
    (try rw [show 0 * 13 = 0 from rfl] at hx138_4)
    (try rw [Addr.add_zero'] at hx138_4)
    (try rw [show ((0 : Int)).toNat = 0 from rfl] at hx138_5)
    (try rw [show 0 * 13 = 0 from rfl] at hx138_5)
    (try rw [Addr.add_zero'] at hx138_5)
    (try rw [show ((0 : Int)).toNat = 0 from rfl] at hx138_6)
    (try rw [show 0 * 13 = 0 from rfl] at hx138_6)
    (try rw [Addr.add_zero'] at hx138_6)
    (try rw [show ((0 : Int)).toNat = 0 from rfl] at hx138_7)
    (try rw [show 0 * 13 = 0 from rfl] at hx138_7)
    (try rw [Addr.add_zero'] at hx138_7)
    (try rw [show ((0 : Int)).toNat = 0 from rfl] at hx138_8)
    (try rw [show 0 * 13 = 0 from rfl] at hx138_8)
    (try rw [Addr.add_zero'] at hx138_8)
    (try rw [show ((0 : Int)).toNat = 0 from rfl] at hx138_9)
    (try rw [show 0 * 13 = 0 from rfl] at hx138_9)
    (try rw [Addr.add_zero'] at hx138_9)
    (try rw [show ((0 : Int)).toNat = 0 from rfl] at hx138_10)
    (try rw [show 0 * 13 = 0 from rfl] at hx138_10)
    (try rw [Addr.add_zero'] at hx138_10)
    (try rw [show ((0 : Int)).toNat = 0 from rfl] at hx138_11)
    (try rw [show 0 * 13 = 0 from rfl] at hx138_11)
    (try rw [Addr.add_zero'] at hx138_11)
    (try rw [show ((0 : Int)).toNat = 0 from rfl] at hx138_12)
    (try rw [show 0 * 13 = 0 from rfl] at hx138_12)
    (try rw [Addr.add_zero'] at hx138_12)
    have HR138_4 := Aside0.mk hi138_4
    have HC138_4 := Aside0.mk hl138_4
    clear hi138_4 hl138_4
    have HR138_11 := Aside0.mk hi138_11
    have HC138_11 := Aside0.mk hl138_11
    clear hi138_11 hl138_11
    have HR138_12 := Aside0.mk hi138_12
    have HC138_12 := Aside0.mk hl138_12
    clear hi138_12 hl138_12
    replace p138 := eq_true p138
    replace q138 := eq_true q138
    have p139 : 0 ≤ (0 : Int) := (by omega)
    have q139 : 0 < (l0.length : Int) := of_decide_eq_true (by first | (with_reducible assumption) | assumption)
    obtain ⟨ad139, A139_4, c139_4, A139_11, c139_11, A139_12, c139_12, e139, hx139_0, hx139_1, hx139_2, hx139_3, hx139_4, hx139_5, hx139_6, hx139_7, hx139_8, hx139_9, hx139_10, hx139_11, hx139_12, hl139_4, hi139_4, hl139_11, hi139_11, hl139_12, hi139_12⟩ := at_T43 HR0.out 0 p139 q139
    obtain rfl : ad138 = ad139 := (by injection e139)
    have qi139 : (0 < l0.length) = True := eq_true (by omega)
    (try rw [show ((0 : Int)).toNat = 0 from rfl] at hx139_0)
    (try rw [show 0 * 13 = 0 from rfl] at hx139_0)
    (try rw [Addr.add_zero'] at hx139_0)
    (try rw [show ((0 : Int)).toNat = 0 from rfl] at hx139_1)
    (try rw [show 0 * 13 = 0 from rfl] at hx139_1)
    (try rw [Addr.add_zero'] at hx139_1)
    (try rw [show ((0 : Int)).toNat = 0 from rfl] at hx139_2)
    (try rw [show 0 * 13 = 0 from rfl] at hx139_2)
    (try rw [Addr.add_zero'] at hx139_2)
    (try rw [show ((0 : Int)).toNat = 0 from rfl] at hx139_3)
    (try rw [show 0 * 13 = 0 from rfl] at hx139_3)
    (try rw [Addr.add_zero'] at hx139_3)
    (try rw [show ((0 : Int)).toNat = 0 from rfl] at hx139_4)
    (try rw [show 0 * 13 = 0 from rfl] at hx139_4)
    (try rw [Addr.add_zero'] at hx139_4)
    (try rw [show ((0 : Int)).toNat = 0 from rfl] at hx139_5)
    (try rw [show 0 * 13 = 0 from rfl] at hx139_5)
    (try rw [Addr.add_zero'] at hx139_5)
    (try rw [show ((0 : Int)).toNat = 0 from rfl] at hx139_6)
    (try rw [show 0 * 13 = 0 from rfl] at hx139_6)
    (try rw [Addr.add_zero'] at hx139_6)
    (try rw [show ((0 : Int)).toNat = 0 from rfl] at hx139_7)
    (try rw [show 0 * 13 = 0 from rfl] at hx139_7)
    (try rw [Addr.add_zero'] at hx139_7)
    (try rw [show ((0 : Int)).toNat = 0 from rfl] at hx139_8)
    (try rw [show 0 * 13 = 0 from rfl] at hx139_8)
    (try rw [Addr.add_zero'] at hx139_8)
    (try rw [show ((0 : Int)).toNat = 0 from rfl] at hx139_9)
    (try rw [show 0 * 13 = 0 from rfl] at hx139_9)
    (try rw [Addr.add_zero'] at hx139_9)
    (try rw [show ((0 : Int)).toNat = 0 from rfl] at hx139_10)
    (try rw [show 0 * 13 = 0 from rfl] at hx139_10)
    (try rw [Addr.add_zero'] at hx139_10)
    (try rw [show ((0 : Int)).toNat = 0 from rfl] at hx139_11)
    (try rw [show 0 * 13 = 0 from rfl] at hx139_11)
    (try rw [Addr.add_zero'] at hx139_11)
    (try rw [show ((0 : Int)).toNat = 0 from rfl] at hx139_12)
    (try rw [show 0 * 13 = 0 from rfl] at hx139_12)
    (try rw [Addr.add_zero'] at hx139_12)
    have HR139_4 := Aside0.mk hi139_4
    have HC139_4 := Aside0.mk hl139_4
    clear hi139_4 hl139_4
    have HR139_11 := Aside0.mk hi139_11
    have HC139_11 := Aside0.mk hl139_11
    clear hi139_11 hl139_11
    have HR139_12 := Aside0.mk hi139_12
    have HC139_12 := Aside0.mk hl139_12
    clear hi139_12 hl139_12
    replace p139 := eq_true p139
    replace q139 := eq_true q139
    have ea_ := Option.some.inj (hx138_4.symm.trans hx139_4)
    injection ea_ with ea_ en_ ec_
    subst ea_
    subst ec_
    clear en_
    have ea_ := Option.some.inj (hx138_11.symm.trans hx139_11)
    injection ea_ with ea_ en_ ec_
    subst ea_
    subst ec_
    clear en_
    have ea_ := Option.some.inj (hx138_12.symm.trans hx139_12)
    injection ea_ with ea_ en_ ec_
    subst ea_
    subst ec_
    clear en_
    go_enter Tryd.func66, Tryd.ntmps66
    go_wp2
    repeat (go_quiet (fail); try go_wp2)
    go_loopg [3, 4, 17] k (fun kq v3 v4 v17 w' => ∃ (x3_1 : Int) (x4_1 : Int) (x17_1 : Int), v3 = .int .i64 x3_1 ∧ v4 = .int .i64 x4_1 ∧ v17 = .int .i64 x17_1 ∧ Aside0 (sample_took.l0 kq x3_1 x4_1 l0 (l0.length : Int) x17_1 = some r) ∧ Aside0 (kq ≤ k) ∧ Aside0 (Below w.heap.size w w'))
    case atStart => exact ⟨((rd_T43 l0 0).f8), ((rd_T43 l0 0).f9), (0), (by first | rfl | (simp; done) | (simp [*]; done)), (by first | rfl | (simp; done) | (simp [*]; done)), (by first | rfl | (simp; done) | (simp [*]; done)), H', ⟨Nat.le_refl _⟩, ⟨by repeat (first | (with_reducible first | exact HB.out | apply below_alloc | apply pw_below_drewN | apply below_drew1) | exact HB.out)⟩⟩
    case round =>
      clear H'
      try clear c1
      try clear p1
      try clear q1
      try clear hx1
      try clear qi1
      try clear c2
      try clear c2b0
      try clear c2b1
      try clear p2
      try clear hx138_0
      try clear hx138_1
      try clear hx138_10
      try clear hx138_11
      try clear hx138_12
      try clear hx138_2
      try clear hx138_3
      try clear hx138_4
      try clear hx138_5
      try clear hx138_6
      try clear hx138_7
      try clear hx138_8
      try clear hx138_9
      try clear hx139_0
      try clear hx139_1
      try clear hx139_10
      try clear hx139_11
      try clear hx139_12
      try clear hx139_2
      try clear hx139_3
      try clear hx139_4
      try clear hx139_5
      try clear hx139_6
      try clear hx139_7
      try clear hx139_8
      try clear hx139_9
      try clear p138
      try clear p139
      try clear q138
      try clear q139
      obtain ⟨x3_1, x4_1, x17_1, rfl, rfl, rfl, HA, HK1, HB⟩ := hrel
      cases gk with
      | zero => exact absurd HA.out (by simp [sample_took.l0])
      | succ k1 =>
        have H := HA.out
        clear HA
        simp only [sample_took.l0] at H
        by_cases c3 : x17_1 < (l0.length : Int)
        · rw [if_pos c3] at H
          have c3b0 : decide (x17_1 < (l0.length : Int)) = true := decide_eq_true c3
          clear c3
          by_cases c4 : 0 ≤ x17_1
          · rw [if_pos c4] at H
            have c4b0 : decide (0 ≤ x17_1) = true := decide_eq_true c4
            clear c4
            by_cases c5 : x17_1 < (l0.length : Int)
            · rw [if_pos c5] at H
              have c5b0 : decide (x17_1 < (l0.length : Int)) = true := decide_eq_true c5
              clear c5
              obtain ⟨ji6, hji6⟩ : ∃ j_ : Int, (mn x3_1 ((rd_T43 l0 x17_1).f8)) = j_ := ⟨_, rfl⟩
              replace H : (sample_took.l0 k1 ji6 (mx x4_1 ((rd_T43 l0 x17_1).f9)) l0 (l0.length : Int) (wrap64 (x17_1 + 1))) = some r := by first | (rw [hji6] at H; exact H) | (simp only [hji6] at H ⊢; exact H)
              have hji6_ : (if ((rd_T43 l0 x17_1).f8) < x3_1 then ((rd_T43 l0 x17_1).f8) else x3_1) = ji6 := hji6
              obtain ⟨ji7, hji7⟩ : ∃ j_ : Int, (mx x4_1 ((rd_T43 l0 x17_1).f9)) = j_ := ⟨_, rfl⟩
              replace H : (sample_took.l0 k1 ji6 ji7 l0 (l0.length : Int) (wrap64 (x17_1 + 1))) = some r := by first | (rw [hji7] at H; exact H) | (simp only [hji7] at H ⊢; exact H)
              have hji7_ : (if x4_1 < ((rd_T43 l0 x17_1).f9) then ((rd_T43 l0 x17_1).f9) else x4_1) = ji7 := hji7
              have H' := Aside0.mk H
              clear H
              have p140 : 0 ≤ (x17_1 : Int) := of_decide_eq_true (by first | (with_reducible assumption) | assumption)
              have q140 : x17_1 < (l0.length : Int) := of_decide_eq_true (by first | (with_reducible assumption) | assumption)
              obtain ⟨ad140, A140_4, c140_4, A140_11, c140_11, A140_12, c140_12, e140, hx140_0, hx140_1, hx140_2, hx140_3, hx140_4, hx140_5, hx140_6, hx140_7, hx140_8, hx140_9, hx140_10, hx140_11, hx140_12, hl140_4, hi140_4, hl140_11, hi140_11, hl140_12, hi140_12⟩ := at_T43 HR0.out x17_1 p140 q140
              obtain rfl : ad138 = ad140 := (by injection e140)
              replace hx140_0 := (HB.out.cell (World.block_lt_of_cell? w _ hx140_0)).trans hx140_0
              replace hx140_1 := (HB.out.cell (World.block_lt_of_cell? w _ hx140_1)).trans hx140_1
              replace hx140_2 := (HB.out.cell (World.block_lt_of_cell? w _ hx140_2)).trans hx140_2
              replace hx140_3 := (HB.out.cell (World.block_lt_of_cell? w _ hx140_3)).trans hx140_3
              replace hx140_4 := (HB.out.cell (World.block_lt_of_cell? w _ hx140_4)).trans hx140_4
              replace hx140_5 := (HB.out.cell (World.block_lt_of_cell? w _ hx140_5)).trans hx140_5
              replace hx140_6 := (HB.out.cell (World.block_lt_of_cell? w _ hx140_6)).trans hx140_6
              replace hx140_7 := (HB.out.cell (World.block_lt_of_cell? w _ hx140_7)).trans hx140_7
              replace hx140_8 := (HB.out.cell (World.block_lt_of_cell? w _ hx140_8)).trans hx140_8
              replace hx140_9 := (HB.out.cell (World.block_lt_of_cell? w _ hx140_9)).trans hx140_9
              replace hx140_10 := (HB.out.cell (World.block_lt_of_cell? w _ hx140_10)).trans hx140_10
              replace hx140_11 := (HB.out.cell (World.block_lt_of_cell? w _ hx140_11)).trans hx140_11
              replace hx140_12 := (HB.out.cell (World.block_lt_of_cell? w _ hx140_12)).trans hx140_12
              have HR140_4 := Aside0.mk hi140_4
              have HC140_4 := Aside0.mk hl140_4
              clear hi140_4 hl140_4
              have HR140_11 := Aside0.mk hi140_11
              have HC140_11 := Aside0.mk hl140_11
              clear hi140_11 hl140_11
              have HR140_12 := Aside0.mk hi140_12
              have HC140_12 := Aside0.mk hl140_12
              clear hi140_12 hl140_12
              replace p140 := eq_true p140
              replace q140 := eq_true q140
              go_wp2_with (first | ((with_reducible refine gate_dst (N := 6) rfl ?_); refine box_event ?hg (N := 6) ?hd (cs := #[.int .u64 0, .int .u64 0, .int .u64 0, .int .u64 0, .slice none 0 0, .string (⟨#[]⟩ : ByteArray), .string (⟨#[]⟩ : ByteArray), .int .i64 0, .int .i64 0, .int .i64 0, .int .i64 0, .slice none 0 0, .slice none 0 0]) (t := 43) ?hr ?_; (case hd => rfl); (case hg => rfl); (case hr => first | (go_simp; done) | (go_simp; rfl)); intro gb141 hg w8 hbox hb; have n0_ := Aside0.mk (below_step (by repeat (first | (with_reducible first | exact HB.out | apply below_alloc | apply pw_below_drewN | apply below_drew1) | exact HB.out)) hb); have n1_ := Aside0.mk (hbox); have n2_ := Aside0.mk ((by rw [hg]; exact (below_size (by repeat (first | (with_reducible first | exact HB.out | apply below_alloc | apply pw_below_drewN | apply below_drew1) | exact HB.out))) : w.heap.size ≤ gb141)); have n3_ := Aside0.mk ((by rw [hg]; exact (below_size (by repeat (first | (with_reducible first | exact HB.out | apply below_alloc | apply pw_below_drewN | apply below_drew1) | exact HB.out))) : w.heap.size ≤ gb141)); clear HB; have HB := n0_; have BK141 := n1_; have GW141 := n2_; have GE141 := n3_; clear n0_ n1_ n2_ n3_; clear hb hbox hg; have hcz9_0 : w8.cell? ⟨gb141, 0, none⟩ = some (.int .u64 0) := (blk_cell BK141.out 0).trans rfl; have hcz9_1 : w8.cell? ⟨gb141, 1, none⟩ = some (.int .u64 0) := (blk_cell BK141.out 1).trans rfl; have hcz9_2 : w8.cell? ⟨gb141, 2, none⟩ = some (.int .u64 0) := (blk_cell BK141.out 2).trans rfl; have hcz9_3 : w8.cell? ⟨gb141, 3, none⟩ = some (.int .u64 0) := (blk_cell BK141.out 3).trans rfl; have hcz9_4 : w8.cell? ⟨gb141, 4, none⟩ = some (.slice none 0 0) := (blk_cell BK141.out 4).trans rfl; have hcz9_5 : w8.cell? ⟨gb141, 5, none⟩ = some (.string (⟨#[]⟩ : ByteArray)) := (blk_cell BK141.out 5).trans rfl; have hcz9_6 : w8.cell? ⟨gb141, 6, none⟩ = some (.string (⟨#[]⟩ : ByteArray)) := (blk_cell BK141.out 6).trans rfl; have hcz9_7 : w8.cell? ⟨gb141, 7, none⟩ = some (.int .i64 0) := (blk_cell BK141.out 7).trans rfl; have hcz9_8 : w8.cell? ⟨gb141, 8, none⟩ = some (.int .i64 0) := (blk_cell BK141.out 8).trans rfl; have hcz9_9 : w8.cell? ⟨gb141, 9, none⟩ = some (.int .i64 0) := (blk_cell BK141.out 9).trans rfl; have hcz9_10 : w8.cell? ⟨gb141, 10, none⟩ = some (.int .i64 0) := (blk_cell BK141.out 10).trans rfl; have hcz9_11 : w8.cell? ⟨gb141, 11, none⟩ = some (.slice none 0 0) := (blk_cell BK141.out 11).trans rfl; have hcz9_12 : w8.cell? ⟨gb141, 12, none⟩ = some (.slice none 0 0) := (blk_cell BK141.out 12).trans rfl; have hfz9_0 := blk_frozen BK141.out 0; have hfz9_1 := blk_frozen BK141.out 1; have hfz9_2 := blk_frozen BK141.out 2; have hfz9_3 := blk_frozen BK141.out 3; have hfz9_4 := blk_frozen BK141.out 4; have hfz9_5 := blk_frozen BK141.out 5; have hfz9_6 := blk_frozen BK141.out 6; have hfz9_7 := blk_frozen BK141.out 7; have hfz9_8 := blk_frozen BK141.out 8; have hfz9_9 := blk_frozen BK141.out 9; have hfz9_10 := blk_frozen BK141.out 10; have hfz9_11 := blk_frozen BK141.out 11; have hfz9_12 := blk_frozen BK141.out 12))
              repeat (go_quiet (first | ((with_reducible refine gate_dst (N := 6) rfl ?_); refine box_event ?hg (N := 6) ?hd (cs := #[.int .u64 0, .int .u64 0, .int .u64 0, .int .u64 0, .slice none 0 0, .string (⟨#[]⟩ : ByteArray), .string (⟨#[]⟩ : ByteArray), .int .i64 0, .int .i64 0, .int .i64 0, .int .i64 0, .slice none 0 0, .slice none 0 0]) (t := 43) ?hr ?_; (case hd => rfl); (case hg => rfl); (case hr => first | (go_simp; done) | (go_simp; rfl)); intro gb141 hg w8 hbox hb; have n0_ := Aside0.mk (below_step (by repeat (first | (with_reducible first | exact HB.out | apply below_alloc | apply pw_below_drewN | apply below_drew1) | exact HB.out)) hb); have n1_ := Aside0.mk (hbox); have n2_ := Aside0.mk ((by rw [hg]; exact (below_size (by repeat (first | (with_reducible first | exact HB.out | apply below_alloc | apply pw_below_drewN | apply below_drew1) | exact HB.out))) : w.heap.size ≤ gb141)); have n3_ := Aside0.mk ((by rw [hg]; exact (below_size (by repeat (first | (with_reducible first | exact HB.out | apply below_alloc | apply pw_below_drewN | apply below_drew1) | exact HB.out))) : w.heap.size ≤ gb141)); clear HB; have HB := n0_; have BK141 := n1_; have GW141 := n2_; have GE141 := n3_; clear n0_ n1_ n2_ n3_; clear hb hbox hg; have hcz9_0 : w8.cell? ⟨gb141, 0, none⟩ = some (.int .u64 0) := (blk_cell BK141.out 0).trans rfl; have hcz9_1 : w8.cell? ⟨gb141, 1, none⟩ = some (.int .u64 0) := (blk_cell BK141.out 1).trans rfl; have hcz9_2 : w8.cell? ⟨gb141, 2, none⟩ = some (.int .u64 0) := (blk_cell BK141.out 2).trans rfl; have hcz9_3 : w8.cell? ⟨gb141, 3, none⟩ = some (.int .u64 0) := (blk_cell BK141.out 3).trans rfl; have hcz9_4 : w8.cell? ⟨gb141, 4, none⟩ = some (.slice none 0 0) := (blk_cell BK141.out 4).trans rfl; have hcz9_5 : w8.cell? ⟨gb141, 5, none⟩ = some (.string (⟨#[]⟩ : ByteArray)) := (blk_cell BK141.out 5).trans rfl; have hcz9_6 : w8.cell? ⟨gb141, 6, none⟩ = some (.string (⟨#[]⟩ : ByteArray)) := (blk_cell BK141.out 6).trans rfl; have hcz9_7 : w8.cell? ⟨gb141, 7, none⟩ = some (.int .i64 0) := (blk_cell BK141.out 7).trans rfl; have hcz9_8 : w8.cell? ⟨gb141, 8, none⟩ = some (.int .i64 0) := (blk_cell BK141.out 8).trans rfl; have hcz9_9 : w8.cell? ⟨gb141, 9, none⟩ = some (.int .i64 0) := (blk_cell BK141.out 9).trans rfl; have hcz9_10 : w8.cell? ⟨gb141, 10, none⟩ = some (.int .i64 0) := (blk_cell BK141.out 10).trans rfl; have hcz9_11 : w8.cell? ⟨gb141, 11, none⟩ = some (.slice none 0 0) := (blk_cell BK141.out 11).trans rfl; have hcz9_12 : w8.cell? ⟨gb141, 12, none⟩ = some (.slice none 0 0) := (blk_cell BK141.out 12).trans rfl; have hfz9_0 := blk_frozen BK141.out 0; have hfz9_1 := blk_frozen BK141.out 1; have hfz9_2 := blk_frozen BK141.out 2; have hfz9_3 := blk_frozen BK141.out 3; have hfz9_4 := blk_frozen BK141.out 4; have hfz9_5 := blk_frozen BK141.out 5; have hfz9_6 := blk_frozen BK141.out 6; have hfz9_7 := blk_frozen BK141.out 7; have hfz9_8 := blk_frozen BK141.out 8; have hfz9_9 := blk_frozen BK141.out 9; have hfz9_10 := blk_frozen BK141.out 10; have hfz9_11 := blk_frozen BK141.out 11; have hfz9_12 := blk_frozen BK141.out 12)); try go_wp2_with (first | ((with_reducible refine gate_dst (N := 6) rfl ?_); refine box_event ?hg (N := 6) ?hd (cs := #[.int .u64 0, .int .u64 0, .int .u64 0, .int .u64 0, .slice none 0 0, .string (⟨#[]⟩ : ByteArray), .string (⟨#[]⟩ : ByteArray), .int .i64 0, .int .i64 0, .int .i64 0, .int .i64 0, .slice none 0 0, .slice none 0 0]) (t := 43) ?hr ?_; (case hd => rfl); (case hg => rfl); (case hr => first | (go_simp; done) | (go_simp; rfl)); intro gb141 hg w8 hbox hb; have n0_ := Aside0.mk (below_step (by repeat (first | (with_reducible first | exact HB.out | apply below_alloc | apply pw_below_drewN | apply below_drew1) | exact HB.out)) hb); have n1_ := Aside0.mk (hbox); have n2_ := Aside0.mk ((by rw [hg]; exact (below_size (by repeat (first | (with_reducible first | exact HB.out | apply below_alloc | apply pw_below_drewN | apply below_drew1) | exact HB.out))) : w.heap.size ≤ gb141)); have n3_ := Aside0.mk ((by rw [hg]; exact (below_size (by repeat (first | (with_reducible first | exact HB.out | apply below_alloc | apply pw_below_drewN | apply below_drew1) | exact HB.out))) : w.heap.size ≤ gb141)); clear HB; have HB := n0_; have BK141 := n1_; have GW141 := n2_; have GE141 := n3_; clear n0_ n1_ n2_ n3_; clear hb hbox hg; have hcz9_0 : w8.cell? ⟨gb141, 0, none⟩ = some (.int .u64 0) := (blk_cell BK141.out 0).trans rfl; have hcz9_1 : w8.cell? ⟨gb141, 1, none⟩ = some (.int .u64 0) := (blk_cell BK141.out 1).trans rfl; have hcz9_2 : w8.cell? ⟨gb141, 2, none⟩ = some (.int .u64 0) := (blk_cell BK141.out 2).trans rfl; have hcz9_3 : w8.cell? ⟨gb141, 3, none⟩ = some (.int .u64 0) := (blk_cell BK141.out 3).trans rfl; have hcz9_4 : w8.cell? ⟨gb141, 4, none⟩ = some (.slice none 0 0) := (blk_cell BK141.out 4).trans rfl; have hcz9_5 : w8.cell? ⟨gb141, 5, none⟩ = some (.string (⟨#[]⟩ : ByteArray)) := (blk_cell BK141.out 5).trans rfl; have hcz9_6 : w8.cell? ⟨gb141, 6, none⟩ = some (.string (⟨#[]⟩ : ByteArray)) := (blk_cell BK141.out 6).trans rfl; have hcz9_7 : w8.cell? ⟨gb141, 7, none⟩ = some (.int .i64 0) := (blk_cell BK141.out 7).trans rfl; have hcz9_8 : w8.cell? ⟨gb141, 8, none⟩ = some (.int .i64 0) := (blk_cell BK141.out 8).trans rfl; have hcz9_9 : w8.cell? ⟨gb141, 9, none⟩ = some (.int .i64 0) := (blk_cell BK141.out 9).trans rfl; have hcz9_10 : w8.cell? ⟨gb141, 10, none⟩ = some (.int .i64 0) := (blk_cell BK141.out 10).trans rfl; have hcz9_11 : w8.cell? ⟨gb141, 11, none⟩ = some (.slice none 0 0) := (blk_cell BK141.out 11).trans rfl; have hcz9_12 : w8.cell? ⟨gb141, 12, none⟩ = some (.slice none 0 0) := (blk_cell BK141.out 12).trans rfl; have hfz9_0 := blk_frozen BK141.out 0; have hfz9_1 := blk_frozen BK141.out 1; have hfz9_2 := blk_frozen BK141.out 2; have hfz9_3 := blk_frozen BK141.out 3; have hfz9_4 := blk_frozen BK141.out 4; have hfz9_5 := blk_frozen BK141.out 5; have hfz9_6 := blk_frozen BK141.out 6; have hfz9_7 := blk_frozen BK141.out 7; have hfz9_8 := blk_frozen BK141.out 8; have hfz9_9 := blk_frozen BK141.out 9; have hfz9_10 := blk_frozen BK141.out 10; have hfz9_11 := blk_frozen BK141.out 11; have hfz9_12 := blk_frozen BK141.out 12)))
              go_roundg k1
              case measure => have := HK1.out; omega
              case rel => exact ⟨(ji6), (ji7), (wrap64 (x17_1 + 1)), (by first | rfl | (simp; done) | (simp only [← hji6] <;> (first | rfl | simp)) | (simp [*]; done)), (by first | rfl | (simp; done) | (simp only [← hji7] <;> (first | rfl | simp)) | (simp [*]; done)), (by first | rfl | (simp; done) | (simp [*]; done)), H', ⟨by have := HK1.out; omega⟩, ⟨by repeat (first | (with_reducible first | exact HB.out | apply below_alloc | apply pw_below_drewN | apply below_drew1 | refine below_set ?_ GE141.out) | exact HB.out)⟩⟩
            · rw [if_neg c5] at H
              exact absurd H (by simp)
          · rw [if_neg c4] at H
            exact absurd H (by simp)
        · rw [if_neg c3] at H
          have c3b0 : decide (x17_1 < (l0.length : Int)) = false := decide_eq_false c3
          clear c3
          obtain rfl := Option.some.inj H
          go_wp2
          repeat (go_quiet (fail); try go_wp2)
          go_ret
          exact ⟨by first | rfl | (simp [errW_none, errW_some] <;> rfl) | (simp [*, errW_none, errW_some] <;> rfl), by repeat (first | (with_reducible first | exact HB.out | apply below_alloc | apply pw_below_drewN | apply below_drew1) | exact HB.out)⟩
  · rw [if_neg c2] at H
    exact absurd H (by simp)

-- NOT PRINTED: function 43 (sample_holds)

-- NOT PRINTED: function 23 (sample_NewFew)

end Go.Proofs.YtdlnfmakfnggpaaDoor.Pr
