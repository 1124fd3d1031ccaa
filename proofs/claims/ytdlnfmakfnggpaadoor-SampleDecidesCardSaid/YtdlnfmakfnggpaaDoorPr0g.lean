-- by xprint.py, a program of the session's own, over the kit's print. Not trusted: Lean checks it.
import Derived.Test.YtdlnfmakfnggpaaDoorPr0
import Derived.Test.YtdlnfmakfnggpaaDoorPr0f
namespace Go.Proofs.YtdlnfmakfnggpaaDoor.Pr
open Go.RowKit Go.Proofs.YtdlnfmakfnggpaaDoorW.PrintWords Go.Proofs.YtdlnfmakfnggpaaDoorW.PrintLast Go.Proofs.YtdlnfmakfnggpaaDoorW.PrintMore
attribute [local go_sem] max2_int min2_int max_two min_two max_three min_three max_four min_four   -- for this text's walks alone
set_option linter.unusedVariables false
set_option linter.unusedSimpArgs false

/-! ### spoorref21_may: function 41 -/
def spoorref21_may.j0 : Nat → Bool → Int → Int → ByteArray → Int → Option (Bool)
  | 0, _, _, _, _, _ => none
  | k + 1, x13, x201000, x201001, x201002, x201003 => if x13 = true then (some false) else (if x201001 = 0 then (if x201003 = 0 then (if x201000 = 3 then ((spoorref04_Plain.f k x201002 60 33).bind fun t201 => (some t201)) else (some (x201002.toList == ([] : List UInt8)))) else (if x201000 = 4 then (if x201003 > 0 then (if x201000 = 3 then ((spoorref04_Plain.f k x201002 60 33).bind fun t202 => (if x201003 ≤ 65536 then (some t202) else (some false))) else (if x201003 ≤ 65536 then (some (x201002.toList == ([] : List UInt8))) else (some false))) else (if x201000 = 3 then ((spoorref04_Plain.f k x201002 60 33).bind fun t203 => (some false)) else (some false))) else (if x201000 = 3 then ((spoorref04_Plain.f k x201002 60 33).bind fun t204 => (some false)) else (some false)))) else (if x201003 = 0 then (if x201000 = 3 then ((spoorref04_Plain.f k x201002 60 33).bind fun t205 => (if x201000 = 2 then (some t205) else (some false))) else (if x201000 = 2 then (some (x201002.toList == ([] : List UInt8))) else (some false))) else (if x201000 = 4 then (if x201003 > 0 then (if x201000 = 3 then ((spoorref04_Plain.f k x201002 60 33).bind fun t206 => (if x201000 = 2 then (if x201003 ≤ 65536 then (some t206) else (some false)) else (some false))) else (if x201000 = 2 then (if x201003 ≤ 65536 then (some (x201002.toList == ([] : List UInt8))) else (some false)) else (some false))) else (if x201000 = 3 then ((spoorref04_Plain.f k x201002 60 33).bind fun t207 => (if x201000 = 2 then (some false) else (some false))) else (if x201000 = 2 then (some false) else (some false)))) else (if x201000 = 3 then ((spoorref04_Plain.f k x201002 60 33).bind fun t208 => (if x201000 = 2 then (some false) else (some false))) else (if x201000 = 2 then (some false) else (some false))))))
def spoorref21_may.f (k : Nat) (a0_0 : Int) (a0_1 : Int) (a0_2 : ByteArray) (a0_3 : Int) : Option (Bool) := if a0_0 < 0 then (spoorref21_may.j0 k true a0_0 a0_1 a0_2 a0_3) else (spoorref21_may.j0 k (decide (a0_0 > 4)) a0_0 a0_1 a0_2 a0_3)
theorem spoorref21_may.mono_l : ∀ k, (∀ y0 y1 y2 y3 y4, LeO (spoorref21_may.j0 k y0 y1 y2 y3 y4) (spoorref21_may.j0 (k + 1) y0 y1 y2 y3 y4))
  | 0 => fun _ _ _ _ _ r h => by simp [spoorref21_may.j0] at h
  | k + 1 => by
    have ih0 := spoorref21_may.mono_l k
    · intro y0 y1 y2 y3 y4
      unfold spoorref21_may.j0
      repeat' first
      | (with_reducible exact ih0 _ _ _ _ _)
      | (with_reducible exact spoorref04_Plain.mono _ _ _ _)
      | (with_reducible exact LeO.refl _)
      | (with_reducible exact LeO.none _)
      | (with_reducible refine LeO.ite ?_ ?_)
      | (with_reducible refine LeO.bind ?_ (fun _ => ?_))
      | exact ih0 _ _ _ _ _
      | exact spoorref04_Plain.mono _ _ _ _
      | exact LeO.none _
      | refine LeO.ite ?_ ?_
      | refine LeO.bind ?_ (fun _ => ?_)
theorem spoorref21_may.mono : ∀ a0 a1 a2 a3 k, LeO (spoorref21_may.f k a0 a1 a2 a3) (spoorref21_may.f (k + 1) a0 a1 a2 a3) := by
  intro a0 a1 a2 a3 k
  have ih0 := spoorref21_may.mono_l k
  unfold spoorref21_may.f
  repeat' first
      | (with_reducible exact ih0 _ _ _ _ _)
      | (with_reducible exact spoorref04_Plain.mono _ _ _ _)
      | (with_reducible exact LeO.refl _)
      | (with_reducible exact LeO.none _)
      | (with_reducible refine LeO.ite ?_ ?_)
      | (with_reducible refine LeO.bind ?_ (fun _ => ?_))
      | exact ih0 _ _ _ _ _
      | exact spoorref04_Plain.mono _ _ _ _
      | exact LeO.none _
      | refine LeO.ite ?_ ?_
      | refine LeO.bind ?_ (fun _ => ?_)
set_option maxHeartbeats 8000000 in
set_option maxRecDepth 100000 in
theorem spoorref21_may.calls (k : Nat) (a0_0 : Int) (a0_1 : Int) (a0_2 : ByteArray) (a0_3 : Int) (r : Bool) (w : World) (h : spoorref21_may.f k a0_0 a0_1 a0_2 a0_3 = some r) :
    Calls Tryd.prog 41 #[.agg #[.int .i64 a0_0, .int .u64 a0_1, .string a0_2, .int .i64 a0_3]] w fun e w' => e = .returned (.bool r) ∧ Below w.heap.size w w' := by
  have hu30 := Tryd.underlying30
  have HB := Aside0.mk (Below.refl w.heap.size w)
  have H : (if a0_0 < 0 then (spoorref21_may.j0 k true a0_0 a0_1 a0_2 a0_3) else (spoorref21_may.j0 k (decide (a0_0 > 4)) a0_0 a0_1 a0_2 a0_3)) = some r := h
  clear h
  have HC2 := Aside0.mk H
  clear H
  go_enter Tryd.func41, Tryd.ntmps41
  go_upto_region 1 with (first | ((with_reducible refine gate_dst (N := 1) rfl ?_); refine box_event ?hg (N := 1) ?hd (cs := #[.int .i64 a0_0, .int .u64 a0_1, .string a0_2, .int .i64 a0_3]) (t := 30) ?hr ?_; (case hd => rfl); (case hg => rfl); (case hr => first | (go_simp; done) | (go_simp; rfl)); intro gb200 hg w3 hbox hb; have n0_ := Aside0.mk (below_step (by repeat (first | (with_reducible first | exact HB.out | apply below_alloc | apply pw_below_drewN | apply below_drew1) | exact HB.out)) hb); have n1_ := Aside0.mk (hbox); have n2_ := Aside0.mk ((by rw [hg]; exact (below_size (by repeat (first | (with_reducible first | exact HB.out | apply below_alloc | apply pw_below_drewN | apply below_drew1) | exact HB.out))) : w.heap.size ≤ gb200)); have n3_ := Aside0.mk ((by rw [hg]; exact (below_size (by repeat (first | (with_reducible first | exact HB.out | apply below_alloc | apply pw_below_drewN | apply below_drew1) | exact HB.out))) : w.heap.size ≤ gb200)); clear HB; have HB := n0_; have BK200 := n1_; have GW200 := n2_; have GE200 := n3_; clear n0_ n1_ n2_ n3_; clear hb hbox hg))
  (try simp only [Act.put, List.setIfInBounds_toArray, List.set_cons_zero, List.set_cons_succ])
  go_cut [13] (fun v13 wc => ∃ (kq : Nat) (x13_1 : Bool), v13 = .bool x13_1 ∧ Aside0 (spoorref21_may.j0 kq x13_1 a0_0 a0_1 a0_2 a0_3 = some r) ∧ Aside0 (kq ≤ k) ∧ Aside0 (wc.heap[gb200]? = some (.cells #[.int .i64 a0_0, .int .u64 a0_1, .string a0_2, .int .i64 a0_3] 30 (0, 0))) ∧ Aside0 (Below w.heap.size w wc))
  case first =>
    have H := HC2.out
    clear HC2
    by_cases c4 : a0_0 < 0
    · rw [if_pos c4] at H
      have c4b0 : decide (a0_0 < 0) = true := decide_eq_true c4
      clear c4
      (first | rw [c4b0] | (simp only [i64_w, i32_w]; rw [c4b0]) | skip)
      have H' := Aside0.mk H
      clear H
      have hcz5_0 : w3.cell? ⟨gb200, 0, none⟩ = some (.int .i64 a0_0) := (blk_cell BK200.out 0).trans rfl
      have hcz5_1 : w3.cell? ⟨gb200, 1, none⟩ = some (.int .u64 a0_1) := (blk_cell BK200.out 1).trans rfl
      have hcz5_2 : w3.cell? ⟨gb200, 2, none⟩ = some (.string a0_2) := (blk_cell BK200.out 2).trans rfl
      have hcz5_3 : w3.cell? ⟨gb200, 3, none⟩ = some (.int .i64 a0_3) := (blk_cell BK200.out 3).trans rfl
      have hfz5_0 := blk_frozen BK200.out 0
      have hfz5_1 := blk_frozen BK200.out 1
      have hfz5_2 := blk_frozen BK200.out 2
      have hfz5_3 := blk_frozen BK200.out 3
      go_wp2
      go_meet
      case rel => exact ⟨_, (true), (by first | rfl | (simp; done) | (simp [*]; done)), H', ⟨by first | omega | exact Nat.le_refl _⟩, ⟨by (with_reducible repeat (first | refine blk_drewN ?_ _ | refine blk_drew ?_ | refine blk_alloc ?_ _)); exact BK200.out⟩, ⟨by repeat (first | (with_reducible first | exact HB.out | apply below_alloc | apply pw_below_drewN | apply below_drew1 | refine below_set ?_ GE200.out) | exact HB.out)⟩⟩
    · rw [if_neg c4] at H
      have c4b0 : decide (a0_0 < 0) = false := decide_eq_false c4
      clear c4
      (first | rw [c4b0] | (simp only [i64_w, i32_w]; rw [c4b0]) | skip)
      have H' := Aside0.mk H
      clear H
      have hcz6_0 : w3.cell? ⟨gb200, 0, none⟩ = some (.int .i64 a0_0) := (blk_cell BK200.out 0).trans rfl
      have hcz6_1 : w3.cell? ⟨gb200, 1, none⟩ = some (.int .u64 a0_1) := (blk_cell BK200.out 1).trans rfl
      have hcz6_2 : w3.cell? ⟨gb200, 2, none⟩ = some (.string a0_2) := (blk_cell BK200.out 2).trans rfl
      have hcz6_3 : w3.cell? ⟨gb200, 3, none⟩ = some (.int .i64 a0_3) := (blk_cell BK200.out 3).trans rfl
      have hfz6_0 := blk_frozen BK200.out 0
      have hfz6_1 := blk_frozen BK200.out 1
      have hfz6_2 := blk_frozen BK200.out 2
      have hfz6_3 := blk_frozen BK200.out 3
      go_wp2
      go_meet
      case rel => exact ⟨_, (decide (a0_0 > 4)), (by first | rfl | (simp; done) | (simp [*]; done)), H', ⟨by first | omega | exact Nat.le_refl _⟩, ⟨by (with_reducible repeat (first | refine blk_drewN ?_ _ | refine blk_drew ?_ | refine blk_alloc ?_ _)); exact BK200.out⟩, ⟨by repeat (first | (with_reducible first | exact HB.out | apply below_alloc | apply pw_below_drewN | apply below_drew1 | refine below_set ?_ GE200.out) | exact HB.out)⟩⟩
  case rest =>
    clear HC2
    try clear p2
    try clear c4
    try clear c4b0
    try clear hcz5_0
    try clear hcz5_1
    try clear hcz5_2
    try clear hcz5_3
    try clear hcz6_0
    try clear hcz6_1
    try clear hcz6_2
    try clear hcz6_3
    try clear hfz5_0
    try clear hfz5_1
    try clear hfz5_2
    try clear hfz5_3
    try clear hfz6_0
    try clear hfz6_1
    try clear hfz6_2
    try clear hfz6_3
    obtain ⟨kq, x13_1, rfl, HA, HJ1, BK200, HB⟩ := hcut
    cases kq with
    | zero => exact absurd HA.out (by simp [spoorref21_may.j0])
    | succ kj1 =>
      have H := HA.out
      clear HA
      simp only [spoorref21_may.j0] at H
      by_cases c7 : x13_1 = true
      · subst c7
        have H1 : (some false) = some r := by rw [if_pos rfl] at H; exact H
        clear H
        have H := H1
        clear H1
        obtain rfl := Option.some.inj H
        go_wp2
        go_ret
        exact ⟨by first | rfl | (simp [errW_none, errW_some] <;> rfl) | (simp [*, errW_none, errW_some] <;> rfl), by repeat (first | (with_reducible first | exact HB.out | apply below_alloc | apply pw_below_drewN | apply below_drew1 | refine below_set ?_ GE200.out) | exact HB.out)⟩
      · replace c7 := Bool.eq_false_iff.mpr c7
        subst c7
        have H1 : (if a0_1 = 0 then (if a0_3 = 0 then (if a0_0 = 3 then ((spoorref04_Plain.f kj1 a0_2 60 33).bind fun t201 => (some t201)) else (some (a0_2.toList == ([] : List UInt8)))) else (if a0_0 = 4 then (if a0_3 > 0 then (if a0_0 = 3 then ((spoorref04_Plain.f kj1 a0_2 60 33).bind fun t202 => (if a0_3 ≤ 65536 then (some t202) else (some false))) else (if a0_3 ≤ 65536 then (some (a0_2.toList == ([] : List UInt8))) else (some false))) else (if a0_0 = 3 then ((spoorref04_Plain.f kj1 a0_2 60 33).bind fun t203 => (some false)) else (some false))) else (if a0_0 = 3 then ((spoorref04_Plain.f kj1 a0_2 60 33).bind fun t204 => (some false)) else (some false)))) else (if a0_3 = 0 then (if a0_0 = 3 then ((spoorref04_Plain.f kj1 a0_2 60 33).bind fun t205 => (if a0_0 = 2 then (some t205) else (some false))) else (if a0_0 = 2 then (some (a0_2.toList == ([] : List UInt8))) else (some false))) else (if a0_0 = 4 then (if a0_3 > 0 then (if a0_0 = 3 then ((spoorref04_Plain.f kj1 a0_2 60 33).bind fun t206 => (if a0_0 = 2 then (if a0_3 ≤ 65536 then (some t206) else (some false)) else (some false))) else (if a0_0 = 2 then (if a0_3 ≤ 65536 then (some (a0_2.toList == ([] : List UInt8))) else (some false)) else (some false))) else (if a0_0 = 3 then ((spoorref04_Plain.f kj1 a0_2 60 33).bind fun t207 => (if a0_0 = 2 then (some false) else (some false))) else (if a0_0 = 2 then (some false) else (some false)))) else (if a0_0 = 3 then ((spoorref04_Plain.f kj1 a0_2 60 33).bind fun t208 => (if a0_0 = 2 then (some false) else (some false))) else (if a0_0 = 2 then (some false) else (some false)))))) = some r := by rw [if_neg (show ¬ (false = true) by decide)] at H; exact H
        clear H
        have H := H1
        clear H1
        by_cases c8 : a0_1 = 0
        · rw [if_pos c8] at H
          have c8b0 : (a0_1 == 0) = true := beq_iff_eq.mpr c8
          have c8b1 : (a0_1 != 0) = false := bne_eq_false_iff_eq.mpr c8
          clear c8
          by_cases c9 : a0_3 = 0
          · rw [if_pos c9] at H
            have c9b0 : (a0_3 == 0) = true := beq_iff_eq.mpr c9
            have c9b1 : (a0_3 != 0) = false := bne_eq_false_iff_eq.mpr c9
            clear c9
            by_cases c10 : a0_0 = 3
            · rw [if_pos c10] at H
              have c10b0 : (a0_0 == 3) = true := beq_iff_eq.mpr c10
              have c10b1 : (a0_0 != 3) = false := bne_eq_false_iff_eq.mpr c10
              clear c10
              replace H := Option.bind_eq_some_iff.mp H
              obtain ⟨t201, A110, H⟩ := H
              replace H : (some t201) = some r := H
              have A11 := Aside0.mk A110
              clear A110
              obtain rfl := Option.some.inj H
              have hcz12_0 : wc.cell? ⟨gb200, 0, none⟩ = some (.int .i64 a0_0) := (blk_cell BK200.out 0).trans rfl
              have hcz12_1 : wc.cell? ⟨gb200, 1, none⟩ = some (.int .u64 a0_1) := (blk_cell BK200.out 1).trans rfl
              have hcz12_2 : wc.cell? ⟨gb200, 2, none⟩ = some (.string a0_2) := (blk_cell BK200.out 2).trans rfl
              have hcz12_3 : wc.cell? ⟨gb200, 3, none⟩ = some (.int .i64 a0_3) := (blk_cell BK200.out 3).trans rfl
              have hfz12_0 := blk_frozen BK200.out 0
              have hfz12_1 := blk_frozen BK200.out 1
              have hfz12_2 := blk_frozen BK200.out 2
              have hfz12_3 := blk_frozen BK200.out 3
              go_wp2_with (first | ((with_reducible refine gate_callee (f := 62) rfl ?_); refine goesL_ (some 48) rfl rfl Tryd.func62 (by kernel_rfl) rfl #[.string a0_2, .int .i64 60, .int .u8 33] rfl (by (try simp only [List.map_toArray, List.map_cons, List.map_nil]); first | done | rfl | (simp only [List.length_drop, List.length_take]; rfl)) ?_; (with_reducible refine (spoorref04_Plain.calls kj1 a0_2 60 33 t201 _ A11.out).mono ?_); rintro e w' ⟨rfl, ⟨nd, rfl⟩⟩; refine ⟨_, rfl, ?_⟩))
              go_ret
              exact ⟨by first | rfl | (simp [errW_none, errW_some] <;> rfl) | (simp [*, errW_none, errW_some] <;> rfl), by repeat (first | (with_reducible first | exact HB.out | apply below_alloc | apply pw_below_drewN | apply below_drew1 | refine below_set ?_ GE200.out) | exact HB.out)⟩
            · rw [if_neg c10] at H
              have c10b0 : (a0_0 == 3) = false := beq_eq_false_iff_ne.mpr c10
              have c10b1 : (a0_0 != 3) = true := bne_iff_ne.mpr c10
              obtain rfl := Option.some.inj H
              have hcz13_0 : wc.cell? ⟨gb200, 0, none⟩ = some (.int .i64 a0_0) := (blk_cell BK200.out 0).trans rfl
              have hcz13_1 : wc.cell? ⟨gb200, 1, none⟩ = some (.int .u64 a0_1) := (blk_cell BK200.out 1).trans rfl
              have hcz13_2 : wc.cell? ⟨gb200, 2, none⟩ = some (.string a0_2) := (blk_cell BK200.out 2).trans rfl
              have hcz13_3 : wc.cell? ⟨gb200, 3, none⟩ = some (.int .i64 a0_3) := (blk_cell BK200.out 3).trans rfl
              have hfz13_0 := blk_frozen BK200.out 0
              have hfz13_1 := blk_frozen BK200.out 1
              have hfz13_2 := blk_frozen BK200.out 2
              have hfz13_3 := blk_frozen BK200.out 3
              go_wp2
              go_ret
              exact ⟨by first | rfl | (simp [errW_none, errW_some] <;> rfl) | (simp [*, errW_none, errW_some] <;> rfl), by repeat (first | (with_reducible first | exact HB.out | apply below_alloc | apply pw_below_drewN | apply below_drew1 | refine below_set ?_ GE200.out) | exact HB.out)⟩
          · rw [if_neg c9] at H
            have c9b0 : (a0_3 == 0) = false := beq_eq_false_iff_ne.mpr c9
            have c9b1 : (a0_3 != 0) = true := bne_iff_ne.mpr c9
            by_cases c14 : a0_0 = 4
            · rw [if_pos c14] at H
              have c14b0 : (a0_0 == 4) = true := beq_iff_eq.mpr c14
              have c14b1 : (a0_0 != 4) = false := bne_eq_false_iff_eq.mpr c14
              clear c14
              by_cases c15 : a0_3 > 0
              · rw [if_pos c15] at H
                have c15b0 : decide (0 < a0_3) = true := decide_eq_true c15
                clear c15
                by_cases c16 : a0_0 = 3
                · rw [if_pos c16] at H
                  have c16b0 : (a0_0 == 3) = true := beq_iff_eq.mpr c16
                  have c16b1 : (a0_0 != 3) = false := bne_eq_false_iff_eq.mpr c16
                  clear c16
                  replace H := Option.bind_eq_some_iff.mp H
                  obtain ⟨t202, A170, H⟩ := H
                  replace H : (if a0_3 ≤ 65536 then (some t202) else (some false)) = some r := H
                  have A17 := Aside0.mk A170
                  clear A170
                  by_cases c18 : a0_3 ≤ 65536
                  · rw [if_pos c18] at H
                    have c18b0 : decide (a0_3 ≤ 65536) = true := decide_eq_true c18
                    clear c18
                    obtain rfl := Option.some.inj H
                    have hcz19_0 : wc.cell? ⟨gb200, 0, none⟩ = some (.int .i64 a0_0) := (blk_cell BK200.out 0).trans rfl
                    have hcz19_1 : wc.cell? ⟨gb200, 1, none⟩ = some (.int .u64 a0_1) := (blk_cell BK200.out 1).trans rfl
                    have hcz19_2 : wc.cell? ⟨gb200, 2, none⟩ = some (.string a0_2) := (blk_cell BK200.out 2).trans rfl
                    have hcz19_3 : wc.cell? ⟨gb200, 3, none⟩ = some (.int .i64 a0_3) := (blk_cell BK200.out 3).trans rfl
                    have hfz19_0 := blk_frozen BK200.out 0
                    have hfz19_1 := blk_frozen BK200.out 1
                    have hfz19_2 := blk_frozen BK200.out 2
                    have hfz19_3 := blk_frozen BK200.out 3
                    go_wp2_with (first | ((with_reducible refine gate_callee (f := 62) rfl ?_); refine goesL_ (some 48) rfl rfl Tryd.func62 (by kernel_rfl) rfl #[.string a0_2, .int .i64 60, .int .u8 33] rfl (by (try simp only [List.map_toArray, List.map_cons, List.map_nil]); first | done | rfl | (simp only [List.length_drop, List.length_take]; rfl)) ?_; (with_reducible refine (spoorref04_Plain.calls kj1 a0_2 60 33 t202 _ A17.out).mono ?_); rintro e w' ⟨rfl, ⟨nd, rfl⟩⟩; refine ⟨_, rfl, ?_⟩))
                    go_ret
                    exact ⟨by first | rfl | (simp [errW_none, errW_some] <;> rfl) | (simp [*, errW_none, errW_some] <;> rfl), by repeat (first | (with_reducible first | exact HB.out | apply below_alloc | apply pw_below_drewN | apply below_drew1 | refine below_set ?_ GE200.out) | exact HB.out)⟩
                  · rw [if_neg c18] at H
                    have c18b0 : decide (a0_3 ≤ 65536) = false := decide_eq_false c18
                    clear c18
                    obtain rfl := Option.some.inj H
                    have hcz20_0 : wc.cell? ⟨gb200, 0, none⟩ = some (.int .i64 a0_0) := (blk_cell BK200.out 0).trans rfl
                    have hcz20_1 : wc.cell? ⟨gb200, 1, none⟩ = some (.int .u64 a0_1) := (blk_cell BK200.out 1).trans rfl
                    have hcz20_2 : wc.cell? ⟨gb200, 2, none⟩ = some (.string a0_2) := (blk_cell BK200.out 2).trans rfl
                    have hcz20_3 : wc.cell? ⟨gb200, 3, none⟩ = some (.int .i64 a0_3) := (blk_cell BK200.out 3).trans rfl
                    have hfz20_0 := blk_frozen BK200.out 0
                    have hfz20_1 := blk_frozen BK200.out 1
                    have hfz20_2 := blk_frozen BK200.out 2
                    have hfz20_3 := blk_frozen BK200.out 3
                    go_wp2_with (first | ((with_reducible refine gate_callee (f := 62) rfl ?_); refine goesL_ (some 48) rfl rfl Tryd.func62 (by kernel_rfl) rfl #[.string a0_2, .int .i64 60, .int .u8 33] rfl (by (try simp only [List.map_toArray, List.map_cons, List.map_nil]); first | done | rfl | (simp only [List.length_drop, List.length_take]; rfl)) ?_; (with_reducible refine (spoorref04_Plain.calls kj1 a0_2 60 33 t202 _ A17.out).mono ?_); rintro e w' ⟨rfl, ⟨nd, rfl⟩⟩; refine ⟨_, rfl, ?_⟩))
                    go_ret
                    exact ⟨by first | rfl | (simp [errW_none, errW_some] <;> rfl) | (simp [*, errW_none, errW_some] <;> rfl), by repeat (first | (with_reducible first | exact HB.out | apply below_alloc | apply pw_below_drewN | apply below_drew1 | refine below_set ?_ GE200.out) | exact HB.out)⟩
                · rw [if_neg c16] at H
                  have c16b0 : (a0_0 == 3) = false := beq_eq_false_iff_ne.mpr c16
                  have c16b1 : (a0_0 != 3) = true := bne_iff_ne.mpr c16
                  by_cases c21 : a0_3 ≤ 65536
                  · rw [if_pos c21] at H
                    have c21b0 : decide (a0_3 ≤ 65536) = true := decide_eq_true c21
                    clear c21
                    obtain rfl := Option.some.inj H
                    have hcz22_0 : wc.cell? ⟨gb200, 0, none⟩ = some (.int .i64 a0_0) := (blk_cell BK200.out 0).trans rfl
                    have hcz22_1 : wc.cell? ⟨gb200, 1, none⟩ = some (.int .u64 a0_1) := (blk_cell BK200.out 1).trans rfl
                    have hcz22_2 : wc.cell? ⟨gb200, 2, none⟩ = some (.string a0_2) := (blk_cell BK200.out 2).trans rfl
                    have hcz22_3 : wc.cell? ⟨gb200, 3, none⟩ = some (.int .i64 a0_3) := (blk_cell BK200.out 3).trans rfl
                    have hfz22_0 := blk_frozen BK200.out 0
                    have hfz22_1 := blk_frozen BK200.out 1
                    have hfz22_2 := blk_frozen BK200.out 2
                    have hfz22_3 := blk_frozen BK200.out 3
                    go_wp2
                    go_ret
                    exact ⟨by first | rfl | (simp [errW_none, errW_some] <;> rfl) | (simp [*, errW_none, errW_some] <;> rfl), by repeat (first | (with_reducible first | exact HB.out | apply below_alloc | apply pw_below_drewN | apply below_drew1 | refine below_set ?_ GE200.out) | exact HB.out)⟩
                  · rw [if_neg c21] at H
                    have c21b0 : decide (a0_3 ≤ 65536) = false := decide_eq_false c21
                    clear c21
                    obtain rfl := Option.some.inj H
                    have hcz23_0 : wc.cell? ⟨gb200, 0, none⟩ = some (.int .i64 a0_0) := (blk_cell BK200.out 0).trans rfl
                    have hcz23_1 : wc.cell? ⟨gb200, 1, none⟩ = some (.int .u64 a0_1) := (blk_cell BK200.out 1).trans rfl
                    have hcz23_2 : wc.cell? ⟨gb200, 2, none⟩ = some (.string a0_2) := (blk_cell BK200.out 2).trans rfl
                    have hcz23_3 : wc.cell? ⟨gb200, 3, none⟩ = some (.int .i64 a0_3) := (blk_cell BK200.out 3).trans rfl
                    have hfz23_0 := blk_frozen BK200.out 0
                    have hfz23_1 := blk_frozen BK200.out 1
                    have hfz23_2 := blk_frozen BK200.out 2
                    have hfz23_3 := blk_frozen BK200.out 3
                    go_wp2
                    go_ret
                    exact ⟨by first | rfl | (simp [errW_none, errW_some] <;> rfl) | (simp [*, errW_none, errW_some] <;> rfl), by repeat (first | (with_reducible first | exact HB.out | apply below_alloc | apply pw_below_drewN | apply below_drew1 | refine below_set ?_ GE200.out) | exact HB.out)⟩
              · rw [if_neg c15] at H
                have c15b0 : decide (0 < a0_3) = false := decide_eq_false c15
                clear c15
                by_cases c24 : a0_0 = 3
                · rw [if_pos c24] at H
                  have c24b0 : (a0_0 == 3) = true := beq_iff_eq.mpr c24
                  have c24b1 : (a0_0 != 3) = false := bne_eq_false_iff_eq.mpr c24
                  clear c24
                  replace H := Option.bind_eq_some_iff.mp H
                  obtain ⟨t203, A250, H⟩ := H
                  replace H : (some false) = some r := H
                  have A25 := Aside0.mk A250
                  clear A250
                  obtain rfl := Option.some.inj H
                  have hcz26_0 : wc.cell? ⟨gb200, 0, none⟩ = some (.int .i64 a0_0) := (blk_cell BK200.out 0).trans rfl
                  have hcz26_1 : wc.cell? ⟨gb200, 1, none⟩ = some (.int .u64 a0_1) := (blk_cell BK200.out 1).trans rfl
                  have hcz26_2 : wc.cell? ⟨gb200, 2, none⟩ = some (.string a0_2) := (blk_cell BK200.out 2).trans rfl
                  have hcz26_3 : wc.cell? ⟨gb200, 3, none⟩ = some (.int .i64 a0_3) := (blk_cell BK200.out 3).trans rfl
                  have hfz26_0 := blk_frozen BK200.out 0
                  have hfz26_1 := blk_frozen BK200.out 1
                  have hfz26_2 := blk_frozen BK200.out 2
                  have hfz26_3 := blk_frozen BK200.out 3
                  go_wp2_with (first | ((with_reducible refine gate_callee (f := 62) rfl ?_); refine goesL_ (some 48) rfl rfl Tryd.func62 (by kernel_rfl) rfl #[.string a0_2, .int .i64 60, .int .u8 33] rfl (by (try simp only [List.map_toArray, List.map_cons, List.map_nil]); first | done | rfl | (simp only [List.length_drop, List.length_take]; rfl)) ?_; (with_reducible refine (spoorref04_Plain.calls kj1 a0_2 60 33 t203 _ A25.out).mono ?_); rintro e w' ⟨rfl, ⟨nd, rfl⟩⟩; refine ⟨_, rfl, ?_⟩))
                  go_ret
                  exact ⟨by first | rfl | (simp [errW_none, errW_some] <;> rfl) | (simp [*, errW_none, errW_some] <;> rfl), by repeat (first | (with_reducible first | exact HB.out | apply below_alloc | apply pw_below_drewN | apply below_drew1 | refine below_set ?_ GE200.out) | exact HB.out)⟩
                · rw [if_neg c24] at H
                  have c24b0 : (a0_0 == 3) = false := beq_eq_false_iff_ne.mpr c24
                  have c24b1 : (a0_0 != 3) = true := bne_iff_ne.mpr c24
                  obtain rfl := Option.some.inj H
                  have hcz27_0 : wc.cell? ⟨gb200, 0, none⟩ = some (.int .i64 a0_0) := (blk_cell BK200.out 0).trans rfl
                  have hcz27_1 : wc.cell? ⟨gb200, 1, none⟩ = some (.int .u64 a0_1) := (blk_cell BK200.out 1).trans rfl
                  have hcz27_2 : wc.cell? ⟨gb200, 2, none⟩ = some (.string a0_2) := (blk_cell BK200.out 2).trans rfl
                  have hcz27_3 : wc.cell? ⟨gb200, 3, none⟩ = some (.int .i64 a0_3) := (blk_cell BK200.out 3).trans rfl
                  have hfz27_0 := blk_frozen BK200.out 0
                  have hfz27_1 := blk_frozen BK200.out 1
                  have hfz27_2 := blk_frozen BK200.out 2
                  have hfz27_3 := blk_frozen BK200.out 3
                  go_wp2
                  go_ret
                  exact ⟨by first | rfl | (simp [errW_none, errW_some] <;> rfl) | (simp [*, errW_none, errW_some] <;> rfl), by repeat (first | (with_reducible first | exact HB.out | apply below_alloc | apply pw_below_drewN | apply below_drew1 | refine below_set ?_ GE200.out) | exact HB.out)⟩
            · rw [if_neg c14] at H
              have c14b0 : (a0_0 == 4) = false := beq_eq_false_iff_ne.mpr c14
              have c14b1 : (a0_0 != 4) = true := bne_iff_ne.mpr c14
              by_cases c28 : a0_0 = 3
              · rw [if_pos c28] at H
                have c28b0 : (a0_0 == 3) = true := beq_iff_eq.mpr c28
                have c28b1 : (a0_0 != 3) = false := bne_eq_false_iff_eq.mpr c28
                clear c28
                replace H := Option.bind_eq_some_iff.mp H
                obtain ⟨t204, A290, H⟩ := H
                replace H : (some false) = some r := H
                have A29 := Aside0.mk A290
                clear A290
                obtain rfl := Option.some.inj H
                have hcz30_0 : wc.cell? ⟨gb200, 0, none⟩ = some (.int .i64 a0_0) := (blk_cell BK200.out 0).trans rfl
                have hcz30_1 : wc.cell? ⟨gb200, 1, none⟩ = some (.int .u64 a0_1) := (blk_cell BK200.out 1).trans rfl
                have hcz30_2 : wc.cell? ⟨gb200, 2, none⟩ = some (.string a0_2) := (blk_cell BK200.out 2).trans rfl
                have hcz30_3 : wc.cell? ⟨gb200, 3, none⟩ = some (.int .i64 a0_3) := (blk_cell BK200.out 3).trans rfl
                have hfz30_0 := blk_frozen BK200.out 0
                have hfz30_1 := blk_frozen BK200.out 1
                have hfz30_2 := blk_frozen BK200.out 2
                have hfz30_3 := blk_frozen BK200.out 3
                go_wp2_with (first | ((with_reducible refine gate_callee (f := 62) rfl ?_); refine goesL_ (some 48) rfl rfl Tryd.func62 (by kernel_rfl) rfl #[.string a0_2, .int .i64 60, .int .u8 33] rfl (by (try simp only [List.map_toArray, List.map_cons, List.map_nil]); first | done | rfl | (simp only [List.length_drop, List.length_take]; rfl)) ?_; (with_reducible refine (spoorref04_Plain.calls kj1 a0_2 60 33 t204 _ A29.out).mono ?_); rintro e w' ⟨rfl, ⟨nd, rfl⟩⟩; refine ⟨_, rfl, ?_⟩))
                go_ret
                exact ⟨by first | rfl | (simp [errW_none, errW_some] <;> rfl) | (simp [*, errW_none, errW_some] <;> rfl), by repeat (first | (with_reducible first | exact HB.out | apply below_alloc | apply pw_below_drewN | apply below_drew1 | refine below_set ?_ GE200.out) | exact HB.out)⟩
              · rw [if_neg c28] at H
                have c28b0 : (a0_0 == 3) = false := beq_eq_false_iff_ne.mpr c28
                have c28b1 : (a0_0 != 3) = true := bne_iff_ne.mpr c28
                obtain rfl := Option.some.inj H
                have hcz31_0 : wc.cell? ⟨gb200, 0, none⟩ = some (.int .i64 a0_0) := (blk_cell BK200.out 0).trans rfl
                have hcz31_1 : wc.cell? ⟨gb200, 1, none⟩ = some (.int .u64 a0_1) := (blk_cell BK200.out 1).trans rfl
                have hcz31_2 : wc.cell? ⟨gb200, 2, none⟩ = some (.string a0_2) := (blk_cell BK200.out 2).trans rfl
                have hcz31_3 : wc.cell? ⟨gb200, 3, none⟩ = some (.int .i64 a0_3) := (blk_cell BK200.out 3).trans rfl
                have hfz31_0 := blk_frozen BK200.out 0
                have hfz31_1 := blk_frozen BK200.out 1
                have hfz31_2 := blk_frozen BK200.out 2
                have hfz31_3 := blk_frozen BK200.out 3
                go_wp2
                go_ret
                exact ⟨by first | rfl | (simp [errW_none, errW_some] <;> rfl) | (simp [*, errW_none, errW_some] <;> rfl), by repeat (first | (with_reducible first | exact HB.out | apply below_alloc | apply pw_below_drewN | apply below_drew1 | refine below_set ?_ GE200.out) | exact HB.out)⟩
        · rw [if_neg c8] at H
          have c8b0 : (a0_1 == 0) = false := beq_eq_false_iff_ne.mpr c8
          have c8b1 : (a0_1 != 0) = true := bne_iff_ne.mpr c8
          by_cases c32 : a0_3 = 0
          · rw [if_pos c32] at H
            have c32b0 : (a0_3 == 0) = true := beq_iff_eq.mpr c32
            have c32b1 : (a0_3 != 0) = false := bne_eq_false_iff_eq.mpr c32
            clear c32
            by_cases c33 : a0_0 = 3
            · rw [if_pos c33] at H
              have c33b0 : (a0_0 == 3) = true := beq_iff_eq.mpr c33
              have c33b1 : (a0_0 != 3) = false := bne_eq_false_iff_eq.mpr c33
              clear c33
              replace H := Option.bind_eq_some_iff.mp H
              obtain ⟨t205, A340, H⟩ := H
              replace H : (if a0_0 = 2 then (some t205) else (some false)) = some r := H
              have A34 := Aside0.mk A340
              clear A340
              by_cases c35 : a0_0 = 2
              · rw [if_pos c35] at H
                have c35b0 : (a0_0 == 2) = true := beq_iff_eq.mpr c35
                have c35b1 : (a0_0 != 2) = false := bne_eq_false_iff_eq.mpr c35
                clear c35
                obtain rfl := Option.some.inj H
                have hcz36_0 : wc.cell? ⟨gb200, 0, none⟩ = some (.int .i64 a0_0) := (blk_cell BK200.out 0).trans rfl
                have hcz36_1 : wc.cell? ⟨gb200, 1, none⟩ = some (.int .u64 a0_1) := (blk_cell BK200.out 1).trans rfl
                have hcz36_2 : wc.cell? ⟨gb200, 2, none⟩ = some (.string a0_2) := (blk_cell BK200.out 2).trans rfl
                have hcz36_3 : wc.cell? ⟨gb200, 3, none⟩ = some (.int .i64 a0_3) := (blk_cell BK200.out 3).trans rfl
                have hfz36_0 := blk_frozen BK200.out 0
                have hfz36_1 := blk_frozen BK200.out 1
                have hfz36_2 := blk_frozen BK200.out 2
                have hfz36_3 := blk_frozen BK200.out 3
                go_wp2_with (first | ((with_reducible refine gate_callee (f := 62) rfl ?_); refine goesL_ (some 48) rfl rfl Tryd.func62 (by kernel_rfl) rfl #[.string a0_2, .int .i64 60, .int .u8 33] rfl (by (try simp only [List.map_toArray, List.map_cons, List.map_nil]); first | done | rfl | (simp only [List.length_drop, List.length_take]; rfl)) ?_; (with_reducible refine (spoorref04_Plain.calls kj1 a0_2 60 33 t205 _ A34.out).mono ?_); rintro e w' ⟨rfl, ⟨nd, rfl⟩⟩; refine ⟨_, rfl, ?_⟩))
                go_ret
                exact ⟨by first | rfl | (simp [errW_none, errW_some] <;> rfl) | (simp [*, errW_none, errW_some] <;> rfl), by repeat (first | (with_reducible first | exact HB.out | apply below_alloc | apply pw_below_drewN | apply below_drew1 | refine below_set ?_ GE200.out) | exact HB.out)⟩
              · rw [if_neg c35] at H
                have c35b0 : (a0_0 == 2) = false := beq_eq_false_iff_ne.mpr c35
                have c35b1 : (a0_0 != 2) = true := bne_iff_ne.mpr c35
                obtain rfl := Option.some.inj H
                have hcz37_0 : wc.cell? ⟨gb200, 0, none⟩ = some (.int .i64 a0_0) := (blk_cell BK200.out 0).trans rfl
                have hcz37_1 : wc.cell? ⟨gb200, 1, none⟩ = some (.int .u64 a0_1) := (blk_cell BK200.out 1).trans rfl
                have hcz37_2 : wc.cell? ⟨gb200, 2, none⟩ = some (.string a0_2) := (blk_cell BK200.out 2).trans rfl
                have hcz37_3 : wc.cell? ⟨gb200, 3, none⟩ = some (.int .i64 a0_3) := (blk_cell BK200.out 3).trans rfl
                have hfz37_0 := blk_frozen BK200.out 0
                have hfz37_1 := blk_frozen BK200.out 1
                have hfz37_2 := blk_frozen BK200.out 2
                have hfz37_3 := blk_frozen BK200.out 3
                go_wp2_with (first | ((with_reducible refine gate_callee (f := 62) rfl ?_); refine goesL_ (some 48) rfl rfl Tryd.func62 (by kernel_rfl) rfl #[.string a0_2, .int .i64 60, .int .u8 33] rfl (by (try simp only [List.map_toArray, List.map_cons, List.map_nil]); first | done | rfl | (simp only [List.length_drop, List.length_take]; rfl)) ?_; (with_reducible refine (spoorref04_Plain.calls kj1 a0_2 60 33 t205 _ A34.out).mono ?_); rintro e w' ⟨rfl, ⟨nd, rfl⟩⟩; refine ⟨_, rfl, ?_⟩))
                go_ret
                exact ⟨by first | rfl | (simp [errW_none, errW_some] <;> rfl) | (simp [*, errW_none, errW_some] <;> rfl), by repeat (first | (with_reducible first | exact HB.out | apply below_alloc | apply pw_below_drewN | apply below_drew1 | refine below_set ?_ GE200.out) | exact HB.out)⟩
            · rw [if_neg c33] at H
              have c33b0 : (a0_0 == 3) = false := beq_eq_false_iff_ne.mpr c33
              have c33b1 : (a0_0 != 3) = true := bne_iff_ne.mpr c33
              by_cases c38 : a0_0 = 2
              · rw [if_pos c38] at H
                have c38b0 : (a0_0 == 2) = true := beq_iff_eq.mpr c38
                have c38b1 : (a0_0 != 2) = false := bne_eq_false_iff_eq.mpr c38
                clear c38
                obtain rfl := Option.some.inj H
                have hcz39_0 : wc.cell? ⟨gb200, 0, none⟩ = some (.int .i64 a0_0) := (blk_cell BK200.out 0).trans rfl
                have hcz39_1 : wc.cell? ⟨gb200, 1, none⟩ = some (.int .u64 a0_1) := (blk_cell BK200.out 1).trans rfl
                have hcz39_2 : wc.cell? ⟨gb200, 2, none⟩ = some (.string a0_2) := (blk_cell BK200.out 2).trans rfl
                have hcz39_3 : wc.cell? ⟨gb200, 3, none⟩ = some (.int .i64 a0_3) := (blk_cell BK200.out 3).trans rfl
                have hfz39_0 := blk_frozen BK200.out 0
                have hfz39_1 := blk_frozen BK200.out 1
                have hfz39_2 := blk_frozen BK200.out 2
                have hfz39_3 := blk_frozen BK200.out 3
                go_wp2
                go_ret
                exact ⟨by first | rfl | (simp [errW_none, errW_some] <;> rfl) | (simp [*, errW_none, errW_some] <;> rfl), by repeat (first | (with_reducible first | exact HB.out | apply below_alloc | apply pw_below_drewN | apply below_drew1 | refine below_set ?_ GE200.out) | exact HB.out)⟩
              · rw [if_neg c38] at H
                have c38b0 : (a0_0 == 2) = false := beq_eq_false_iff_ne.mpr c38
                have c38b1 : (a0_0 != 2) = true := bne_iff_ne.mpr c38
                obtain rfl := Option.some.inj H
                have hcz40_0 : wc.cell? ⟨gb200, 0, none⟩ = some (.int .i64 a0_0) := (blk_cell BK200.out 0).trans rfl
                have hcz40_1 : wc.cell? ⟨gb200, 1, none⟩ = some (.int .u64 a0_1) := (blk_cell BK200.out 1).trans rfl
                have hcz40_2 : wc.cell? ⟨gb200, 2, none⟩ = some (.string a0_2) := (blk_cell BK200.out 2).trans rfl
                have hcz40_3 : wc.cell? ⟨gb200, 3, none⟩ = some (.int .i64 a0_3) := (blk_cell BK200.out 3).trans rfl
                have hfz40_0 := blk_frozen BK200.out 0
                have hfz40_1 := blk_frozen BK200.out 1
                have hfz40_2 := blk_frozen BK200.out 2
                have hfz40_3 := blk_frozen BK200.out 3
                go_wp2
                go_ret
                exact ⟨by first | rfl | (simp [errW_none, errW_some] <;> rfl) | (simp [*, errW_none, errW_some] <;> rfl), by repeat (first | (with_reducible first | exact HB.out | apply below_alloc | apply pw_below_drewN | apply below_drew1 | refine below_set ?_ GE200.out) | exact HB.out)⟩
          · rw [if_neg c32] at H
            have c32b0 : (a0_3 == 0) = false := beq_eq_false_iff_ne.mpr c32
            have c32b1 : (a0_3 != 0) = true := bne_iff_ne.mpr c32
            by_cases c41 : a0_0 = 4
            · rw [if_pos c41] at H
              have c41b0 : (a0_0 == 4) = true := beq_iff_eq.mpr c41
              have c41b1 : (a0_0 != 4) = false := bne_eq_false_iff_eq.mpr c41
              clear c41
              by_cases c42 : a0_3 > 0
              · rw [if_pos c42] at H
                have c42b0 : decide (0 < a0_3) = true := decide_eq_true c42
                clear c42
                by_cases c43 : a0_0 = 3
                · rw [if_pos c43] at H
                  have c43b0 : (a0_0 == 3) = true := beq_iff_eq.mpr c43
                  have c43b1 : (a0_0 != 3) = false := bne_eq_false_iff_eq.mpr c43
                  clear c43
                  replace H := Option.bind_eq_some_iff.mp H
                  obtain ⟨t206, A440, H⟩ := H
                  replace H : (if a0_0 = 2 then (if a0_3 ≤ 65536 then (some t206) else (some false)) else (some false)) = some r := H
                  have A44 := Aside0.mk A440
                  clear A440
                  by_cases c45 : a0_0 = 2
                  · rw [if_pos c45] at H
                    have c45b0 : (a0_0 == 2) = true := beq_iff_eq.mpr c45
                    have c45b1 : (a0_0 != 2) = false := bne_eq_false_iff_eq.mpr c45
                    clear c45
                    by_cases c46 : a0_3 ≤ 65536
                    · rw [if_pos c46] at H
                      have c46b0 : decide (a0_3 ≤ 65536) = true := decide_eq_true c46
                      clear c46
                      obtain rfl := Option.some.inj H
                      have hcz47_0 : wc.cell? ⟨gb200, 0, none⟩ = some (.int .i64 a0_0) := (blk_cell BK200.out 0).trans rfl
                      have hcz47_1 : wc.cell? ⟨gb200, 1, none⟩ = some (.int .u64 a0_1) := (blk_cell BK200.out 1).trans rfl
                      have hcz47_2 : wc.cell? ⟨gb200, 2, none⟩ = some (.string a0_2) := (blk_cell BK200.out 2).trans rfl
                      have hcz47_3 : wc.cell? ⟨gb200, 3, none⟩ = some (.int .i64 a0_3) := (blk_cell BK200.out 3).trans rfl
                      have hfz47_0 := blk_frozen BK200.out 0
                      have hfz47_1 := blk_frozen BK200.out 1
                      have hfz47_2 := blk_frozen BK200.out 2
                      have hfz47_3 := blk_frozen BK200.out 3
                      go_wp2_with (first | ((with_reducible refine gate_callee (f := 62) rfl ?_); refine goesL_ (some 48) rfl rfl Tryd.func62 (by kernel_rfl) rfl #[.string a0_2, .int .i64 60, .int .u8 33] rfl (by (try simp only [List.map_toArray, List.map_cons, List.map_nil]); first | done | rfl | (simp only [List.length_drop, List.length_take]; rfl)) ?_; (with_reducible refine (spoorref04_Plain.calls kj1 a0_2 60 33 t206 _ A44.out).mono ?_); rintro e w' ⟨rfl, ⟨nd, rfl⟩⟩; refine ⟨_, rfl, ?_⟩))
                      go_ret
                      exact ⟨by first | rfl | (simp [errW_none, errW_some] <;> rfl) | (simp [*, errW_none, errW_some] <;> rfl), by repeat (first | (with_reducible first | exact HB.out | apply below_alloc | apply pw_below_drewN | apply below_drew1 | refine below_set ?_ GE200.out) | exact HB.out)⟩
                    · rw [if_neg c46] at H
                      have c46b0 : decide (a0_3 ≤ 65536) = false := decide_eq_false c46
                      clear c46
                      obtain rfl := Option.some.inj H
                      have hcz48_0 : wc.cell? ⟨gb200, 0, none⟩ = some (.int .i64 a0_0) := (blk_cell BK200.out 0).trans rfl
                      have hcz48_1 : wc.cell? ⟨gb200, 1, none⟩ = some (.int .u64 a0_1) := (blk_cell BK200.out 1).trans rfl
                      have hcz48_2 : wc.cell? ⟨gb200, 2, none⟩ = some (.string a0_2) := (blk_cell BK200.out 2).trans rfl
                      have hcz48_3 : wc.cell? ⟨gb200, 3, none⟩ = some (.int .i64 a0_3) := (blk_cell BK200.out 3).trans rfl
                      have hfz48_0 := blk_frozen BK200.out 0
                      have hfz48_1 := blk_frozen BK200.out 1
                      have hfz48_2 := blk_frozen BK200.out 2
                      have hfz48_3 := blk_frozen BK200.out 3
                      go_wp2_with (first | ((with_reducible refine gate_callee (f := 62) rfl ?_); refine goesL_ (some 48) rfl rfl Tryd.func62 (by kernel_rfl) rfl #[.string a0_2, .int .i64 60, .int .u8 33] rfl (by (try simp only [List.map_toArray, List.map_cons, List.map_nil]); first | done | rfl | (simp only [List.length_drop, List.length_take]; rfl)) ?_; (with_reducible refine (spoorref04_Plain.calls kj1 a0_2 60 33 t206 _ A44.out).mono ?_); rintro e w' ⟨rfl, ⟨nd, rfl⟩⟩; refine ⟨_, rfl, ?_⟩))
                      go_ret
                      exact ⟨by first | rfl | (simp [errW_none, errW_some] <;> rfl) | (simp [*, errW_none, errW_some] <;> rfl), by repeat (first | (with_reducible first | exact HB.out | apply below_alloc | apply pw_below_drewN | apply below_drew1 | refine below_set ?_ GE200.out) | exact HB.out)⟩
                  · rw [if_neg c45] at H
                    have c45b0 : (a0_0 == 2) = false := beq_eq_false_iff_ne.mpr c45
                    have c45b1 : (a0_0 != 2) = true := bne_iff_ne.mpr c45
                    obtain rfl := Option.some.inj H
                    have hcz49_0 : wc.cell? ⟨gb200, 0, none⟩ = some (.int .i64 a0_0) := (blk_cell BK200.out 0).trans rfl
                    have hcz49_1 : wc.cell? ⟨gb200, 1, none⟩ = some (.int .u64 a0_1) := (blk_cell BK200.out 1).trans rfl
                    have hcz49_2 : wc.cell? ⟨gb200, 2, none⟩ = some (.string a0_2) := (blk_cell BK200.out 2).trans rfl
                    have hcz49_3 : wc.cell? ⟨gb200, 3, none⟩ = some (.int .i64 a0_3) := (blk_cell BK200.out 3).trans rfl
                    have hfz49_0 := blk_frozen BK200.out 0
                    have hfz49_1 := blk_frozen BK200.out 1
                    have hfz49_2 := blk_frozen BK200.out 2
                    have hfz49_3 := blk_frozen BK200.out 3
                    go_wp2_with (first | ((with_reducible refine gate_callee (f := 62) rfl ?_); refine goesL_ (some 48) rfl rfl Tryd.func62 (by kernel_rfl) rfl #[.string a0_2, .int .i64 60, .int .u8 33] rfl (by (try simp only [List.map_toArray, List.map_cons, List.map_nil]); first | done | rfl | (simp only [List.length_drop, List.length_take]; rfl)) ?_; (with_reducible refine (spoorref04_Plain.calls kj1 a0_2 60 33 t206 _ A44.out).mono ?_); rintro e w' ⟨rfl, ⟨nd, rfl⟩⟩; refine ⟨_, rfl, ?_⟩))
                    go_ret
                    exact ⟨by first | rfl | (simp [errW_none, errW_some] <;> rfl) | (simp [*, errW_none, errW_some] <;> rfl), by repeat (first | (with_reducible first | exact HB.out | apply below_alloc | apply pw_below_drewN | apply below_drew1 | refine below_set ?_ GE200.out) | exact HB.out)⟩
                · rw [if_neg c43] at H
                  have c43b0 : (a0_0 == 3) = false := beq_eq_false_iff_ne.mpr c43
                  have c43b1 : (a0_0 != 3) = true := bne_iff_ne.mpr c43
                  by_cases c50 : a0_0 = 2
                  · rw [if_pos c50] at H
                    have c50b0 : (a0_0 == 2) = true := beq_iff_eq.mpr c50
                    have c50b1 : (a0_0 != 2) = false := bne_eq_false_iff_eq.mpr c50
                    clear c50
                    by_cases c51 : a0_3 ≤ 65536
                    · rw [if_pos c51] at H
                      have c51b0 : decide (a0_3 ≤ 65536) = true := decide_eq_true c51
                      clear c51
                      obtain rfl := Option.some.inj H
                      have hcz52_0 : wc.cell? ⟨gb200, 0, none⟩ = some (.int .i64 a0_0) := (blk_cell BK200.out 0).trans rfl
                      have hcz52_1 : wc.cell? ⟨gb200, 1, none⟩ = some (.int .u64 a0_1) := (blk_cell BK200.out 1).trans rfl
                      have hcz52_2 : wc.cell? ⟨gb200, 2, none⟩ = some (.string a0_2) := (blk_cell BK200.out 2).trans rfl
                      have hcz52_3 : wc.cell? ⟨gb200, 3, none⟩ = some (.int .i64 a0_3) := (blk_cell BK200.out 3).trans rfl
                      have hfz52_0 := blk_frozen BK200.out 0
                      have hfz52_1 := blk_frozen BK200.out 1
                      have hfz52_2 := blk_frozen BK200.out 2
                      have hfz52_3 := blk_frozen BK200.out 3
                      go_wp2
                      go_ret
                      exact ⟨by first | rfl | (simp [errW_none, errW_some] <;> rfl) | (simp [*, errW_none, errW_some] <;> rfl), by repeat (first | (with_reducible first | exact HB.out | apply below_alloc | apply pw_below_drewN | apply below_drew1 | refine below_set ?_ GE200.out) | exact HB.out)⟩
                    · rw [if_neg c51] at H
                      have c51b0 : decide (a0_3 ≤ 65536) = false := decide_eq_false c51
                      clear c51
                      obtain rfl := Option.some.inj H
                      have hcz53_0 : wc.cell? ⟨gb200, 0, none⟩ = some (.int .i64 a0_0) := (blk_cell BK200.out 0).trans rfl
                      have hcz53_1 : wc.cell? ⟨gb200, 1, none⟩ = some (.int .u64 a0_1) := (blk_cell BK200.out 1).trans rfl
                      have hcz53_2 : wc.cell? ⟨gb200, 2, none⟩ = some (.string a0_2) := (blk_cell BK200.out 2).trans rfl
                      have hcz53_3 : wc.cell? ⟨gb200, 3, none⟩ = some (.int .i64 a0_3) := (blk_cell BK200.out 3).trans rfl
                      have hfz53_0 := blk_frozen BK200.out 0
                      have hfz53_1 := blk_frozen BK200.out 1
                      have hfz53_2 := blk_frozen BK200.out 2
                      have hfz53_3 := blk_frozen BK200.out 3
                      go_wp2
                      go_ret
                      exact ⟨by first | rfl | (simp [errW_none, errW_some] <;> rfl) | (simp [*, errW_none, errW_some] <;> rfl), by repeat (first | (with_reducible first | exact HB.out | apply below_alloc | apply pw_below_drewN | apply below_drew1 | refine below_set ?_ GE200.out) | exact HB.out)⟩
                  · rw [if_neg c50] at H
                    have c50b0 : (a0_0 == 2) = false := beq_eq_false_iff_ne.mpr c50
                    have c50b1 : (a0_0 != 2) = true := bne_iff_ne.mpr c50
                    obtain rfl := Option.some.inj H
                    have hcz54_0 : wc.cell? ⟨gb200, 0, none⟩ = some (.int .i64 a0_0) := (blk_cell BK200.out 0).trans rfl
                    have hcz54_1 : wc.cell? ⟨gb200, 1, none⟩ = some (.int .u64 a0_1) := (blk_cell BK200.out 1).trans rfl
                    have hcz54_2 : wc.cell? ⟨gb200, 2, none⟩ = some (.string a0_2) := (blk_cell BK200.out 2).trans rfl
                    have hcz54_3 : wc.cell? ⟨gb200, 3, none⟩ = some (.int .i64 a0_3) := (blk_cell BK200.out 3).trans rfl
                    have hfz54_0 := blk_frozen BK200.out 0
                    have hfz54_1 := blk_frozen BK200.out 1
                    have hfz54_2 := blk_frozen BK200.out 2
                    have hfz54_3 := blk_frozen BK200.out 3
                    go_wp2
                    go_ret
                    exact ⟨by first | rfl | (simp [errW_none, errW_some] <;> rfl) | (simp [*, errW_none, errW_some] <;> rfl), by repeat (first | (with_reducible first | exact HB.out | apply below_alloc | apply pw_below_drewN | apply below_drew1 | refine below_set ?_ GE200.out) | exact HB.out)⟩
              · rw [if_neg c42] at H
                have c42b0 : decide (0 < a0_3) = false := decide_eq_false c42
                clear c42
                by_cases c55 : a0_0 = 3
                · rw [if_pos c55] at H
                  have c55b0 : (a0_0 == 3) = true := beq_iff_eq.mpr c55
                  have c55b1 : (a0_0 != 3) = false := bne_eq_false_iff_eq.mpr c55
                  clear c55
                  replace H := Option.bind_eq_some_iff.mp H
                  obtain ⟨t207, A560, H⟩ := H
                  replace H : (if a0_0 = 2 then (some false) else (some false)) = some r := H
                  have A56 := Aside0.mk A560
                  clear A560
                  by_cases c57 : a0_0 = 2
                  · rw [if_pos c57] at H
                    have c57b0 : (a0_0 == 2) = true := beq_iff_eq.mpr c57
                    have c57b1 : (a0_0 != 2) = false := bne_eq_false_iff_eq.mpr c57
                    clear c57
                    obtain rfl := Option.some.inj H
                    have hcz58_0 : wc.cell? ⟨gb200, 0, none⟩ = some (.int .i64 a0_0) := (blk_cell BK200.out 0).trans rfl
                    have hcz58_1 : wc.cell? ⟨gb200, 1, none⟩ = some (.int .u64 a0_1) := (blk_cell BK200.out 1).trans rfl
                    have hcz58_2 : wc.cell? ⟨gb200, 2, none⟩ = some (.string a0_2) := (blk_cell BK200.out 2).trans rfl
                    have hcz58_3 : wc.cell? ⟨gb200, 3, none⟩ = some (.int .i64 a0_3) := (blk_cell BK200.out 3).trans rfl
                    have hfz58_0 := blk_frozen BK200.out 0
                    have hfz58_1 := blk_frozen BK200.out 1
                    have hfz58_2 := blk_frozen BK200.out 2
                    have hfz58_3 := blk_frozen BK200.out 3
                    go_wp2_with (first | ((with_reducible refine gate_callee (f := 62) rfl ?_); refine goesL_ (some 48) rfl rfl Tryd.func62 (by kernel_rfl) rfl #[.string a0_2, .int .i64 60, .int .u8 33] rfl (by (try simp only [List.map_toArray, List.map_cons, List.map_nil]); first | done | rfl | (simp only [List.length_drop, List.length_take]; rfl)) ?_; (with_reducible refine (spoorref04_Plain.calls kj1 a0_2 60 33 t207 _ A56.out).mono ?_); rintro e w' ⟨rfl, ⟨nd, rfl⟩⟩; refine ⟨_, rfl, ?_⟩))
                    go_ret
                    exact ⟨by first | rfl | (simp [errW_none, errW_some] <;> rfl) | (simp [*, errW_none, errW_some] <;> rfl), by repeat (first | (with_reducible first | exact HB.out | apply below_alloc | apply pw_below_drewN | apply below_drew1 | refine below_set ?_ GE200.out) | exact HB.out)⟩
                  · rw [if_neg c57] at H
                    have c57b0 : (a0_0 == 2) = false := beq_eq_false_iff_ne.mpr c57
                    have c57b1 : (a0_0 != 2) = true := bne_iff_ne.mpr c57
                    obtain rfl := Option.some.inj H
                    have hcz59_0 : wc.cell? ⟨gb200, 0, none⟩ = some (.int .i64 a0_0) := (blk_cell BK200.out 0).trans rfl
                    have hcz59_1 : wc.cell? ⟨gb200, 1, none⟩ = some (.int .u64 a0_1) := (blk_cell BK200.out 1).trans rfl
                    have hcz59_2 : wc.cell? ⟨gb200, 2, none⟩ = some (.string a0_2) := (blk_cell BK200.out 2).trans rfl
                    have hcz59_3 : wc.cell? ⟨gb200, 3, none⟩ = some (.int .i64 a0_3) := (blk_cell BK200.out 3).trans rfl
                    have hfz59_0 := blk_frozen BK200.out 0
                    have hfz59_1 := blk_frozen BK200.out 1
                    have hfz59_2 := blk_frozen BK200.out 2
                    have hfz59_3 := blk_frozen BK200.out 3
                    go_wp2_with (first | ((with_reducible refine gate_callee (f := 62) rfl ?_); refine goesL_ (some 48) rfl rfl Tryd.func62 (by kernel_rfl) rfl #[.string a0_2, .int .i64 60, .int .u8 33] rfl (by (try simp only [List.map_toArray, List.map_cons, List.map_nil]); first | done | rfl | (simp only [List.length_drop, List.length_take]; rfl)) ?_; (with_reducible refine (spoorref04_Plain.calls kj1 a0_2 60 33 t207 _ A56.out).mono ?_); rintro e w' ⟨rfl, ⟨nd, rfl⟩⟩; refine ⟨_, rfl, ?_⟩))
                    go_ret
                    exact ⟨by first | rfl | (simp [errW_none, errW_some] <;> rfl) | (simp [*, errW_none, errW_some] <;> rfl), by repeat (first | (with_reducible first | exact HB.out | apply below_alloc | apply pw_below_drewN | apply below_drew1 | refine below_set ?_ GE200.out) | exact HB.out)⟩
                · rw [if_neg c55] at H
                  have c55b0 : (a0_0 == 3) = false := beq_eq_false_iff_ne.mpr c55
                  have c55b1 : (a0_0 != 3) = true := bne_iff_ne.mpr c55
                  by_cases c60 : a0_0 = 2
                  · rw [if_pos c60] at H
                    have c60b0 : (a0_0 == 2) = true := beq_iff_eq.mpr c60
                    have c60b1 : (a0_0 != 2) = false := bne_eq_false_iff_eq.mpr c60
                    clear c60
                    obtain rfl := Option.some.inj H
                    have hcz61_0 : wc.cell? ⟨gb200, 0, none⟩ = some (.int .i64 a0_0) := (blk_cell BK200.out 0).trans rfl
                    have hcz61_1 : wc.cell? ⟨gb200, 1, none⟩ = some (.int .u64 a0_1) := (blk_cell BK200.out 1).trans rfl
                    have hcz61_2 : wc.cell? ⟨gb200, 2, none⟩ = some (.string a0_2) := (blk_cell BK200.out 2).trans rfl
                    have hcz61_3 : wc.cell? ⟨gb200, 3, none⟩ = some (.int .i64 a0_3) := (blk_cell BK200.out 3).trans rfl
                    have hfz61_0 := blk_frozen BK200.out 0
                    have hfz61_1 := blk_frozen BK200.out 1
                    have hfz61_2 := blk_frozen BK200.out 2
                    have hfz61_3 := blk_frozen BK200.out 3
                    go_wp2
                    go_ret
                    exact ⟨by first | rfl | (simp [errW_none, errW_some] <;> rfl) | (simp [*, errW_none, errW_some] <;> rfl), by repeat (first | (with_reducible first | exact HB.out | apply below_alloc | apply pw_below_drewN | apply below_drew1 | refine below_set ?_ GE200.out) | exact HB.out)⟩
                  · rw [if_neg c60] at H
                    have c60b0 : (a0_0 == 2) = false := beq_eq_false_iff_ne.mpr c60
                    have c60b1 : (a0_0 != 2) = true := bne_iff_ne.mpr c60
                    obtain rfl := Option.some.inj H
                    have hcz62_0 : wc.cell? ⟨gb200, 0, none⟩ = some (.int .i64 a0_0) := (blk_cell BK200.out 0).trans rfl
                    have hcz62_1 : wc.cell? ⟨gb200, 1, none⟩ = some (.int .u64 a0_1) := (blk_cell BK200.out 1).trans rfl
                    have hcz62_2 : wc.cell? ⟨gb200, 2, none⟩ = some (.string a0_2) := (blk_cell BK200.out 2).trans rfl
                    have hcz62_3 : wc.cell? ⟨gb200, 3, none⟩ = some (.int .i64 a0_3) := (blk_cell BK200.out 3).trans rfl
                    have hfz62_0 := blk_frozen BK200.out 0
                    have hfz62_1 := blk_frozen BK200.out 1
                    have hfz62_2 := blk_frozen BK200.out 2
                    have hfz62_3 := blk_frozen BK200.out 3
                    go_wp2
                    go_ret
                    exact ⟨by first | rfl | (simp [errW_none, errW_some] <;> rfl) | (simp [*, errW_none, errW_some] <;> rfl), by repeat (first | (with_reducible first | exact HB.out | apply below_alloc | apply pw_below_drewN | apply below_drew1 | refine below_set ?_ GE200.out) | exact HB.out)⟩
            · rw [if_neg c41] at H
              have c41b0 : (a0_0 == 4) = false := beq_eq_false_iff_ne.mpr c41
              have c41b1 : (a0_0 != 4) = true := bne_iff_ne.mpr c41
              by_cases c63 : a0_0 = 3
              · rw [if_pos c63] at H
                have c63b0 : (a0_0 == 3) = true := beq_iff_eq.mpr c63
                have c63b1 : (a0_0 != 3) = false := bne_eq_false_iff_eq.mpr c63
                clear c63
                replace H := Option.bind_eq_some_iff.mp H
                obtain ⟨t208, A640, H⟩ := H
                replace H : (if a0_0 = 2 then (some false) else (some false)) = some r := H
                have A64 := Aside0.mk A640
                clear A640
                by_cases c65 : a0_0 = 2
                · rw [if_pos c65] at H
                  have c65b0 : (a0_0 == 2) = true := beq_iff_eq.mpr c65
                  have c65b1 : (a0_0 != 2) = false := bne_eq_false_iff_eq.mpr c65
                  clear c65
                  obtain rfl := Option.some.inj H
                  have hcz66_0 : wc.cell? ⟨gb200, 0, none⟩ = some (.int .i64 a0_0) := (blk_cell BK200.out 0).trans rfl
                  have hcz66_1 : wc.cell? ⟨gb200, 1, none⟩ = some (.int .u64 a0_1) := (blk_cell BK200.out 1).trans rfl
                  have hcz66_2 : wc.cell? ⟨gb200, 2, none⟩ = some (.string a0_2) := (blk_cell BK200.out 2).trans rfl
                  have hcz66_3 : wc.cell? ⟨gb200, 3, none⟩ = some (.int .i64 a0_3) := (blk_cell BK200.out 3).trans rfl
                  have hfz66_0 := blk_frozen BK200.out 0
                  have hfz66_1 := blk_frozen BK200.out 1
                  have hfz66_2 := blk_frozen BK200.out 2
                  have hfz66_3 := blk_frozen BK200.out 3
                  go_wp2_with (first | ((with_reducible refine gate_callee (f := 62) rfl ?_); refine goesL_ (some 48) rfl rfl Tryd.func62 (by kernel_rfl) rfl #[.string a0_2, .int .i64 60, .int .u8 33] rfl (by (try simp only [List.map_toArray, List.map_cons, List.map_nil]); first | done | rfl | (simp only [List.length_drop, List.length_take]; rfl)) ?_; (with_reducible refine (spoorref04_Plain.calls kj1 a0_2 60 33 t208 _ A64.out).mono ?_); rintro e w' ⟨rfl, ⟨nd, rfl⟩⟩; refine ⟨_, rfl, ?_⟩))
                  go_ret
                  exact ⟨by first | rfl | (simp [errW_none, errW_some] <;> rfl) | (simp [*, errW_none, errW_some] <;> rfl), by repeat (first | (with_reducible first | exact HB.out | apply below_alloc | apply pw_below_drewN | apply below_drew1 | refine below_set ?_ GE200.out) | exact HB.out)⟩
                · rw [if_neg c65] at H
                  have c65b0 : (a0_0 == 2) = false := beq_eq_false_iff_ne.mpr c65
                  have c65b1 : (a0_0 != 2) = true := bne_iff_ne.mpr c65
                  obtain rfl := Option.some.inj H
                  have hcz67_0 : wc.cell? ⟨gb200, 0, none⟩ = some (.int .i64 a0_0) := (blk_cell BK200.out 0).trans rfl
                  have hcz67_1 : wc.cell? ⟨gb200, 1, none⟩ = some (.int .u64 a0_1) := (blk_cell BK200.out 1).trans rfl
                  have hcz67_2 : wc.cell? ⟨gb200, 2, none⟩ = some (.string a0_2) := (blk_cell BK200.out 2).trans rfl
                  have hcz67_3 : wc.cell? ⟨gb200, 3, none⟩ = some (.int .i64 a0_3) := (blk_cell BK200.out 3).trans rfl
                  have hfz67_0 := blk_frozen BK200.out 0
                  have hfz67_1 := blk_frozen BK200.out 1
                  have hfz67_2 := blk_frozen BK200.out 2
                  have hfz67_3 := blk_frozen BK200.out 3
                  go_wp2_with (first | ((with_reducible refine gate_callee (f := 62) rfl ?_); refine goesL_ (some 48) rfl rfl Tryd.func62 (by kernel_rfl) rfl #[.string a0_2, .int .i64 60, .int .u8 33] rfl (by (try simp only [List.map_toArray, List.map_cons, List.map_nil]); first | done | rfl | (simp only [List.length_drop, List.length_take]; rfl)) ?_; (with_reducible refine (spoorref04_Plain.calls kj1 a0_2 60 33 t208 _ A64.out).mono ?_); rintro e w' ⟨rfl, ⟨nd, rfl⟩⟩; refine ⟨_, rfl, ?_⟩))
                  go_ret
                  exact ⟨by first | rfl | (simp [errW_none, errW_some] <;> rfl) | (simp [*, errW_none, errW_some] <;> rfl), by repeat (first | (with_reducible first | exact HB.out | apply below_alloc | apply pw_below_drewN | apply below_drew1 | refine below_set ?_ GE200.out) | exact HB.out)⟩
              · rw [if_neg c63] at H
                have c63b0 : (a0_0 == 3) = false := beq_eq_false_iff_ne.mpr c63
                have c63b1 : (a0_0 != 3) = true := bne_iff_ne.mpr c63
                by_cases c68 : a0_0 = 2
                · rw [if_pos c68] at H
                  have c68b0 : (a0_0 == 2) = true := beq_iff_eq.mpr c68
                  have c68b1 : (a0_0 != 2) = false := bne_eq_false_iff_eq.mpr c68
                  clear c68
                  obtain rfl := Option.some.inj H
                  have hcz69_0 : wc.cell? ⟨gb200, 0, none⟩ = some (.int .i64 a0_0) := (blk_cell BK200.out 0).trans rfl
                  have hcz69_1 : wc.cell? ⟨gb200, 1, none⟩ = some (.int .u64 a0_1) := (blk_cell BK200.out 1).trans rfl
                  have hcz69_2 : wc.cell? ⟨gb200, 2, none⟩ = some (.string a0_2) := (blk_cell BK200.out 2).trans rfl
                  have hcz69_3 : wc.cell? ⟨gb200, 3, none⟩ = some (.int .i64 a0_3) := (blk_cell BK200.out 3).trans rfl
                  have hfz69_0 := blk_frozen BK200.out 0
                  have hfz69_1 := blk_frozen BK200.out 1
                  have hfz69_2 := blk_frozen BK200.out 2
                  have hfz69_3 := blk_frozen BK200.out 3
                  go_wp2
                  go_ret
                  exact ⟨by first | rfl | (simp [errW_none, errW_some] <;> rfl) | (simp [*, errW_none, errW_some] <;> rfl), by repeat (first | (with_reducible first | exact HB.out | apply below_alloc | apply pw_below_drewN | apply below_drew1 | refine below_set ?_ GE200.out) | exact HB.out)⟩
                · rw [if_neg c68] at H
                  have c68b0 : (a0_0 == 2) = false := beq_eq_false_iff_ne.mpr c68
                  have c68b1 : (a0_0 != 2) = true := bne_iff_ne.mpr c68
                  obtain rfl := Option.some.inj H
                  have hcz70_0 : wc.cell? ⟨gb200, 0, none⟩ = some (.int .i64 a0_0) := (blk_cell BK200.out 0).trans rfl
                  have hcz70_1 : wc.cell? ⟨gb200, 1, none⟩ = some (.int .u64 a0_1) := (blk_cell BK200.out 1).trans rfl
                  have hcz70_2 : wc.cell? ⟨gb200, 2, none⟩ = some (.string a0_2) := (blk_cell BK200.out 2).trans rfl
                  have hcz70_3 : wc.cell? ⟨gb200, 3, none⟩ = some (.int .i64 a0_3) := (blk_cell BK200.out 3).trans rfl
                  have hfz70_0 := blk_frozen BK200.out 0
                  have hfz70_1 := blk_frozen BK200.out 1
                  have hfz70_2 := blk_frozen BK200.out 2
                  have hfz70_3 := blk_frozen BK200.out 3
                  go_wp2
                  go_ret
                  exact ⟨by first | rfl | (simp [errW_none, errW_some] <;> rfl) | (simp [*, errW_none, errW_some] <;> rfl), by repeat (first | (with_reducible first | exact HB.out | apply below_alloc | apply pw_below_drewN | apply below_drew1 | refine below_set ?_ GE200.out) | exact HB.out)⟩

/-! ### spoorref21_Check: function 15 -/
def spoorref21_Check.l0 : Nat → List (S30) → Int → Option (Int)
  | 0, _, _ => none
  | k + 1, x0, x3 => if x3 < (x0.length : Int) then (if 0 ≤ x3 then ((spoorref21_may.f k ((rd_T30 x0 x3).f0) ((rd_T30 x0 x3).f1) ((rd_T30 x0 x3).f2) ((rd_T30 x0 x3).f3)).bind fun t210 => (if t210 = true then (spoorref21_Check.l0 k x0 (wrap64 (x3 + 1))) else (some 211))) else (none)) else (some 0)
def spoorref21_Check.f (k : Nat) (l0 : List (S30)) : Option (Int) := if (l0.length : Int) > 20 then (some 211) else (spoorref21_Check.l0 k l0 0)
theorem spoorref21_Check.mono_l : ∀ k, (∀ y0 y1, LeO (spoorref21_Check.l0 k y0 y1) (spoorref21_Check.l0 (k + 1) y0 y1))
  | 0 => fun _ _ r h => by simp [spoorref21_Check.l0] at h
  | k + 1 => by
    have ih0 := spoorref21_Check.mono_l k
    · intro y0 y1
      unfold spoorref21_Check.l0
      repeat' first
      | (with_reducible exact ih0 _ _)
      | (with_reducible exact spoorref21_may.mono _ _ _ _ _)
      | (with_reducible exact LeO.refl _)
      | (with_reducible exact LeO.none _)
      | (with_reducible refine LeO.ite ?_ ?_)
      | (with_reducible refine LeO.bind ?_ (fun _ => ?_))
      | exact ih0 _ _
      | exact spoorref21_may.mono _ _ _ _ _
      | exact LeO.none _
      | refine LeO.ite ?_ ?_
      | refine LeO.bind ?_ (fun _ => ?_)
theorem spoorref21_Check.mono : ∀ a0 k, LeO (spoorref21_Check.f k a0) (spoorref21_Check.f (k + 1) a0) := by
  intro a0 k
  have ih0 := spoorref21_Check.mono_l k
  unfold spoorref21_Check.f
  repeat' first
      | (with_reducible exact ih0 _ _)
      | (with_reducible exact spoorref21_may.mono _ _ _ _ _)
      | (with_reducible exact LeO.refl _)
      | (with_reducible exact LeO.none _)
      | (with_reducible refine LeO.ite ?_ ?_)
      | (with_reducible refine LeO.bind ?_ (fun _ => ?_))
      | exact ih0 _ _
      | exact spoorref21_may.mono _ _ _ _ _
      | exact LeO.none _
      | refine LeO.ite ?_ ?_
      | refine LeO.bind ?_ (fun _ => ?_)
set_option maxHeartbeats 8000000 in
set_option maxRecDepth 100000 in
theorem spoorref21_Check.calls (k : Nat) (A0 : Option Addr) (c0 : Nat) (l0 : List (S30)) (r : Int) (w : World) (hr0 : Kd.C k30 w A0 l0.length l0) (hc0 : l0.length ≤ c0) (h : spoorref21_Check.f k l0 = some r) :
    Calls Tryd.prog 15 #[.slice A0 l0.length c0] w fun e w' => e = .returned (.int .i64 r) ∧ Below w.heap.size w w' := by
  have hu30 := Tryd.underlying30
  have HR0 := Aside0.mk hr0
  have HC0 := Aside0.mk hc0
  clear hr0 hc0
  have HB := Aside0.mk (Below.refl w.heap.size w)
  have H : (if (l0.length : Int) > 20 then (some 211) else (spoorref21_Check.l0 k l0 0)) = some r := h
  clear h
  by_cases c2 : (l0.length : Int) > 20
  · rw [if_pos c2] at H
    have c2b0 : decide (20 < (l0.length : Int)) = true := decide_eq_true c2
    have c2b1 : decide (20 < l0.length) = true := decide_eq_true (by omega)
    clear c2
    obtain rfl := Option.some.inj H
    go_enter Tryd.func15, Tryd.ntmps15
    go_wp2
    go_ret
    exact ⟨by first | rfl | (simp [errW_none, errW_some] <;> rfl) | (simp [*, errW_none, errW_some] <;> rfl), by repeat (first | (with_reducible first | exact HB.out | apply below_alloc | apply pw_below_drewN | apply below_drew1) | exact HB.out)⟩
  · rw [if_neg c2] at H
    have c2b0 : decide (20 < (l0.length : Int)) = false := decide_eq_false c2
    have c2b1 : decide (20 < l0.length) = false := decide_eq_false (by omega)
    clear c2
    have H' := Aside0.mk H
    clear H
    go_enter Tryd.func15, Tryd.ntmps15
    go_wp2
    go_loopg [3] k (fun kq v3 w' => ∃ (x3_1 : Int), v3 = .int .i64 x3_1 ∧ Aside0 (spoorref21_Check.l0 kq l0 x3_1 = some r) ∧ Aside0 (kq ≤ k) ∧ Aside0 (Below w.heap.size w w'))
    case atStart => exact ⟨(0), (by first | rfl | (simp; done) | (simp [*]; done)), H', ⟨Nat.le_refl _⟩, ⟨by repeat (first | (with_reducible first | exact HB.out | apply below_alloc | apply pw_below_drewN | apply below_drew1) | exact HB.out)⟩⟩
    case round =>
      clear H'
      try clear c1
      try clear c2
      try clear c2b0
      try clear c2b1
      try clear p2
      obtain ⟨x3_1, rfl, HA, HK1, HB⟩ := hrel
      cases gk with
      | zero => exact absurd HA.out (by simp [spoorref21_Check.l0])
      | succ k1 =>
        have H := HA.out
        clear HA
        simp only [spoorref21_Check.l0] at H
        by_cases c3 : x3_1 < (l0.length : Int)
        · rw [if_pos c3] at H
          have c3b0 : decide (x3_1 < (l0.length : Int)) = true := decide_eq_true c3
          clear c3
          by_cases c4 : 0 ≤ x3_1
          · rw [if_pos c4] at H
            have c4b0 : decide (0 ≤ x3_1) = true := decide_eq_true c4
            clear c4
            replace H := Option.bind_eq_some_iff.mp H
            obtain ⟨t210, A50, H⟩ := H
            replace H : (if t210 = true then (spoorref21_Check.l0 k1 l0 (wrap64 (x3_1 + 1))) else (some 211)) = some r := H
            have A5 := Aside0.mk A50
            clear A50
            by_cases c6 : t210 = true
            · subst c6
              have H1 : (spoorref21_Check.l0 k1 l0 (wrap64 (x3_1 + 1))) = some r := by rw [if_pos rfl] at H; exact H
              clear H
              have H := H1
              clear H1
              have H' := Aside0.mk H
              clear H
              have p209 : 0 ≤ (x3_1 : Int) := of_decide_eq_true (by first | (with_reducible assumption) | assumption)
              have q209 : x3_1 < (l0.length : Int) := of_decide_eq_true (by first | (with_reducible assumption) | assumption)
              obtain ⟨ad209, e209, hx209_0, hx209_1, hx209_2, hx209_3⟩ := at_T30 HR0.out x3_1 p209 q209
              cases e209
              replace hx209_0 := (HB.out.cell (World.block_lt_of_cell? w _ hx209_0)).trans hx209_0
              replace hx209_1 := (HB.out.cell (World.block_lt_of_cell? w _ hx209_1)).trans hx209_1
              replace hx209_2 := (HB.out.cell (World.block_lt_of_cell? w _ hx209_2)).trans hx209_2
              replace hx209_3 := (HB.out.cell (World.block_lt_of_cell? w _ hx209_3)).trans hx209_3
              replace p209 := eq_true p209
              replace q209 := eq_true q209
              go_wp2_with (first | ((with_reducible refine gate_callee (f := 41) rfl ?_); refine goesL_ (some 17) rfl rfl Tryd.func41 (by kernel_rfl) rfl #[.agg #[.int .i64 ((rd_T30 l0 x3_1).f0), .int .u64 ((rd_T30 l0 x3_1).f1), .string ((rd_T30 l0 x3_1).f2), .int .i64 ((rd_T30 l0 x3_1).f3)]] rfl (by (try simp only [List.map_toArray, List.map_cons, List.map_nil]); first | done | rfl | (simp only [List.length_drop, List.length_take]; rfl)) ?_; (with_reducible refine (spoorref21_may.calls k1 ((rd_T30 l0 x3_1).f0) ((rd_T30 l0 x3_1).f1) ((rd_T30 l0 x3_1).f2) ((rd_T30 l0 x3_1).f3) true _ A5.out).mono ?_); rintro e w7 ⟨rfl, hb⟩; refine ⟨_, rfl, ?_⟩; have n0_ := Aside0.mk (below_step (by repeat (first | (with_reducible first | exact HB.out | apply below_alloc | apply pw_below_drewN | apply below_drew1) | exact HB.out)) hb); clear HB; have HB := n0_; clear n0_; (try clear hb); (try clear hb2); (try clear hk); (try clear hi)))
              go_roundg k1
              case measure => have := HK1.out; omega
              case rel => exact ⟨(wrap64 (x3_1 + 1)), (by first | rfl | (simp; done) | (simp [*]; done)), H', ⟨by have := HK1.out; omega⟩, ⟨by repeat (first | (with_reducible first | exact HB.out | apply below_alloc | apply pw_below_drewN | apply below_drew1) | exact HB.out)⟩⟩
            · replace c6 := Bool.eq_false_iff.mpr c6
              subst c6
              have H1 : (some 211) = some r := by rw [if_neg (show ¬ (false = true) by decide)] at H; exact H
              clear H
              have H := H1
              clear H1
              obtain rfl := Option.some.inj H
              have p209 : 0 ≤ (x3_1 : Int) := of_decide_eq_true (by first | (with_reducible assumption) | assumption)
              have q209 : x3_1 < (l0.length : Int) := of_decide_eq_true (by first | (with_reducible assumption) | assumption)
              obtain ⟨ad209, e209, hx209_0, hx209_1, hx209_2, hx209_3⟩ := at_T30 HR0.out x3_1 p209 q209
              cases e209
              replace hx209_0 := (HB.out.cell (World.block_lt_of_cell? w _ hx209_0)).trans hx209_0
              replace hx209_1 := (HB.out.cell (World.block_lt_of_cell? w _ hx209_1)).trans hx209_1
              replace hx209_2 := (HB.out.cell (World.block_lt_of_cell? w _ hx209_2)).trans hx209_2
              replace hx209_3 := (HB.out.cell (World.block_lt_of_cell? w _ hx209_3)).trans hx209_3
              replace p209 := eq_true p209
              replace q209 := eq_true q209
              go_wp2_with (first | ((with_reducible refine gate_callee (f := 41) rfl ?_); refine goesL_ (some 17) rfl rfl Tryd.func41 (by kernel_rfl) rfl #[.agg #[.int .i64 ((rd_T30 l0 x3_1).f0), .int .u64 ((rd_T30 l0 x3_1).f1), .string ((rd_T30 l0 x3_1).f2), .int .i64 ((rd_T30 l0 x3_1).f3)]] rfl (by (try simp only [List.map_toArray, List.map_cons, List.map_nil]); first | done | rfl | (simp only [List.length_drop, List.length_take]; rfl)) ?_; (with_reducible refine (spoorref21_may.calls k1 ((rd_T30 l0 x3_1).f0) ((rd_T30 l0 x3_1).f1) ((rd_T30 l0 x3_1).f2) ((rd_T30 l0 x3_1).f3) false _ A5.out).mono ?_); rintro e w8 ⟨rfl, hb⟩; refine ⟨_, rfl, ?_⟩; have n0_ := Aside0.mk (below_step (by repeat (first | (with_reducible first | exact HB.out | apply below_alloc | apply pw_below_drewN | apply below_drew1) | exact HB.out)) hb); clear HB; have HB := n0_; clear n0_; (try clear hb); (try clear hb2); (try clear hk); (try clear hi)))
              go_ret
              exact ⟨by first | rfl | (simp [errW_none, errW_some] <;> rfl) | (simp [*, errW_none, errW_some] <;> rfl), by repeat (first | (with_reducible first | exact HB.out | apply below_alloc | apply pw_below_drewN | apply below_drew1) | exact HB.out)⟩
          · rw [if_neg c4] at H
            exact absurd H (by simp)
        · rw [if_neg c3] at H
          have c3b0 : decide (x3_1 < (l0.length : Int)) = false := decide_eq_false c3
          clear c3
          obtain rfl := Option.some.inj H
          go_wp2
          go_ret
          exact ⟨by first | rfl | (simp [errW_none, errW_some] <;> rfl) | (simp [*, errW_none, errW_some] <;> rfl), by repeat (first | (with_reducible first | exact HB.out | apply below_alloc | apply pw_below_drewN | apply below_drew1) | exact HB.out)⟩

end Go.Proofs.YtdlnfmakfnggpaaDoor.Pr
