/- spoorref04's links, attrs, events, Check, by hand. -/
import Derived.Test.YtdlnfmakfnggpaaDoorXRk
import Derived.Test.YtdlnfmakfnggpaaDoorXRe
import Derived.Test.YtdlnfmakfnggpaaDoorLe
import Derived.Outline
namespace Go.Proofs.YtdlnfmakfnggpaaDoor.Pr
open Go.RowKit Go.Proofs.YtdlnfmakfnggpaaDoorW.PrintWords Go.Proofs.YtdlnfmakfnggpaaDoorW.PrintMore Mg
set_option linter.unusedVariables false
set_option linter.unusedSimpArgs false
set_option maxHeartbeats 4000000 in
set_option maxRecDepth 100000 in
theorem links_run (x : S43) (w : World) (A4 : Option Addr) (c4 : Nat) (A11 : Option Addr) (c11 : Nat) (A12 : Option Addr) (c12 : Nat)
    (r4 : Kd.C (Kd.int .u64) w A4 x.f3.length x.f3) (l4 : x.f3.length ≤ c4) (hl : x.f3.length ≤ 140737488351232) (hp : ∀ e ∈ x.f3, 0 ≤ e) :
    Calls Tryd.prog 82 #[.agg #[.int .u64 x.f0.f0, .int .u64 x.f0.f1, .int .u64 x.f1, .int .u64 x.f2, .slice A4 x.f3.length c4, .string x.f4, .string x.f5, .int .i64 x.f6, .int .i64 x.f7, .int .i64 x.f8, .int .i64 x.f9, .slice A11 x.f10.length c11, .slice A12 x.f11.length c12]] w (BoolPost w (linkF x.f3 x.f1)) := by
  have HR := Lib.hid r4
  have HP := Lib.hid hp
  have HB := Lib.hid (below_alloc (Below.refl w.heap.size w) (.cells #[.int .u64 x.f0.f0, .int .u64 x.f0.f1, .int .u64 x.f1, .int .u64 x.f2, .slice A4 x.f3.length c4, .string x.f4, .string x.f5, .int .i64 x.f6, .int .i64 x.f7, .int .i64 x.f8, .int .i64 x.f9, .slice A11 x.f10.length c11, .slice A12 x.f11.length c12] 43))
  have HG := Lib.hid (blk_new w (.cells #[.int .u64 x.f0.f0, .int .u64 x.f0.f1, .int .u64 x.f1, .int .u64 x.f2, .slice A4 x.f3.length c4, .string x.f4, .string x.f5, .int .i64 x.f6, .int .i64 x.f7, .int .i64 x.f8, .int .i64 x.f9, .slice A11 x.f10.length c11, .slice A12 x.f11.length c12] 43))
  clear r4 hp
  go_enter Tryd.func82, Tryd.ntmps82
  go_wp2_with fail
  generalize w.alloc (.cells #[.int .u64 x.f0.f0, .int .u64 x.f0.f1, .int .u64 x.f1, .int .u64 x.f2, .slice A4 x.f3.length c4, .string x.f4, .string x.f5, .int .i64 x.f6, .int .i64 x.f7, .int .i64 x.f8, .int .i64 x.f9, .slice A11 x.f10.length c11, .slice A12 x.f11.length c12] 43) = w0 at *
  go_loopw [3] (fun v3 wr => ∃ k : Nat, v3 = .int .i64 k ∧ k ≤ x.f3.length ∧ Hid (linkTo x.f3 x.f1 k = true) ∧ Hid (Below w0.heap.size w0 wr)) (fun v3 _ => x.f3.length - (intOf v3).toNat)
  case atStart => exact ⟨0, rfl, Nat.zero_le _, Lib.hid rfl, Lib.hid (Below.refl _ _)⟩
  case round =>
    obtain ⟨k, rfl, hk, HK, HW⟩ := hrel
    have hg := blk_below HG.out HW.out
    have s4 := (cell_of_row _ _ 4 _ _ _ hg).trans rfl
    have s2 := (cell_of_row _ _ 2 _ _ _ hg).trans rfl
    clear hg
    by_cases hlt : k < x.f3.length
    · have b1 : (k : Int) < (x.f3.length : Int) := by omega
      obtain ⟨ab, ao, rfl, y0⟩ := ints_at HR.out k hlt
      have S4 := fun z : Wx wr => z.cell s4
      have S2 := fun z : Wx wr => z.cell s2
      have hbw := HB.out.trans (HW.out.mono HB.out.size)
      have Y := fun z : Wx wr => z.cell (pw_cell_below hbw y0)
      have HN := Lib.hid (show linkTo x.f3 x.f1 (k + 1) = (decide (prevL x.f3 k < rd x.f3 k) && !(rd x.f3 k == x.f1)) by simp only [linkTo, HK.out, Bool.true_and])
      have HF := Lib.hid (fun h => linkTo_false (l := x.f3) (id := x.f1) (k := k) h x.f3.length hlt)
      have HE := Lib.hid (show 0 ≤ rd x.f3 k from HP.out _ (by simp [rd, List.getD, hlt]))
      have HT := Lib.hid (hbw)
      clear y0
      by_cases hk0 : k = 0
      · have d1 : decide (0 < k) = false := decide_eq_false (by omega)
        have hpv := Lib.hid (show prevL x.f3 k = 0 by rw [hk0]; rfl)
        have d0 : decide ((0 : Int) < (k : Int)) = false := decide_eq_false (by omega)
        generalize rd x.f3 (k : Int) = e at *
        obtain ⟨z0, hz0⟩ : ∃ b, (e == 0) = b := ⟨_, rfl⟩
        obtain ⟨z1, hz1⟩ : ∃ b, (e == x.f1) = b := ⟨_, rfl⟩
        clear hk0 hbw
        go_wp2_with fail
        refine wp_region_ext (by kernel_rfl) (by kernel_rfl) ?_
        cases z0 <;> cases z1 <;> (
          repeat (go_big_quiet_step (fail))
          refine wpQuiet_nil ?_
          intro _ hw'
          obtain ⟨xx, rfl⟩ := hw'
          go_wp2_with fail)
        · go_roundw
          case rel => exact ⟨k + 1, by go_num, by omega, Lib.hid (by rw [HN.out, hpv.out, hz1, decide_eq_true (by have := HE.out; have := beq_eq_false_iff_ne.1 hz0; omega)]; rfl), Lib.hid (HW.out.trans (xx.h.mono HW.out.size))⟩
          case measure => simp [intOf]; omega
        · go_ret
          exact bp_of (HT.out.trans (xx.h.mono HT.out.size)) (by unfold linkF; rw [HF.out (by rw [hz1, Bool.not_true, Bool.and_false])]; rfl)
        · go_ret
          exact bp_of (HT.out.trans (xx.h.mono HT.out.size)) (by unfold linkF; rw [HF.out (by rw [hpv.out, decide_eq_false (by have := beq_iff_eq.1 hz0; omega), Bool.false_and])]; rfl)
        · go_ret
          exact bp_of (HT.out.trans (xx.h.mono HT.out.size)) (by unfold linkF; rw [HF.out (by rw [hz1, Bool.not_true, Bool.and_false])]; rfl)
      · obtain ⟨j, hj⟩ : ∃ j, k = j + 1 := ⟨k - 1, by omega⟩
        obtain ⟨eb, eo, hA, y1⟩ := ints_at HR.out j (by omega)
        cases hA
        have Y1 := fun z : Wx wr => z.cell (pw_cell_below hbw y1)
        have hpv := Lib.hid (show prevL x.f3 k = rd x.f3 j by rw [hj]; rfl)
        have HE1 := Lib.hid (show 0 ≤ rd x.f3 j from HP.out _ (by simp [rd, List.getD, show j < x.f3.length by omega]))
        have d0 : decide ((0 : Int) < (k : Int)) = true := decide_eq_true (by omega)
        have d1 : decide (0 < k) = true := decide_eq_true (by omega)
        have e1 : (0 : Int) ≤ (k : Int) - 1 := by omega
        have e2 : (k : Int) - 1 < (x.f3.length : Int) := by omega
        have e3 : ((k : Int) - 1).toNat = j := by omega
        clear y1 hbw hk0 hj
        generalize rd x.f3 (k : Int) = e at *
        generalize rd x.f3 (j : Int) = p at *
        obtain ⟨z0, hz0⟩ : ∃ b, (e == 0) = b := ⟨_, rfl⟩
        obtain ⟨z1, hz1⟩ : ∃ b, (e == x.f1) = b := ⟨_, rfl⟩
        obtain ⟨z2, hz2⟩ : ∃ b, decide (e ≤ p) = b := ⟨_, rfl⟩
        go_wp2_with fail
        refine wp_region_ext (by kernel_rfl) (by kernel_rfl) ?_
        cases z0 <;> cases z1 <;> cases z2 <;> (
          repeat (go_big_quiet_step (fail))
          refine wpQuiet_nil ?_
          intro _ hw'
          obtain ⟨xx, rfl⟩ := hw'
          go_wp2_with fail)
        · go_roundw
          case rel => exact ⟨k + 1, by go_num, by omega, Lib.hid (by rw [HN.out, hpv.out, hz1, decide_eq_true (by have := of_decide_eq_false hz2; omega)]; rfl), Lib.hid (HW.out.trans (xx.h.mono HW.out.size))⟩
          case measure => simp [intOf]; omega
        all_goals
          go_ret
          exact bp_of (HT.out.trans (xx.h.mono HT.out.size)) (by
            unfold linkF
            rw [HF.out (by
              rw [hpv.out, Bool.and_eq_false_iff]
              first
              | exact .inr (by rw [hz1]; rfl)
              | exact .inl (decide_eq_false (by have := HE1.out; have := beq_iff_eq.1 hz0; omega))
              | exact .inl (decide_eq_false (by have := of_decide_eq_true hz2; omega)))]
            rfl)
    · obtain rfl : k = x.f3.length := by omega
      have hT := Lib.hid (HB.out.trans (HW.out.mono HB.out.size))
      go_wp2_with fail
      go_ret
      exact bp_of hT.out (by unfold linkF; rw [HK.out]; rfl)
set_option maxHeartbeats 4000000 in
set_option maxRecDepth 100000 in
theorem attrs_run (x : S43) (w : World) (A4 : Option Addr) (c4 : Nat) (A11 : Option Addr) (c11 : Nat) (A12 : Option Addr) (c12 : Nat)
    (r11 : Kd.C k120 w A11 x.f10.length x.f10) (l11 : x.f10.length ≤ c11) (hl : okA x.f10) :
    Calls Tryd.prog 83 #[.agg #[.int .u64 x.f0.f0, .int .u64 x.f0.f1, .int .u64 x.f1, .int .u64 x.f2, .slice A4 x.f3.length c4, .string x.f4, .string x.f5, .int .i64 x.f6, .int .i64 x.f7, .int .i64 x.f8, .int .i64 x.f9, .slice A11 x.f10.length c11, .slice A12 x.f11.length c12]] w (BoolPost w (carF x.f10)) := by
  have HR := Lib.hid r11
  have HO := Lib.hid hl.2
  have hl' : x.f10.length ≤ 140737488351232 := by have := hl.1; omega
  have HB := Lib.hid (below_alloc (Below.refl w.heap.size w) (.cells #[.int .u64 x.f0.f0, .int .u64 x.f0.f1, .int .u64 x.f1, .int .u64 x.f2, .slice A4 x.f3.length c4, .string x.f4, .string x.f5, .int .i64 x.f6, .int .i64 x.f7, .int .i64 x.f8, .int .i64 x.f9, .slice A11 x.f10.length c11, .slice A12 x.f11.length c12] 43))
  have HG := Lib.hid (blk_new w (.cells #[.int .u64 x.f0.f0, .int .u64 x.f0.f1, .int .u64 x.f1, .int .u64 x.f2, .slice A4 x.f3.length c4, .string x.f4, .string x.f5, .int .i64 x.f6, .int .i64 x.f7, .int .i64 x.f8, .int .i64 x.f9, .slice A11 x.f10.length c11, .slice A12 x.f11.length c12] 43))
  clear r11 hl
  go_enter Tryd.func83, Tryd.ntmps83
  go_wp2_with fail
  generalize w.alloc (.cells #[.int .u64 x.f0.f0, .int .u64 x.f0.f1, .int .u64 x.f1, .int .u64 x.f2, .slice A4 x.f3.length c4, .string x.f4, .string x.f5, .int .i64 x.f6, .int .i64 x.f7, .int .i64 x.f8, .int .i64 x.f9, .slice A11 x.f10.length c11, .slice A12 x.f11.length c12] 43) = w0 at *
  go_loopw [3] (fun v3 wr => ∃ k : Nat, v3 = .int .i64 k ∧ k ≤ x.f10.length ∧ Hid (carTo x.f10 k = true) ∧ Hid (Below w0.heap.size w0 wr)) (fun v3 _ => x.f10.length - (intOf v3).toNat)
  case atStart => exact ⟨0, rfl, Nat.zero_le _, Lib.hid rfl, Lib.hid (Below.refl _ _)⟩
  case round =>
    obtain ⟨k, rfl, hk, HK, HW⟩ := hrel
    have hg := blk_below HG.out HW.out
    have s11 := (cell_of_row _ _ 11 _ _ _ hg).trans rfl
    by_cases hlt : k < x.f10.length
    · have b1 : (k : Int) < (x.f10.length : Int) := by omega
      obtain ⟨ab, ao, hA, y0, y1, y2, y3⟩ := t120_at HR.out k hlt
      have hbw := HB.out.trans (HW.out.mono HB.out.size)
      have HT := Lib.hid hbw
      have u0 := pw_cell_below hbw y0
      have Y0 := Lib.hid y0
      have Y1 := Lib.hid y1
      have Y2 := Lib.hid y2
      have Y3 := Lib.hid y3
      have HGG := Lib.hid hg
      have HN := Lib.hid (show carTo x.f10 (k + 1) = carOK x.f10 k by simp only [carTo, HK.out, Bool.true_and])
      have HF := Lib.hid (fun h => carTo_false (l := x.f10) (k := k) h x.f10.length hlt)
      have HZ := Lib.hid (HO.out _ (rd120_mem hlt))
      have HC : Hid (carOK x.f10 k = (keyF (rd_T120 x.f10 (k : Int)).f0 && (valF (rd_T120 x.f10 (k : Int)).f1.f0 (rd_T120 x.f10 (k : Int)).f1.f1 (rd_T120 x.f10 (k : Int)).f1.f2 && keyLt x.f10 k))) := Lib.hid rfl
      have HKL : Hid ((k = 0 ∧ keyLt x.f10 k = true) ∨ ∃ j, k = j + 1 ∧ keyLt x.f10 k = Op.bytesLess (rd_T120 x.f10 (j : Int)).f0.toList (rd_T120 x.f10 (k : Int)).f0.toList) := Lib.hid (by
        rcases k with _ | j
        · exact .inl ⟨rfl, rfl⟩
        · exact .inr ⟨j, rfl, rfl⟩)
      generalize rd_T120 x.f10 (k : Int) = e at *
      obtain ⟨q1, hq1⟩ : ∃ b, keyF e.f0 = b := ⟨_, rfl⟩
      obtain ⟨q2, hq2⟩ : ∃ b, valF e.f1.f0 e.f1.f1 e.f1.f2 = b := ⟨_, rfl⟩
      rw [hq1, hq2] at HC
      have HQ1 := Lib.hid hq1
      have HQ2 := Lib.hid hq2
      subst hA
      clear y0 y1 y2 y3 hg hq1 hq2 hbw
      go_wp2_with fail
      refine (key_run e.f0 _ HZ.out.1).mono ?_
      rintro _ w1 ⟨rfl, hb1⟩
      rw [HQ1.out]
      have T1 := Lib.hid (HT.out.trans (hb1.mono HT.out.size))
      have G1 := blk_below HGG.out hb1
      have t11 := (cell_of_row _ _ 11 _ _ _ G1).trans rfl
      have v1 := pw_cell_below T1.out Y1.out
      have v2 := pw_cell_below T1.out Y2.out
      have v3 := pw_cell_below T1.out Y3.out
      have GG1 := Lib.hid G1
      have W1 := Lib.hid (HW.out.trans (hb1.mono HW.out.size))
      clear G1 hb1 u0 s11
      go_wp2_with fail
      refine (value_run e.f1.f0 e.f1.f1 e.f1.f2 _ HZ.out.2).mono ?_
      rintro _ w2 ⟨rfl, hb2⟩
      rw [HQ2.out]
      have T2 := Lib.hid (T1.out.trans (hb2.mono T1.out.size))
      have G2 := blk_below GG1.out hb2
      have S11 := fun z : Wx w2 => z.cell ((cell_of_row _ _ 11 _ _ _ G2).trans rfl)
      have U0 := fun z : Wx w2 => z.cell (pw_cell_below T2.out Y0.out)
      have W2 := Lib.hid (W1.out.trans (hb2.mono W1.out.size))
      clear G2 hb2 t11 v1 v2 v3
      rcases HKL.out with ⟨hk0, hkl⟩ | ⟨j, hj, hkl⟩
      · have HL := Lib.hid hkl
        have d0 : decide ((0 : Int) < (k : Int)) = false := decide_eq_false (by omega)
        have d1 : decide (0 < k) = false := decide_eq_false (by omega)
        clear hkl hk0
        cases q1 <;> cases q2 <;> (
          go_wp2_with fail
          refine wp_region_ext (by kernel_rfl) (by kernel_rfl) ?_
          repeat (go_big_quiet_step (fail))
          refine wpQuiet_nil ?_
          intro _ hw'
          obtain ⟨xx, rfl⟩ := hw'
          go_wp2_with fail
          first
          | (go_roundw
             case rel => exact ⟨k + 1, by go_num, by omega, Lib.hid (by rw [HN.out, HC.out, HL.out]; rfl), Lib.hid (W2.out.trans (xx.h.mono W2.out.size))⟩
             case measure => simp [intOf]; omega)
          | (go_ret
             exact bp_of (T2.out.trans (xx.h.mono T2.out.size)) (by unfold carF; rw [HF.out (by rw [HC.out]; rfl)]; rfl)))
      · obtain ⟨eb, eo, hA, p0, _⟩ := t120_at HR.out j (by omega)
        cases hA
        have V0 := fun z : Wx w2 => z.cell (pw_cell_below T2.out p0)
        have HL := Lib.hid hkl
        have d0 : decide ((0 : Int) < (k : Int)) = true := decide_eq_true (by omega)
        have d1 : decide (0 < k) = true := decide_eq_true (by omega)
        have e1 : (0 : Int) ≤ (k : Int) - 1 := by omega
        have e2 : (k : Int) - 1 < (x.f10.length : Int) := by omega
        have e3 : ((k : Int) - 1).toNat = j := by omega
        clear hkl hj p0
        generalize rd_T120 x.f10 (j : Int) = p at *
        obtain ⟨q3, hq3⟩ : ∃ b, Op.bytesLess p.f0.toList e.f0.toList = b := ⟨_, rfl⟩
        have HQ3 := Lib.hid hq3
        cases q1 <;> cases q2 <;> cases q3 <;> (
          go_wp2_with fail
          refine wp_region_ext (by kernel_rfl) (by kernel_rfl) ?_
          repeat (go_big_quiet_step (fail))
          refine wpQuiet_nil ?_
          intro _ hw'
          obtain ⟨xx, rfl⟩ := hw'
          go_wp2_with fail
          first
          | (go_roundw
             case rel => exact ⟨k + 1, by go_num, by omega, Lib.hid (by rw [HN.out, HC.out, HL.out, HQ3.out]; rfl), Lib.hid (W2.out.trans (xx.h.mono W2.out.size))⟩
             case measure => simp [intOf]; omega)
          | (go_ret
             exact bp_of (T2.out.trans (xx.h.mono T2.out.size)) (by unfold carF; rw [HF.out (by rw [HC.out, HL.out, HQ3.out]; rfl)]; rfl)))
    · obtain rfl : k = x.f10.length := by omega
      have hT := Lib.hid (HB.out.trans (HW.out.mono HB.out.size))
      clear hg
      go_wp2_with fail
      go_ret
      exact bp_of hT.out (by unfold carF; rw [HK.out]; rfl)
theorem evLt_ways (p e : S122) (m3 : Bool) (h3 : Op.bytesLess p.f1.toList e.f1.toList = m3) : (decide (e.f0 < p.f0) = true ∧ evLt p e = false) ∨ (decide (e.f0 < p.f0) = false ∧ (e.f0 == p.f0) = true ∧ evLt p e = m3) ∨ (decide (e.f0 < p.f0) = false ∧ (e.f0 == p.f0) = false ∧ evLt p e = true) := by
  unfold evLt
  rw [h3]
  rcases (by omega : e.f0 < p.f0 ∨ e.f0 = p.f0 ∨ p.f0 < e.f0) with h | h | h
  · exact .inl ⟨decide_eq_true h, by rw [decide_eq_false (by omega), beq_eq_false_iff_ne.2 (by omega)]; rfl⟩
  · exact .inr (.inl ⟨decide_eq_false (by omega), beq_iff_eq.2 h, by rw [decide_eq_false (by omega), beq_iff_eq.2 h.symm]; rfl⟩)
  · exact .inr (.inr ⟨decide_eq_false (by omega), beq_eq_false_iff_ne.2 (by omega), by rw [decide_eq_true h]; rfl⟩)
set_option maxHeartbeats 4000000 in
set_option maxRecDepth 100000 in
theorem events_run (x : S43) (w : World) (A4 : Option Addr) (c4 : Nat) (A11 : Option Addr) (c11 : Nat) (A12 : Option Addr) (c12 : Nat)
    (r12 : Kd.C k122 w A12 x.f11.length x.f11) (l12 : x.f11.length ≤ c12) (hl : okE x.f11) :
    Calls Tryd.prog 84 #[.agg #[.int .u64 x.f0.f0, .int .u64 x.f0.f1, .int .u64 x.f1, .int .u64 x.f2, .slice A4 x.f3.length c4, .string x.f4, .string x.f5, .int .i64 x.f6, .int .i64 x.f7, .int .i64 x.f8, .int .i64 x.f9, .slice A11 x.f10.length c11, .slice A12 x.f11.length c12]] w (BoolPost w (tolF x.f11)) := by
  have HR := Lib.hid r12
  have HO := Lib.hid hl.2
  have hl' : x.f11.length ≤ 140737488351232 := by have := hl.1; omega
  have HB := Lib.hid (below_alloc (Below.refl w.heap.size w) (.cells #[.int .u64 x.f0.f0, .int .u64 x.f0.f1, .int .u64 x.f1, .int .u64 x.f2, .slice A4 x.f3.length c4, .string x.f4, .string x.f5, .int .i64 x.f6, .int .i64 x.f7, .int .i64 x.f8, .int .i64 x.f9, .slice A11 x.f10.length c11, .slice A12 x.f11.length c12] 43))
  have HG := Lib.hid (blk_new w (.cells #[.int .u64 x.f0.f0, .int .u64 x.f0.f1, .int .u64 x.f1, .int .u64 x.f2, .slice A4 x.f3.length c4, .string x.f4, .string x.f5, .int .i64 x.f6, .int .i64 x.f7, .int .i64 x.f8, .int .i64 x.f9, .slice A11 x.f10.length c11, .slice A12 x.f11.length c12] 43))
  clear r12 hl
  go_enter Tryd.func84, Tryd.ntmps84
  go_wp2_with fail
  generalize w.alloc (.cells #[.int .u64 x.f0.f0, .int .u64 x.f0.f1, .int .u64 x.f1, .int .u64 x.f2, .slice A4 x.f3.length c4, .string x.f4, .string x.f5, .int .i64 x.f6, .int .i64 x.f7, .int .i64 x.f8, .int .i64 x.f9, .slice A11 x.f10.length c11, .slice A12 x.f11.length c12] 43) = w0 at *
  go_loopw [3] (fun v3 wr => ∃ k : Nat, v3 = .int .i64 k ∧ k ≤ x.f11.length ∧ Hid (tolTo x.f11 k = true) ∧ Hid (Below w0.heap.size w0 wr)) (fun v3 _ => x.f11.length - (intOf v3).toNat)
  case atStart => exact ⟨0, rfl, Nat.zero_le _, Lib.hid rfl, Lib.hid (Below.refl _ _)⟩
  case round =>
    obtain ⟨k, rfl, hk, HK, HW⟩ := hrel
    have hg := blk_below HG.out HW.out
    have s12 := (cell_of_row _ _ 12 _ _ _ hg).trans rfl
    by_cases hlt : k < x.f11.length
    · have b1 : (k : Int) < (x.f11.length : Int) := by omega
      obtain ⟨ab, ao, hA, y0, y1⟩ := t122_at HR.out k hlt
      have hbw := HB.out.trans (HW.out.mono HB.out.size)
      have u0 := pw_cell_below hbw y0
      have u1 := pw_cell_below hbw y1
      have HT := Lib.hid hbw
      have HGG := Lib.hid hg
      have HN := Lib.hid (show tolTo x.f11 (k + 1) = tolOK x.f11 k by simp only [tolTo, HK.out, Bool.true_and])
      have HF := Lib.hid (fun h => tolTo_false (l := x.f11) (k := k) h x.f11.length hlt)
      have HZ := Lib.hid (HO.out _ (rd122_mem hlt))
      have HC : Hid (tolOK x.f11 k = ((decide (0 ≤ (rd_T122 x.f11 (k : Int)).f0) && decide ((rd_T122 x.f11 (k : Int)).f0 ≤ 4611686018427387904)) && (plainF (rd_T122 x.f11 (k : Int)).f1 100 32 && evPre x.f11 k))) := Lib.hid rfl
      have HKL : Hid ((k = 0 ∧ evPre x.f11 k = true) ∨ ∃ j, k = j + 1 ∧ evPre x.f11 k = evLt (rd_T122 x.f11 (j : Int)) (rd_T122 x.f11 (k : Int))) := Lib.hid (by
        rcases k with _ | j
        · exact .inl ⟨rfl, rfl⟩
        · exact .inr ⟨j, rfl, rfl⟩)
      generalize rd_T122 x.f11 (k : Int) = e at *
      obtain ⟨q1, hq1⟩ : ∃ b, plainF e.f1 100 32 = b := ⟨_, rfl⟩
      rw [hq1] at HC
      have HQ1 := Lib.hid hq1
      subst hA
      have B1 := Lib.hid (below_alloc (Below.refl wr.heap.size wr) (.cells #[.int .i64 e.f0, .string e.f1] 122))
      have N1 := Lib.hid (blk_new wr (.cells #[.int .i64 e.f0, .string e.f1] 122))
      clear y0 y1 hg hq1 hbw
      go_wp2_with fail
      refine (rplain_run e.f1 100 32 _ HZ.out).mono ?_
      rintro _ w2 ⟨rfl, hb1⟩
      rw [HQ1.out]
      have T1 := B1.out.trans (hb1.mono B1.out.size)
      have T2 := Lib.hid (HT.out.trans (T1.mono HT.out.size))
      have W2 := Lib.hid (HW.out.trans (T1.mono HW.out.size))
      have G2 := blk_below HGG.out T1
      have N2 := blk_below N1.out hb1
      have g0 := (cell_of_row _ _ 0 _ _ _ N2).trans rfl
      have g1 := (cell_of_row _ _ 1 _ _ _ N2).trans rfl
      have S12 := fun z : Wx w2 => z.cell ((cell_of_row _ _ 12 _ _ _ G2).trans rfl)
      have X0 := fun z : Wx w2 => z.cell g0
      have X1 := fun z : Wx w2 => z.cell g1
      clear u0 u1 s12 hb1 T1 G2 N2
      have BAD := Lib.hid (fun (h : tolOK x.f11 k = false) => show tolF x.f11 = false by unfold tolF; rw [HF.out h]; rfl)
      cases q1 with
      | false =>
        go_wp2_with fail
        go_ret
        exact bp_of T2.out (BAD.out (by rw [HC.out]; simp))
      | true =>
        by_cases a1 : 0 ≤ e.f0
        case neg =>
          have c1 : decide (e.f0 < 0) = true := decide_eq_true (by omega)
          have HA := Lib.hid a1
          clear a1
          go_wp2_with fail
          go_ret
          exact bp_of T2.out (BAD.out (by rw [HC.out, decide_eq_false (show ¬ (0 : Int) ≤ e.f0 by have := HA.out; omega)]; simp))
        by_cases a2 : e.f0 ≤ 4611686018427387904
        case neg =>
          have c1 : decide (e.f0 < 0) = false := decide_eq_false (by omega)
          have c2 : decide (4611686018427387904 < e.f0) = true := decide_eq_true (by omega)
          have HA := Lib.hid a2
          clear a1 a2
          go_wp2_with fail
          go_ret
          exact bp_of T2.out (BAD.out (by rw [HC.out, decide_eq_false (show ¬ e.f0 ≤ 4611686018427387904 by have := HA.out; omega)]; simp))
        have c1 : decide (e.f0 < 0) = false := decide_eq_false (by omega)
        have c2 : decide (4611686018427387904 < e.f0) = false := decide_eq_false (by omega)
        have HC2 : Hid (tolOK x.f11 k = evPre x.f11 k) := Lib.hid (by rw [HC.out, decide_eq_true a1, decide_eq_true a2]; rfl)
        clear a1 a2
        rcases HKL.out with ⟨hk0, hkl⟩ | ⟨j, hj, hkl⟩
        · have HL := Lib.hid hkl
          have d0 : decide ((0 : Int) < (k : Int)) = false := decide_eq_false (by omega)
          have d1 : decide (0 < k) = false := decide_eq_false (by omega)
          clear hkl hk0
          go_wp2_with fail
          refine wp_region_ext (by kernel_rfl) (by kernel_rfl) ?_
          repeat (go_big_quiet_step (fail))
          refine wpQuiet_nil ?_
          intro _ hw'
          obtain ⟨xx, rfl⟩ := hw'
          go_wp2_with fail
          go_roundw
          case rel => exact ⟨k + 1, by go_num, by omega, Lib.hid (by rw [HN.out, HC2.out, HL.out]), Lib.hid (W2.out.trans (xx.h.mono W2.out.size))⟩
          case measure => simp [intOf]; omega
        · obtain ⟨eb, eo, hA, p0, p1⟩ := t122_at HR.out j (by omega)
          cases hA
          have V0 := fun z : Wx w2 => z.cell (pw_cell_below T2.out p0)
          have V1 := fun z : Wx w2 => z.cell (pw_cell_below T2.out p1)
          have d0 : decide ((0 : Int) < (k : Int)) = true := decide_eq_true (by omega)
          have d1 : decide (0 < k) = true := decide_eq_true (by omega)
          have e1 : (0 : Int) ≤ (k : Int) - 1 := by omega
          have e2 : (k : Int) - 1 < (x.f11.length : Int) := by omega
          have e3 : ((k : Int) - 1).toNat = j := by omega
          clear hj p0 p1
          generalize rd_T122 x.f11 (j : Int) = p at *
          obtain ⟨m3, h3⟩ : ∃ b, Op.bytesLess p.f1.toList e.f1.toList = b := ⟨_, rfl⟩
          have HE := Lib.hid hkl
          have HV := Lib.hid (evLt_ways p e m3 h3)
          clear hkl
          cases m3 <;> rcases HV.out with ⟨t1, hv⟩ | ⟨t1, t2, hv⟩ | ⟨t1, t2, hv⟩
          all_goals
            have HH := Lib.hid (HC2.out.trans (HE.out.trans hv))
            clear hv
            go_wp2_with fail
            refine wp_region_ext (by kernel_rfl) (by kernel_rfl) ?_
            repeat (go_big_quiet_step (fail))
            refine wpQuiet_nil ?_
            intro _ hw'
            obtain ⟨xx, rfl⟩ := hw'
            go_wp2_with fail
            first
            | (go_roundw
               case rel => exact ⟨k + 1, by go_num, by omega, Lib.hid (by rw [HN.out, HH.out]), Lib.hid (W2.out.trans (xx.h.mono W2.out.size))⟩
               case measure => simp [intOf]; omega)
            | (go_ret
               exact bp_of (T2.out.trans (xx.h.mono T2.out.size)) (BAD.out HH.out))
    · obtain rfl : k = x.f11.length := by omega
      have hT := Lib.hid (HB.out.trans (HW.out.mono HB.out.size))
      clear hg
      go_wp2_with fail
      go_ret
      exact bp_of hT.out (by unfold tolF; rw [HK.out]; rfl)
end Go.Proofs.YtdlnfmakfnggpaaDoor.Pr
