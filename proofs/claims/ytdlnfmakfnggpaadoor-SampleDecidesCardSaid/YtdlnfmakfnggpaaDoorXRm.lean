/- spoorref04.Check, by hand. -/
import Derived.Test.YtdlnfmakfnggpaaDoorXRl
import Derived.Test.YtdlnfmakfnggpaaDoorXRt
import Derived.Outline
namespace Go.Proofs.YtdlnfmakfnggpaaDoor.Pr
open Go.RowKit Go.Proofs.YtdlnfmakfnggpaaDoorW.PrintWords Go.Proofs.YtdlnfmakfnggpaaDoorW.PrintMore Mg
set_option linter.unusedVariables false
set_option linter.unusedSimpArgs false
set_option maxHeartbeats 4000000 in
set_option maxRecDepth 100000 in
theorem rcheck_run (x : S43) (h : okS x) (hp : ∀ e ∈ x.f3, 0 ≤ e) : RChkOK x := by
  intro w A4 c4 A11 c11 A12 c12 r4 l4 r11 l11 r12 l12
  have R4 := Lib.hid r4
  have R11 := Lib.hid r11
  have R12 := Lib.hid r12
  have HH := Lib.hid h
  have HP := Lib.hid hp
  have HB := Lib.hid (below_alloc (Below.refl w.heap.size w) (.cells #[.int .u64 x.f0.f0, .int .u64 x.f0.f1, .int .u64 x.f1, .int .u64 x.f2, .slice A4 x.f3.length c4, .string x.f4, .string x.f5, .int .i64 x.f6, .int .i64 x.f7, .int .i64 x.f8, .int .i64 x.f9, .slice A11 x.f10.length c11, .slice A12 x.f11.length c12] 43))
  have HG := Lib.hid (blk_new w (.cells #[.int .u64 x.f0.f0, .int .u64 x.f0.f1, .int .u64 x.f1, .int .u64 x.f2, .slice A4 x.f3.length c4, .string x.f4, .string x.f5, .int .i64 x.f6, .int .i64 x.f7, .int .i64 x.f8, .int .i64 x.f9, .slice A11 x.f10.length c11, .slice A12 x.f11.length c12] 43))
  clear r4 r11 r12 h hp
  have G0 := HG.out
  have s0 := (cell_of_row _ _ 0 _ _ _ G0).trans rfl
  have s1 := (cell_of_row _ _ 1 _ _ _ G0).trans rfl
  have s2 := (cell_of_row _ _ 2 _ _ _ G0).trans rfl
  have s3 := (cell_of_row _ _ 3 _ _ _ G0).trans rfl
  have s4 := (cell_of_row _ _ 4 _ _ _ G0).trans rfl
  have s5 := (cell_of_row _ _ 5 _ _ _ G0).trans rfl
  have s6 := (cell_of_row _ _ 6 _ _ _ G0).trans rfl
  have s7 := (cell_of_row _ _ 7 _ _ _ G0).trans rfl
  have s8 := (cell_of_row _ _ 8 _ _ _ G0).trans rfl
  have s9 := (cell_of_row _ _ 9 _ _ _ G0).trans rfl
  have s10 := (cell_of_row _ _ 10 _ _ _ G0).trans rfl
  have s11 := (cell_of_row _ _ 11 _ _ _ G0).trans rfl
  have s12 := (cell_of_row _ _ 12 _ _ _ G0).trans rfl
  clear G0
  go_enter Tryd.func68, Tryd.ntmps68
  go_wp2_with fail
  refine (rplain_run x.f4 60 33 _ HH.out.sv).mono ?_
  rintro _ w1 ⟨rfl, hb⟩
  have HBn := Lib.hid (HB.out.trans (hb.mono HB.out.size))
  have HGn := Lib.hid (blk_below HG.out hb)
  clear s0 s1 s2 s3 s4 s5 s6 s7 s8 s9 s10 s11 s12 hb HB HG
  have HB := HBn
  have HG := HGn
  clear HBn HGn
  have G0 := HG.out
  have s0 := (cell_of_row _ _ 0 _ _ _ G0).trans rfl
  have s1 := (cell_of_row _ _ 1 _ _ _ G0).trans rfl
  have s2 := (cell_of_row _ _ 2 _ _ _ G0).trans rfl
  have s3 := (cell_of_row _ _ 3 _ _ _ G0).trans rfl
  have s4 := (cell_of_row _ _ 4 _ _ _ G0).trans rfl
  have s5 := (cell_of_row _ _ 5 _ _ _ G0).trans rfl
  have s6 := (cell_of_row _ _ 6 _ _ _ G0).trans rfl
  have s7 := (cell_of_row _ _ 7 _ _ _ G0).trans rfl
  have s8 := (cell_of_row _ _ 8 _ _ _ G0).trans rfl
  have s9 := (cell_of_row _ _ 9 _ _ _ G0).trans rfl
  have s10 := (cell_of_row _ _ 10 _ _ _ G0).trans rfl
  have s11 := (cell_of_row _ _ 11 _ _ _ G0).trans rfl
  have s12 := (cell_of_row _ _ 12 _ _ _ G0).trans rfl
  clear G0
  obtain ⟨ps, hq⟩ : ∃ b, plainF x.f4 60 33 = b := ⟨_, rfl⟩
  rw [hq]
  have Hqps := Lib.hid hq
  clear hq
  go_wp2_with fail
  refine (rplain_run x.f5 100 32 _ HH.out.op).mono ?_
  rintro _ w2 ⟨rfl, hb⟩
  have HBn := Lib.hid (HB.out.trans (hb.mono HB.out.size))
  have HGn := Lib.hid (blk_below HG.out hb)
  clear s0 s1 s2 s3 s4 s5 s6 s7 s8 s9 s10 s11 s12 hb HB HG
  have HB := HBn
  have HG := HGn
  clear HBn HGn
  have G0 := HG.out
  have s0 := (cell_of_row _ _ 0 _ _ _ G0).trans rfl
  have s1 := (cell_of_row _ _ 1 _ _ _ G0).trans rfl
  have s2 := (cell_of_row _ _ 2 _ _ _ G0).trans rfl
  have s3 := (cell_of_row _ _ 3 _ _ _ G0).trans rfl
  have s4 := (cell_of_row _ _ 4 _ _ _ G0).trans rfl
  have s5 := (cell_of_row _ _ 5 _ _ _ G0).trans rfl
  have s6 := (cell_of_row _ _ 6 _ _ _ G0).trans rfl
  have s7 := (cell_of_row _ _ 7 _ _ _ G0).trans rfl
  have s8 := (cell_of_row _ _ 8 _ _ _ G0).trans rfl
  have s9 := (cell_of_row _ _ 9 _ _ _ G0).trans rfl
  have s10 := (cell_of_row _ _ 10 _ _ _ G0).trans rfl
  have s11 := (cell_of_row _ _ 11 _ _ _ G0).trans rfl
  have s12 := (cell_of_row _ _ 12 _ _ _ G0).trans rfl
  clear G0
  obtain ⟨po, hq⟩ : ∃ b, plainF x.f5 100 32 = b := ⟨_, rfl⟩
  rw [hq]
  have Hqpo := Lib.hid hq
  clear hq
  go_wp2_with fail
  refine (links_run x _ A4 c4 A11 c11 A12 c12 (Kd.C_below R4.out HB.out) l4 (by have := HH.out.links; omega) HP.out).mono ?_
  rintro _ w3 ⟨rfl, hb⟩
  have HBn := Lib.hid (HB.out.trans (hb.mono HB.out.size))
  have HGn := Lib.hid (blk_below HG.out hb)
  clear s0 s1 s2 s3 s4 s5 s6 s7 s8 s9 s10 s11 s12 hb HB HG
  have HB := HBn
  have HG := HGn
  clear HBn HGn
  have G0 := HG.out
  have s0 := (cell_of_row _ _ 0 _ _ _ G0).trans rfl
  have s1 := (cell_of_row _ _ 1 _ _ _ G0).trans rfl
  have s2 := (cell_of_row _ _ 2 _ _ _ G0).trans rfl
  have s3 := (cell_of_row _ _ 3 _ _ _ G0).trans rfl
  have s4 := (cell_of_row _ _ 4 _ _ _ G0).trans rfl
  have s5 := (cell_of_row _ _ 5 _ _ _ G0).trans rfl
  have s6 := (cell_of_row _ _ 6 _ _ _ G0).trans rfl
  have s7 := (cell_of_row _ _ 7 _ _ _ G0).trans rfl
  have s8 := (cell_of_row _ _ 8 _ _ _ G0).trans rfl
  have s9 := (cell_of_row _ _ 9 _ _ _ G0).trans rfl
  have s10 := (cell_of_row _ _ 10 _ _ _ G0).trans rfl
  have s11 := (cell_of_row _ _ 11 _ _ _ G0).trans rfl
  have s12 := (cell_of_row _ _ 12 _ _ _ G0).trans rfl
  clear G0
  obtain ⟨bl, hq⟩ : ∃ b, linkF x.f3 x.f1 = b := ⟨_, rfl⟩
  rw [hq]
  have Hqbl := Lib.hid hq
  clear hq
  go_wp2_with fail
  refine (attrs_run x _ A4 c4 A11 c11 A12 c12 (Kd.C_below R11.out HB.out) l11 HH.out.attrs).mono ?_
  rintro _ w4 ⟨rfl, hb⟩
  have HBn := Lib.hid (HB.out.trans (hb.mono HB.out.size))
  have HGn := Lib.hid (blk_below HG.out hb)
  clear s0 s1 s2 s3 s4 s5 s6 s7 s8 s9 s10 s11 s12 hb HB HG
  have HB := HBn
  have HG := HGn
  clear HBn HGn
  have G0 := HG.out
  have s0 := (cell_of_row _ _ 0 _ _ _ G0).trans rfl
  have s1 := (cell_of_row _ _ 1 _ _ _ G0).trans rfl
  have s2 := (cell_of_row _ _ 2 _ _ _ G0).trans rfl
  have s3 := (cell_of_row _ _ 3 _ _ _ G0).trans rfl
  have s4 := (cell_of_row _ _ 4 _ _ _ G0).trans rfl
  have s5 := (cell_of_row _ _ 5 _ _ _ G0).trans rfl
  have s6 := (cell_of_row _ _ 6 _ _ _ G0).trans rfl
  have s7 := (cell_of_row _ _ 7 _ _ _ G0).trans rfl
  have s8 := (cell_of_row _ _ 8 _ _ _ G0).trans rfl
  have s9 := (cell_of_row _ _ 9 _ _ _ G0).trans rfl
  have s10 := (cell_of_row _ _ 10 _ _ _ G0).trans rfl
  have s11 := (cell_of_row _ _ 11 _ _ _ G0).trans rfl
  have s12 := (cell_of_row _ _ 12 _ _ _ G0).trans rfl
  clear G0
  obtain ⟨bc, hq⟩ : ∃ b, carF x.f10 = b := ⟨_, rfl⟩
  rw [hq]
  have Hqbc := Lib.hid hq
  clear hq
  go_wp2_with fail
  refine (events_run x _ A4 c4 A11 c11 A12 c12 (Kd.C_below R12.out HB.out) l12 HH.out.events).mono ?_
  rintro _ w5 ⟨rfl, hb⟩
  have HBn := Lib.hid (HB.out.trans (hb.mono HB.out.size))
  have HGn := Lib.hid (blk_below HG.out hb)
  clear s0 s1 s2 s3 s4 s5 s6 s7 s8 s9 s10 s11 s12 hb HB HG
  have HB := HBn
  have HG := HGn
  clear HBn HGn
  have G0 := HG.out
  have s0 := (cell_of_row _ _ 0 _ _ _ G0).trans rfl
  have s1 := (cell_of_row _ _ 1 _ _ _ G0).trans rfl
  have s2 := (cell_of_row _ _ 2 _ _ _ G0).trans rfl
  have s3 := (cell_of_row _ _ 3 _ _ _ G0).trans rfl
  have s4 := (cell_of_row _ _ 4 _ _ _ G0).trans rfl
  have s5 := (cell_of_row _ _ 5 _ _ _ G0).trans rfl
  have s6 := (cell_of_row _ _ 6 _ _ _ G0).trans rfl
  have s7 := (cell_of_row _ _ 7 _ _ _ G0).trans rfl
  have s8 := (cell_of_row _ _ 8 _ _ _ G0).trans rfl
  have s9 := (cell_of_row _ _ 9 _ _ _ G0).trans rfl
  have s10 := (cell_of_row _ _ 10 _ _ _ G0).trans rfl
  have s11 := (cell_of_row _ _ 11 _ _ _ G0).trans rfl
  have s12 := (cell_of_row _ _ 12 _ _ _ G0).trans rfl
  clear G0
  obtain ⟨bt, hq⟩ : ∃ b, tolF x.f11 = b := ⟨_, rfl⟩
  rw [hq]
  have Hqbt := Lib.hid hq
  clear hq
  have HV : Hid (chkS x = checkF x.f0.f0 x.f0.f1 x.f1 ps po x.f6 x.f7 x.f8 x.f9 bl bc bt) := Lib.hid (by unfold chkS; rw [Hqps.out, Hqpo.out, Hqbl.out, Hqbc.out, Hqbt.out])
  have fin : ∀ r, checkF x.f0.f0 x.f0.f1 x.f1 ps po x.f6 x.f7 x.f8 x.f9 bl bc bt = r → (Ending.returned (.int .i64 r) = .returned (.int .i64 (chkS x)) ∧ Below w.heap.size w w5) := fun r h => ⟨by rw [HV.out, h], HB.out⟩
  have HF := Lib.hid fin
  clear fin
  generalize x.f0.f0 = hi at *
  generalize x.f0.f1 = lo at *
  generalize x.f1 = id at *
  generalize x.f6 = kd at *
  generalize x.f7 = st at *
  generalize x.f8 = s0' at *
  generalize x.f9 = s1' at *
  rcases (by by_cases a : hi = 0 <;> by_cases b : lo = 0 <;> by_cases c : id = 0 <;> simp [a, b, c] : (hi = 0 ∧ lo = 0) ∨ (hi = 0 ∧ lo ≠ 0 ∧ id = 0) ∨ (hi ≠ 0 ∧ id = 0) ∨ (hi = 0 ∧ lo ≠ 0 ∧ id ≠ 0) ∨ (hi ≠ 0 ∧ id ≠ 0)) with ⟨h1, h2⟩ | ⟨h1, h2, h3⟩ | ⟨h1, h3⟩ | h | h
  · have z1 : (hi == 0) = true := beq_iff_eq.2 h1
    have z2 : (lo == 0) = true := beq_iff_eq.2 h2
    have hv := Lib.hid (HF.out 41 (by unfold checkF; rw [if_pos (.inl ⟨h1, h2⟩)]))
    clear h1 h2
    go_wp2_with fail
    go_ret
    exact hv.out
  · have z1 : (hi == 0) = true := beq_iff_eq.2 h1
    have z2 : (lo == 0) = false := beq_eq_false_iff_ne.2 h2
    have z3 : (id == 0) = true := beq_iff_eq.2 h3
    have hv := Lib.hid (HF.out 41 (by unfold checkF; rw [if_pos (.inr h3)]))
    clear h1 h2 h3
    go_wp2_with fail
    go_ret
    exact hv.out
  · have z1 : (hi == 0) = false := beq_eq_false_iff_ne.2 h1
    have z3 : (id == 0) = true := beq_iff_eq.2 h3
    have hv := Lib.hid (HF.out 41 (by unfold checkF; rw [if_pos (.inr h3)]))
    clear h1 h3
    go_wp2_with fail
    go_ret
    exact hv.out
  all_goals
    have HN1 := Lib.hid (show ¬ ((hi = 0 ∧ lo = 0) ∨ id = 0) by rintro (g | g) <;> simp_all)
    have z3 : (id == 0) = false := beq_eq_false_iff_ne.2 (fun e => HN1.out (.inr e))
    first
    | (have z1 : (hi == 0) = false := beq_eq_false_iff_ne.2 h.1)
    | (have z1 : (hi == 0) = true := beq_iff_eq.2 h.1
       have z2 : (lo == 0) = false := beq_eq_false_iff_ne.2 h.2.1)
    clear h
    by_cases t1 : s0' < 0
    case pos =>
      have f1 : decide (s0' < 0) = true := decide_eq_true t1
      have hv := Lib.hid (HF.out 42 (by unfold checkF; rw [if_neg HN1.out, if_pos (.inl (.inl t1))]))
      clear t1
      go_wp2_with fail
      go_ret
      exact hv.out
    have f1 : decide (s0' < 0) = false := decide_eq_false t1
    by_cases t2 : s1' < s0'
    case pos =>
      have f2 : decide (s1' < s0') = true := decide_eq_true t2
      have hv := Lib.hid (HF.out 42 (by unfold checkF; rw [if_neg HN1.out, if_pos (.inl (.inr t2))]))
      clear t1 t2
      go_wp2_with fail
      go_ret
      exact hv.out
    have f2 : decide (s1' < s0') = false := decide_eq_false t2
    by_cases t3 : 4611686018427387904 < s1'
    case pos =>
      have f3 : decide (4611686018427387904 < s1') = true := decide_eq_true t3
      have hv := Lib.hid (HF.out 42 (by unfold checkF; rw [if_neg HN1.out, if_pos (.inr t3)]))
      clear t1 t2 t3
      go_wp2_with fail
      go_ret
      exact hv.out
    have f3 : decide (4611686018427387904 < s1') = false := decide_eq_false t3
    have HN2 := Lib.hid (show ¬ ((s0' < 0 ∨ s1' < s0') ∨ 4611686018427387904 < s1') by omega)
    clear t1 t2 t3
    cases ps
    case false =>
      have hv := Lib.hid (HF.out 43 (by unfold checkF; rw [if_neg HN1.out, if_neg HN2.out, if_pos (.inl rfl)]))
      go_wp2_with fail
      go_ret
      exact hv.out
    cases po
    case false =>
      have hv := Lib.hid (HF.out 43 (by unfold checkF; rw [if_neg HN1.out, if_neg HN2.out, if_pos (.inr rfl)]))
      go_wp2_with fail
      go_ret
      exact hv.out
    have HN3 := Lib.hid (show ¬ (true = false ∨ true = false) by decide)
    by_cases t1 : kd < 0
    case pos =>
      have f4 : decide (kd < 0) = true := decide_eq_true t1
      have hv := Lib.hid (HF.out 44 (by unfold checkF; rw [if_neg HN1.out, if_neg HN2.out, if_neg HN3.out, if_pos (.inl (.inl (.inl t1)))]))
      clear t1
      go_wp2_with fail
      go_ret
      exact hv.out
    have f4 : decide (kd < 0) = false := decide_eq_false t1
    by_cases t2 : 4 < kd
    case pos =>
      have f5 : decide (4 < kd) = true := decide_eq_true t2
      have hv := Lib.hid (HF.out 44 (by unfold checkF; rw [if_neg HN1.out, if_neg HN2.out, if_neg HN3.out, if_pos (.inl (.inl (.inr t2)))]))
      clear t1 t2
      go_wp2_with fail
      go_ret
      exact hv.out
    have f5 : decide (4 < kd) = false := decide_eq_false t2
    by_cases t3 : st < 0
    case pos =>
      have f6 : decide (st < 0) = true := decide_eq_true t3
      have hv := Lib.hid (HF.out 44 (by unfold checkF; rw [if_neg HN1.out, if_neg HN2.out, if_neg HN3.out, if_pos (.inl (.inr t3))]))
      clear t1 t2 t3
      go_wp2_with fail
      go_ret
      exact hv.out
    have f6 : decide (st < 0) = false := decide_eq_false t3
    by_cases t4 : 2 < st
    case pos =>
      have f7 : decide (2 < st) = true := decide_eq_true t4
      have hv := Lib.hid (HF.out 44 (by unfold checkF; rw [if_neg HN1.out, if_neg HN2.out, if_neg HN3.out, if_pos (.inr t4)]))
      clear t1 t2 t3 t4
      go_wp2_with fail
      go_ret
      exact hv.out
    have f7 : decide (2 < st) = false := decide_eq_false t4
    have HN4 := Lib.hid (show ¬ (((kd < 0 ∨ 4 < kd) ∨ st < 0) ∨ 2 < st) by omega)
    clear t1 t2 t3 t4
    cases bl
    case false =>
      have hv := Lib.hid (HF.out 45 (by unfold checkF; rw [if_neg HN1.out, if_neg HN2.out, if_neg HN3.out, if_neg HN4.out, if_pos rfl]))
      go_wp2_with fail
      go_ret
      exact hv.out
    cases bc
    case false =>
      have hv := Lib.hid (HF.out 46 (by unfold checkF; rw [if_neg HN1.out, if_neg HN2.out, if_neg HN3.out, if_neg HN4.out, if_neg (show ¬ (true = false) by decide), if_pos rfl]))
      go_wp2_with fail
      go_ret
      exact hv.out
    cases bt
    case false =>
      have hv := Lib.hid (HF.out 47 (by unfold checkF; rw [if_neg HN1.out, if_neg HN2.out, if_neg HN3.out, if_neg HN4.out, if_neg (show ¬ (true = false) by decide), if_neg (show ¬ (true = false) by decide), if_pos rfl]))
      go_wp2_with fail
      go_ret
      exact hv.out
    have hv := Lib.hid (HF.out 0 (by unfold checkF; rw [if_neg HN1.out, if_neg HN2.out, if_neg HN3.out, if_neg HN4.out, if_neg (show ¬ (true = false) by decide), if_neg (show ¬ (true = false) by decide), if_neg (show ¬ (true = false) by decide)]))
    go_wp2_with fail
    go_ret
    exact hv.out
end Go.Proofs.YtdlnfmakfnggpaaDoor.Pr
