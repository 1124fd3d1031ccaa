/- spoorref21.holds, by hand. -/
import Derived.Test.YtdlnfmakfnggpaaDoorMi
import Derived.Test.YtdlnfmakfnggpaaDoorXQt
import Derived.Test.YtdlnfmakfnggpaaDoorPr0d
namespace Go.Proofs.YtdlnfmakfnggpaaDoor.Pr
open Go.RowKit Go.Lib Go.Proofs.YtdlnfmakfnggpaaDoorW.PrintWords Go.Proofs.YtdlnfmakfnggpaaDoorW.PrintMore Mg
attribute [local go_sem] max2_int min2_int max_two min_two
set_option linter.unusedVariables false
set_option linter.unusedSimpArgs false
theorem take_any43' (l : List S43) (p : S43 → Bool) (k : Nat) (h : k < l.length) : (l.take (k + 1)).any p = ((l.take k).any p || p (rd_T43 l (k : Int))) := by
  rw [List.take_succ_eq_append_getElem h, List.any_append]
  simp [rd_T43, List.getD, h]
set_option maxHeartbeats 4000000 in
set_option maxRecDepth 100000 in
theorem rholds_run (p : S30) (A : Option Addr) (c : Nat) (l : List S43) (w : World) (hr : Kd.C k43 w A l.length l) (hc : l.length ≤ c) (h0 : 0 < l.length) (hl : l.length ≤ 140737488351232) (m : Int) (hm : spoorref21_Mix.f (rd_T43 l 0).f0.f0 (rd_T43 l 0).f0.f1 = some m) :
    Calls Tryd.prog 45 #[.agg #[.int .i64 p.f0, .int .u64 p.f1, .string p.f2, .int .i64 p.f3], .slice A l.length c] w (BoolPost w (holdsF p l (tookV l) m)) := by
  have HM := Lib.hid hm
  have HB0 := Lib.hid ((Below.refl w.heap.size w).alloc (Nat.le_refl _) (.cells #[.int .i64 p.f0, .int .u64 p.f1, .string p.f2, .int .i64 p.f3] 30))
  have HP0 := Lib.hid (blk_new w (.cells #[.int .i64 p.f0, .int .u64 p.f1, .string p.f2, .int .i64 p.f3] 30))
  obtain ⟨ad, _, _, _, _, _, _, hA, y0, _⟩ := at_T43 hr 0 (by omega) (by omega)
  obtain ⟨ab, ao, sp⟩ := ad
  obtain rfl : sp = none := Go.Proofs.cell_spot y0
  subst hA
  have HR := Lib.hid hr
  obtain ⟨_, _, _, _, _, _, _, hE, z0, z1, _, _, _, _, _, _, _, z8, z9, _⟩ := at_T43 hr 0 (by omega) (by omega)
  cases hE
  simp only [Int.toNat_zero, Nat.zero_mul, Addr.add_lit, Nat.add_zero] at z0 z1 z8 z9
  obtain ⟨F, hF⟩ : ∃ F : Nat → Bool, F = fun k => (l.take k).any fun x => x.f7 == 2 := ⟨_, rfl⟩
  obtain ⟨G, hG⟩ : ∃ G : Nat → Bool, G = fun k => (l.take k).any fun x => x.f4.toList == p.f2.toList := ⟨_, rfl⟩
  have HF := Lib.hid hF
  have HG := Lib.hid hG
  have F0 : F 0 = false := by rw [hF]; rfl
  have G0 : G 0 = false := by rw [hG]; rfl
  have Z0 := Lib.hid z0
  have Z1 := Lib.hid z1
  have q8 := pw_cell_below HB0.out z8
  have q9 := pw_cell_below HB0.out z9
  have hlk0 : (0 : Int) < (l.length : Int) := by omega
  clear hr hm hF hG z0 z1 z8 z9 y0
  go_enter Tryd.func45, Tryd.ntmps45
  go_wp2_with fail
  generalize hW0 : w.alloc (.cells #[.int .i64 p.f0, .int .u64 p.f1, .string p.f2, .int .i64 p.f3] 30) = w0 at *
  clear hW0 q8 q9
  go_loopw [5, 6, 7, 8, 9] (fun v5 v6 v7 v8 v9 wr => ∃ k : Nat, v5 = .int .i64 (minS l k) ∧ v6 = .int .i64 (maxE l k) ∧ v7 = .bool (F k) ∧ v8 = .bool (G k) ∧ v9 = .int .i64 k ∧ k ≤ l.length ∧ Hid (Below w0.heap.size w0 wr)) (fun _ _ _ _ v9 _ => l.length - (intOf v9).toNat)
  case atStart => exact ⟨0, rfl, rfl, by rw [F0], by rw [G0], rfl, Nat.zero_le _, Lib.hid (Below.refl _ _)⟩
  case round =>
    obtain ⟨k, rfl, rfl, rfl, rfl, rfl, hk, HW⟩ := hrel
    have hbw := HB0.out.trans (HW.out.mono HB0.out.size)
    have hP := blk_below HP0.out HW.out
    have p0 := (cell_of_row _ _ 0 _ _ _ hP).trans rfl
    have p1 := (cell_of_row _ _ 1 _ _ _ hP).trans rfl
    have p2 := (cell_of_row _ _ 2 _ _ _ hP).trans rfl
    have p3 := (cell_of_row _ _ 3 _ _ _ hP).trans rfl
    by_cases hlt : k < l.length
    · obtain ⟨ad, _, _, _, _, _, _, hE, x0, x1, x2, x3, x4, x5, x6, x7, x8, x9, x10, _⟩ := at_T43 HR.out (k : Int) (by omega) (by omega)
      cases hE
      rw [Int.toNat_natCast, Addr.add_lit] at x5 x8 x9 x10
      simp only [] at x5 x8 x9 x10
      have y5 := pw_cell_below hbw x5
      have y8 := pw_cell_below hbw x8
      have y9 := pw_cell_below hbw x9
      have y10 := pw_cell_below hbw x10
      have P2 := fun z : Wx wr => z.cell p2
      have P5 := fun z : Wx wr => z.cell y5
      obtain ⟨x, ex⟩ : ∃ x, x = rd_T43 l (k : Int) := ⟨_, rfl⟩
      rw [← ex] at y5 y8 y9 y10 P5
      have hmn : (if x.f8 < minS l k then x.f8 else minS l k) = minS l (k + 1) := by rw [ex]; rfl
      have hmx : (if maxE l k < x.f9 then x.f9 else maxE l k) = maxE l (k + 1) := by rw [ex]; rfl
      have eF : F (k + 1) = (F k || (x.f7 == 2)) := by rw [HF.out, ex]; exact take_any43' l _ k hlt
      have eG : G (k + 1) = (G k || (x.f4.toList == p.f2.toList)) := by rw [HG.out, ex]; exact take_any43' l _ k hlt
      have hlk : (k : Int) < (l.length : Int) := by omega
      clear x0 x1 x2 x3 x4 x5 x6 x7 x8 x9 x10 hP ex
      obtain ⟨fk, hfk⟩ : ∃ b, b = F k := ⟨_, rfl⟩
      obtain ⟨gk, hgk⟩ : ∃ b, b = G k := ⟨_, rfl⟩
      rw [← hfk, ← hgk]
      rw [← hfk] at eF
      rw [← hgk] at eG
      clear hfk hgk
      cases fk <;> cases gk <;> (
        go_wp2_with fail
        refine wp_region_ext (by kernel_rfl) (by kernel_rfl) ?_
        repeat (go_big_quiet_step (fail))
        refine wpQuiet_nil ?_
        intro _ hw'
        obtain ⟨xx, rfl⟩ := hw'
        go_wp2_with fail
        go_roundw
        case rel => exact ⟨k + 1, rfl, rfl, by rw [eF]; rfl, by rw [eG]; rfl, by go_num, by omega, Lib.hid (HW.out.trans (xx.h.mono HW.out.size))⟩
        case measure => simp [intOf]; omega)
    · obtain rfl : k = l.length := by omega
      have fL : F l.length = l.any fun x => x.f7 == 2 := by rw [HF.out]; show (l.take l.length).any _ = _; rw [List.take_length]
      have gL : G l.length = l.any fun x => x.f4.toList == p.f2.toList := by rw [HG.out]; show (l.take l.length).any _ = _; rw [List.take_length]
      have Q0 : ∀ z : Wx wr, z.W.cell? ⟨ab, ao, none⟩ = some (.int .u64 (rd_T43 l 0).f0.f0) := fun z => z.cell (pw_cell_below hbw Z0.out)
      have Q1 : ∀ z : Wx wr, z.W.cell? ⟨ab, ao + 1, none⟩ = some (.int .u64 (rd_T43 l 0).f0.f1) := fun z => z.cell (pw_cell_below hbw Z1.out)
      have P3 := fun z : Wx wr => z.cell p3
      have C1 : Hid (∀ z : Wx wr, Calls Tryd.prog 14 #[.agg #[.int .u64 (rd_T43 l 0).f0.f0, .int .u64 (rd_T43 l 0).f0.f1]] z.W fun e w' => e = .returned (.int .u64 m) ∧ Below z.W.heap.size z.W w') := fun z => spoorref21_Mix.calls _ _ m z.W HM.out
      have HBW := Lib.hid hbw
      clear hbw hP
      by_cases c1 : p.f0 = 1
      · have hv : holdsF p l (tookV l) m = F l.length := by unfold holdsF; rw [if_pos c1, fL]
        go_wp2_with fail
        go_ret
        exact ⟨by rw [hv]; rfl, HBW.out⟩
      by_cases c2 : p.f0 = 2
      · have hv : holdsF p l (tookV l) m = decide (p.f1 ≤ tookV l) := by unfold holdsF; rw [if_neg c1, if_pos c2]
        have c1' : (p.f0 == 1) = false := beq_eq_false_iff_ne.2 c1
        have c2' : (p.f0 == 2) = true := beq_iff_eq.2 c2
        go_wp2_with fail
        go_ret
        exact ⟨by rw [hv]; rfl, HBW.out⟩
      by_cases c3 : p.f0 = 3
      · have hv : holdsF p l (tookV l) m = G l.length := by unfold holdsF; rw [if_neg c1, if_neg c2, if_pos c3, gL]
        have c1' : (p.f0 == 1) = false := beq_eq_false_iff_ne.2 c1
        have c2' : (p.f0 == 2) = false := beq_eq_false_iff_ne.2 c2
        have c3' : (p.f0 == 3) = true := beq_iff_eq.2 c3
        go_wp2_with fail
        go_ret
        exact ⟨by rw [hv]; rfl, HBW.out⟩
      have c1' : (p.f0 == 1) = false := beq_eq_false_iff_ne.2 c1
      have c2' : (p.f0 == 2) = false := beq_eq_false_iff_ne.2 c2
      have c3' : (p.f0 == 3) = false := beq_eq_false_iff_ne.2 c3
      by_cases c4 : p.f0 = 4
      · have hv : holdsF p l (tookV l) m = decide (m / 281474976710656 < IntKind.u64.wrap p.f3) := by unfold holdsF; rw [if_neg c1, if_neg c2, if_neg c3, if_pos c4]
        have c4' : (p.f0 == 4) = true := beq_iff_eq.2 c4
        go_wp2_with fail
        refine wp_region_ext (by kernel_rfl) (by kernel_rfl) ?_
        repeat (go_big_quiet_step (first | (go_at_call 14; with_reducible exact Calls.ext_of (C1.out _))))
        refine wpQuiet_nil ?_
        intro _ hw'
        obtain ⟨xx, rfl⟩ := hw'
        go_wp2_with fail
        go_ret
        exact ⟨by rw [hv]; rfl, HBW.out.trans (xx.h.mono HBW.out.size)⟩
      · have hv : holdsF p l (tookV l) m = true := by unfold holdsF; rw [if_neg c1, if_neg c2, if_neg c3, if_neg c4]
        have c4' : (p.f0 == 4) = false := beq_eq_false_iff_ne.2 c4
        go_wp2_with fail
        go_ret
        exact ⟨by rw [hv]; rfl, HBW.out⟩
end Go.Proofs.YtdlnfmakfnggpaaDoor.Pr
