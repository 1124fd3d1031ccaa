/- spoorref21's trace, by hand. -/
import Derived.Test.YtdlnfmakfnggpaaDoorMi
import Derived.Test.YtdlnfmakfnggpaaDoorXQt
import Derived.Test.YtdlnfmakfnggpaaDoorPrea
namespace Go.Proofs.YtdlnfmakfnggpaaDoor.Pr
open Go.RowKit Go.Lib Go.Proofs.YtdlnfmakfnggpaaDoorW.PrintWords Go.Proofs.YtdlnfmakfnggpaaDoorW.PrintMore Mg
attribute [local go_sem high] eqA26
set_option linter.unusedVariables false
set_option linter.unusedSimpArgs false
/-- What spoorref04.Check answers of a span that is read. -/
def RChkOK (x : S43) : Prop := ∀ (W : World) (A4 : Option Addr) (c4 : Nat) (A11 : Option Addr) (c11 : Nat) (A12 : Option Addr) (c12 : Nat),
  Kd.C (Kd.int .u64) W A4 x.f3.length x.f3 → x.f3.length ≤ c4 → Kd.C k120 W A11 x.f10.length x.f10 → x.f10.length ≤ c11 → Kd.C k122 W A12 x.f11.length x.f11 → x.f11.length ≤ c12 →
  Calls Tryd.prog 68 #[.agg #[.int .u64 x.f0.f0, .int .u64 x.f0.f1, .int .u64 x.f1, .int .u64 x.f2, .slice A4 x.f3.length c4, .string x.f4, .string x.f5, .int .i64 x.f6, .int .i64 x.f7, .int .i64 x.f8, .int .i64 x.f9, .slice A11 x.f10.length c11, .slice A12 x.f11.length c12]] W fun e w' => e = .returned (.int .i64 (chkS x)) ∧ Below W.heap.size W w'
theorem ids_mem' {l : List S43} {i j : Nat} (hj : j < i) (hi : i ≤ l.length) : (rd_T43 l (j : Int)).f1 ∈ idsTo l i := by
  unfold idsTo
  refine List.mem_map.2 ⟨rd_T43 l (j : Int), ?_, rfl⟩
  have : rd_T43 l (j : Int) = l[j]'(by omega) := by simp [rd_T43, List.getD, show j < l.length by omega]
  rw [this]
  exact List.mem_take_iff_getElem.2 ⟨j, by omega, rfl⟩
theorem ids_not {l : List S43} {k : Nat} {q : Int} (hk : k ≤ l.length) (h : ∀ j, j < k → (rd_T43 l (j : Int)).f1 ≠ q) : (idsTo l k).contains q = false := by
  rw [Bool.eq_false_iff]
  intro hc
  rw [List.contains_iff_mem] at hc
  unfold idsTo at hc
  obtain ⟨y, hy, he⟩ := List.mem_map.1 hc
  obtain ⟨j, hq1, hq2⟩ := List.mem_take_iff_getElem.1 hy
  have : rd_T43 l (j : Int) = y := by rw [← hq2]; simp [rd_T43, List.getD, show j < l.length by omega]
  exact h j (by omega) (by rw [this]; exact he)
set_option maxHeartbeats 4000000 in
set_option maxRecDepth 100000 in
theorem rtrace_run (A : Option Addr) (c : Nat) (l : List S43) (w : World) (hr : Kd.C k43 w A l.length l) (hc : l.length ≤ c) (hl : l.length ≤ 140737488351232) (hk : ∀ x ∈ l, RChkOK x) :
    Calls Tryd.prog 44 #[.slice A l.length c] w (BoolPost w (oneF chkS l)) := by
  have HR := Lib.hid hr
  have HK := Lib.hid hk
  clear hr hk
  by_cases hbig : (l.length : Int) > 1000
  · have hv : oneF chkS l = false := by unfold oneF; rw [decide_eq_false (by omega), Bool.false_and]
    have hb' : decide ((1000 : Int) < (l.length : Int)) = true := decide_eq_true hbig
    go_enter Tryd.func44, Tryd.ntmps44
    go_wp2_with fail
    go_ret
    exact ⟨by rw [hv]; rfl, Below.refl _ _⟩
  have hb' : decide ((1000 : Int) < (l.length : Int)) = false := decide_eq_false hbig
  have hone : oneF chkS l = okUpto chkS l l.length := by unfold oneF; rw [decide_eq_true (by omega), Bool.true_and]
  rw [hone]
  clear hone
  go_enter Tryd.func44, Tryd.ntmps44
  go_wp2_with fail
  go_loopw [3] (fun v3 wr => ∃ k : Nat, v3 = .int .i64 k ∧ k ≤ l.length ∧ Hid (okUpto chkS l k = true) ∧ Hid (Below w.heap.size w wr)) (fun v3 _ => l.length - (intOf v3).toNat)
  case atStart => exact ⟨0, rfl, Nat.zero_le _, Lib.hid rfl, Lib.hid (Below.refl _ _)⟩
  case round =>
    obtain ⟨k, rfl, hk, HO, HW⟩ := hrel
    by_cases hlt : k < l.length
    · have hbw := HW.out
      obtain ⟨ad, _, _, _, _, _, _, hE, y0, _⟩ := at_T43 HR.out 0 (by omega) (by omega)
      obtain ⟨eb, eo, sp⟩ := ad
      obtain rfl : sp = none := Go.Proofs.cell_spot y0
      subst hE
      obtain ⟨ad, _, _, _, _, _, _, hE, z0, z1, _⟩ := at_T43 HR.out 0 (by omega) (by omega)
      cases hE
      obtain ⟨ad, A4, c4, A11, c11, A12, c12, hE, x0, x1, x2, x3, x4, x5, x6, x7, x8, x9, x10, x11, x12, l4, r4, l11, r11, l12, r12⟩ := at_T43 HR.out (k : Int) (by omega) (by omega)
      cases hE
      rw [Int.toNat_natCast, Addr.add_lit] at x0 x1 x2 x3 x4 x5 x6 x7 x8 x9 x10 x11 x12
      simp only [Int.toNat_zero, Nat.zero_mul, Addr.add_lit, Nat.add_zero] at z0 z1
      simp only [] at x0 x1 x2 x3 x4 x5 x6 x7 x8 x9 x10 x11 x12
      have hco := HK.out _ (rd43_mem hlt)
      obtain ⟨x, ex⟩ : ∃ x, x = rd_T43 l (k : Int) := ⟨_, rfl⟩
      rw [← ex] at x0 x1 x2 x3 x4 x5 x6 x7 x8 x9 x10 x11 x12 l4 r4 l11 r11 l12 r12 hco
      obtain ⟨y, ey⟩ : ∃ y, y = (rd_T43 l 0).f0 := ⟨_, rfl⟩
      rw [← ey] at z0 z1
      have Y0 := fun z : Wx wr => z.cell (pw_cell_below hbw z0)
      have Y1 := fun z : Wx wr => z.cell (pw_cell_below hbw z1)
      have Q0 := fun z : Wx wr => z.cell (pw_cell_below hbw x0)
      have Q1 := fun z : Wx wr => z.cell (pw_cell_below hbw x1)
      have Q2 := fun z : Wx wr => z.cell (pw_cell_below hbw x2)
      have Q3 := fun z : Wx wr => z.cell (pw_cell_below hbw x3)
      have Q4 := fun z : Wx wr => z.cell (pw_cell_below hbw x4)
      have Q5 := fun z : Wx wr => z.cell (pw_cell_below hbw x5)
      have Q6 := fun z : Wx wr => z.cell (pw_cell_below hbw x6)
      have Q7 := fun z : Wx wr => z.cell (pw_cell_below hbw x7)
      have Q8 := fun z : Wx wr => z.cell (pw_cell_below hbw x8)
      have Q9 := fun z : Wx wr => z.cell (pw_cell_below hbw x9)
      have Q10 := fun z : Wx wr => z.cell (pw_cell_below hbw x10)
      have Q11 := fun z : Wx wr => z.cell (pw_cell_below hbw x11)
      have Q12 := fun z : Wx wr => z.cell (pw_cell_below hbw x12)
      have C1 : Hid (∀ z : Wx wr, Calls Tryd.prog 68 #[.agg #[.int .u64 x.f0.f0, .int .u64 x.f0.f1, .int .u64 x.f1, .int .u64 x.f2, .slice A4 x.f3.length c4, .string x.f4, .string x.f5, .int .i64 x.f6, .int .i64 x.f7, .int .i64 x.f8, .int .i64 x.f9, .slice A11 x.f10.length c11, .slice A12 x.f11.length c12]] z.W fun e w' => e = .returned (.int .i64 (chkS x)) ∧ Below z.W.heap.size z.W w') := fun z =>
        hco z.W A4 c4 A11 c11 A12 c12 (Kd.C_below r4 (hbw.trans (z.h.mono hbw.size))) l4 (Kd.C_below r11 (hbw.trans (z.h.mono hbw.size))) l11 (Kd.C_below r12 (hbw.trans (z.h.mono hbw.size))) l12
      have hsucc := okUpto_succ chkS l k
      rw [HO.out, Bool.true_and, ← ex, ← ey] at hsucc
      have HSU := Lib.hid hsucc
      have HEX := Lib.hid ex
      have hlk : (k : Int) < (l.length : Int) := by omega
      have hlk0 : (0 : Int) < (l.length : Int) := by omega
      have hbad : okUpto chkS l (k + 1) = false → okUpto chkS l l.length = false := fun h => okUpto_false h _ (by omega)
      have HBAD := Lib.hid hbad
      clear hco r4 r11 r12 x0 x1 x2 x3 x4 x5 x6 x7 x8 x9 x10 x11 x12 z0 z1 y0 hsucc ex ey hbw hbad
      by_cases c0 : chkS x = 0
      · have c0' : (chkS x != 0) = false := by rw [c0]; rfl
        obtain ⟨tb, htb⟩ : ∃ b : Bool, (x.f0.f0 == y.f0 && (x.f0.f1 == y.f1)) = b := ⟨_, rfl⟩
        cases tb
        · go_wp2_with fail
          refine wp_region_ext (by kernel_rfl) (by kernel_rfl) ?_
          repeat (go_big_quiet_step (first | (go_at_call 68; with_reducible exact Calls.ext_of (C1.out _))))
          refine wpQuiet_nil ?_
          intro _ hw'
          obtain ⟨xx, rfl⟩ := hw'
          go_wp2_with fail
          go_ret
          have hv : okUpto chkS l l.length = false := HBAD.out (by rw [HSU.out, htb]; simp)
          exact ⟨by rw [hv]; rfl, HW.out.trans (xx.h.mono HW.out.size)⟩
        · go_wp2_with fail
          refine wp_region_ext (by kernel_rfl) (by kernel_rfl) ?_
          repeat (go_big_quiet_step (first | (go_at_call 68; with_reducible exact Calls.ext_of (C1.out _))))
          refine wpQuiet_nil ?_
          intro _ hw'
          obtain ⟨xx, rfl⟩ := hw'
          go_wp2_with fail
          have HX := Lib.hid (HW.out.trans (xx.h.mono HW.out.size))
          clear Y0 Y1 Q0 Q1 Q2 Q3 Q4 Q5 Q6 Q7 Q8 Q9 Q10 Q11 Q12 C1
          generalize xx.W = w2 at *
          go_loopw [4] (fun v4 wq => ∃ j : Nat, v4 = .int .i64 j ∧ j ≤ k ∧ Hid (∀ q, q < j → (rd_T43 l (q : Int)).f1 ≠ x.f1) ∧ Hid (Below w.heap.size w wq)) (fun v4 _ => k - (intOf v4).toNat)
          case atStart => exact ⟨0, rfl, Nat.zero_le _, Lib.hid (fun q hq => by omega), HX⟩
          case round =>
            obtain ⟨j, rfl, hj, HQ, HV⟩ := hrel
            by_cases hjk : j < k
            · have hbw := HV.out
              obtain ⟨ad, _, _, _, _, _, _, hE, _, _, m2, _⟩ := at_T43 HR.out (j : Int) (by omega) (by omega)
              cases hE
              obtain ⟨ad, _, _, _, _, _, _, hE, _, _, n2, _⟩ := at_T43 HR.out (k : Int) (by omega) (by omega)
              cases hE
              rw [Int.toNat_natCast, Addr.add_lit] at m2 n2
              simp only [] at m2 n2
              rw [← HEX.out] at n2
              obtain ⟨u, eu⟩ : ∃ u, u = (rd_T43 l (j : Int)).f1 := ⟨_, rfl⟩
              rw [← eu] at m2
              have M2 := fun z : Wx wr => z.cell (pw_cell_below hbw m2)
              have N2 := fun z : Wx wr => z.cell (pw_cell_below hbw n2)
              have hjk' : (j : Int) < (k : Int) := by omega
              have hjl : (j : Int) < (l.length : Int) := by omega
              have HEU := Lib.hid eu
              clear m2 n2 hbw eu
              by_cases he : u = x.f1
              · have he' : (u == x.f1) = true := beq_iff_eq.2 he
                go_wp2_with fail
                refine wp_region_ext (by kernel_rfl) (by kernel_rfl) ?_
                repeat (go_big_quiet_step (fail))
                refine wpQuiet_nil ?_
                intro _ hw'
                obtain ⟨xy, rfl⟩ := hw'
                go_wp2_with fail
                go_ret
                have hv : okUpto chkS l l.length = false := HBAD.out (by
                  have hc : (idsTo l k).contains x.f1 = true := by rw [List.contains_iff_mem, ← he, HEU.out]; exact ids_mem' hjk (by omega)
                  rw [HSU.out, hc]; simp)
                exact ⟨by rw [hv]; rfl, HV.out.trans (xy.h.mono HV.out.size)⟩
              · have he' : (u == x.f1) = false := beq_eq_false_iff_ne.2 he
                go_wp2_with fail
                refine wp_region_ext (by kernel_rfl) (by kernel_rfl) ?_
                repeat (go_big_quiet_step (fail))
                refine wpQuiet_nil ?_
                intro _ hw'
                obtain ⟨xy, rfl⟩ := hw'
                go_wp2_with fail
                go_roundw
                case rel => exact ⟨j + 1, by go_num, by omega, Lib.hid (fun q hq => by
                  rcases Nat.lt_or_ge q j with h | h
                  · exact HQ.out q h
                  · obtain rfl : q = j := by omega
                    rw [← HEU.out]; exact he), Lib.hid (HV.out.trans (xy.h.mono HV.out.size))⟩
                case measure => simp [intOf]; omega
            · obtain rfl : j = k := by omega
              have hok : okUpto chkS l (j + 1) = true := by
                have hc : (idsTo l j).contains x.f1 = false := ids_not (by omega) HQ.out
                rw [HSU.out, c0, htb, hc]; rfl
              have hjj : ¬ (j : Int) < (j : Int) := by omega
              go_wp2_with fail
              go_roundw
              case rel => exact ⟨j + 1, by go_num, by omega, Lib.hid hok, HV⟩
              case measure => simp [intOf]; omega
      · have c0' : (chkS x != 0) = true := by simpa using c0
        go_wp2_with fail
        refine wp_region_ext (by kernel_rfl) (by kernel_rfl) ?_
        repeat (go_big_quiet_step (first | (go_at_call 68; with_reducible exact Calls.ext_of (C1.out _))))
        refine wpQuiet_nil ?_
        intro _ hw'
        obtain ⟨xx, rfl⟩ := hw'
        go_wp2_with fail
        go_ret
        have hv : okUpto chkS l l.length = false := HBAD.out (by rw [HSU.out, beq_eq_false_iff_ne.2 c0]; simp)
        exact ⟨by rw [hv]; rfl, HW.out.trans (xx.h.mono HW.out.size)⟩
    · obtain rfl : k = l.length := by omega
      go_wp2_with fail
      go_ret
      exact ⟨by rw [HO.out]; rfl, HW.out⟩
end Go.Proofs.YtdlnfmakfnggpaaDoor.Pr
