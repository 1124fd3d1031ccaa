/- The sweep of package ival, at each of its three closures. -/
import Derived.Test.YtafpmcmpkgbgaaaMb
import Derived.Test.YtafpmcmpkgbgaaaXSw
import Derived.Test.YtafpmcmpkgbgaaaPr0a
import Derived.Lib.Hide
import Derived.LoopTactic
import Derived.Outline
import Derived.IntWalk
namespace Go.Proofs.Ytafpmcmpkgbgaaa.Pr
open Go.RowKit Go.Proofs.YtafpmcmpkgbgaaaW.PrintWords Go.Proofs.YtafpmcmpkgbgaaaW.PrintLast Go.Proofs.YtafpmcmpkgbgaaaW.PrintMore
open Go.Lib
set_option linter.unusedVariables false
set_option linter.unusedSimpArgs false
set_option maxHeartbeats 4000000 in
set_option maxRecDepth 100000 in
theorem sweep41 (A0 : Option Addr) (c0 : Nat) (l0 : List S23) (A1 : Option Addr) (c1 : Nat) (l1 : List S23) (w : World) (h0 : Kd.C k23 w A0 l0.length l0) (hc0 : l0.length ≤ c0) (h1 : Kd.C k23 w A1 l1.length l1) (hc1 : l1.length ≤ c1)
    (hlen : 2 * (l0.length + l1.length) < 8796093022208) :
    Calls Try.prog 38 #[.slice A0 l0.length c0, .slice A1 l1.length c1, .func (.func 41) #[] #[]] w fun e w' => SweepPost pMinus l0 l1 w e w' := by
  have L0 := endsL_length 1 0 l0
  have L1 := endsL_length 3 2 l1
  have e1 := ends_f 1 0 l0 [] (by simp; omega)
  have e2 := ends_f 3 2 l1 ([] ++ endsL 1 0 l0) (by simp; omega)
  have H0 := Lib.hid h0
  have H1 := Lib.hid h1
  have E1 := Lib.hid e1
  have E2 := Lib.hid e2
  clear h0 h1 e1 e2
  go_enter Try.func38, Try.ntmps38
  go_wp2_with fail
  refine (ival_ends.calls (l0.length + 1) (fun _ => False) (.slice none 0 0) [] A0 c0 l0 1 0 ([] ++ endsL 1 0 l0) w w (Below.refl _ _) (Kd.R_nil _ _ _ _ _) (Kd.C_kept_came heap23 H0.out (Below.refl _ _) (fun k hk => hk.elim)) hc0 E1.out).mono ?_
  rintro e w1 ⟨va, rfl, hRa, hBa, hKa⟩
  have HRa := Lib.hid hRa
  have HBa := Lib.hid hBa
  clear hRa hBa hKa
  go_wp2_with fail
  refine (ival_ends.calls (l1.length + 1) (fun k => False ∨ w.heap.size ≤ k) va ([] ++ endsL 1 0 l0) A1 c1 l1 3 2 ([] ++ endsL 1 0 l0 ++ endsL 3 2 l1) w w1 HBa.out HRa.out (Kd.C_kept_came heap23 H1.out HBa.out (fun k hk => hk.elim (fun h => h.elim) id)) hc1 E2.out).mono ?_
  rintro e w2 ⟨vb, rfl, hRb, hBb, hKb⟩
  have HRb := Lib.hid (show Kd.R k56 56 w2 w.heap.size (fun _ => True) vb (allEnds l0 l1) from Kd.R_mono hRb (fun _ _ => trivial))
  have HBb := Lib.hid hBb
  clear hRb hBb hKb HRa HBa
  go_wp2_with fail
  refine (sort_run vb (allEnds l0 l1) w w2 HBb.out HRb.out (by unfold allEnds; rw [List.length_append]; omega)).mono ?_
  rintro e w3 ⟨rfl, A, c, ys, rfl, hcA, hn, hp, hr, hB3, hsz, hC⟩
  have HC := Lib.hid hC
  have HB3 := Lib.hid hB3
  have HP := Lib.hid hp
  have HR := Lib.hid hr
  have HN := Lib.hid hn
  clear hC hB3 hp hr hn HRb HBb hsz
  have hlA : (allEnds l0 l1).length < 8796093022208 := by unfold allEnds; rw [List.length_append]; omega
  generalize hnn : (allEnds l0 l1).length = n at *
  clear hnn L0 L1 E1 E2 hlen
  go_wp2_with fail
  obtain ⟨g, hg⟩ : ∃ g, g = w3.heap.size := ⟨_, rfl⟩
  have HI0 := Lib.hid (IsS48.new w3 w3 0 0 (Below.refl _ _))
  have HA0 := Lib.hid (below_alloc (Below.refl w3.heap.size w3) (.cells #[.int .i64 0, .int .i64 0] 48))
  rw [← hg] at HI0
  have hgg := hg
  go_loopw [8, 10, 11, 23] (fun v8 v10 v11 v23 wr => ∃ (i : Nat) (a b fr : Int) (was : Bool) (out : List S23), v23 = .int .i64 i ∧ v10 = .int .i64 fr ∧ v11 = .bool was ∧ i ≤ n ∧ out.length ≤ i ∧ Hid (-(i : Int) ≤ a ∧ a ≤ i ∧ -(i : Int) ≤ b ∧ b ≤ i) ∧ Hid (IsS48 w3 wr g a b) ∧
      Hid (Kd.R k23 23 wr w3.heap.size (fun _ => True) v8 out) ∧ Hid (Below w3.heap.size w3 wr) ∧ Hid (sw pMinus (ys.drop i) a b fr was out = sw pMinus ys 0 0 0 false [])) (fun _ _ _ v23 _ => n - (intOf v23).toNat)
  case atStart => exact ⟨0, 0, 0, 0, false, [], rfl, rfl, rfl, Nat.zero_le _, Nat.le_refl _, Lib.hid (by omega), HI0, Lib.hid (Kd.R_nil _ _ _ _ _), HA0, Lib.hid rfl⟩
  case round =>
    obtain ⟨i, a, b, fr, was, out, rfl, rfl, rfl, hi, ho, HAB, HI, HO, HB, HE⟩ := hrel
    by_cases hlt : i < n
    · obtain ⟨ad, rfl, hx0, hx1⟩ := at_T56 (Kd.C_below HC.out HB.out) (i : Int) (by omega) (by omega)
      simp only [Int.toNat_natCast] at hx0 hx1
      have HD := Lib.hid (drop_cons56 ys i (by rw [HN.out]; exact hlt))
      generalize hxx : rd_T56 ys i = x at *
      go_wp2_with fail
      have hgl : g < wr.heap.size := HI.out.lt
      have hab := HAB.out
      have HAB2 := Lib.hid (show -((i + 1 : Nat) : Int) ≤ a + dA x.f1 ∧ a + dA x.f1 ≤ ((i + 1 : Nat) : Int) ∧ -((i + 1 : Nat) : Int) ≤ b + dB x.f1 ∧ b + dB x.f1 ≤ ((i + 1 : Nat) : Int) by have := dA_range x.f1; omega)
      have hsf := step_f a b x.f1 (by omega) (by omega)
      have HI' := Lib.hid (HI.out.alloc (.cells #[.int .i64 x.f0, .int .i64 x.f1] 56))
      have HB' := Lib.hid (below_alloc HB.out (.cells #[.int .i64 x.f0, .int .i64 x.f1] 56))
      have HO' := Lib.hid (Kd.R_alloc HO.out (.cells #[.int .i64 x.f0, .int .i64 x.f1] 56))
      have hbx := heap_alloc_new wr (.cells #[.int .i64 x.f0, .int .i64 x.f1] 56)
      rw [← hgg]
      refine (ival_line_step.calls g a b x.f1 (a + dA x.f1) (b + dB x.f1) w3 _ HI'.out HB'.out hsf).mono ?_
      rintro e w5 ⟨rfl, hI5, hB5, hK5⟩
      have hbx5 : w5.heap[wr.heap.size]? = some (.cells #[.int .i64 x.f0, .int .i64 x.f1] 56 (0, 0)) := (hK5.2 _ (lt_of_block hbx) (by omega) (by simp)).trans hbx
      have HO5 := Lib.hid (Kd.R_mono (ok' := fun _ => True) (Kd.R_keep (HI'.out.apart HO'.out (by decide)) hK5 (fun k hk => hk.2)) (fun _ _ => trivial))
      have hX0 : w5.cell? ⟨wr.heap.size, 0, none⟩ = some (.int .i64 x.f0) := (blk_cell hbx5 0).trans rfl
      have hX1 : w5.cell? ⟨wr.heap.size, 1, none⟩ = some (.int .i64 x.f1) := (blk_cell hbx5 1).trans rfl
      have hN0 := cellS48_0 hI5.1
      have hN1 := cellS48_1 hI5.1
      rw [hgg] at hN0 hN1
      have HI5 := Lib.hid hI5
      have HB5 := Lib.hid hB5
      have HBX := Lib.hid hbx5
      clear hK5 hI5 hB5 hbx hbx5 HO' HI' HB' HO HI HB hsf hab hx0 hx1
      by_cases hl : i + 1 < n
      · obtain ⟨ad', had, hy0, hy1⟩ := at_T56 (Kd.C_below HC.out HB5.out) ((i + 1 : Nat) : Int) (by omega) (by omega)
        cases had
        have hsame : same x (ys.drop (i + 1)) = ((rd_T56 ys ((i + 1 : Nat) : Int)).f0 == x.f0) := by
          rw [drop_cons56 ys (i + 1) (by rw [HN.out]; exact hl)]; rfl
        generalize hyy : rd_T56 ys ((i + 1 : Nat) : Int) = y at *
        simp only [Int.toNat_natCast] at hy0 hy1
        have HS := Lib.hid hsame
        clear hsame
        by_cases heq : y.f0 = x.f0
        · have hlt1 : decide (((i : Int) + 1) < (n : Int)) = true := decide_eq_true (by omega)
          have heq1 : decide (y.f0 = x.f0) = true := decide_eq_true heq
          go_wp2_with fail
          go_quiet (fail)
          go_wp2_with fail
          go_roundw
          case rel => exact ⟨i + 1, a + dA x.f1, b + dB x.f1, fr, was, out, by go_num, rfl, rfl, by omega, by omega, HAB2, Lib.hid (HI5.out.drewN nq), Lib.hid (Kd.R_drewN HO5.out nq), Lib.hid (pw_below_drewN HB5.out nq), Lib.hid (by rw [← HE.out, HD.out]; exact (sw_same pMinus x _ a b fr was out (by rw [HS.out]; simp [heq])).symm)⟩
          case measure => simp [intOf]; omega
        · have hlt1 : decide (((i : Int) + 1) < (n : Int)) = true := decide_eq_true (by omega)
          have heq1 : decide (y.f0 = x.f0) = false := decide_eq_false heq
          replace HS := Lib.hid (show same x (ys.drop (i + 1)) = false by rw [HS.out]; simp [heq])
          go_wp2_with fail
          go_quiet (fail)
          go_wp2_with fail
          have HI5q := Lib.hid (HI5.out.drewN nq)
          have HO5q := Lib.hid (Kd.R_drewN HO5.out nq)
          have HB5q := Lib.hid (pw_below_drewN HB5.out nq)
          have HBXq := Lib.hid (show (w5.drewN nq).heap[wr.heap.size]? = some (.cells #[.int .i64 x.f0, .int .i64 x.f1] 56 (0, 0)) from HBX.out)
          refine (in41 (a + dA x.f1) (b + dB x.f1) (w5.drewN nq)).mono ?_
          rintro e w6 ⟨rfl, HB6⟩
          have HI6 := Lib.hid (HI5q.out.below HB6.out)
          have HO6 := Lib.hid (Kd.R_below HO5q.out HB6.out)
          have hbx6 := (HB6.out.block _ (lt_of_block HBXq.out)).trans HBXq.out
          have HB7 := Lib.hid (HB5q.out.trans (HB6.out.mono HB5q.out.size))
          have hX0 : w6.cell? ⟨wr.heap.size, 0, none⟩ = some (.int .i64 x.f0) := (blk_cell hbx6 0).trans rfl
          clear hbx6 HB6 HI5q HO5q HB5q HBXq HI5 HO5 HB5 HBX hX1 hN0 hN1
          have HQ := Lib.hid (sw_next pMinus x (ys.drop (i + 1)) a b fr was out HS.out)
          generalize pMinus (a + dA x.f1) (b + dB x.f1) = is at *
          cases is <;> cases was
          · go_wp2_with fail
            go_roundw
            case rel => exact ⟨i + 1, a + dA x.f1, b + dB x.f1, fr, false, out, by go_num, rfl, rfl, by omega, by omega, HAB2, HI6, HO6, HB7, Lib.hid (by rw [← HE.out, HD.out, HQ.out]; rfl)⟩
            case measure => simp [intOf]; omega
          · go_wp2_with (at_builtin; refine Kd.R_append k23 (w0 := w3) w3.heap.size rfl (.tmp 62) (.tmp 67) 29 23 (.agg #[(.int .i64 0), (.int .i64 0)]) 16 rfl Try.underlying29 info23 rfl (by decide) (by omega) u8 out (⟨fr, x.f0⟩ : S23) [.int .i64 fr, .int .i64 x.f0] (fun k => True ∧ k ≠ g) (fun _ => False) rfl rfl ?aP (fun _ hk => hk.elim) ?aF ?aO ?aB ?aS ?aL ?_; (case aP => exact k23_mkM _ _ _ (⟨fr, x.f0⟩ : S23)); (case aF => exact fun k hk => ⟨trivial, fun h => by have := HI6.out.lt; omega⟩); (case aO => exact HI6.out.apart HO6.out (by decide)); (case aB => exact HB7.out); (case aS => exact HB7.out.size); (case aL => omega); intro v1 w7 hro hb hgw hat; have HO8 := Lib.hid (Kd.R_mono (ok' := fun _ => True) hro (fun _ _ => trivial)); have HB8 := Lib.hid hb; have HI8 := Lib.hid (HI6.out.grown hgw (HI6.out.own_ne HO6.out (by decide))); clear hro hb hgw hat)
            go_roundw
            case rel => exact ⟨i + 1, a + dA x.f1, b + dB x.f1, fr, false, out ++ [⟨fr, x.f0⟩], by go_num, rfl, rfl, by omega, by simp; omega, HAB2, HI8, HO8, HB8, Lib.hid (by rw [← HE.out, HD.out, HQ.out]; rfl)⟩
            case measure => simp [intOf]; omega
          · go_wp2_with fail
            go_roundw
            case rel => exact ⟨i + 1, a + dA x.f1, b + dB x.f1, x.f0, true, out, by go_num, rfl, rfl, by omega, by omega, HAB2, HI6, HO6, HB7, Lib.hid (by rw [← HE.out, HD.out, HQ.out]; rfl)⟩
            case measure => simp [intOf]; omega
          · go_wp2_with fail
            go_roundw
            case rel => exact ⟨i + 1, a + dA x.f1, b + dB x.f1, fr, true, out, by go_num, rfl, rfl, by omega, by omega, HAB2, HI6, HO6, HB7, Lib.hid (by rw [← HE.out, HD.out, HQ.out]; rfl)⟩
            case measure => simp [intOf]; omega
      · have hlt1 : decide (((i : Int) + 1) < (n : Int)) = false := decide_eq_false (by omega)
        have HS := Lib.hid (show same x (ys.drop (i + 1)) = false by rw [List.drop_eq_nil_of_le (by rw [HN.out]; omega)]; rfl)
        go_wp2_with fail
        go_quiet (fail)
        go_wp2_with fail
        have HI5q := Lib.hid (HI5.out.drewN nq)
        have HO5q := Lib.hid (Kd.R_drewN HO5.out nq)
        have HB5q := Lib.hid (pw_below_drewN HB5.out nq)
        have HBXq := Lib.hid (show (w5.drewN nq).heap[wr.heap.size]? = some (.cells #[.int .i64 x.f0, .int .i64 x.f1] 56 (0, 0)) from HBX.out)
        refine (in41 (a + dA x.f1) (b + dB x.f1) (w5.drewN nq)).mono ?_
        rintro e w6 ⟨rfl, HB6⟩
        have HI6 := Lib.hid (HI5q.out.below HB6.out)
        have HO6 := Lib.hid (Kd.R_below HO5q.out HB6.out)
        have hbx6 := (HB6.out.block _ (lt_of_block HBXq.out)).trans HBXq.out
        have HB7 := Lib.hid (HB5q.out.trans (HB6.out.mono HB5q.out.size))
        have hX0 : w6.cell? ⟨wr.heap.size, 0, none⟩ = some (.int .i64 x.f0) := (blk_cell hbx6 0).trans rfl
        clear hbx6 HB6 HI5q HO5q HB5q HBXq HI5 HO5 HB5 HBX hX1 hN0 hN1
        have HQ := Lib.hid (sw_next pMinus x (ys.drop (i + 1)) a b fr was out HS.out)
        generalize pMinus (a + dA x.f1) (b + dB x.f1) = is at *
        cases is <;> cases was
        · go_wp2_with fail
          go_roundw
          case rel => exact ⟨i + 1, a + dA x.f1, b + dB x.f1, fr, false, out, by go_num, rfl, rfl, by omega, by omega, HAB2, HI6, HO6, HB7, Lib.hid (by rw [← HE.out, HD.out, HQ.out]; rfl)⟩
          case measure => simp [intOf]; omega
        · go_wp2_with (at_builtin; refine Kd.R_append k23 (w0 := w3) w3.heap.size rfl (.tmp 62) (.tmp 67) 29 23 (.agg #[(.int .i64 0), (.int .i64 0)]) 16 rfl Try.underlying29 info23 rfl (by decide) (by omega) u8 out (⟨fr, x.f0⟩ : S23) [.int .i64 fr, .int .i64 x.f0] (fun k => True ∧ k ≠ g) (fun _ => False) rfl rfl ?aP (fun _ hk => hk.elim) ?aF ?aO ?aB ?aS ?aL ?_; (case aP => exact k23_mkM _ _ _ (⟨fr, x.f0⟩ : S23)); (case aF => exact fun k hk => ⟨trivial, fun h => by have := HI6.out.lt; omega⟩); (case aO => exact HI6.out.apart HO6.out (by decide)); (case aB => exact HB7.out); (case aS => exact HB7.out.size); (case aL => omega); intro v1 w7 hro hb hgw hat; have HO8 := Lib.hid (Kd.R_mono (ok' := fun _ => True) hro (fun _ _ => trivial)); have HB8 := Lib.hid hb; have HI8 := Lib.hid (HI6.out.grown hgw (HI6.out.own_ne HO6.out (by decide))); clear hro hb hgw hat)
          go_roundw
          case rel => exact ⟨i + 1, a + dA x.f1, b + dB x.f1, fr, false, out ++ [⟨fr, x.f0⟩], by go_num, rfl, rfl, by omega, by simp; omega, HAB2, HI8, HO8, HB8, Lib.hid (by rw [← HE.out, HD.out, HQ.out]; rfl)⟩
          case measure => simp [intOf]; omega
        · go_wp2_with fail
          go_roundw
          case rel => exact ⟨i + 1, a + dA x.f1, b + dB x.f1, x.f0, true, out, by go_num, rfl, rfl, by omega, by omega, HAB2, HI6, HO6, HB7, Lib.hid (by rw [← HE.out, HD.out, HQ.out]; rfl)⟩
          case measure => simp [intOf]; omega
        · go_wp2_with fail
          go_roundw
          case rel => exact ⟨i + 1, a + dA x.f1, b + dB x.f1, fr, true, out, by go_num, rfl, rfl, by omega, by omega, HAB2, HI6, HO6, HB7, Lib.hid (by rw [← HE.out, HD.out, HQ.out]; rfl)⟩
          case measure => simp [intOf]; omega
    · go_wp2
      go_ret
      have hin : i = n := by omega
      subst hin
      have e3 := HE.out
      rw [List.drop_eq_nil_of_le (by rw [HN.out]; exact Nat.le_refl _)] at e3
      refine ⟨_, rfl, ?_, HB3.out.trans (HB.out.mono HB3.out.size)⟩
      have e4 := swept_eq pMinus rfl l0 l1 ys HP.out HR.out
      rw [← e4, ← e3]
      exact Kd.R_lower HO.out HB3.out.size
end Go.Proofs.Ytafpmcmpkgbgaaa.Pr
