/- The sweep of package ival, at each of its three closures. -/
import Derived.Test.YtafpmcmpkgbgaaaMb
import Derived.Test.YtafpmcmpkgbgaaaXEs
import Derived.Test.YtafpmcmpkgbgaaaPr0a
import Derived.Lib.Hide
import Derived.LoopTactic
import Derived.Outline
import Derived.IntWalk
namespace Go.Proofs.Ytafpmcmpkgbgaaa.Pr
open Go.RowKit Go.Proofs.YtafpmcmpkgbgaaaW.PrintWords Go.Proofs.YtafpmcmpkgbgaaaW.PrintLast Go.Proofs.YtafpmcmpkgbgaaaW.PrintMore
open Go.Lib
set_option linter.unusedVariables false
set_option linter.unusedSimpArgs false
theorem w64 {n : Int} (h : -9223372036854775808 ≤ n) (h' : n ≤ 9223372036854775807) : wrap64 n = n := by unfold wrap64; omega
theorem heap23 : Kd.Heap k23 := Kd.heap_iso _ (Kd.heap_pair (Kd.heap_int _) (Kd.heap_int _))
theorem drop_cons23 (l : List S23) (k : Nat) (h : k < l.length) : l.drop k = rd_T23 l k :: l.drop (k + 1) := by
  rw [List.drop_eq_getElem_cons h]; simp [rd_T23, List.getD, h]
theorem drop_cons56 (l : List S56) (k : Nat) (h : k < l.length) : l.drop k = rd_T56 l k :: l.drop (k + 1) := by
  rw [List.drop_eq_getElem_cons h]; simp [rd_T56, List.getD, h]
theorem ends_l0 (o c : Int) (l : List S23) (hl : l.length < 4611686018427387904) : ∀ (n K i : Nat) (xs : List S56), i + n = l.length → n < K → xs.length + 2 * n < 8796093022208 →
    ival_ends.l0 K xs o c l (l.length : Int) (i : Int) = some (xs ++ endsL o c (l.drop i)) := by
  intro n
  induction n with
  | zero =>
    intro K i xs hi hK _
    obtain ⟨k, rfl⟩ : ∃ k, K = k + 1 := ⟨K - 1, by omega⟩
    unfold ival_ends.l0
    rw [if_neg (by omega), List.drop_eq_nil_of_le (by omega)]
    simp [endsL]
  | succ n ih =>
    intro K i xs hi hK hx
    obtain ⟨k, rfl⟩ : ∃ k, K = k + 1 := ⟨K - 1, by omega⟩
    unfold ival_ends.l0
    rw [if_pos (by omega), if_pos (by omega), if_pos (by omega), w64 (by omega) (by omega)]
    rw [show ((i : Int) + 1) = ((i + 1 : Nat) : Int) by omega]
    rw [drop_cons23 l i (by omega), endsL_cons]
    unfold ival_empty.f
    simp only [Option.bind_some, decide_eq_true_eq]
    by_cases h : (rd_T23 l i).f1 ≤ (rd_T23 l i).f0
    · rw [if_pos h, if_pos h, ih k (i + 1) xs (by omega) (by omega) (by omega)]; simp
    · rw [if_neg h, if_neg h]
      simp only [List.length_cons, List.length_nil]
      rw [if_pos (by omega), ih k (i + 1) _ (by omega) (by omega) (by simp; omega)]
      simp
theorem ends_f (o c : Int) (l : List S23) (xs : List S56) (hx : xs.length + 2 * l.length < 8796093022208) : ival_ends.f (l.length + 1) xs l o c = some (xs ++ endsL o c l) := by
  have := ends_l0 o c l (by omega) l.length (l.length + 1) 0 xs (by omega) (by omega) hx
  exact this
def stepP (P : Int → Int → Bool) (a b : Int) : Bool := P a b
theorem step_f (a b k : Int) (ha : -4611686018427387904 ≤ a ∧ a ≤ 4611686018427387904) (hb : -4611686018427387904 ≤ b ∧ b ≤ 4611686018427387904) : ival_line_step.f a b k = some (a + dA k, b + dB k) := by
  unfold ival_line_step.f dA dB
  by_cases h0 : k = 0
  · subst h0; simp only [if_true, show ¬ (0 : Int) = 1 by decide, show ¬ (0 : Int) = 2 by decide, show ¬ (0 : Int) = 3 by decide, if_false]
    rw [w64 (n := a - 2) (by omega) (by omega), w64 (by omega) (by omega)]; simp; omega
  · rw [if_neg h0, if_neg h0]
    by_cases h1 : k = 1
    · subst h1; simp only [if_true, show ¬ (1 : Int) = 2 by decide, show ¬ (1 : Int) = 3 by decide, if_false]
      rw [w64 (by omega) (by omega)]; simp
    · rw [if_neg h1, if_neg h1]
      by_cases h2 : k = 2
      · subst h2; simp only [if_true]
        rw [w64 (n := b - 2) (by omega) (by omega), w64 (by omega) (by omega)]; simp; omega
      · rw [if_neg h2, if_neg h2]
        by_cases h3 : k = 3
        · subst h3; simp only [if_true]; rw [w64 (by omega) (by omega)]; simp
        · rw [if_neg h3, if_neg h3]; simp
set_option maxHeartbeats 1000000 in
theorem in39 (a b : Int) (W : World) : Calls Try.prog 39 #[.agg #[.int .i64 a, .int .i64 b]] W fun e w' => e = .returned (.bool (pNormal a b)) ∧ Hid (Below W.heap.size W w') := by
  unfold pNormal
  go_enter Try.func39, Try.ntmps39
  go_wp2
  go_ret
  exact ⟨by simp, Lib.hid (by repeat (first | exact Below.refl _ _ | apply below_alloc | apply pw_below_drewN | apply below_drew1))⟩
set_option maxHeartbeats 1000000 in
theorem in40 (a b : Int) (W : World) : Calls Try.prog 40 #[.agg #[.int .i64 a, .int .i64 b]] W fun e w' => e = .returned (.bool (pMeet a b)) ∧ Hid (Below W.heap.size W w') := by
  unfold pMeet
  by_cases h : 0 < a <;> by_cases h2 : 0 < b
  all_goals
    go_enter Try.func40, Try.ntmps40
    go_wp2
    go_ret
    exact ⟨by simp [h, h2], Lib.hid (by repeat (first | exact Below.refl _ _ | apply below_alloc | apply pw_below_drewN | apply below_drew1))⟩
set_option maxHeartbeats 1000000 in
theorem in41 (a b : Int) (W : World) : Calls Try.prog 41 #[.agg #[.int .i64 a, .int .i64 b]] W fun e w' => e = .returned (.bool (pMinus a b)) ∧ Hid (Below W.heap.size W w') := by
  unfold pMinus
  by_cases h : 0 < a <;> by_cases h2 : b = 0
  all_goals
    go_enter Try.func41, Try.ntmps41
    go_wp2
    go_ret
    exact ⟨by simp [h, h2], Lib.hid (by repeat (first | exact Below.refl _ _ | apply below_alloc | apply pw_below_drewN | apply below_drew1))⟩

theorem dA_range (k : Int) : -1 ≤ dA k ∧ dA k ≤ 1 ∧ -1 ≤ dB k ∧ dB k ≤ 1 := by
  unfold dA dB
  refine ⟨?_, ?_, ?_, ?_⟩ <;> (split; (try split)) <;> (try split) <;> omega
theorem sw_same (P : Int → Int → Bool) (x : S56) (t : List S56) (a b fr : Int) (was : Bool) (out : List S23) (h : same x t = true) : sw P (x :: t) a b fr was out = sw P t (a + dA x.f1) (b + dB x.f1) fr was out := by
  rw [sw, if_pos h]
theorem sw_next (P : Int → Int → Bool) (x : S56) (t : List S56) (a b fr : Int) (was : Bool) (out : List S23) (h : same x t = false) : sw P (x :: t) a b fr was out =
    sw P t (a + dA x.f1) (b + dB x.f1) (if P (a + dA x.f1) (b + dB x.f1) && !was then x.f0 else fr) (P (a + dA x.f1) (b + dB x.f1)) (if was && !P (a + dA x.f1) (b + dB x.f1) then out ++ [⟨fr, x.f0⟩] else out) := by
  rw [sw, h, if_neg (by simp)]
def SweepPost (P : Int → Int → Bool) (l0 l1 : List S23) (w : World) (e : Ending) (w' : World) : Prop :=
  ∃ v0_ : Value, e = .returned (v0_) ∧ Kd.R k23 23 w' w.heap.size (fun _ => True) v0_ (swept P l0 l1) ∧ Below w.heap.size w w'
set_option maxHeartbeats 4000000 in
set_option maxRecDepth 100000 in
theorem sweep39 (A0 : Option Addr) (c0 : Nat) (l0 : List S23) (A1 : Option Addr) (c1 : Nat) (l1 : List S23) (w : World) (h0 : Kd.C k23 w A0 l0.length l0) (hc0 : l0.length ≤ c0) (h1 : Kd.C k23 w A1 l1.length l1) (hc1 : l1.length ≤ c1)
    (hlen : 2 * (l0.length + l1.length) < 8796093022208) :
    Calls Try.prog 38 #[.slice A0 l0.length c0, .slice A1 l1.length c1, .func (.func 39) #[] #[]] w fun e w' => SweepPost pNormal l0 l1 w e w' := by
  have L0 := endsL_length 1 0 l0
  have L1 := endsL_length 3 2 l1
  have e1 := ends_f 1 0 l0 [] (by simp; omega)
  have e2 := ends_f 3 2 l1 ([] ++ endsL 1 0 l0) (by simp; omega)
  have H0 := Lib.hid h0
  have H1 := Lib.hid h1
  have E1 := Lib.hid e1
  have E2 := Lib.hid e2
  clear h0 h1 e1 e2
  go_enter Try.func38, Try.ntmps38
  go_wp2_with fail
  refine (ival_ends.calls (l0.length + 1) (fun _ => False) (.slice none 0 0) [] A0 c0 l0 1 0 ([] ++ endsL 1 0 l0) w w (Below.refl _ _) (Kd.R_nil _ _ _ _ _) (Kd.C_kept_came heap23 H0.out (Below.refl _ _) (fun k hk => hk.elim)) hc0 E1.out).mono ?_
  rintro e w1 ⟨va, rfl, hRa, hBa, hKa⟩
  have HRa := Lib.hid hRa
  have HBa := Lib.hid hBa
  clear hRa hBa hKa
  go_wp2_with fail
  refine (ival_ends.calls (l1.length + 1) (fun k => False ∨ w.heap.size ≤ k) va ([] ++ endsL 1 0 l0) A1 c1 l1 3 2 ([] ++ endsL 1 0 l0 ++ endsL 3 2 l1) w w1 HBa.out HRa.out (Kd.C_kept_came heap23 H1.out HBa.out (fun k hk => hk.elim (fun h => h.elim) id)) hc1 E2.out).mono ?_
  rintro e w2 ⟨vb, rfl, hRb, hBb, hKb⟩
  have HRb := Lib.hid (show Kd.R k56 56 w2 w.heap.size (fun _ => True) vb (allEnds l0 l1) from Kd.R_mono hRb (fun _ _ => trivial))
  have HBb := Lib.hid hBb
  clear hRb hBb hKb HRa HBa
  go_wp2_with fail
  refine (sort_run vb (allEnds l0 l1) w w2 HBb.out HRb.out (by unfold allEnds; rw [List.length_append]; omega)).mono ?_
  rintro e w3 ⟨rfl, A, c, ys, rfl, hcA, hn, hp, hr, hB3, hsz, hC⟩
  have HC := Lib.hid hC
  have HB3 := Lib.hid hB3
  have HP := Lib.hid hp
  have HR := Lib.hid hr
  have HN := Lib.hid hn
  clear hC hB3 hp hr hn HRb HBb hsz
  have hlA : (allEnds l0 l1).length < 8796093022208 := by unfold allEnds; rw [List.length_append]; omega
  generalize hnn : (allEnds l0 l1).length = n at *
  clear hnn L0 L1 E1 E2 hlen
  go_wp2_with fail
  obtain ⟨g, hg⟩ : ∃ g, g = w3.heap.size := ⟨_, rfl⟩
  have HI0 := Lib.hid (IsS48.new w3 w3 0 0 (Below.refl _ _))
  have HA0 := Lib.hid (below_alloc (Below.refl w3.heap.size w3) (.cells #[.int .i64 0, .int .i64 0] 48))
  rw [← hg] at HI0
  have hgg := hg
  go_loopw [8, 10, 11, 23] (fun v8 v10 v11 v23 wr => ∃ (i : Nat) (a b fr : Int) (was : Bool) (out : List S23), v23 = .int .i64 i ∧ v10 = .int .i64 fr ∧ v11 = .bool was ∧ i ≤ n ∧ out.length ≤ i ∧ Hid (-(i : Int) ≤ a ∧ a ≤ i ∧ -(i : Int) ≤ b ∧ b ≤ i) ∧ Hid (IsS48 w3 wr g a b) ∧
      Hid (Kd.R k23 23 wr w3.heap.size (fun _ => True) v8 out) ∧ Hid (Below w3.heap.size w3 wr) ∧ Hid (sw pNormal (ys.drop i) a b fr was out = sw pNormal ys 0 0 0 false [])) (fun _ _ _ v23 _ => n - (intOf v23).toNat)
  case atStart => exact ⟨0, 0, 0, 0, false, [], rfl, rfl, rfl, Nat.zero_le _, Nat.le_refl _, Lib.hid (by omega), HI0, Lib.hid (Kd.R_nil _ _ _ _ _), HA0, Lib.hid rfl⟩
  case round =>
    obtain ⟨i, a, b, fr, was, out, rfl, rfl, rfl, hi, ho, HAB, HI, HO, HB, HE⟩ := hrel
    by_cases hlt : i < n
    · obtain ⟨ad, rfl, hx0, hx1⟩ := at_T56 (Kd.C_below HC.out HB.out) (i : Int) (by omega) (by omega)
      simp only [Int.toNat_natCast] at hx0 hx1
      have HD := Lib.hid (drop_cons56 ys i (by rw [HN.out]; exact hlt))
      generalize hxx : rd_T56 ys i = x at *
      go_wp2_with fail
      have hgl : g < wr.heap.size := HI.out.lt
      have hab := HAB.out
      have HAB2 := Lib.hid (show -((i + 1 : Nat) : Int) ≤ a + dA x.f1 ∧ a + dA x.f1 ≤ ((i + 1 : Nat) : Int) ∧ -((i + 1 : Nat) : Int) ≤ b + dB x.f1 ∧ b + dB x.f1 ≤ ((i + 1 : Nat) : Int) by have := dA_range x.f1; omega)
      have hsf := step_f a b x.f1 (by omega) (by omega)
      have HI' := Lib.hid (HI.out.alloc (.cells #[.int .i64 x.f0, .int .i64 x.f1] 56))
      have HB' := Lib.hid (below_alloc HB.out (.cells #[.int .i64 x.f0, .int .i64 x.f1] 56))
      have HO' := Lib.hid (Kd.R_alloc HO.out (.cells #[.int .i64 x.f0, .int .i64 x.f1] 56))
      have hbx := heap_alloc_new wr (.cells #[.int .i64 x.f0, .int .i64 x.f1] 56)
      rw [← hgg]
      refine (ival_line_step.calls g a b x.f1 (a + dA x.f1) (b + dB x.f1) w3 _ HI'.out HB'.out hsf).mono ?_
      rintro e w5 ⟨rfl, hI5, hB5, hK5⟩
      have hbx5 : w5.heap[wr.heap.size]? = some (.cells #[.int .i64 x.f0, .int .i64 x.f1] 56 (0, 0)) := (hK5.2 _ (lt_of_block hbx) (by omega) (by simp)).trans hbx
      have HO5 := Lib.hid (Kd.R_mono (ok' := fun _ => True) (Kd.R_keep (HI'.out.apart HO'.out (by decide)) hK5 (fun k hk => hk.2)) (fun _ _ => trivial))
      have hX0 : w5.cell? ⟨wr.heap.size, 0, none⟩ = some (.int .i64 x.f0) := (blk_cell hbx5 0).trans rfl
      have hX1 : w5.cell? ⟨wr.heap.size, 1, none⟩ = some (.int .i64 x.f1) := (blk_cell hbx5 1).trans rfl
      have hN0 := cellS48_0 hI5.1
      have hN1 := cellS48_1 hI5.1
      rw [hgg] at hN0 hN1
      have HI5 := Lib.hid hI5
      have HB5 := Lib.hid hB5
      have HBX := Lib.hid hbx5
      clear hK5 hI5 hB5 hbx hbx5 HO' HI' HB' HO HI HB hsf hab hx0 hx1
      by_cases hl : i + 1 < n
      · obtain ⟨ad', had, hy0, hy1⟩ := at_T56 (Kd.C_below HC.out HB5.out) ((i + 1 : Nat) : Int) (by omega) (by omega)
        cases had
        have hsame : same x (ys.drop (i + 1)) = ((rd_T56 ys ((i + 1 : Nat) : Int)).f0 == x.f0) := by
          rw [drop_cons56 ys (i + 1) (by rw [HN.out]; exact hl)]; rfl
        generalize hyy : rd_T56 ys ((i + 1 : Nat) : Int) = y at *
        simp only [Int.toNat_natCast] at hy0 hy1
        have HS := Lib.hid hsame
        clear hsame
        by_cases heq : y.f0 = x.f0
        · have hlt1 : decide (((i : Int) + 1) < (n : Int)) = true := decide_eq_true (by omega)
          have heq1 : decide (y.f0 = x.f0) = true := decide_eq_true heq
          go_wp2_with fail
          go_quiet (fail)
          go_wp2_with fail
          go_roundw
          case rel => exact ⟨i + 1, a + dA x.f1, b + dB x.f1, fr, was, out, by go_num, rfl, rfl, by omega, by omega, HAB2, Lib.hid (HI5.out.drewN nq), Lib.hid (Kd.R_drewN HO5.out nq), Lib.hid (pw_below_drewN HB5.out nq), Lib.hid (by rw [← HE.out, HD.out]; exact (sw_same pNormal x _ a b fr was out (by rw [HS.out]; simp [heq])).symm)⟩
          case measure => simp [intOf]; omega
        · have hlt1 : decide (((i : Int) + 1) < (n : Int)) = true := decide_eq_true (by omega)
          have heq1 : decide (y.f0 = x.f0) = false := decide_eq_false heq
          replace HS := Lib.hid (show same x (ys.drop (i + 1)) = false by rw [HS.out]; simp [heq])
          go_wp2_with fail
          go_quiet (fail)
          go_wp2_with fail
          have HI5q := Lib.hid (HI5.out.drewN nq)
          have HO5q := Lib.hid (Kd.R_drewN HO5.out nq)
          have HB5q := Lib.hid (pw_below_drewN HB5.out nq)
          have HBXq := Lib.hid (show (w5.drewN nq).heap[wr.heap.size]? = some (.cells #[.int .i64 x.f0, .int .i64 x.f1] 56 (0, 0)) from HBX.out)
          refine (in39 (a + dA x.f1) (b + dB x.f1) (w5.drewN nq)).mono ?_
          rintro e w6 ⟨rfl, HB6⟩
          have HI6 := Lib.hid (HI5q.out.below HB6.out)
          have HO6 := Lib.hid (Kd.R_below HO5q.out HB6.out)
          have hbx6 := (HB6.out.block _ (lt_of_block HBXq.out)).trans HBXq.out
          have HB7 := Lib.hid (HB5q.out.trans (HB6.out.mono HB5q.out.size))
          have hX0 : w6.cell? ⟨wr.heap.size, 0, none⟩ = some (.int .i64 x.f0) := (blk_cell hbx6 0).trans rfl
          clear hbx6 HB6 HI5q HO5q HB5q HBXq HI5 HO5 HB5 HBX hX1 hN0 hN1
          have HQ := Lib.hid (sw_next pNormal x (ys.drop (i + 1)) a b fr was out HS.out)
          generalize pNormal (a + dA x.f1) (b + dB x.f1) = is at *
          cases is <;> cases was
          · go_wp2_with fail
            go_roundw
            case rel => exact ⟨i + 1, a + dA x.f1, b + dB x.f1, fr, false, out, by go_num, rfl, rfl, by omega, by omega, HAB2, HI6, HO6, HB7, Lib.hid (by rw [← HE.out, HD.out, HQ.out]; rfl)⟩
            case measure => simp [intOf]; omega
          · go_wp2_with (at_builtin; refine Kd.R_append k23 (w0 := w3) w3.heap.size rfl (.tmp 62) (.tmp 67) 29 23 (.agg #[(.int .i64 0), (.int .i64 0)]) 16 rfl Try.underlying29 info23 rfl (by decide) (by omega) u8 out (⟨fr, x.f0⟩ : S23) [.int .i64 fr, .int .i64 x.f0] (fun k => True ∧ k ≠ g) (fun _ => False) rfl rfl ?aP (fun _ hk => hk.elim) ?aF ?aO ?aB ?aS ?aL ?_; (case aP => exact k23_mkM _ _ _ (⟨fr, x.f0⟩ : S23)); (case aF => exact fun k hk => ⟨trivial, fun h => by have := HI6.out.lt; omega⟩); (case aO => exact HI6.out.apart HO6.out (by decide)); (case aB => exact HB7.out); (case aS => exact HB7.out.size); (case aL => omega); intro v1 w7 hro hb hgw hat; have HO8 := Lib.hid (Kd.R_mono (ok' := fun _ => True) hro (fun _ _ => trivial)); have HB8 := Lib.hid hb; have HI8 := Lib.hid (HI6.out.grown hgw (HI6.out.own_ne HO6.out (by decide))); clear hro hb hgw hat)
            go_roundw
            case rel => exact ⟨i + 1, a + dA x.f1, b + dB x.f1, fr, false, out ++ [⟨fr, x.f0⟩], by go_num, rfl, rfl, by omega, by simp; omega, HAB2, HI8, HO8, HB8, Lib.hid (by rw [← HE.out, HD.out, HQ.out]; rfl)⟩
            case measure => simp [intOf]; omega
          · go_wp2_with fail
            go_roundw
            case rel => exact ⟨i + 1, a + dA x.f1, b + dB x.f1, x.f0, true, out, by go_num, rfl, rfl, by omega, by omega, HAB2, HI6, HO6, HB7, Lib.hid (by rw [← HE.out, HD.out, HQ.out]; rfl)⟩
            case measure => simp [intOf]; omega
          · go_wp2_with fail
            go_roundw
            case rel => exact ⟨i + 1, a + dA x.f1, b + dB x.f1, fr, true, out, by go_num, rfl, rfl, by omega, by omega, HAB2, HI6, HO6, HB7, Lib.hid (by rw [← HE.out, HD.out, HQ.out]; rfl)⟩
            case measure => simp [intOf]; omega
      · have hlt1 : decide (((i : Int) + 1) < (n : Int)) = false := decide_eq_false (by omega)
        have HS := Lib.hid (show same x (ys.drop (i + 1)) = false by rw [List.drop_eq_nil_of_le (by rw [HN.out]; omega)]; rfl)
        go_wp2_with fail
        go_quiet (fail)
        go_wp2_with fail
        have HI5q := Lib.hid (HI5.out.drewN nq)
        have HO5q := Lib.hid (Kd.R_drewN HO5.out nq)
        have HB5q := Lib.hid (pw_below_drewN HB5.out nq)
        have HBXq := Lib.hid (show (w5.drewN nq).heap[wr.heap.size]? = some (.cells #[.int .i64 x.f0, .int .i64 x.f1] 56 (0, 0)) from HBX.out)
        refine (in39 (a + dA x.f1) (b + dB x.f1) (w5.drewN nq)).mono ?_
        rintro e w6 ⟨rfl, HB6⟩
        have HI6 := Lib.hid (HI5q.out.below HB6.out)
        have HO6 := Lib.hid (Kd.R_below HO5q.out HB6.out)
        have hbx6 := (HB6.out.block _ (lt_of_block HBXq.out)).trans HBXq.out
        have HB7 := Lib.hid (HB5q.out.trans (HB6.out.mono HB5q.out.size))
        have hX0 : w6.cell? ⟨wr.heap.size, 0, none⟩ = some (.int .i64 x.f0) := (blk_cell hbx6 0).trans rfl
        clear hbx6 HB6 HI5q HO5q HB5q HBXq HI5 HO5 HB5 HBX hX1 hN0 hN1
        have HQ := Lib.hid (sw_next pNormal x (ys.drop (i + 1)) a b fr was out HS.out)
        generalize pNormal (a + dA x.f1) (b + dB x.f1) = is at *
        cases is <;> cases was
        · go_wp2_with fail
          go_roundw
          case rel => exact ⟨i + 1, a + dA x.f1, b + dB x.f1, fr, false, out, by go_num, rfl, rfl, by omega, by omega, HAB2, HI6, HO6, HB7, Lib.hid (by rw [← HE.out, HD.out, HQ.out]; rfl)⟩
          case measure => simp [intOf]; omega
        · go_wp2_with (at_builtin; refine Kd.R_append k23 (w0 := w3) w3.heap.size rfl (.tmp 62) (.tmp 67) 29 23 (.agg #[(.int .i64 0), (.int .i64 0)]) 16 rfl Try.underlying29 info23 rfl (by decide) (by omega) u8 out (⟨fr, x.f0⟩ : S23) [.int .i64 fr, .int .i64 x.f0] (fun k => True ∧ k ≠ g) (fun _ => False) rfl rfl ?aP (fun _ hk => hk.elim) ?aF ?aO ?aB ?aS ?aL ?_; (case aP => exact k23_mkM _ _ _ (⟨fr, x.f0⟩ : S23)); (case aF => exact fun k hk => ⟨trivial, fun h => by have := HI6.out.lt; omega⟩); (case aO => exact HI6.out.apart HO6.out (by decide)); (case aB => exact HB7.out); (case aS => exact HB7.out.size); (case aL => omega); intro v1 w7 hro hb hgw hat; have HO8 := Lib.hid (Kd.R_mono (ok' := fun _ => True) hro (fun _ _ => trivial)); have HB8 := Lib.hid hb; have HI8 := Lib.hid (HI6.out.grown hgw (HI6.out.own_ne HO6.out (by decide))); clear hro hb hgw hat)
          go_roundw
          case rel => exact ⟨i + 1, a + dA x.f1, b + dB x.f1, fr, false, out ++ [⟨fr, x.f0⟩], by go_num, rfl, rfl, by omega, by simp; omega, HAB2, HI8, HO8, HB8, Lib.hid (by rw [← HE.out, HD.out, HQ.out]; rfl)⟩
          case measure => simp [intOf]; omega
        · go_wp2_with fail
          go_roundw
          case rel => exact ⟨i + 1, a + dA x.f1, b + dB x.f1, x.f0, true, out, by go_num, rfl, rfl, by omega, by omega, HAB2, HI6, HO6, HB7, Lib.hid (by rw [← HE.out, HD.out, HQ.out]; rfl)⟩
          case measure => simp [intOf]; omega
        · go_wp2_with fail
          go_roundw
          case rel => exact ⟨i + 1, a + dA x.f1, b + dB x.f1, fr, true, out, by go_num, rfl, rfl, by omega, by omega, HAB2, HI6, HO6, HB7, Lib.hid (by rw [← HE.out, HD.out, HQ.out]; rfl)⟩
          case measure => simp [intOf]; omega
    · go_wp2
      go_ret
      have hin : i = n := by omega
      subst hin
      have e3 := HE.out
      rw [List.drop_eq_nil_of_le (by rw [HN.out]; exact Nat.le_refl _)] at e3
      refine ⟨_, rfl, ?_, HB3.out.trans (HB.out.mono HB3.out.size)⟩
      have e4 := swept_eq pNormal rfl l0 l1 ys HP.out HR.out
      rw [← e4, ← e3]
      exact Kd.R_lower HO.out HB3.out.size
end Go.Proofs.Ytafpmcmpkgbgaaa.Pr
