/- The chapter's example holds. -/
import Derived.Test.YtofbnoiecpmjnaaHf
namespace Go.Proofs.Ytofbnoiecpmjnaa.Pr
open Go.RowKit Go.Proofs.YtofbnoiecpmjnaaW.PrintWords Go.Proofs.YtofbnoiecpmjnaaW.PrintLast Go.Proofs.YtofbnoiecpmjnaaW.PrintMore Go.MuLone
open Go.Lib
set_option linter.unusedVariables false
set_option linter.unusedSimpArgs false
theorem made_mu (n : Int) (W : World) : IsMu (((W.alloc muObj).alloc (chObj false)).alloc (.cells ((newSR n (W.heap.size + 1)).cells W.heap.size) 70)) W.heap.size := by
  have h := heap_alloc_new W muObj
  exact (heap_alloc_lt _ _ (by simp; omega)).trans ((heap_alloc_lt _ _ (by simp)).trans h)
theorem made_size (n : Int) (W : World) : (((W.alloc muObj).alloc (chObj false)).alloc (.cells ((newSR n (W.heap.size + 1)).cells W.heap.size) 70)).heap.size = W.heap.size + 3 := by simp
set_option maxHeartbeats 4000000 in
set_option maxRecDepth 100000 in
theorem alive_run (W : World) : Calls Try.prog 8 #[] W fun e w' => e = .returned (.bool true) ∧ Below W.heap.size W w' := by
  go_enter Try.func8, Try.ntmps8
  go_wp2_with fail
  refine (new_run 10 W (by omega)).mono ?_
  rintro e W1' ⟨rfl, rfl⟩
  obtain ⟨W1, hW1⟩ : ∃ W1, W1 = ((W.alloc muObj).alloc (chObj false)).alloc (.cells ((newSR 10 (W.heap.size + 1)).cells W.heap.size) 70) := ⟨_, rfl⟩
  have HM1 := Lib.hid (show IsMu W1 W.heap.size by rw [hW1]; exact made_mu 10 W)
  have HS1 := Lib.hid (show IsStop W1 W.heap.size (W.heap.size + 2) (newSR 10 (W.heap.size + 1)) by rw [hW1]; exact made_stop 10 W)
  have HZ1 := Lib.hid (show W1.heap.size = W.heap.size + 3 by rw [hW1]; exact made_size 10 W)
  have HB1 := Lib.hid (show Below W.heap.size W W1 by rw [hW1]; exact below_alloc (below_alloc (below_alloc (Below.refl _ _) _) _) _)
  rw [← hW1]
  clear hW1
  go_wp2_with fail
  refine (new_bad (-1) W1 (by omega)).mono ?_
  rintro e W1'' ⟨rfl, rfl⟩
  go_wp2_with fail
  refine (under_run W W.heap.size (W.heap.size + 2) (newSR 10 (W.heap.size + 1)) [] 3 _ (by omega) HM1.out HS1.out rfl (Kd.R_nil _ _ _ _ _) HB1.out (Nat.le_refl _) (by omega) (by simp)).mono ?_
  rintro e W2 ⟨v1, rfl, hm2, hs2, hn2, hc2, _, hb2, _, hz2, _⟩
  obtain ⟨a, ha⟩ : ∃ a, a = W.heap.size + 2 := ⟨_, rfl⟩
  obtain ⟨c, hcc⟩ : ∃ c, c = W1''.heap.size + 2 := ⟨_, rfl⟩
  have hac : a < c := by have := HZ1.out; omega
  have hma : W.heap.size < a := by omega
  have hch : W1''.heap.size + 1 ≠ W.heap.size ∧ W1''.heap.size + 1 ≠ a ∧ W1''.heap.size + 1 ≠ c ∧ W.heap.size ≤ W1''.heap.size + 1 := by have := HZ1.out; omega
  obtain ⟨k, hk⟩ : ∃ k, k = W1''.heap.size + 1 := ⟨_, rfl⟩
  rw [← ha] at hs2 hn2 ⊢
  rw [← hcc] at hn2 ⊢
  rw [← hk] at hn2 hc2 hch
  clear ha hcc hk hz2 HM1 HS1 HZ1 HB1
  have HS2 := Lib.hid hs2
  have HN2 := Lib.hid hn2
  have HC2 := Lib.hid hc2
  have HM2 := Lib.hid hm2
  have HB2 := Lib.hid hb2
  clear hs2 hn2 hc2 hm2 hb2
  go_wp2_with fail
  refine (spend_ok W W.heap.size 2 c (underSR a 3 k) [(a, { newSR 10 (W.heap.size + 1) with und := v1 })] W2 (by omega) HM2.out ⟨HN2.out, rfl, by simpa using hac, HS2.out, rfl, by simp, trivial⟩ rfl (by intro x hx; simp at hx; rcases hx with rfl | rfl <;> (intro _; simp [underSR, newSR])) HB2.out (Nat.le_refl _) (by intro x hx; simp at hx; rcases hx with rfl | rfl <;> simp <;> omega)).mono ?_
  rintro e W3 ⟨rfl, hm3, hs3, hk3, hz3, hb3⟩
  have HM3 := Lib.hid hm3
  have HN3 := Lib.hid (hs3 (c, underSR a 3 k) (by simp))
  have HS3 := Lib.hid (hs3 (a, { newSR 10 (W.heap.size + 1) with und := v1 }) (by simp))
  have HC3 := Lib.hid (show IsCh W3 k false from (hk3 k hch.1 (by intro x hx; simp at hx; rcases hx with rfl | rfl; exact hch.2.2.1; exact hch.2.1)).trans HC2.out)
  have HB3 := Lib.hid hb3
  clear hm3 hs3 hk3 hz3 hb3 HM2 HS2 HN2 HC2 HB2
  go_wp2_with fail
  refine (spend_short0 W W.heap.size 2 c (spent 2 (underSR a 3 k)) W3 (by omega) HM3.out HN3.out rfl rfl (show (3 - 2 : Int) < 2 by decide) rfl HC3.out HB3.out (Nat.le_refl _) (by omega) hch.2.2.2).mono ?_
  rintro e W4 ⟨rfl, hm4, hs4, hc4, hb4, hk4, hz4⟩
  have HM4 := Lib.hid hm4
  have HN4 := Lib.hid hs4
  have HS4 := Lib.hid (show IsStop W4 W.heap.size a (spent 2 { newSR 10 (W.heap.size + 1) with und := v1 }) from (hk4 a (by omega) (Ne.symm hch.2.1) (by omega)).trans HS3.out)
  have HB4 := Lib.hid hb4
  clear hm4 hs4 hc4 hb4 hk4 hz4 HM3 HN3 HS3 HC3 HB3
  go_wp2_with fail
  refine (why_run W.heap.size c _ W4 HM4.out HN4.out).mono ?_
  rintro e W5 ⟨rfl, rfl⟩
  have e1 : (cutSR (spent 2 (underSR a 3 k)) 31).why = 31 := rfl
  go_wp2_with fail
  refine (why_run W.heap.size a _ _ HM4.out HS4.out).mono ?_
  rintro e W6 ⟨rfl, rfl⟩
  have e2 : (spent 2 { newSR 10 (W.heap.size + 1) with und := v1 }).why = 0 := rfl
  go_wp2_with fail
  refine (left_run W.heap.size a _ _ HM4.out HS4.out).mono ?_
  rintro e W7 ⟨rfl, rfl⟩
  have e3 : (if (spent 2 { newSR 10 (W.heap.size + 1) with und := v1 }).bud = true then (spent 2 { newSR 10 (W.heap.size + 1) with und := v1 }).left else -1) = 8 := rfl
  rw [e3]
  go_wp2_with fail
  refine (left_run W.heap.size c _ _ HM4.out HN4.out).mono ?_
  rintro e W8 ⟨rfl, rfl⟩
  have e4 : (if (cutSR (spent 2 (underSR a 3 k)) 31).bud = true then (cutSR (spent 2 (underSR a 3 k)) 31).left else -1) = 1 := rfl
  rw [e4]
  go_wp2_with fail
  go_ret
  exact ⟨rfl, HB4.out⟩
end Go.Proofs.Ytofbnoiecpmjnaa.Pr
