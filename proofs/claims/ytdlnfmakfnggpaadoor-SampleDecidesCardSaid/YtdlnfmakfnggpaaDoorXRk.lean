/- spoorref04's Key and Value, by hand. -/
import Derived.Test.YtdlnfmakfnggpaaDoorXQt
import Derived.Test.YtdlnfmakfnggpaaDoorMg
import Derived.Test.YtdlnfmakfnggpaaDoorMw
namespace Go.Proofs.YtdlnfmakfnggpaaDoor.Pr
open Go.RowKit Go.Proofs.YtdlnfmakfnggpaaDoorW.PrintWords Go.Proofs.YtdlnfmakfnggpaaDoorW.PrintMore Mg
set_option linter.unusedVariables false
set_option linter.unusedSimpArgs false
def LetW (c : Int) (m1 m2 m3 m4 m5 m6 m7 b : Bool) : Prop := decide (97 ≤ c) = m1 ∧ decide (c ≤ 122) = m2 ∧ decide (48 ≤ c) = m3 ∧ decide (c ≤ 57) = m4 ∧ (c == 46) = m5 ∧ (c == 95) = m6 ∧ (c == 45) = m7 ∧ letB c = b
theorem letB_ways (c : Int) : LetW c true true true false false false false true ∨ LetW c true false true false false false false false ∨ LetW c false true true false false true false true ∨ LetW c false true true false false false false false ∨
    LetW c false true true true false false false true ∨ LetW c false true false true true false false true ∨ LetW c false true false true false false true true ∨ LetW c false true false true false false false false := by
  have mk : ∀ {m1 m2 m3 m4 m5 m6 m7 b : Bool}, decide (97 ≤ c) = m1 → decide (c ≤ 122) = m2 → decide (48 ≤ c) = m3 → decide (c ≤ 57) = m4 → (c == 46) = m5 → (c == 95) = m6 → (c == 45) = m7 → (m1 && m2 || m3 && m4 || m5 || m6 || m7) = b → LetW c m1 m2 m3 m4 m5 m6 m7 b := fun h1 h2 h3 h4 h5 h6 h7 h => ⟨h1, h2, h3, h4, h5, h6, h7, by unfold letB; rw [h1, h2, h3, h4, h5, h6, h7]; exact h⟩
  have hw : (97 ≤ c ∧ c ≤ 122) ∨ (122 < c) ∨ (c = 95) ∨ ((57 < c ∧ c < 97) ∧ c ≠ 95) ∨ (48 ≤ c ∧ c ≤ 57) ∨ (c = 46) ∨ (c = 45) ∨ ((c < 48 ∧ c ≠ 46) ∧ c ≠ 45) := by omega
  rcases hw with h | h | h | h | h | h | h | h
  · exact .inl (mk (decide_eq_true (by omega)) (decide_eq_true (by omega)) (decide_eq_true (by omega)) (decide_eq_false (by omega)) (beq_eq_false_iff_ne.2 (by omega)) (beq_eq_false_iff_ne.2 (by omega)) (beq_eq_false_iff_ne.2 (by omega)) rfl)
  · exact .inr (.inl (mk (decide_eq_true (by omega)) (decide_eq_false (by omega)) (decide_eq_true (by omega)) (decide_eq_false (by omega)) (beq_eq_false_iff_ne.2 (by omega)) (beq_eq_false_iff_ne.2 (by omega)) (beq_eq_false_iff_ne.2 (by omega)) rfl))
  · exact .inr (.inr (.inl (mk (decide_eq_false (by omega)) (decide_eq_true (by omega)) (decide_eq_true (by omega)) (decide_eq_false (by omega)) (beq_eq_false_iff_ne.2 (by omega)) (beq_iff_eq.2 (by omega)) (beq_eq_false_iff_ne.2 (by omega)) rfl)))
  · exact .inr (.inr (.inr (.inl (mk (decide_eq_false (by omega)) (decide_eq_true (by omega)) (decide_eq_true (by omega)) (decide_eq_false (by omega)) (beq_eq_false_iff_ne.2 (by omega)) (beq_eq_false_iff_ne.2 (by omega)) (beq_eq_false_iff_ne.2 (by omega)) rfl))))
  · exact .inr (.inr (.inr (.inr (.inl (mk (decide_eq_false (by omega)) (decide_eq_true (by omega)) (decide_eq_true (by omega)) (decide_eq_true (by omega)) (beq_eq_false_iff_ne.2 (by omega)) (beq_eq_false_iff_ne.2 (by omega)) (beq_eq_false_iff_ne.2 (by omega)) rfl)))))
  · exact .inr (.inr (.inr (.inr (.inr (.inl (mk (decide_eq_false (by omega)) (decide_eq_true (by omega)) (decide_eq_false (by omega)) (decide_eq_true (by omega)) (beq_iff_eq.2 (by omega)) (beq_eq_false_iff_ne.2 (by omega)) (beq_eq_false_iff_ne.2 (by omega)) rfl))))))
  · exact .inr (.inr (.inr (.inr (.inr (.inr (.inl (mk (decide_eq_false (by omega)) (decide_eq_true (by omega)) (decide_eq_false (by omega)) (decide_eq_true (by omega)) (beq_eq_false_iff_ne.2 (by omega)) (beq_eq_false_iff_ne.2 (by omega)) (beq_iff_eq.2 (by omega)) rfl)))))))
  · exact (.inr (.inr (.inr (.inr (.inr (.inr (.inr (mk (decide_eq_false (by omega)) (decide_eq_true (by omega)) (decide_eq_false (by omega)) (decide_eq_true (by omega)) (beq_eq_false_iff_ne.2 (by omega)) (beq_eq_false_iff_ne.2 (by omega)) (beq_eq_false_iff_ne.2 (by omega)) rfl))))))))
set_option maxHeartbeats 4000000 in
theorem key_run (s : ByteArray) (w : World) (hs : s.size ≤ 140737488351232) : Calls Tryd.prog 94 #[.string s] w (BoolPost w (keyF s)) := by
  have hx0 : ∀ h : 0 < s.size, ((s[0]'h).toNat : Int) = bt s 0 := bt_at s 0
  have p0 : (0 : Int) ≤ 0 := Int.le_refl _
  by_cases h1 : 0 < s.size
  case neg =>
    have hv := Lib.hid (show keyF s = false by unfold keyF; rw [decide_eq_false h1]; rfl)
    have c1 : decide ((s.size : Int) < 1) = true := decide_eq_true (by omega)
    go_enter Tryd.func94, Tryd.ntmps94
    go_wp2_with fail
    go_ret
    exact ⟨by rw [hv.out]; rfl, Below.refl _ _⟩
  have c1 : decide ((s.size : Int) < 1) = false := decide_eq_false (by omega)
  have c1' : decide (s.size < 1) = false := decide_eq_false (by omega)
  by_cases h2 : (s.size : Int) ≤ 40
  case neg =>
    have hv := Lib.hid (show keyF s = false by unfold keyF; rw [decide_eq_false h2, Bool.and_false]; rfl)
    have c2 : decide ((40 : Int) < (s.size : Int)) = true := decide_eq_true (by omega)
    go_enter Tryd.func94, Tryd.ntmps94
    go_wp2_with fail
    go_ret
    exact ⟨by rw [hv.out]; rfl, Below.refl _ _⟩
  have c2 : decide ((40 : Int) < (s.size : Int)) = false := decide_eq_false (by omega)
  have c2' : decide (40 < s.size) = false := decide_eq_false (by omega)
  have p1 : (0 : Int) < (s.size : Int) := by omega
  by_cases h3 : 97 ≤ bt s 0
  case neg =>
    have hv := Lib.hid (show keyF s = false by unfold keyF; rw [decide_eq_false h3, Bool.false_and, Bool.and_false]; rfl)
    have c3 : decide (bt s 0 < 97) = true := decide_eq_true (by omega)
    go_enter Tryd.func94, Tryd.ntmps94
    go_wp2_with fail
    go_ret
    exact ⟨by rw [hv.out]; rfl, Below.refl _ _⟩
  have c3 : decide (bt s 0 < 97) = false := decide_eq_false (by omega)
  by_cases h4 : bt s 0 ≤ 122
  case neg =>
    have hv := Lib.hid (show keyF s = false by unfold keyF; rw [decide_eq_false h4, Bool.and_false, Bool.and_false]; rfl)
    have c4 : decide (122 < bt s 0) = true := decide_eq_true (by omega)
    go_enter Tryd.func94, Tryd.ntmps94
    go_wp2_with fail
    go_ret
    exact ⟨by rw [hv.out]; rfl, Below.refl _ _⟩
  have c4 : decide (122 < bt s 0) = false := decide_eq_false (by omega)
  have hv : Hid (keyF s = keyTo s s.size) := Lib.hid (by unfold keyF; rw [decide_eq_true h1, decide_eq_true h2, decide_eq_true h3, decide_eq_true h4]; rfl)
  go_enter Tryd.func94, Tryd.ntmps94
  go_wp2_with fail
  clear c1 c2 c3 c4 c1' c2' hx0 h3 h4
  go_loop [3] (fun v3 => ∃ k : Nat, v3 = .int .i64 k ∧ k ≤ s.size ∧ Hid (keyTo s k = true)) (fun v3 => s.size - (intOf v3).toNat)
  case atStart => exact ⟨0, rfl, Nat.zero_le _, Lib.hid rfl⟩
  case round =>
    obtain ⟨k, rfl, hk, HK⟩ := hrel
    by_cases hlt : k < s.size
    · have hlk : (k : Int) < (s.size : Int) := by omega
      have hx : ∀ h : k < s.size, ((s[k]'h).toNat : Int) = bt s k := bt_at s (k : Int)
      have HL := Lib.hid (show keyTo s (k + 1) = letB (bt s k) by simp only [keyTo, HK.out, Bool.true_and])
      have HN := Lib.hid (fun h : letB (bt s k) = false => keyTo_false h s.size hlt)
      generalize bt s (k : Int) = c at *
      rcases letB_ways c with h | h | h | h | h | h | h | h
      all_goals
        obtain ⟨e1, e2, e3, e4, e5, e6, e7, hB⟩ := h
        have HB := Lib.hid hB
        clear hB
        go_wp2_with fail
        first
        | (go_ret
           exact ⟨by rw [hv.out, HN.out HB.out]; rfl, Below.refl _ _⟩)
        | (go_round
           case rel => exact ⟨k + 1, by go_num, by omega, Lib.hid (by rw [HL.out, HB.out])⟩
           case measure => simp [intOf]; omega)
    · obtain rfl : k = s.size := by omega
      go_wp2_with fail
      go_ret
      exact ⟨by rw [hv.out, HK.out]; rfl, Below.refl _ _⟩
theorem rplain_run (s : ByteArray) (most fr : Int) (w : World) (hs : s.size ≤ 140737488351232) : Calls Tryd.prog 62 #[.string s, .int .i64 most, .int .u8 fr] w (BoolPost w (plainF s most fr)) :=
  (spoorref04_Plain.calls _ s most fr _ w (plain_eq s most fr hs 0)).mono fun e w' h => by
    obtain ⟨rfl, n, rfl⟩ := h
    exact ⟨rfl, pw_below_drewN (Below.refl _ _) _⟩
theorem bad_run (s : ByteArray) (hs : s.size ≤ 140737488351232) : ∃ r : Int, (decide (r < 0) = Lib.validD s.data.toList) ∧ ∀ w, Calls Tryd.prog 76 #[.string s] w fun e w' => e = .returned (.int .i64 r) ∧ Below w.heap.size w w' := by
  obtain ⟨r, hr, hv⟩ := bad_loop s hs 0 s.size 0 (by omega) (by omega)
  refine ⟨r, ?_, fun w => (spoorref01_Bad.calls _ s r w hr).mono fun e w' h => ?_⟩
  · rw [List.drop_zero] at hv
    cases hd : Lib.validD s.data.toList with
    | true => rw [hd] at hv; have : ¬ r ≥ 0 := by simpa using hv
              simp; omega
    | false => rw [hd] at hv; have : r ≥ 0 := by simpa using hv
               simp; omega
  · obtain ⟨rfl, n, rfl⟩ := h
    exact ⟨rfl, pw_below_drewN (Below.refl _ _) _⟩
theorem bp_of {w W : World} {b c : Bool} (hb : Below w.heap.size w W) (h : c = b) : BoolPost w c (.returned (.bool b)) W := ⟨by rw [h], hb⟩
set_option maxHeartbeats 4000000 in
theorem value_run (kd : Int) (s : ByteArray) (n : Int) (w : World) (hs : s.size ≤ 140737488351232) : Calls Tryd.prog 95 #[.agg #[.int .i64 kd, .string s, .int .i64 n]] w (BoolPost w (valF kd s n)) := by
  have hB := Lib.hid (below_alloc (Below.refl w.heap.size w) (.cells #[.int .i64 kd, .string s, .int .i64 n] 118))
  by_cases k0 : kd = 0
  · subst k0
    have hv := Lib.hid (show valF 0 s n = (n == 0 && (decide ((s.size : Int) ≤ 200) && Lib.validD s.data.toList)) from rfl)
    obtain ⟨r, hr, hb⟩ := bad_run s hs
    have HR := Lib.hid hr
    have HC := Lib.hid hb
    clear hr hb
    by_cases h0 : n = 0
    · subst h0
      have c0 : ((0 : Int) == 0) = true := rfl
      by_cases h1 : (s.size : Int) ≤ 200
      · have c1 : decide ((s.size : Int) ≤ 200) = true := decide_eq_true h1
        go_enter Tryd.func95, Tryd.ntmps95
        go_wp2_with fail
        refine (HC.out _).mono ?_
        rintro e w1 ⟨rfl, hb⟩
        go_wp2_with fail
        go_ret
        exact bp_of (hB.out.trans (hb.mono hB.out.size)) (by rw [hv.out, c0, c1, ← HR.out]; rfl)
      · have c1 : decide ((s.size : Int) ≤ 200) = false := decide_eq_false h1
        go_enter Tryd.func95, Tryd.ntmps95
        go_wp2_with fail
        go_ret
        exact bp_of hB.out (by rw [hv.out, c0, c1]; rfl)
    · have c0 : (n == 0) = false := beq_eq_false_iff_ne.2 h0
      go_enter Tryd.func95, Tryd.ntmps95
      go_wp2_with fail
      go_ret
      exact bp_of hB.out (by rw [hv.out, c0]; rfl)
  have d0 : (kd == 0) = false := beq_eq_false_iff_ne.2 k0
  obtain ⟨eb, he⟩ : ∃ b, s.toList.isEmpty = b := ⟨_, rfl⟩
  have he2 : Hid (decide (s.size = 0) = eb) := Lib.hid (by rw [← he, Bool.eq_iff_iff, decide_eq_true_eq, List.isEmpty_iff]; exact (empty_iff s).symm)
  by_cases k1 : kd = 1
  · subst k1
    have hv := Lib.hid (show valF 1 s n = decide (s.size = 0) from rfl)
    go_enter Tryd.func95, Tryd.ntmps95
    go_wp2_with fail
    go_ret
    exact bp_of hB.out (by rw [hv.out, he2.out])
  have d1 : (kd == 1) = false := beq_eq_false_iff_ne.2 k1
  by_cases k2 : kd = 2
  · subst k2
    have hv := Lib.hid (show valF 2 s n = (decide (s.size = 0) && (n == 0 || n == 1)) from rfl)
    cases eb with
    | false =>
      go_enter Tryd.func95, Tryd.ntmps95
      go_wp2_with fail
      go_ret
      exact bp_of hB.out (by rw [hv.out, he2.out]; rfl)
    | true =>
      by_cases n0 : 0 ≤ n
      · have c0 : decide (0 ≤ n) = true := decide_eq_true n0
        have hn : Hid ((n == 0 || n == 1) = decide (n ≤ 1)) := Lib.hid (by
          rw [Bool.eq_iff_iff, Bool.or_eq_true, beq_iff_eq, beq_iff_eq, decide_eq_true_eq]; omega)
        go_enter Tryd.func95, Tryd.ntmps95
        go_wp2_with fail
        go_ret
        exact bp_of hB.out (by rw [hv.out, he2.out, hn.out]; rfl)
      · have c0 : decide (0 ≤ n) = false := decide_eq_false n0
        have hn : Hid ((n == 0 || n == 1) = false) := Lib.hid (by
          rw [Bool.or_eq_false_iff, beq_eq_false_iff_ne, beq_eq_false_iff_ne]; omega)
        go_enter Tryd.func95, Tryd.ntmps95
        go_wp2_with fail
        go_ret
        exact bp_of hB.out (by rw [hv.out, he2.out, hn.out]; rfl)
  have d2 : (kd == 2) = false := beq_eq_false_iff_ne.2 k2
  have hv := Lib.hid (show valF kd s n = false by unfold valF; rw [if_neg k0, if_neg k1, if_neg k2])
  go_enter Tryd.func95, Tryd.ntmps95
  go_wp2_with fail
  go_ret
  exact bp_of hB.out (by rw [hv.out])
end Go.Proofs.YtdlnfmakfnggpaaDoor.Pr
