/- spoorref04.Plain answers plainF; spoorref21.Check answers polF. -/
import Derived.Test.YtdlnfmakfnggpaaDoorMv
import Derived.Test.YtdlnfmakfnggpaaDoorXCs
import Derived.Test.YtdlnfmakfnggpaaDoorPr0g
namespace Go.Proofs.YtdlnfmakfnggpaaDoor.Pr
open Go.RowKit Go.Lib Go.Proofs.YtdlnfmakfnggpaaDoorW.PrintWords Go.Proofs.YtdlnfmakfnggpaaDoorW.PrintLast
set_option linter.unusedVariables false
set_option linter.unusedSimpArgs false
theorem check_some {n b1 b2 b3 sz lo hi k : Nat} (h : checkN n b1 b2 b3 sz lo hi = some k) : 2 ≤ k ∧ k ≤ n := by
  unfold checkN at h
  by_cases e2 : sz = 2
  · rw [if_pos e2] at h
    by_cases c : n < 2 ∨ b1 < lo ∨ hi < b1
    · rw [if_pos c] at h; cases h
    · rw [if_neg c] at h; cases h; omega
  rw [if_neg e2] at h
  by_cases e3 : sz = 3
  · rw [if_pos e3] at h
    by_cases c : n < 3 ∨ b1 < lo ∨ hi < b1 ∨ b2 < 128 ∨ 191 < b2
    · rw [if_pos c] at h; cases h
    · rw [if_neg c] at h; cases h; omega
  rw [if_neg e3] at h
  by_cases e4 : sz = 4
  · rw [if_pos e4] at h
    by_cases c : n < 4 ∨ b1 < lo ∨ hi < b1 ∨ b2 < 128 ∨ 191 < b2 ∨ b3 < 128 ∨ 191 < b3
    · rw [if_pos c] at h; cases h
    · rw [if_neg c] at h; cases h; omega
  · rw [if_neg e4] at h; cases h
theorem runeN_le {n b0 b1 b2 b3 : Nat} (hn : 0 < n) : runeN n b0 b1 b2 b3 ≤ n := by
  unfold runeN
  by_cases c : b0 < 128
  · rw [if_pos c]; omega
  · rw [if_neg c]
    cases h : checkN n b1 b2 b3 (firstT b0 % 8) (accLo (firstT b0 / 16)) (accHi (firstT b0 / 16)) with
    | none => simp
    | some k => have := check_some h; simp; omega
def rn (s : ByteArray) (a : Nat) : Nat := runeN (s.size - a) (by' s a) (by' s (a + 1)) (by' s (a + 2)) (by' s (a + 3))
theorem getD_drop (l : List UInt8) (a i : Nat) : (l.drop a).getD i 0 = l.getD (a + i) 0 := by
  simp [List.getD_eq_getElem?_getD]
theorem valid_rune (s : ByteArray) (a : Nat) (ha : a < s.size) : validD (s.data.toList.drop a) = if rn s a = 0 then false else validD (s.data.toList.drop (a + rn s a)) := by
  have hlen : s.data.toList.length = s.size := rfl
  have hne : s.data.toList.drop a ≠ [] := by intro h; have := congrArg List.length h; simp at this; omega
  by_cases c : by' s a < 128
  · have e : rn s a = 1 := by unfold rn runeN; rw [if_pos c]
    rw [e, if_neg (by decide), List.drop_eq_getElem_cons (by omega : a < s.data.toList.length)]
    refine validD_cons _ _ ?_
    have : by' s a = (s.data.toList[a]'(by omega)).toNat := by unfold by'; rw [List.getD_eq_getElem?_getD, List.getElem?_eq_getElem (by omega)]; rfl
    omega
  · have h0 : 128 ≤ ((s.data.toList.drop a).getD 0 0).toNat := by rw [getD_drop]; exact Nat.not_lt.1 c
    rw [validD_lead _ hne h0, getD_drop, getD_drop, getD_drop, getD_drop, List.length_drop, hlen]
    have e : rn s a = (checkN (s.size - a) (by' s (a + 1)) (by' s (a + 2)) (by' s (a + 3)) (firstT (by' s a) % 8) (accLo (firstT (by' s a) / 16)) (accHi (firstT (by' s a) / 16))).getD 0 := by
      unfold rn runeN; rw [if_neg c]
    show (match checkN (s.size - a) (by' s (a + 1)) (by' s (a + 2)) (by' s (a + 3)) (firstT (by' s a) % 8) (accLo (firstT (by' s a) / 16)) (accHi (firstT (by' s a) / 16)) with | none => false | some k => validD (List.drop k (List.drop a s.data.toList))) = _
    rw [e]
    cases h : checkN (s.size - a) (by' s (a + 1)) (by' s (a + 2)) (by' s (a + 3)) (firstT (by' s a) % 8) (accLo (firstT (by' s a) / 16)) (accHi (firstT (by' s a) / 16)) with
    | none => rfl
    | some k =>
      have hk := check_some h
      simp only [Option.getD_some]
      rw [if_neg (by omega), List.drop_drop]
theorem bad_eq (k : Nat) (s : ByteArray) (x : Int) : spoorref01_Bad.l0 (k + 1) s x = if x < (s.size : Int) then ((spoorref01_Rune.f k s x).bind fun t187 => (if t187 = 0 then (some x) else (spoorref01_Bad.l0 k s (wrap64 (x + t187))))) else (some (-1)) := by
  rw [spoorref01_Bad.l0]
theorem bad_loop (s : ByteArray) (hs : s.size ≤ 140737488351232) (m : Nat) : ∀ (d a : Nat), a ≤ s.size → s.size - a ≤ d → ∃ r, spoorref01_Bad.l0 (d + 13 + m) s (a : Int) = some r ∧ (decide (r ≥ 0)) = !validD (s.data.toList.drop a) := by
  intro d
  induction d with
  | zero =>
    intro a ha hd
    obtain rfl : a = s.size := by omega
    refine ⟨-1, ?_, ?_⟩
    · rw [show 0 + 13 + m = (12 + m) + 1 by omega, bad_eq, if_neg (by omega)]
    · rw [List.drop_of_length_le (Nat.le_refl s.size), validD_nil]; rfl
  | succ d ih =>
    intro a ha hd
    rw [show d + 1 + 13 + m = (d + 13 + m) + 1 by omega, bad_eq]
    by_cases hlt : a < s.size
    · have hr := rune_eq (d + 1 + m) s a hlt hs
      rw [if_pos (by omega), show d + 13 + m = d + 1 + m + 12 by omega, hr, Option.bind_some, valid_rune s a hlt]
      have hle : rn s a ≤ s.size - a := runeN_le (by omega)
      show ∃ r, (if ((rn s a : Nat) : Int) = 0 then some (a : Int) else spoorref01_Bad.l0 (d + 1 + m + 12) s (wrap64 ((a : Int) + ((rn s a : Nat) : Int)))) = some r ∧ _
      generalize rn s a = q at *
      by_cases h0 : q = 0
      · rw [if_pos (by omega), if_pos h0]
        exact ⟨a, rfl, by rw [decide_eq_true (by omega)]; rfl⟩
      · rw [if_neg (by omega), if_neg h0, w64 (by omega) (by omega), show (a : Int) + (q : Int) = ((a + q : Nat) : Int) by omega, show d + 1 + m + 12 = d + 13 + m by omega]
        exact ih (a + q) (by omega) (by omega)
    · obtain rfl : a = s.size := by omega
      rw [if_neg (by omega), List.drop_of_length_le (Nat.le_refl s.size), validD_nil]
      exact ⟨-1, rfl, rfl⟩
theorem pl0_eq (k : Nat) (s : ByteArray) (fr x : Int) : spoorref04_Plain.l0 (k + 1) s fr x = if x < (s.size : Int) then (if 0 ≤ x then (if (bt s x) < fr then (some false) else (if (bt s x) = 127 then (some false) else (spoorref04_Plain.l0 k s fr (wrap64 (x + 1))))) else (none)) else (some true) := by
  rw [spoorref04_Plain.l0]
theorem plain_loop (s : ByteArray) (fr : Int) (hs : s.size ≤ 140737488351232) (m : Nat) : ∀ (d i : Nat), i + d = s.size → okTo s fr i = true → spoorref04_Plain.l0 (d + 1 + m) s fr (i : Int) = some (okTo s fr s.size) := by
  intro d
  induction d with
  | zero =>
    intro i hi ho
    obtain rfl : i = s.size := by omega
    rw [show 0 + 1 + m = m + 1 by omega, pl0_eq, if_neg (by omega), ho]
  | succ d ih =>
    intro i hi ho
    rw [show d + 1 + 1 + m = (d + 1 + m) + 1 by omega, pl0_eq, if_pos (by omega), if_pos (by omega)]
    by_cases c1 : bt s (i : Int) < fr
    · rw [if_pos c1, okTo_false (s := s) (fr := fr) (k := i) (by simp [byteOK, c1]) _ (by omega)]
    rw [if_neg c1]
    by_cases c2 : bt s (i : Int) = 127
    · rw [if_pos c2, okTo_false (s := s) (fr := fr) (k := i) (by simp [byteOK, c2]) _ (by omega)]
    rw [if_neg c2, w64 (by omega) (by omega), show (i : Int) + 1 = ((i + 1 : Nat) : Int) by omega]
    exact ih (i + 1) (by omega) (by simp [okTo, ho, byteOK, c1, c2])
theorem pj0_eq (k : Nat) (s : ByteArray) (fr : Int) (b : Bool) : spoorref04_Plain.j0 (k + 1) s fr b = if b = true then (some false) else (spoorref04_Plain.l0 k s fr 0) := by rw [spoorref04_Plain.j0]
theorem plain_eq (s : ByteArray) (most fr : Int) (hs : s.size ≤ 140737488351232) (m : Nat) : spoorref04_Plain.f (s.size + 13 + m) s most fr = some (plainF s most fr) := by
  unfold spoorref04_Plain.f plainF
  by_cases h0 : 0 < s.size
  · rw [if_neg (by omega), decide_eq_true h0, Bool.true_and]
    by_cases h1 : (s.size : Int) ≤ most
    · rw [if_neg (by omega), decide_eq_true h1, Bool.true_and]
      obtain ⟨r, hr, hd⟩ := bad_loop s hs m s.size 0 (Nat.zero_le _) (by omega)
      rw [List.drop_zero] at hd
      unfold spoorref01_Bad.f
      rw [show ((0 : Nat) : Int) = 0 from rfl] at hr
      rw [hr, Option.bind_some, hd, show s.size + 13 + m = (s.size + 12 + m) + 1 by omega, pj0_eq]
      cases validD s.data.toList with
      | false => rfl
      | true =>
        rw [if_neg (by decide), Bool.true_and, show s.size + 12 + m = s.size + 1 + (11 + m) by omega]
        exact plain_loop s fr hs (11 + m) s.size 0 (by omega) rfl
    · rw [if_pos (by omega), decide_eq_false h1, show s.size + 13 + m = (s.size + 12 + m) + 1 by omega, pj0_eq, if_pos rfl]; rfl
  · rw [if_pos (by omega), decide_eq_false h0, show s.size + 13 + m = (s.size + 12 + m) + 1 by omega, pj0_eq, if_pos rfl]; rfl
theorem nil_eq (l : List UInt8) : (l == ([] : List UInt8)) = l.isEmpty := by cases l <;> rfl
set_option maxHeartbeats 2000000 in
theorem may_eq (kd na : Int) (nm : ByteArray) (pt : Int) (hs : nm.size ≤ 140737488351232) (m : Nat) : spoorref21_may.f (nm.size + 14 + m) kd na nm pt = some (mayF kd na nm pt) := by
  unfold spoorref21_may.f
  have hp := plain_eq nm 60 33 hs m
  rw [show nm.size + 14 + m = (nm.size + 13 + m) + 1 by omega, spoorref21_may.j0, spoorref21_may.j0, hp]
  simp only [Option.bind_some, nil_eq]
  unfold mayF
  generalize nm.toList.isEmpty = e
  generalize plainF nm 60 33 = b
  clear hp hs
  by_cases h1 : kd < 0
  · simp [h1]
  by_cases h2 : 4 < kd
  · simp [h1, h2]
  by_cases c4 : kd = 4
  · subst c4
    by_cases c3 : 0 < pt
    · have c2 : ¬ pt = 0 := by omega
      have c8 : 0 ≤ pt := by omega
      by_cases c1 : na = 0 <;> by_cases c5 : pt ≤ 65536 <;> cases e <;> simp [c1, c2, c3, c5, c8]
    · by_cases c2 : pt = 0
      · subst c2
        by_cases c1 : na = 0 <;> cases e <;> simp [c1]
      · have c8 : ¬ 0 ≤ pt := by omega
        by_cases c1 : na = 0 <;> cases e <;> simp [c1, c2, c3, c8]
  by_cases c6 : kd = 3
  · subst c6
    by_cases c1 : na = 0 <;> by_cases c2 : pt = 0 <;> cases b <;> simp [c1, c2]
  by_cases c7 : kd = 2
  · subst c7
    by_cases c1 : na = 0 <;> by_cases c2 : pt = 0 <;> cases e <;> simp [c1, c2]
  · by_cases c1 : na = 0 <;> by_cases c2 : pt = 0 <;> cases e <;> simp [c1, c2, c4, c6, c7, h1, h2]
theorem chk_eq (k : Nat) (l : List S30) (x : Int) : spoorref21_Check.l0 (k + 1) l x = if x < (l.length : Int) then (if 0 ≤ x then ((spoorref21_may.f k ((rd_T30 l x).f0) ((rd_T30 l x).f1) ((rd_T30 l x).f2) ((rd_T30 l x).f3)).bind fun t199 => (if t199 = true then (spoorref21_Check.l0 k l (wrap64 (x + 1))) else (some 211))) else (none)) else (some 0) := by
  rw [spoorref21_Check.l0]
theorem chk_loop (l : List S30) (hl : l.length ≤ 140737488351232) (ho : ∀ x ∈ l, x.f2.size ≤ 140737488351232) : ∀ (d i : Nat), i + d = l.length → spoorref21_Check.l0 (d + 140737488351247) l (i : Int) = some (if ((l.drop i).any fun x => !mayS x) = true then 211 else 0) := by
  intro d
  induction d with
  | zero =>
    intro i hi
    obtain rfl : i = l.length := by omega
    rw [show 0 + 140737488351247 = 140737488351246 + 1 from rfl, chk_eq, if_neg (by omega), List.drop_of_length_le (Nat.le_refl _)]
    rfl
  | succ d ih =>
    intro i hi
    rw [show d + 1 + 140737488351247 = (d + 140737488351247) + 1 by omega, chk_eq, if_pos (by omega), if_pos (by omega)]
    have hil : i < l.length := by omega
    have e : rd_T30 l (i : Int) = l[i] := by simp [rd_T30, List.getD, hil]
    have hz := ho (rd_T30 l i) (by rw [e]; exact List.getElem_mem hil)
    have hm := may_eq (rd_T30 l i).f0 (rd_T30 l i).f1 (rd_T30 l i).f2 (rd_T30 l i).f3 hz (d + 140737488351247 - 14 - (rd_T30 l i).f2.size)
    rw [show (rd_T30 l i).f2.size + 14 + (d + 140737488351247 - 14 - (rd_T30 l i).f2.size) = d + 140737488351247 by omega] at hm
    rw [hm, Option.bind_some, List.drop_eq_getElem_cons hil, List.any_cons, ← e, show mayF (rd_T30 l i).f0 (rd_T30 l i).f1 (rd_T30 l i).f2 (rd_T30 l i).f3 = mayS (rd_T30 l i) from rfl]
    cases mayS (rd_T30 l i) with
    | false => rfl
    | true =>
      rw [if_pos rfl, w64 (by omega) (by omega), show (i : Int) + 1 = ((i + 1 : Nat) : Int) by omega, ih (i + 1) (by omega)]
      rfl
theorem refcheck_eq (l : List S30) (hl : l.length ≤ 140737488351232) (ho : ∀ x ∈ l, x.f2.size ≤ 140737488351232) : spoorref21_Check.f (l.length + 140737488351247) l = some (polF l) := by
  unfold spoorref21_Check.f polF
  by_cases h : 20 < l.length
  · rw [if_pos (by omega), if_pos h]
  · rw [if_neg (by omega), if_neg h]
    have := chk_loop l hl ho l.length 0 (by omega)
    rw [List.drop_zero] at this
    exact this
end Go.Proofs.YtdlnfmakfnggpaaDoor.Pr
