/- The document's test of UTF-8 is the library's: spoorref04.Plain answers plainF. -/
import Derived.Test.YtdlnfmakfnggpaaDoorXPl
import Derived.Test.YtdlnfmakfnggpaaDoorPr0f
import Derived.Lib.ValidLaws
namespace Go.Proofs.YtdlnfmakfnggpaaDoor.Pr
open Go.RowKit Go.Lib Go.Proofs.YtdlnfmakfnggpaaDoorW.PrintWords Go.Proofs.YtdlnfmakfnggpaaDoorW.PrintLast
set_option linter.unusedVariables false
set_option linter.unusedSimpArgs false
theorem w64 {x : Int} (h : 0 ≤ x) (h' : x ≤ 9223372036854775807) : wrap64 x = x := by unfold wrap64; omega
def bw (s : ByteArray) (j lo hi : Int) : Bool := decide (j < (s.size : Int)) && decide (lo ≤ bt s j) && decide (bt s j ≤ hi)
theorem between_eq (s : ByteArray) (j lo hi : Int) (hj : 0 ≤ j) : spoorref01_between.f s j lo hi = some (bw s j lo hi) := by
  unfold spoorref01_between.f bw
  by_cases h : j < (s.size : Int)
  · rw [if_pos h, if_pos hj, decide_eq_true h]
    by_cases h2 : bt s j ≥ lo
    · rw [if_pos h2, decide_eq_true (show lo ≤ bt s j from h2)]; rfl
    · rw [if_neg h2, decide_eq_false (show ¬ lo ≤ bt s j from h2)]; rfl
  · rw [if_neg h, decide_eq_false h]; rfl
theorem rl0_eq (k : Nat) (s : ByteArray) (at' lo hi more i : Int) : spoorref01_Rune.l0 (k + 1) s at' lo hi more i = if i ≤ more then ((spoorref01_between.f s (wrap64 (at' + i)) lo hi).bind fun t186 => (if t186 = true then (spoorref01_Rune.l0 k s at' 128 191 more (wrap64 (i + 1))) else (some 0))) else (some (wrap64 (1 + more))) := by
  rw [spoorref01_Rune.l0]
theorem rl0_more (k : Nat) (s : ByteArray) (a lo hi more i : Int) (ha : 0 ≤ a) (hs : a < 140737488351233) (h1 : 1 ≤ i) (h2 : i ≤ more) (h3 : more ≤ 3) :
    spoorref01_Rune.l0 (k + 1) s a lo hi more i = if bw s (a + i) lo hi = true then spoorref01_Rune.l0 k s a 128 191 more (i + 1) else some 0 := by
  rw [rl0_eq, if_pos h2, w64 (x := a + i) (by omega) (by omega), between_eq _ _ _ _ (by omega), Option.bind_some, w64 (x := i + 1) (by omega) (by omega)]
theorem rl0_done (k : Nat) (s : ByteArray) (a lo hi more i : Int) (h2 : ¬ i ≤ more) (h3 : more ≤ 3) (h4 : 0 ≤ more) : spoorref01_Rune.l0 (k + 1) s a lo hi more i = some (1 + more) := by
  rw [rl0_eq, if_neg h2, w64 (x := 1 + more) (by omega) (by omega)]
theorem more1 (k : Nat) (s : ByteArray) (a lo hi : Int) (ha : 0 ≤ a) (hs : a < 140737488351233) : spoorref01_Rune.l0 (k + 2) s a lo hi 1 1 = some (if bw s (a + 1) lo hi = true then 2 else 0) := by
  rw [rl0_more _ _ _ _ _ _ _ ha hs (by omega) (by omega) (by omega), rl0_done _ _ _ _ _ _ _ (by omega) (by omega) (by omega)]
  split <;> rfl
theorem more2 (k : Nat) (s : ByteArray) (a lo hi : Int) (ha : 0 ≤ a) (hs : a < 140737488351233) : spoorref01_Rune.l0 (k + 3) s a lo hi 2 1 = some (if (bw s (a + 1) lo hi && bw s (a + 2) 128 191) = true then 3 else 0) := by
  rw [rl0_more _ _ _ _ _ _ _ ha hs (by omega) (by omega) (by omega), rl0_more _ _ _ _ _ _ _ ha hs (by omega) (by omega) (by omega), rl0_done _ _ _ _ _ _ _ (by omega) (by omega) (by omega)]
  rw [show (1 : Int) + 1 = 2 from rfl]
  cases bw s (a + 1) lo hi <;> cases bw s (a + 2) 128 191 <;> rfl
theorem more3 (k : Nat) (s : ByteArray) (a lo hi : Int) (ha : 0 ≤ a) (hs : a < 140737488351233) : spoorref01_Rune.l0 (k + 4) s a lo hi 3 1 = some (if (bw s (a + 1) lo hi && bw s (a + 2) 128 191 && bw s (a + 3) 128 191) = true then 4 else 0) := by
  rw [rl0_more _ _ _ _ _ _ _ ha hs (by omega) (by omega) (by omega), rl0_more _ _ _ _ _ _ _ ha hs (by omega) (by omega) (by omega), rl0_more _ _ _ _ _ _ _ ha hs (by omega) (by omega) (by omega), rl0_done _ _ _ _ _ _ _ (by omega) (by omega) (by omega)]
  rw [show (1 : Int) + 1 = 2 from rfl, show (2 : Int) + 1 = 3 from rfl]
  cases bw s (a + 1) lo hi <;> cases bw s (a + 2) 128 191 <;> cases bw s (a + 3) 128 191 <;> rfl
/-- How many bytes the rune has. -/
def runeN (n b0 b1 b2 b3 : Nat) : Nat := if b0 < 128 then 1 else (checkN n b1 b2 b3 (firstT b0 % 8) (accLo (firstT b0 / 16)) (accHi (firstT b0 / 16))).getD 0
def by' (s : ByteArray) (j : Nat) : Nat := (s.data.toList.getD j 0).toNat
theorem by_bt (s : ByteArray) (j : Nat) : bt s (j : Int) = (by' s j : Nat) := by
  unfold bt by'
  by_cases h : (j : Int).toNat < s.size
  · rw [dif_pos h]
    have h' : j < s.data.toList.length := by simpa using h
    rw [List.getD_eq_getElem?_getD, List.getElem?_eq_getElem h']
    rfl
  · rw [dif_neg h]
    have h' : s.data.toList.length ≤ j := by have : s.data.toList.length = s.size := rfl; simp at h; omega
    rw [List.getD_eq_getElem?_getD, List.getElem?_eq_none h']
    rfl
theorem by_lt (s : ByteArray) (j : Nat) : by' s j < 256 := (s.data.toList.getD j 0).toNat_lt
theorem bw_nat (s : ByteArray) (a i : Nat) (lo hi : Nat) : bw s ((a : Int) + (i : Int)) lo hi = decide (¬ (s.size - a ≤ i ∨ by' s (a + i) < lo ∨ hi < by' s (a + i))) := by
  unfold bw
  rw [show (a : Int) + (i : Int) = ((a + i : Nat) : Int) by omega, by_bt]
  rw [Bool.eq_iff_iff]
  simp only [Bool.and_eq_true, decide_eq_true_eq]
  omega
theorem j4_eq (k : Nat) (s : ByteArray) (a lo hi m : Int) : spoorref01_Rune.j4 (k + 1) s a lo hi m = spoorref01_Rune.l0 k s a lo hi m 1 := by rw [spoorref01_Rune.j4]
theorem j3_eq (k : Nat) (s : ByteArray) (a b lo hi m : Int) : spoorref01_Rune.j3 (k + 2) s a b lo hi m = spoorref01_Rune.l0 k s a (if b = 224 then 160 else if b = 237 then lo else if b = 240 then 144 else lo) (if b = 224 then hi else if b = 237 then 159 else if b = 240 then hi else if b = 244 then 143 else hi) m 1 := by
  rw [spoorref01_Rune.j3]
  by_cases h1 : b = 224
  · rw [if_pos h1, if_pos h1, if_pos h1, j4_eq]
  rw [if_neg h1, if_neg h1, if_neg h1]
  by_cases h2 : b = 237
  · rw [if_pos h2, if_pos h2, if_pos h2, j4_eq]
  rw [if_neg h2, if_neg h2, if_neg h2]
  by_cases h3 : b = 240
  · rw [if_pos h3, if_pos h3, if_pos h3, j4_eq]
  rw [if_neg h3, if_neg h3, if_neg h3]
  by_cases h4 : b = 244
  · rw [if_pos h4, if_pos h4, j4_eq]
  · rw [if_neg h4, if_neg h4, j4_eq]
theorem j0_eq (k : Nat) (s : ByteArray) (a : Int) (b : Bool) : spoorref01_Rune.j0 (k + 1) s a b = if b = true then (some 0) else (if 0 ≤ a then (if a < (s.size : Int) then (if (bt s a) < 128 then (some 1) else (if (bt s a) ≥ 194 then (spoorref01_Rune.j1 k s a (bt s a) 128 191 (decide ((bt s a) ≤ 223))) else (spoorref01_Rune.j1 k s a (bt s a) 128 191 false))) else (none)) else (none)) := by
  rw [spoorref01_Rune.j0]
theorem j1_eq (k : Nat) (s : ByteArray) (a b lo hi : Int) (x : Bool) : spoorref01_Rune.j1 (k + 1) s a b lo hi x = if x = true then (spoorref01_Rune.j3 k s a b lo hi 1) else (if b ≥ 224 then (spoorref01_Rune.j2 k s a b lo hi (decide (b ≤ 239))) else (spoorref01_Rune.j2 k s a b lo hi false)) := by
  rw [spoorref01_Rune.j1]
theorem j2_eq (k : Nat) (s : ByteArray) (a b lo hi : Int) (x : Bool) : spoorref01_Rune.j2 (k + 1) s a b lo hi x = if x = true then (spoorref01_Rune.j3 k s a b lo hi 2) else (if b ≥ 240 then (if b ≤ 244 then (spoorref01_Rune.j3 k s a b lo hi 3) else (some 0)) else (some 0)) := by
  rw [spoorref01_Rune.j2]
set_option maxHeartbeats 2000000 in
theorem rune_eq (k : Nat) (s : ByteArray) (a : Nat) (ha : a < s.size) (hs : s.size ≤ 140737488351232) :
    spoorref01_Rune.f (k + 12) s (a : Int) = some ((runeN (s.size - a) (by' s a) (by' s (a + 1)) (by' s (a + 2)) (by' s (a + 3)) : Nat) : Int) := by
  unfold spoorref01_Rune.f
  have a0 : (0 : Int) ≤ (a : Int) := by omega
  have a1 : (a : Int) < 140737488351233 := by omega
  rw [if_neg (by omega), decide_eq_false (by omega), j0_eq, if_neg (by decide), if_pos a0, if_pos (by omega), by_bt]
  have hb := by_lt s a
  have w1 := fun lo hi => bw_nat s a 1 lo hi
  have w2 := fun lo hi => bw_nat s a 2 lo hi
  have w3 := fun lo hi => bw_nat s a 3 lo hi
  generalize by' s (a + 1) = b1 at *
  generalize by' s (a + 2) = b2 at *
  generalize by' s (a + 3) = b3 at *
  generalize by' s a = b0 at *
  unfold runeN
  by_cases c0 : b0 < 128
  · rw [if_pos (by omega), if_pos c0]; rfl
  rw [if_neg (by omega), if_neg c0]
  have w1' : ∀ lo hi : Nat, bw s ((a : Int) + 1) lo hi = decide (¬ (s.size - a ≤ 1 ∨ b1 < lo ∨ hi < b1)) := w1
  have w2' : ∀ lo hi : Nat, bw s ((a : Int) + 2) lo hi = decide (¬ (s.size - a ≤ 2 ∨ b2 < lo ∨ hi < b2)) := w2
  have w3' : ∀ lo hi : Nat, bw s ((a : Int) + 3) lo hi = decide (¬ (s.size - a ≤ 3 ∨ b3 < lo ∨ hi < b3)) := w3
  have one : ∀ lo hi : Nat, checkN (s.size - a) b1 b2 b3 2 lo hi = if bw s ((a : Int) + 1) lo hi = true then some 2 else none := fun lo hi => by
    rw [w1']; unfold checkN
    by_cases h : s.size - a ≤ 1 ∨ b1 < lo ∨ hi < b1
    · rw [if_pos rfl, if_pos (by omega), decide_eq_false (fun hn => hn h)]; rfl
    · rw [if_pos rfl, if_neg (by omega), decide_eq_true h]; rfl
  have two : ∀ lo hi : Nat, checkN (s.size - a) b1 b2 b3 3 lo hi = if (bw s ((a : Int) + 1) lo hi && bw s ((a : Int) + 2) 128 191) = true then some 3 else none := fun lo hi => by
    rw [w1', show bw s ((a : Int) + 2) 128 191 = _ from w2' 128 191]; unfold checkN
    by_cases h : s.size - a < 3 ∨ b1 < lo ∨ hi < b1 ∨ b2 < 128 ∨ 191 < b2
    · rw [if_neg (by decide), if_pos rfl, if_pos h, if_neg (by simp only [Bool.and_eq_true, decide_eq_true_eq]; omega)]
    · rw [if_neg (by decide), if_pos rfl, if_neg h, if_pos (by simp only [Bool.and_eq_true, decide_eq_true_eq]; omega)]
  have three : ∀ lo hi : Nat, checkN (s.size - a) b1 b2 b3 4 lo hi = if (bw s ((a : Int) + 1) lo hi && bw s ((a : Int) + 2) 128 191 && bw s ((a : Int) + 3) 128 191) = true then some 4 else none := fun lo hi => by
    rw [w1', show bw s ((a : Int) + 2) 128 191 = _ from w2' 128 191, show bw s ((a : Int) + 3) 128 191 = _ from w3' 128 191]; unfold checkN
    by_cases h : s.size - a < 4 ∨ b1 < lo ∨ hi < b1 ∨ b2 < 128 ∨ 191 < b2 ∨ b3 < 128 ∨ 191 < b3
    · rw [if_neg (by decide), if_neg (by decide), if_pos rfl, if_pos h, if_neg (by simp only [Bool.and_eq_true, decide_eq_true_eq]; omega)]
    · rw [if_neg (by decide), if_neg (by decide), if_pos rfl, if_neg h, if_pos (by simp only [Bool.and_eq_true, decide_eq_true_eq]; omega)]
  have none' : ∀ lo hi : Nat, checkN (s.size - a) b1 b2 b3 1 lo hi = none := fun lo hi => rfl
  clear w1 w2 w3 w1' w2' w3'
  have r1 : ∀ (lo hi : Nat) (L H : Int), L = lo → H = hi → (if bw s ((a : Int) + 1) L H = true then (2 : Int) else 0) = (((checkN (s.size - a) b1 b2 b3 2 lo hi).getD 0 : Nat) : Int) := fun lo hi L H h1 h2 => by
    rw [one, h1, h2]; split <;> rfl
  have r2 : ∀ (lo hi : Nat) (L H : Int), L = lo → H = hi → (if (bw s ((a : Int) + 1) L H && bw s ((a : Int) + 2) 128 191) = true then (3 : Int) else 0) = (((checkN (s.size - a) b1 b2 b3 3 lo hi).getD 0 : Nat) : Int) := fun lo hi L H h1 h2 => by
    rw [two, h1, h2]; split <;> rfl
  have r3 : ∀ (lo hi : Nat) (L H : Int), L = lo → H = hi → (if (bw s ((a : Int) + 1) L H && bw s ((a : Int) + 2) 128 191 && bw s ((a : Int) + 3) 128 191) = true then (4 : Int) else 0) = (((checkN (s.size - a) b1 b2 b3 4 lo hi).getD 0 : Nat) : Int) := fun lo hi L H h1 h2 => by
    rw [three, h1, h2]; split <;> rfl
  clear one two three
  have n0 : ¬ ((b0 : Int) < 128) := by omega
  by_cases c1 : b0 < 194
  · rw [if_neg (by omega), j1_eq, if_neg (by decide), if_neg (by omega), j2_eq, if_neg (by decide), if_neg (by omega), show firstT b0 = 241 by unfold firstT; rw [if_neg c0, if_pos c1]]
    rfl
  rw [if_pos (by omega), j1_eq]
  by_cases c2 : b0 < 224
  · rw [decide_eq_true (by omega), if_pos rfl, j3_eq, if_neg (by omega), if_neg (by omega), if_neg (by omega), if_neg (by omega), if_neg (by omega), if_neg (by omega), if_neg (by omega), more1 _ _ _ _ _ a0 a1, r1 128 191 128 191 rfl rfl, show firstT b0 = 2 by unfold firstT; rw [if_neg c0, if_neg c1, if_pos c2]]
    rfl
  rw [decide_eq_false (by omega), if_neg (by decide), if_pos (by omega), j2_eq]
  by_cases c3 : b0 = 224
  · subst c3
    rw [decide_eq_true (by omega), if_pos rfl, j3_eq, if_pos (show ((224 : Nat) : Int) = 224 from rfl), if_pos (show ((224 : Nat) : Int) = 224 from rfl), more2 _ _ _ _ _ a0 a1, r2 160 191 160 191 rfl rfl]
    rfl
  by_cases c4 : b0 < 237
  · rw [decide_eq_true (by omega), if_pos rfl, j3_eq, if_neg (by omega), if_neg (by omega), if_neg (by omega), if_neg (by omega), if_neg (by omega), if_neg (by omega), if_neg (by omega), more2 _ _ _ _ _ a0 a1, r2 128 191 128 191 rfl rfl, show firstT b0 = 3 by unfold firstT; rw [if_neg c0, if_neg c1, if_neg c2, if_neg c3, if_pos c4]]
    rfl
  by_cases c5 : b0 = 237
  · subst c5
    rw [decide_eq_true (by omega), if_pos rfl, j3_eq, if_neg (by decide), if_pos (show ((237 : Nat) : Int) = 237 from rfl), if_neg (by decide), if_pos (show ((237 : Nat) : Int) = 237 from rfl), more2 _ _ _ _ _ a0 a1, r2 128 159 128 159 rfl rfl]
    rfl
  by_cases c6 : b0 < 240
  · rw [decide_eq_true (by omega), if_pos rfl, j3_eq, if_neg (by omega), if_neg (by omega), if_neg (by omega), if_neg (by omega), if_neg (by omega), if_neg (by omega), if_neg (by omega), more2 _ _ _ _ _ a0 a1, r2 128 191 128 191 rfl rfl, show firstT b0 = 3 by unfold firstT; rw [if_neg c0, if_neg c1, if_neg c2, if_neg c3, if_neg c4, if_neg c5, if_pos c6]]
    rfl
  rw [decide_eq_false (by omega), if_neg (by decide), if_pos (by omega)]
  by_cases c7 : b0 = 240
  · subst c7
    rw [if_pos (by omega), j3_eq, if_neg (by decide), if_neg (by decide), if_pos (show ((240 : Nat) : Int) = 240 from rfl), if_neg (by decide), if_neg (by decide), if_pos (show ((240 : Nat) : Int) = 240 from rfl), more3 _ _ _ _ _ a0 a1, r3 144 191 144 191 rfl rfl]
    rfl
  by_cases c8 : b0 < 244
  · rw [if_pos (by omega), j3_eq, if_neg (by omega), if_neg (by omega), if_neg (by omega), if_neg (by omega), if_neg (by omega), if_neg (by omega), if_neg (by omega), more3 _ _ _ _ _ a0 a1, r3 128 191 128 191 rfl rfl, show firstT b0 = 4 by unfold firstT; rw [if_neg c0, if_neg c1, if_neg c2, if_neg c3, if_neg c4, if_neg c5, if_neg c6, if_neg c7, if_pos c8]]
    rfl
  by_cases c9 : b0 = 244
  · subst c9
    rw [if_pos (by omega), j3_eq, if_neg (by decide), if_neg (by decide), if_neg (by decide), if_neg (by decide), if_neg (by decide), if_neg (by decide), if_pos (show ((244 : Nat) : Int) = 244 from rfl), more3 _ _ _ _ _ a0 a1, r3 128 143 128 143 rfl rfl]
    rfl
  · rw [if_neg (by omega), show firstT b0 = 241 by unfold firstT; rw [if_neg c0, if_neg c1, if_neg c2, if_neg c3, if_neg c4, if_neg c5, if_neg c6, if_neg c7, if_neg c8, if_neg c9]]
    rfl
end Go.Proofs.YtdlnfmakfnggpaaDoor.Pr
