/- span.plain at every string, over utf8.ValidString's answer at it; that answer by the library's contract under its tables, and at one letter without them. -/
import Derived.Test.YthdkgilpnkabmaaGreatDoorCk
import Derived.Ground.NamesProg
import Derived.WalkKit
import Derived.WalkMore
import Derived.Below
import Derived.Shelf.Lays
import Derived.Shelf.Unicode.ValidAny
import Derived.Lib.Hide
import Derived.Outline
import Derived.IntWalk
namespace Go.Proofs.YthdkgilpnkabmaaGreatDoor.Pr
open Go.RowKit Go.Shelf Go.Lib Go.Proofs.YthdkgilpnkabmaaGreatDoorW.PrintWords
set_option linter.unusedVariables false
set_option linter.unusedSimpArgs false
def laysValid_ren : Go.Shelf.Ren := ⟨fun | 196 => 92 | 259 => 120 | n => n, fun | 9 => 9 | 4 => 4 | 3 => 3 | 5 => 5 | 12 => 12 | 119 => 165 | 0 => 0 | 46 => 128 | 139 => 168 | 138 => 167 | 53 => 31 | n => n, fun | 3 => 0 | 4 => 1 | n => n⟩
theorem laysValid : Go.Proofs.Lays.n196 Tryz.prog laysValid_ren := {
  mixed := by kernel_rfl
  f196 := Tryz.func92.trans (congrArg some (by kernel_rfl))
  f259 := Tryz.func120.trans (congrArg some (by kernel_rfl))
  t0 := Tryz.underlying0
  a0 := Tryz.isAgg0
  z0 := Tryz.sizeOf0
  v0 := Tryz.zeroValue0
  t3 := Tryz.underlying3
  a3 := Tryz.isAgg3
  z3 := Tryz.sizeOf3
  v3 := Tryz.zeroValue3
  t4 := Tryz.underlying4
  a4 := Tryz.isAgg4
  z4 := Tryz.sizeOf4
  v4 := Tryz.zeroValue4
  t5 := Tryz.underlying5
  a5 := Tryz.isAgg5
  z5 := Tryz.sizeOf5
  v5 := Tryz.zeroValue5
  t9 := Tryz.underlying9
  a9 := Tryz.isAgg9
  z9 := Tryz.sizeOf9
  v9 := Tryz.zeroValue9
  t12 := Tryz.underlying12
  a12 := Tryz.isAgg12
  z12 := Tryz.sizeOf12
  v12 := Tryz.zeroValue12
  t46 := Tryz.underlying128
  a46 := Tryz.isAgg128
  z46 := Tryz.sizeOf128
  v46 := Tryz.zeroValue128
  t53 := Tryz.underlying31
  a53 := Tryz.isAgg31
  z53 := Tryz.sizeOf31
  v53 := Tryz.zeroValue31
  t119 := Tryz.underlying165
  a119 := Tryz.isAgg165
  z119 := Tryz.sizeOf165
  t138 := Tryz.underlying167
  a138 := Tryz.isAgg167
  z138 := Tryz.sizeOf167
  v138 := Tryz.zeroValue167
  t139 := Tryz.underlying168
  a139 := Tryz.isAgg168
  z139 := Tryz.sizeOf168
  v139 := Tryz.zeroValue168
  g3 := by kernel_rfl
  g4 := by kernel_rfl }
def Tabs (w : World) : Prop := Lib.Utf8Tabs (laysValid_ren.g 3) (laysValid_ren.g 4) w
theorem Tabs.below {w w' : World} (h : Tabs w) (hb : Below w.heap.size w w') : Tabs w' := Utf8Tabs_below h hb
/-- utf8.ValidString answers of s what it must, in this world and in those that follow. -/
def ValidAt (s : ByteArray) (w : World) : Prop := Ans 92 #[.string s] (Lib.validD s.data.toList) w
theorem ValidAt.below {s : ByteArray} {w w1 : World} (h : ValidAt s w) (hb : Below w.heap.size w w1) : ValidAt s w1 := Ans.below h hb
theorem valid_tabs {s : ByteArray} {w : World} (hs : s.size ≤ 9223372036854775807) (hT : Tabs w) : ValidAt s w := fun W hW => Any.utf8_ValidString laysValid s W hs (hT.below hW)
set_option maxRecDepth 100000 in
theorem valid_nil (w : World) : Calls Tryz.prog 92 #[.string ⟨#[]⟩] w fun e w' => e = .returned (.bool true) ∧ Below w.heap.size w w' := by
  go_enter Tryz.func92, Tryz.ntmps92
  go_wp2
  refine wp_loop_rounds 1 ?_; rw [rounds_succ]
  go_wp2
  go_ret
  exact ⟨rfl, Below.refl _ _⟩
set_option maxRecDepth 100000 in
theorem valid_letter (c : UInt8) (hc : c.toNat < 128) (w : World) : Calls Tryz.prog 92 #[.string ⟨#[c]⟩] w fun e w' => e = .returned (.bool true) ∧ Below w.heap.size w w' := by
  have hc' : (((⟨#[c]⟩ : ByteArray)[0]'(Nat.zero_lt_one)).toNat : Int) < 128 := by show (c.toNat : Int) < 128; omega
  go_enter Tryz.func92, Tryz.ntmps92
  go_wp2
  refine wp_loop_rounds 2 ?_; rw [rounds_succ]
  go_wp2
  rw [rounds_succ]
  go_wp2
  go_ret
  exact ⟨rfl, Below.refl _ _⟩
theorem valid_one (c : UInt8) (hc : c.toNat < 128) (hv : Lib.validD [c] = true) (w : World) : ValidAt ⟨#[c]⟩ w := fun W hW => by
  show Calls Tryz.prog 92 #[.string ⟨#[c]⟩] W fun e w' => e = .returned (.bool (Lib.validD [c])) ∧ Below W.heap.size W w'
  rw [hv]
  exact valid_letter c hc W
def byteOK (s : ByteArray) (fr : Int) (i : Nat) : Bool := !decide (bt s i < fr) && !(bt s i == 127)
def okTo (s : ByteArray) (fr : Int) : Nat → Bool
  | 0 => true
  | k + 1 => okTo s fr k && byteOK s fr k
def plainF (s : ByteArray) (most fr : Int) : Bool := decide (0 < s.size) && decide ((s.size : Int) ≤ most) && Lib.validD s.data.toList && okTo s fr s.size
theorem okTo_false {s : ByteArray} {fr : Int} {k : Nat} (h : byteOK s fr k = false) : ∀ n, k < n → okTo s fr n = false
  | 0, hn => by omega
  | n + 1, hn => by
    rcases Nat.lt_or_ge k n with h1 | h1
    · simp [okTo, okTo_false h n h1]
    · obtain rfl : k = n := by omega
      simp [okTo, h]
theorem empty_of {s : ByteArray} (h : s.size = 0) : s = ⟨#[]⟩ := by
  obtain ⟨a⟩ := s
  have : a = #[] := Array.eq_empty_of_size_eq_zero h
  rw [this]
theorem ne_empty {s : ByteArray} (h : 0 < s.size) : s.toList.isEmpty = false := by
  have h1 : 0 < s.data.toList.length := h
  rw [ByteArray.toList_eq]
  cases e : s.data.toList with
  | nil => rw [e] at h1; simp at h1
  | cons _ _ => rfl
theorem is_empty {s : ByteArray} (h : s.size = 0) : s.toList.isEmpty = true := by
  have h1 : s.data.toList.length = 0 := h
  rw [ByteArray.toList_eq, List.eq_nil_of_length_eq_zero h1]
  rfl
set_option maxHeartbeats 1000000 in
set_option maxRecDepth 1000000 in
theorem plain_run (s : ByteArray) (most fr : Int) (w : World) (hs : s.size ≤ 9223372036854775807) (hT : ValidAt s w) :
    Calls Tryz.prog 61 #[.string s, .int .i64 most, .int .u8 fr] w fun e w' => e = .returned (.bool (plainF s most fr)) ∧ Below w.heap.size w w' := by
  have cV : Calls Tryz.prog 92 #[.string s] w _ := hT w (Below.refl _ _)
  unfold plainF
  by_cases h0 : 0 < s.size
  · have he := ne_empty h0
    by_cases h1 : (s.size : Int) ≤ most
    · have h1' : ¬ (most < (s.size : Int)) := by omega
      rw [decide_eq_true h0, decide_eq_true h1, Bool.true_and, Bool.true_and]
      generalize Lib.validD s.data.toList = V at cV ⊢
      cases V with
      | false =>
        go_enter Tryz.func61, Tryz.ntmps61
        go_wp2_with (go_at_call 92; refine cV.mono ?_; rintro e w' ⟨rfl, hb⟩)
        have hb := hb
        go_ret
        exact ⟨rfl, hb⟩
      | true =>
        rw [Bool.true_and]
        go_enter Tryz.func61, Tryz.ntmps61
        go_wp2_with (go_at_call 92; refine cV.mono ?_; rintro e w' ⟨rfl, hb⟩)
        go_loop [23] (fun v23 => ∃ i : Nat, v23 = .int .i64 i ∧ i ≤ s.size ∧ okTo s fr i = true) (fun v23 => s.size - (Lib.intOf v23).toNat)
        case atStart => exact ⟨0, rfl, Nat.zero_le _, rfl⟩
        case round =>
          obtain ⟨i, rfl, hi, hok⟩ := hrel
          by_cases hlt : i < s.size
          · have hlz : (i : Int) < (s.size : Int) := by omega
            have hbt := bt_at s (i : Int) (by simpa using hlt)
            simp only [Int.toNat_natCast] at hbt
            by_cases c1 : bt s (i : Int) < fr
            · have hf := okTo_false (s := s) (fr := fr) (k := i) (by simp [byteOK, c1]) _ hlt
              go_wp2
              go_ret
              exact ⟨rfl, hb⟩
            · by_cases c2 : bt s (i : Int) = 127
              · have hf := okTo_false (s := s) (fr := fr) (k := i) (by simp [byteOK, c2]) _ hlt
                go_wp2
                go_ret
                exact ⟨rfl, hb⟩
              · have c2' : (bt s (i : Int) == 127) = false := by simpa using c2
                go_wp2
                go_round
                case rel => exact ⟨i + 1, by go_num, by omega, by simp [okTo, hok, byteOK, c1, c2]⟩
                case measure => simp [Lib.intOf]; omega
          · obtain rfl : i = s.size := by omega
            go_wp2
            go_ret
            exact ⟨rfl, hb⟩
    · have h1' : most < (s.size : Int) := by omega
      rw [decide_eq_false h1]
      simp only [Bool.and_false, Bool.false_and]
      clear cV
      go_enter Tryz.func61, Tryz.ntmps61
      go_wp2
      go_ret
      exact ⟨rfl, Below.refl _ _⟩
  · have he := is_empty (s := s) (by omega)
    rw [decide_eq_false h0]
    simp only [Bool.false_and]
    clear cV
    go_enter Tryz.func61, Tryz.ntmps61
    go_wp2
    go_ret
    exact ⟨rfl, Below.refl _ _⟩
end Go.Proofs.YthdkgilpnkabmaaGreatDoor.Pr
