/- spoorref04.Compare, by hand. -/
import Derived.Test.YthdkgilpnkabmaaGreatDoorOr
import Derived.Lib.Hide
import Derived.Lib.LaidU8
namespace Go.Proofs.YthdkgilpnkabmaaGreatDoor.Pr
open Go.RowKit Go.Proofs.YthdkgilpnkabmaaGreatDoorW.PrintWords Go.Proofs.YthdkgilpnkabmaaGreatDoorW.PrintMore
set_option linter.unusedVariables false
set_option linter.unusedSimpArgs false
/-! ### the walks -/
theorem words_run (a b : Int) (w : World) : Calls Tryz.prog 32 #[.int .u64 a, .int .u64 b] w fun e w' => e = .returned (.int .i64 (ordI a b)) ∧ Below w.heap.size w w' := by
  unfold ordI
  by_cases h : a < b
  · rw [if_pos h]
    go_enter Tryz.func32, Tryz.ntmps32
    go_wp2
    go_ret
    exact ⟨rfl, Below.refl _ _⟩
  · rw [if_neg h]
    by_cases h' : b < a
    · rw [if_pos h']
      go_enter Tryz.func32, Tryz.ntmps32
      go_wp2
      go_ret
      exact ⟨rfl, Below.refl _ _⟩
    · rw [if_neg h']
      go_enter Tryz.func32, Tryz.ntmps32
      go_wp2
      go_ret
      exact ⟨rfl, Below.refl _ _⟩
theorem numbers_run (a b : Int) (w : World) : Calls Tryz.prog 33 #[.int .i64 a, .int .i64 b] w fun e w' => e = .returned (.int .i64 (ordI a b)) ∧ Below w.heap.size w w' := by
  unfold ordI
  by_cases h : a < b
  · rw [if_pos h]
    go_enter Tryz.func33, Tryz.ntmps33
    go_wp2
    go_ret
    exact ⟨rfl, Below.refl _ _⟩
  · rw [if_neg h]
    by_cases h' : b < a
    · rw [if_pos h']
      go_enter Tryz.func33, Tryz.ntmps33
      go_wp2
      go_ret
      exact ⟨rfl, Below.refl _ _⟩
    · rw [if_neg h']
      go_enter Tryz.func33, Tryz.ntmps33
      go_wp2
      go_ret
      exact ⟨rfl, Below.refl _ _⟩
theorem texts_run (a b : ByteArray) (w : World) : Calls Tryz.prog 34 #[.string a, .string b] w fun e w' => e = .returned (.int .i64 (ordT a b)) ∧ Below w.heap.size w w' := by
  unfold ordT
  by_cases h : Op.bytesLess a.toList b.toList = true
  · rw [if_pos h]
    go_enter Tryz.func34, Tryz.ntmps34
    go_wp2
    go_ret
    exact ⟨rfl, Below.refl _ _⟩
  · rw [if_neg h]
    have h1 : Op.bytesLess a.toList b.toList = false := by simpa using h
    by_cases h' : Op.bytesLess b.toList a.toList = true
    · rw [if_pos h']
      go_enter Tryz.func34, Tryz.ntmps34
      go_wp2
      go_ret
      exact ⟨rfl, Below.refl _ _⟩
    · rw [if_neg h']
      have h2 : Op.bytesLess b.toList a.toList = false := by simpa using h'
      go_enter Tryz.func34, Tryz.ntmps34
      go_wp2
      go_ret
      exact ⟨rfl, Below.refl _ _⟩
/-- The first of some answers, out of a slice that reads as a list. -/
theorem first_run (A : Option Addr) (c : Nat) (l : List Int) (w : World) (hr : Kd.C (Kd.int .i64) w A l.length l) (hc : l.length ≤ c) (hl : l.length ≤ 140737488351232) :
    Calls Tryz.prog 31 #[.slice A l.length c] w fun e w' => e = .returned (.int .i64 (firstF l)) ∧ Below w.heap.size w w' := by
  have HR := Lib.hid hr
  clear hr
  go_enter Tryz.func31, Tryz.ntmps31
  go_wp2
  go_loop [3] (fun v3 => ∃ k : Nat, v3 = .int .i64 k ∧ k ≤ l.length ∧ Hid (firstF l = firstF (l.drop k))) (fun v3 => l.length - (intOf v3).toNat)
  case atStart => exact ⟨0, rfl, Nat.zero_le _, Lib.hid rfl⟩
  case round =>
    obtain ⟨k, rfl, hk, HF⟩ := hrel
    by_cases hlt : k < l.length
    · have hlk : (k : Int) < (l.length : Int) := by omega
      obtain ⟨ab, ao, rfl, hx⟩ := ints_at HR.out k hlt
      have HD := Lib.hid (first_drop l k hlt)
      generalize rd l (k : Int) = x at *
      by_cases h0 : x = 0
      · have h0' : (x != 0) = false := by rw [h0]; rfl
        go_wp2
        go_round
        case rel => exact ⟨k + 1, by go_num, by omega, Lib.hid (by rw [HF.out, HD.out, if_pos h0])⟩
        case measure => simp [intOf]; omega
      · have h0' : (x != 0) = true := by simpa using h0
        go_wp2
        go_ret
        exact ⟨by rw [HF.out, HD.out, if_neg h0]; rfl, Below.refl _ _⟩
    · obtain rfl : k = l.length := by omega
      go_wp2
      go_ret
      exact ⟨by rw [HF.out, List.drop_length]; rfl, Below.refl _ _⟩
set_option maxHeartbeats 4000000 in
theorem linksOf_run (A B : Option Addr) (c d : Nat) (l m : List Int) (w : World) (hr : Kd.C (Kd.int .u64) w A l.length l) (hc : l.length ≤ c) (hs : Kd.C (Kd.int .u64) w B m.length m) (hd : m.length ≤ d) (hl : l.length ≤ 140737488351232) (hm : m.length ≤ 140737488351232) :
    Calls Tryz.prog 35 #[.slice A l.length c, .slice B m.length d] w fun e w' => e = .returned (.int .i64 (lexF ordI l m)) ∧ Below w.heap.size w w' := by
  have HR := Lib.hid hr
  have HS := Lib.hid hs
  clear hr hs
  go_enter Tryz.func35, Tryz.ntmps35
  go_wp2_with fail
  go_loopw [5] (fun v5 wr => ∃ k : Nat, v5 = .int .i64 k ∧ k ≤ l.length ∧ k ≤ m.length ∧ Hid (lexF ordI l m = lexF ordI (l.drop k) (m.drop k)) ∧ Hid (Below w.heap.size w wr)) (fun v5 _ => l.length - (intOf v5).toNat)
  case atStart => exact ⟨0, rfl, Nat.zero_le _, Nat.zero_le _, Lib.hid rfl, Lib.hid (Below.refl _ _)⟩
  case round =>
    obtain ⟨k, rfl, hk, hk', HF, HW⟩ := hrel
    by_cases hlt : k < l.length ∧ k < m.length
    · obtain ⟨h1, h2⟩ := hlt
      have b1 : (k : Int) < (l.length : Int) := by omega
      have b2 : (k : Int) < (m.length : Int) := by omega
      obtain ⟨ab, ao, rfl, hx⟩ := ints_at HR.out k h1
      obtain ⟨eb, eo, rfl, hy⟩ := ints_at HS.out k h2
      have hD := lex_drop ordI l m k h1 h2
      rw [show l[k] = rd l (k : Int) by simp [rd, List.getD, h1], show m[k] = rd m (k : Int) by simp [rd, List.getD, h2]] at hD
      have HD := Lib.hid hD
      clear hD
      generalize rd l (k : Int) = x at *
      generalize rd m (k : Int) = y at *
      have X := fun z : Wx wr => z.cell (pw_cell_below HW.out hx)
      have Y := fun z : Wx wr => z.cell (pw_cell_below HW.out hy)
      clear hx hy
      have hlt : (decide ((k : Int) < (l.length : Int)) && decide ((k : Int) < (m.length : Int))) = true := by simp [h1, h2]
      by_cases h0 : ordI x y = 0
      · have h0' : (ordI x y != 0) = false := by rw [h0]; rfl
        go_wp2_with fail
        refine wp_region_ext (by kernel_rfl) (by kernel_rfl) ?_
        repeat (go_big_quiet_step (first | (go_at_call 32; with_reducible exact Calls.ext_of (words_run x y _))))
        refine wpQuiet_nil ?_
        intro _ hw'
        obtain ⟨xx, rfl⟩ := hw'
        go_wp2_with fail
        go_roundw
        case rel => exact ⟨k + 1, by go_num, by omega, by omega, Lib.hid (by rw [HF.out, HD.out, if_pos h0]), Lib.hid (HW.out.trans (xx.h.mono HW.out.size))⟩
        case measure => simp [intOf]; omega
      · have h0' : (ordI x y != 0) = true := by simpa using h0
        go_wp2_with fail
        refine wp_region_ext (by kernel_rfl) (by kernel_rfl) ?_
        repeat (go_big_quiet_step (first | (go_at_call 32; with_reducible exact Calls.ext_of (words_run x y _))))
        refine wpQuiet_nil ?_
        intro _ hw'
        obtain ⟨xx, rfl⟩ := hw'
        go_wp2_with fail
        go_ret
        exact ⟨by rw [HF.out, HD.out, if_neg h0]; rfl, HW.out.trans (xx.h.mono HW.out.size)⟩
    · have HE := Lib.hid (HF.out.trans (lex_end ordI l m k hk hk' (by omega)))
      by_cases b1 : (k : Int) < (l.length : Int)
      · have b2 : ¬ (k : Int) < (m.length : Int) := by omega
        go_wp2_with fail
        refine (numbers_run _ _ _).mono ?_
        rintro e w1 ⟨rfl, hb⟩
        go_wp2_with fail
        go_ret
        exact ⟨by rw [HE.out]; rfl, HW.out.trans (hb.mono HW.out.size)⟩
      · go_wp2_with fail
        refine (numbers_run _ _ _).mono ?_
        rintro e w1 ⟨rfl, hb⟩
        go_wp2_with fail
        go_ret
        exact ⟨by rw [HE.out]; rfl, HW.out.trans (hb.mono HW.out.size)⟩
end Go.Proofs.YthdkgilpnkabmaaGreatDoor.Pr
