/- span.Compare's parts: cmp.Compare, cmp.Or, strings.Compare, slices.Compare, slices.CompareFunc. -/
import Derived.Test.YthdkgilpnkabmaaGreatDoorOr
import Derived.Shelf.Small.Strs
namespace Go.Proofs.YthdkgilpnkabmaaGreatDoor.Pr
open Go Go.RowKit Go.Shelf Go.Proofs.YthdkgilpnkabmaaGreatDoorW.PrintWords Go.Proofs.YthdkgilpnkabmaaGreatDoorW.PrintMore
set_option linter.unusedVariables false
set_option linter.unusedSimpArgs false
theorem nan_i64 (a : Int) (w : World) : Calls Tryz.prog 115 #[.int .i64 a] w fun e w' => e = .returned (.bool false) ∧ w = w' := by
  have h : (a != a) = false := by simp
  go_enter Tryz.func115, Tryz.ntmps115
  go_wp2
  go_ret
  exact ⟨by simp, rfl⟩
theorem cmp_i64 (a b : Int) (w : World) : Calls Tryz.prog 83 #[.int .i64 a, .int .i64 b] w fun e w' => e = .returned (.int .i64 (ordI a b)) ∧ Below w.heap.size w w' := by
  unfold ordI
  by_cases h : a < b
  · rw [if_pos h]
    go_enter Tryz.func83, Tryz.ntmps83
    go_wp2_with (go_at_call 115; refine (nan_i64 _ _).mono ?_; rintro e w' ⟨rfl, rfl⟩)
    go_ret
    exact ⟨rfl, Below.refl _ _⟩
  · rw [if_neg h]
    by_cases h' : b < a
    · rw [if_pos h']
      go_enter Tryz.func83, Tryz.ntmps83
      go_wp2_with (go_at_call 115; refine (nan_i64 _ _).mono ?_; rintro e w' ⟨rfl, rfl⟩)
      go_ret
      exact ⟨rfl, Below.refl _ _⟩
    · rw [if_neg h']
      go_enter Tryz.func83, Tryz.ntmps83
      go_wp2_with (go_at_call 115; refine (nan_i64 _ _).mono ?_; rintro e w' ⟨rfl, rfl⟩)
      go_ret
      exact ⟨rfl, Below.refl _ _⟩
theorem nan_sid (a : Int) (w : World) : Calls Tryz.prog 103 #[.int .u64 a] w fun e w' => e = .returned (.bool false) ∧ w = w' := by
  have h : (a != a) = false := by simp
  go_enter Tryz.func103, Tryz.ntmps103
  go_wp2
  go_ret
  exact ⟨by simp, rfl⟩
theorem cmp_sid (a b : Int) (w : World) : Calls Tryz.prog 74 #[.int .u64 a, .int .u64 b] w fun e w' => e = .returned (.int .i64 (ordI a b)) ∧ Below w.heap.size w w' := by
  unfold ordI
  by_cases h : a < b
  · rw [if_pos h]
    go_enter Tryz.func74, Tryz.ntmps74
    go_wp2_with (go_at_call 103; refine (nan_sid _ _).mono ?_; rintro e w' ⟨rfl, rfl⟩)
    go_ret
    exact ⟨rfl, Below.refl _ _⟩
  · rw [if_neg h]
    by_cases h' : b < a
    · rw [if_pos h']
      go_enter Tryz.func74, Tryz.ntmps74
      go_wp2_with (go_at_call 103; refine (nan_sid _ _).mono ?_; rintro e w' ⟨rfl, rfl⟩)
      go_ret
      exact ⟨rfl, Below.refl _ _⟩
    · rw [if_neg h']
      go_enter Tryz.func74, Tryz.ntmps74
      go_wp2_with (go_at_call 103; refine (nan_sid _ _).mono ?_; rintro e w' ⟨rfl, rfl⟩)
      go_ret
      exact ⟨rfl, Below.refl _ _⟩
theorem nan_sta (a : Int) (w : World) : Calls Tryz.prog 116 #[.int .i64 a] w fun e w' => e = .returned (.bool false) ∧ w = w' := by
  have h : (a != a) = false := by simp
  go_enter Tryz.func116, Tryz.ntmps116
  go_wp2
  go_ret
  exact ⟨by simp, rfl⟩
theorem cmp_sta (a b : Int) (w : World) : Calls Tryz.prog 84 #[.int .i64 a, .int .i64 b] w fun e w' => e = .returned (.int .i64 (ordI a b)) ∧ Below w.heap.size w w' := by
  unfold ordI
  by_cases h : a < b
  · rw [if_pos h]
    go_enter Tryz.func84, Tryz.ntmps84
    go_wp2_with (go_at_call 116; refine (nan_sta _ _).mono ?_; rintro e w' ⟨rfl, rfl⟩)
    go_ret
    exact ⟨rfl, Below.refl _ _⟩
  · rw [if_neg h]
    by_cases h' : b < a
    · rw [if_pos h']
      go_enter Tryz.func84, Tryz.ntmps84
      go_wp2_with (go_at_call 116; refine (nan_sta _ _).mono ?_; rintro e w' ⟨rfl, rfl⟩)
      go_ret
      exact ⟨rfl, Below.refl _ _⟩
    · rw [if_neg h']
      go_enter Tryz.func84, Tryz.ntmps84
      go_wp2_with (go_at_call 116; refine (nan_sta _ _).mono ?_; rintro e w' ⟨rfl, rfl⟩)
      go_ret
      exact ⟨rfl, Below.refl _ _⟩
theorem nan_knd (a : Int) (w : World) : Calls Tryz.prog 118 #[.int .i64 a] w fun e w' => e = .returned (.bool false) ∧ w = w' := by
  have h : (a != a) = false := by simp
  go_enter Tryz.func118, Tryz.ntmps118
  go_wp2
  go_ret
  exact ⟨by simp, rfl⟩
theorem cmp_knd (a b : Int) (w : World) : Calls Tryz.prog 86 #[.int .i64 a, .int .i64 b] w fun e w' => e = .returned (.int .i64 (ordI a b)) ∧ Below w.heap.size w w' := by
  unfold ordI
  by_cases h : a < b
  · rw [if_pos h]
    go_enter Tryz.func86, Tryz.ntmps86
    go_wp2_with (go_at_call 118; refine (nan_knd _ _).mono ?_; rintro e w' ⟨rfl, rfl⟩)
    go_ret
    exact ⟨rfl, Below.refl _ _⟩
  · rw [if_neg h]
    by_cases h' : b < a
    · rw [if_pos h']
      go_enter Tryz.func86, Tryz.ntmps86
      go_wp2_with (go_at_call 118; refine (nan_knd _ _).mono ?_; rintro e w' ⟨rfl, rfl⟩)
      go_ret
      exact ⟨rfl, Below.refl _ _⟩
    · rw [if_neg h']
      go_enter Tryz.func86, Tryz.ntmps86
      go_wp2_with (go_at_call 118; refine (nan_knd _ _).mono ?_; rintro e w' ⟨rfl, rfl⟩)
      go_ret
      exact ⟨rfl, Below.refl _ _⟩
theorem nan_u64 (a : Int) (w : World) : Calls Tryz.prog 114 #[.int .u64 a] w fun e w' => e = .returned (.bool false) ∧ w = w' := by
  have h : (a != a) = false := by simp
  go_enter Tryz.func114, Tryz.ntmps114
  go_wp2
  go_ret
  exact ⟨by simp, rfl⟩
theorem cmp_u64 (a b : Int) (w : World) : Calls Tryz.prog 80 #[.int .u64 a, .int .u64 b] w fun e w' => e = .returned (.int .i64 (ordI a b)) ∧ Below w.heap.size w w' := by
  unfold ordI
  by_cases h : a < b
  · rw [if_pos h]
    go_enter Tryz.func80, Tryz.ntmps80
    go_wp2_with (go_at_call 114; refine (nan_u64 _ _).mono ?_; rintro e w' ⟨rfl, rfl⟩)
    go_ret
    exact ⟨rfl, Below.refl _ _⟩
  · rw [if_neg h]
    by_cases h' : b < a
    · rw [if_pos h']
      go_enter Tryz.func80, Tryz.ntmps80
      go_wp2_with (go_at_call 114; refine (nan_u64 _ _).mono ?_; rintro e w' ⟨rfl, rfl⟩)
      go_ret
      exact ⟨rfl, Below.refl _ _⟩
    · rw [if_neg h']
      go_enter Tryz.func80, Tryz.ntmps80
      go_wp2_with (go_at_call 114; refine (nan_u64 _ _).mono ?_; rintro e w' ⟨rfl, rfl⟩)
      go_ret
      exact ⟨rfl, Below.refl _ _⟩
theorem nan_vk (a : Int) (w : World) : Calls Tryz.prog 139 #[.int .i64 a] w fun e w' => e = .returned (.bool false) ∧ w = w' := by
  have h : (a != a) = false := by simp
  go_enter Tryz.func139, Tryz.ntmps139
  go_wp2
  go_ret
  exact ⟨by simp, rfl⟩
theorem cmp_vk (a b : Int) (w : World) : Calls Tryz.prog 119 #[.int .i64 a, .int .i64 b] w fun e w' => e = .returned (.int .i64 (ordI a b)) ∧ Below w.heap.size w w' := by
  unfold ordI
  by_cases h : a < b
  · rw [if_pos h]
    go_enter Tryz.func119, Tryz.ntmps119
    go_wp2_with (go_at_call 139; refine (nan_vk _ _).mono ?_; rintro e w' ⟨rfl, rfl⟩)
    go_ret
    exact ⟨rfl, Below.refl _ _⟩
  · rw [if_neg h]
    by_cases h' : b < a
    · rw [if_pos h']
      go_enter Tryz.func119, Tryz.ntmps119
      go_wp2_with (go_at_call 139; refine (nan_vk _ _).mono ?_; rintro e w' ⟨rfl, rfl⟩)
      go_ret
      exact ⟨rfl, Below.refl _ _⟩
    · rw [if_neg h']
      go_enter Tryz.func119, Tryz.ntmps119
      go_wp2_with (go_at_call 139; refine (nan_vk _ _).mono ?_; rintro e w' ⟨rfl, rfl⟩)
      go_ret
      exact ⟨rfl, Below.refl _ _⟩
def laysCompare_ren : Go.Shelf.Ren := ⟨fun | 106 => 85 | 213 => 117 | 265 => 138 | n => n, fun | 9 => 9 | 3 => 3 | n => n, fun | n => n⟩
theorem laysCompare : Go.Proofs.Lays.n106 Tryz.prog laysCompare_ren := {
  mixed := by kernel_rfl
  f106 := Tryz.func85.trans (congrArg some (by kernel_rfl))
  f213 := Tryz.func117.trans (congrArg some (by kernel_rfl))
  f265 := Tryz.func138.trans (congrArg some (by kernel_rfl))
  t3 := Tryz.underlying3
  a3 := Tryz.isAgg3
  z3 := Tryz.sizeOf3
  v3 := Tryz.zeroValue3
  t9 := Tryz.underlying9
  a9 := Tryz.isAgg9
  z9 := Tryz.sizeOf9
  v9 := Tryz.zeroValue9 }
theorem less_irrefl : ∀ l : List UInt8, Op.bytesLess l l = false
  | [] => rfl
  | a :: r => by simp [Op.bytesLess, less_irrefl r]
theorem cmpB_ord : ∀ l m : List UInt8, Lib.compareBytes l m = if Op.bytesLess l m = true then -1 else if Op.bytesLess m l = true then 1 else 0
  | [], [] => rfl
  | [], b :: m => rfl
  | a :: l, [] => rfl
  | a :: l, b :: m => by
    unfold Lib.compareBytes
    by_cases h1 : a < b
    · simp [Op.bytesLess, h1]
    · rw [if_neg h1]
      by_cases h2 : b < a
      · have h3 : (a == b) = false := by
          rw [beq_eq_false_iff_ne]
          rintro rfl
          exact h1 h2
        simp [Op.bytesLess, h1, h2, h3]
      · have h3 : a = b := by
          rw [UInt8.lt_iff_toNat_lt] at h1 h2
          exact UInt8.toNat_inj.1 (by omega)
        subst h3
        rw [if_neg h2, cmpB_ord l m]
        simp [Op.bytesLess, h1]
theorem strs_run (a b : ByteArray) (w : World) : Calls Tryz.prog 85 #[.string a, .string b] w fun e w' => e = .returned (.int .i64 (ordT a b)) ∧ Below w.heap.size w w' :=
  (Any.strings_Compare laysCompare a b w).mono fun e w' ⟨h1, h2⟩ => ⟨by
    rw [h1, cmpB_ord]
    unfold ordT
    rw [ByteArray.toList_eq, ByteArray.toList_eq], by rw [h2]; exact Below.refl _ _⟩
/-- The first of some answers that is not 0. -/
theorem or_run (A : Option Addr) (c : Nat) (l : List Int) (w : World) (hr : Kd.C (Kd.int .i64) w A l.length l) (hc : l.length ≤ c) (hl : l.length ≤ 140737488351232) :
    Calls Tryz.prog 79 #[.slice A l.length c] w fun e w' => e = .returned (.int .i64 (firstF l)) ∧ Below w.heap.size w w' := by
  have HR := Lib.hid hr
  clear hr
  go_enter Tryz.func79, Tryz.ntmps79
  go_wp2
  go_loop [8] (fun v3 => ∃ k : Nat, v3 = .int .i64 k ∧ k ≤ l.length ∧ Hid (firstF l = firstF (l.drop k))) (fun v3 => l.length - (intOf v3).toNat)
  case atStart => exact ⟨0, rfl, Nat.zero_le _, Lib.hid rfl⟩
  case round =>
    obtain ⟨k, rfl, hk, HF⟩ := hrel
    by_cases hlt : k < l.length
    · have hlk : (k : Int) < (l.length : Int) := by omega
      obtain ⟨ab, ao, rfl, hx⟩ := ints_at HR.out k hlt
      have HD := Lib.hid (first_drop l k hlt)
      generalize rd l (k : Int) = x at *
      by_cases h0 : x = 0
      · have h0' : (x != 0) = false := by rw [h0]; rfl
        go_wp2
        go_round
        case rel => exact ⟨k + 1, by go_num, by omega, Lib.hid (by rw [HF.out, HD.out, if_pos h0])⟩
        case measure => simp [intOf]; omega
      · have h0' : (x != 0) = true := by simpa using h0
        go_wp2
        go_ret
        exact ⟨by rw [HF.out, HD.out, if_neg h0]; rfl, Below.refl _ _⟩
    · obtain rfl : k = l.length := by omega
      go_wp2
      go_ret
      exact ⟨by rw [HF.out, List.drop_length]; rfl, Below.refl _ _⟩
theorem or_new (l : List Int) (r : Int) (hr : firstF l = r) (hl : l.length ≤ 100) (W : World) (t : Nat) (cs : Array Value) (n : Nat) (hc : cs = (l.map (Value.int .i64)).toArray) (hn : l.length = n) :
    Calls Tryz.prog 79 #[.slice (some ⟨W.heap.size, 0, none⟩) n n] (W.alloc (.cells cs t)) fun e w' => e = .returned (.int .i64 r) ∧ Below W.heap.size W w' := by
  subst hn
  refine (or_run _ _ l _ (C_ints l (blk_new W _) hc (by omega)) (Nat.le_refl _) (by omega)).mono ?_
  rintro e w' ⟨rfl, hb⟩
  have h1 := below_alloc (Below.refl W.heap.size W) (.cells cs t)
  exact ⟨by rw [hr], h1.trans (hb.mono h1.size)⟩
theorem ord_gt {a b : Nat} (h : b < a) : ordI (a : Int) (b : Int) = 1 := by unfold ordI; rw [if_neg (by omega), if_pos (by omega)]
theorem ord_eq (a : Int) : ordI a a = 0 := by unfold ordI; rw [if_neg (by omega), if_neg (by omega)]
theorem ord_lt {a b : Nat} (h : a < b) : ordI (a : Int) (b : Int) = -1 := by unfold ordI; rw [if_pos (by omega)]
set_option maxHeartbeats 4000000 in
theorem lcmp_run (A B : Option Addr) (c d : Nat) (l m : List Int) (w : World) (hr : Kd.C (Kd.int .u64) w A l.length l) (hc : l.length ≤ c) (hs : Kd.C (Kd.int .u64) w B m.length m) (hd : m.length ≤ d) (hl : l.length ≤ 140737488351232) (hm : m.length ≤ 140737488351232) :
    Calls Tryz.prog 87 #[.slice A l.length c, .slice B m.length d] w fun e w' => e = .returned (.int .i64 (lexF ordI l m)) ∧ Below w.heap.size w w' := by
  have HR := Lib.hid hr
  have HS := Lib.hid hs
  clear hr hs
  go_enter Tryz.func87, Tryz.ntmps87
  go_wp2_with fail
  go_loopw [11] (fun v5 wr => ∃ k : Nat, v5 = .int .i64 k ∧ k ≤ l.length ∧ k ≤ m.length ∧ Hid (lexF ordI l m = lexF ordI (l.drop k) (m.drop k)) ∧ Hid (Below w.heap.size w wr)) (fun v5 _ => l.length - (intOf v5).toNat)
  case atStart => exact ⟨0, rfl, Nat.zero_le _, Nat.zero_le _, Lib.hid rfl, Lib.hid (Below.refl _ _)⟩
  case round =>
    obtain ⟨k, rfl, hk, hk', HF, HW⟩ := hrel
    by_cases h1 : k < l.length
    · have b1 : (k : Int) < (l.length : Int) := by omega
      obtain ⟨ab, ao, rfl, hx⟩ := ints_at HR.out k h1
      have X := pw_cell_below HW.out hx
      clear hx
      by_cases h2 : k < m.length
      · have b2 : (k : Int) < (m.length : Int) := by omega
        have b2' : ¬ ((m.length : Int) ≤ (k : Int)) := by omega
        obtain ⟨eb, eo, rfl, hy⟩ := ints_at HS.out k h2
        have Y := pw_cell_below HW.out hy
        clear hy
        have hD := lex_drop ordI l m k h1 h2
        rw [show l[k] = rd l (k : Int) by simp [rd, List.getD, h1], show m[k] = rd m (k : Int) by simp [rd, List.getD, h2]] at hD
        have HD := Lib.hid hD
        clear hD
        generalize rd l (k : Int) = x at *
        generalize rd m (k : Int) = y at *
        go_wp2_with fail
        refine (cmp_sid x y _).mono ?_
        rintro e w1 ⟨rfl, hb⟩
        have HW1 := Lib.hid (HW.out.trans (hb.mono HW.out.size))
        clear hb
        by_cases h0 : ordI x y = 0
        · have h0' : (ordI x y != 0) = false := by rw [h0]; rfl
          go_wp2_with fail
          go_roundw
          case rel => exact ⟨k + 1, by go_num, by omega, by omega, Lib.hid (by rw [HF.out, HD.out, if_pos h0]), HW1⟩
          case measure => simp [intOf]; omega
        · have h0' : (ordI x y != 0) = true := by simpa using h0
          go_wp2_with fail
          go_ret
          exact ⟨by rw [HF.out, HD.out, if_neg h0]; rfl, HW1.out⟩
      · have HE := Lib.hid (HF.out.trans ((lex_end ordI l m k hk hk' (by omega)).trans (ord_gt (by omega))))
        have b2 : (m.length : Int) ≤ (k : Int) := by omega
        go_wp2_with fail
        go_ret
        exact ⟨by rw [HE.out]; rfl, HW.out⟩
    · have b1 : ¬ (k : Int) < (l.length : Int) := by omega
      obtain rfl : k = l.length := by omega
      by_cases h2 : l.length < m.length
      · have HE := Lib.hid (HF.out.trans ((lex_end ordI l m _ hk hk' (by omega)).trans (ord_lt h2)))
        have b2 : (l.length : Int) < (m.length : Int) := by omega
        go_wp2_with fail
        go_ret
        exact ⟨by rw [HE.out]; rfl, HW.out⟩
      · have HE := Lib.hid (HF.out.trans ((lex_end ordI l m _ hk hk' (by omega)).trans (by rw [show m.length = l.length by omega, ord_eq])))
        have b2 : ¬ (l.length : Int) < (m.length : Int) := by omega
        go_wp2_with fail
        go_ret
        exact ⟨by rw [HE.out]; rfl, HW.out⟩
end Go.Proofs.YthdkgilpnkabmaaGreatDoor.Pr
