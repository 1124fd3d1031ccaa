/- spoorref04.Compare, by hand. spoorref04's attrsOf, eventsOf, Compare, by hand. -/
import Derived.Test.YtdlnfmakfnggpaaDoorXQt
import Derived.Test.YtdlnfmakfnggpaaDoorPr0
import Derived.Test.YtdlnfmakfnggpaaDoorLe
import Derived.Lib.Hide
import Derived.Lib.LaidU8
import Derived.Outline
namespace Go.Proofs.YtdlnfmakfnggpaaDoor.Pr
open Go.RowKit Go.Proofs.YtdlnfmakfnggpaaDoorW.PrintWords Go.Proofs.YtdlnfmakfnggpaaDoorW.PrintMore
set_option linter.unusedVariables false
set_option linter.unusedSimpArgs false
/-! ### the plain order -/
def ordI (a b : Int) : Int := if a < b then -1 else if b < a then 1 else 0
def ordT (a b : ByteArray) : Int := if Op.bytesLess a.toList b.toList = true then -1 else if Op.bytesLess b.toList a.toList = true then 1 else 0
def firstF : List Int → Int
  | [] => 0
  | x :: l => if x = 0 then firstF l else x
def lexF {α : Type} (f : α → α → Int) : List α → List α → Int
  | a :: l, b :: m => if f a b = 0 then lexF f l m else f a b
  | l, m => ordI l.length m.length
def ordA (a b : S120) : Int := firstF [ordT a.f0 b.f0, ordI a.f1.f0 b.f1.f0, ordT a.f1.f1 b.f1.f1, ordI a.f1.f2 b.f1.f2]
def ordE (a b : S122) : Int := firstF [ordI a.f0 b.f0, ordT a.f1 b.f1]
def ordS (a b : S43) : Int := firstF [ordI a.f0.f0 b.f0.f0, ordI a.f0.f1 b.f0.f1, ordI a.f1 b.f1, ordI a.f9 b.f9, ordI b.f8 a.f8, ordI a.f7 b.f7, ordI a.f2 b.f2, ordT a.f4 b.f4, ordT a.f5 b.f5, ordI a.f6 b.f6, lexF ordI a.f3 b.f3, lexF ordA a.f10 b.f10, lexF ordE a.f11 b.f11]
theorem first_drop (l : List Int) (k : Nat) (h : k < l.length) : firstF (l.drop k) = if rd l (k : Int) = 0 then firstF (l.drop (k + 1)) else rd l (k : Int) := by
  rw [List.drop_eq_getElem_cons h]
  have : rd l (k : Int) = l[k] := by simp [rd, List.getD, h]
  rw [firstF, this]
theorem lex_drop {α : Type} (f : α → α → Int) (l m : List α) (k : Nat) (h : k < l.length) (h' : k < m.length) : lexF f (l.drop k) (m.drop k) = if f l[k] m[k] = 0 then lexF f (l.drop (k + 1)) (m.drop (k + 1)) else f l[k] m[k] := by
  rw [List.drop_eq_getElem_cons h, List.drop_eq_getElem_cons h', lexF]
theorem lex_end {α : Type} (f : α → α → Int) (l m : List α) (k : Nat) (h : k ≤ l.length) (h' : k ≤ m.length) (he : k = l.length ∨ k = m.length) : lexF f (l.drop k) (m.drop k) = ordI l.length m.length := by
  have key : lexF f (l.drop k) (m.drop k) = ordI (l.drop k).length (m.drop k).length := by
    rcases he with he | he
    · rw [he, List.drop_length]; cases m.drop l.length <;> rfl
    · rw [he, List.drop_length]; cases l.drop m.length <;> rfl
  rw [key, List.length_drop, List.length_drop]
  unfold ordI
  split <;> split <;> (try split) <;> (try split) <;> omega
/-! ### where elements lie -/
theorem ints_at {κ : IntKind} {w : World} {A : Option Addr} {n : Nat} {xs : List Int} (h : Kd.C (Kd.int κ) w A n xs) (k : Nat) (hk : k < n) : ∃ b o, A = some ⟨b, o, none⟩ ∧ w.cell? ⟨b, o + k, none⟩ = some (.int κ (rd xs (k : Int))) := by
  obtain ⟨ad, hA, y0⟩ := Kd.at_int h 0 (by omega) (by omega)
  obtain ⟨b, o, sp⟩ := ad
  obtain rfl : sp = none := Go.Proofs.cell_spot y0
  obtain ⟨ad, hA', y⟩ := Kd.at_int h (k : Int) (by omega) (by omega)
  rw [hA] at hA'
  cases hA'
  rw [Int.toNat_natCast, Addr.add_lit] at y
  exact ⟨b, o, hA, y⟩
theorem t120_at {w : World} {A : Option Addr} {n : Nat} {xs : List S120} (h : Kd.C k120 w A n xs) (k : Nat) (hk : k < n) : ∃ b o, A = some ⟨b, o, none⟩ ∧ w.cell? ⟨b, o + k * 4, none⟩ = some (.string (rd_T120 xs (k : Int)).f0) ∧ w.cell? ⟨b, o + k * 4 + 1, none⟩ = some (.int .i64 (rd_T120 xs (k : Int)).f1.f0) ∧
    w.cell? ⟨b, o + k * 4 + 1 + 1, none⟩ = some (.string (rd_T120 xs (k : Int)).f1.f1) ∧ w.cell? ⟨b, o + k * 4 + 1 + 2, none⟩ = some (.int .i64 (rd_T120 xs (k : Int)).f1.f2) := by
  obtain ⟨ad, hA, y0, _⟩ := at_T120 h 0 (by omega) (by omega)
  obtain ⟨b, o, sp⟩ := ad
  obtain rfl : sp = none := Go.Proofs.cell_spot y0
  obtain ⟨ad, hA', a, b', c, d⟩ := at_T120 h (k : Int) (by omega) (by omega)
  rw [hA] at hA'
  cases hA'
  rw [Int.toNat_natCast, Addr.add_lit] at a b' c d
  exact ⟨b, o, hA, a, b', c, d⟩
theorem t122_at {w : World} {A : Option Addr} {n : Nat} {xs : List S122} (h : Kd.C k122 w A n xs) (k : Nat) (hk : k < n) : ∃ b o, A = some ⟨b, o, none⟩ ∧ w.cell? ⟨b, o + k * 2, none⟩ = some (.int .i64 (rd_T122 xs (k : Int)).f0) ∧ w.cell? ⟨b, o + k * 2 + 1, none⟩ = some (.string (rd_T122 xs (k : Int)).f1) := by
  obtain ⟨ad, hA, y0, _⟩ := at_T122 h 0 (by omega) (by omega)
  obtain ⟨b, o, sp⟩ := ad
  obtain rfl : sp = none := Go.Proofs.cell_spot y0
  obtain ⟨ad, hA', a, b'⟩ := at_T122 h (k : Int) (by omega) (by omega)
  rw [hA] at hA'
  cases hA'
  rw [Int.toNat_natCast, Addr.add_lit] at a b'
  exact ⟨b, o, hA, a, b'⟩
/-! ### the walks -/
theorem words_run (a b : Int) (w : World) : Calls Tryd.prog 47 #[.int .u64 a, .int .u64 b] w fun e w' => e = .returned (.int .i64 (ordI a b)) ∧ Below w.heap.size w w' := by
  unfold ordI
  by_cases h : a < b
  · rw [if_pos h]
    go_enter Tryd.func47, Tryd.ntmps47
    go_wp2
    go_ret
    exact ⟨rfl, Below.refl _ _⟩
  · rw [if_neg h]
    by_cases h' : b < a
    · rw [if_pos h']
      go_enter Tryd.func47, Tryd.ntmps47
      go_wp2
      go_ret
      exact ⟨rfl, Below.refl _ _⟩
    · rw [if_neg h']
      go_enter Tryd.func47, Tryd.ntmps47
      go_wp2
      go_ret
      exact ⟨rfl, Below.refl _ _⟩
theorem numbers_run (a b : Int) (w : World) : Calls Tryd.prog 48 #[.int .i64 a, .int .i64 b] w fun e w' => e = .returned (.int .i64 (ordI a b)) ∧ Below w.heap.size w w' := by
  unfold ordI
  by_cases h : a < b
  · rw [if_pos h]
    go_enter Tryd.func48, Tryd.ntmps48
    go_wp2
    go_ret
    exact ⟨rfl, Below.refl _ _⟩
  · rw [if_neg h]
    by_cases h' : b < a
    · rw [if_pos h']
      go_enter Tryd.func48, Tryd.ntmps48
      go_wp2
      go_ret
      exact ⟨rfl, Below.refl _ _⟩
    · rw [if_neg h']
      go_enter Tryd.func48, Tryd.ntmps48
      go_wp2
      go_ret
      exact ⟨rfl, Below.refl _ _⟩
theorem texts_run (a b : ByteArray) (w : World) : Calls Tryd.prog 49 #[.string a, .string b] w fun e w' => e = .returned (.int .i64 (ordT a b)) ∧ Below w.heap.size w w' := by
  unfold ordT
  by_cases h : Op.bytesLess a.toList b.toList = true
  · rw [if_pos h]
    go_enter Tryd.func49, Tryd.ntmps49
    go_wp2
    go_ret
    exact ⟨rfl, Below.refl _ _⟩
  · rw [if_neg h]
    have h1 : Op.bytesLess a.toList b.toList = false := by simpa using h
    by_cases h' : Op.bytesLess b.toList a.toList = true
    · rw [if_pos h']
      go_enter Tryd.func49, Tryd.ntmps49
      go_wp2
      go_ret
      exact ⟨rfl, Below.refl _ _⟩
    · rw [if_neg h']
      have h2 : Op.bytesLess b.toList a.toList = false := by simpa using h'
      go_enter Tryd.func49, Tryd.ntmps49
      go_wp2
      go_ret
      exact ⟨rfl, Below.refl _ _⟩
/-- The first of some answers, out of a slice that reads as a list. -/
theorem first_run (A : Option Addr) (c : Nat) (l : List Int) (w : World) (hr : Kd.C (Kd.int .i64) w A l.length l) (hc : l.length ≤ c) (hl : l.length ≤ 140737488351232) :
    Calls Tryd.prog 46 #[.slice A l.length c] w fun e w' => e = .returned (.int .i64 (firstF l)) ∧ Below w.heap.size w w' := by
  have HR := Lib.hid hr
  clear hr
  go_enter Tryd.func46, Tryd.ntmps46
  go_wp2
  go_loop [3] (fun v3 => ∃ k : Nat, v3 = .int .i64 k ∧ k ≤ l.length ∧ Hid (firstF l = firstF (l.drop k))) (fun v3 => l.length - (intOf v3).toNat)
  case atStart => exact ⟨0, rfl, Nat.zero_le _, Lib.hid rfl⟩
  case round =>
    obtain ⟨k, rfl, hk, HF⟩ := hrel
    by_cases hlt : k < l.length
    · have hlk : (k : Int) < (l.length : Int) := by omega
      obtain ⟨ab, ao, rfl, hx⟩ := ints_at HR.out k hlt
      have HD := Lib.hid (first_drop l k hlt)
      generalize rd l (k : Int) = x at *
      by_cases h0 : x = 0
      · have h0' : (x != 0) = false := by rw [h0]; rfl
        go_wp2
        go_round
        case rel => exact ⟨k + 1, by go_num, by omega, Lib.hid (by rw [HF.out, HD.out, if_pos h0])⟩
        case measure => simp [intOf]; omega
      · have h0' : (x != 0) = true := by simpa using h0
        go_wp2
        go_ret
        exact ⟨by rw [HF.out, HD.out, if_neg h0]; rfl, Below.refl _ _⟩
    · obtain rfl : k = l.length := by omega
      go_wp2
      go_ret
      exact ⟨by rw [HF.out, List.drop_length]; rfl, Below.refl _ _⟩
set_option maxHeartbeats 4000000 in
theorem linksOf_run (A B : Option Addr) (c d : Nat) (l m : List Int) (w : World) (hr : Kd.C (Kd.int .u64) w A l.length l) (hc : l.length ≤ c) (hs : Kd.C (Kd.int .u64) w B m.length m) (hd : m.length ≤ d) (hl : l.length ≤ 140737488351232) (hm : m.length ≤ 140737488351232) :
    Calls Tryd.prog 50 #[.slice A l.length c, .slice B m.length d] w fun e w' => e = .returned (.int .i64 (lexF ordI l m)) ∧ Below w.heap.size w w' := by
  have HR := Lib.hid hr
  have HS := Lib.hid hs
  clear hr hs
  go_enter Tryd.func50, Tryd.ntmps50
  go_wp2_with fail
  go_loopw [5] (fun v5 wr => ∃ k : Nat, v5 = .int .i64 k ∧ k ≤ l.length ∧ k ≤ m.length ∧ Hid (lexF ordI l m = lexF ordI (l.drop k) (m.drop k)) ∧ Hid (Below w.heap.size w wr)) (fun v5 _ => l.length - (intOf v5).toNat)
  case atStart => exact ⟨0, rfl, Nat.zero_le _, Nat.zero_le _, Lib.hid rfl, Lib.hid (Below.refl _ _)⟩
  case round =>
    obtain ⟨k, rfl, hk, hk', HF, HW⟩ := hrel
    by_cases hlt : k < l.length ∧ k < m.length
    · obtain ⟨h1, h2⟩ := hlt
      have b1 : (k : Int) < (l.length : Int) := by omega
      have b2 : (k : Int) < (m.length : Int) := by omega
      obtain ⟨ab, ao, rfl, hx⟩ := ints_at HR.out k h1
      obtain ⟨eb, eo, rfl, hy⟩ := ints_at HS.out k h2
      have hD := lex_drop ordI l m k h1 h2
      rw [show l[k] = rd l (k : Int) by simp [rd, List.getD, h1], show m[k] = rd m (k : Int) by simp [rd, List.getD, h2]] at hD
      have HD := Lib.hid hD
      clear hD
      generalize rd l (k : Int) = x at *
      generalize rd m (k : Int) = y at *
      have X := fun z : Wx wr => z.cell (pw_cell_below HW.out hx)
      have Y := fun z : Wx wr => z.cell (pw_cell_below HW.out hy)
      clear hx hy
      have hlt : (decide ((k : Int) < (l.length : Int)) && decide ((k : Int) < (m.length : Int))) = true := by simp [h1, h2]
      by_cases h0 : ordI x y = 0
      · have h0' : (ordI x y != 0) = false := by rw [h0]; rfl
        go_wp2_with fail
        refine wp_region_ext (by kernel_rfl) (by kernel_rfl) ?_
        repeat (go_big_quiet_step (first | (go_at_call 47; with_reducible exact Calls.ext_of (words_run x y _))))
        refine wpQuiet_nil ?_
        intro _ hw'
        obtain ⟨xx, rfl⟩ := hw'
        go_wp2_with fail
        go_roundw
        case rel => exact ⟨k + 1, by go_num, by omega, by omega, Lib.hid (by rw [HF.out, HD.out, if_pos h0]), Lib.hid (HW.out.trans (xx.h.mono HW.out.size))⟩
        case measure => simp [intOf]; omega
      · have h0' : (ordI x y != 0) = true := by simpa using h0
        go_wp2_with fail
        refine wp_region_ext (by kernel_rfl) (by kernel_rfl) ?_
        repeat (go_big_quiet_step (first | (go_at_call 47; with_reducible exact Calls.ext_of (words_run x y _))))
        refine wpQuiet_nil ?_
        intro _ hw'
        obtain ⟨xx, rfl⟩ := hw'
        go_wp2_with fail
        go_ret
        exact ⟨by rw [HF.out, HD.out, if_neg h0]; rfl, HW.out.trans (xx.h.mono HW.out.size)⟩
    · have HE := Lib.hid (HF.out.trans (lex_end ordI l m k hk hk' (by omega)))
      by_cases b1 : (k : Int) < (l.length : Int)
      · have b2 : ¬ (k : Int) < (m.length : Int) := by omega
        go_wp2_with fail
        refine (numbers_run _ _ _).mono ?_
        rintro e w1 ⟨rfl, hb⟩
        go_wp2_with fail
        go_ret
        exact ⟨by rw [HE.out]; rfl, HW.out.trans (hb.mono HW.out.size)⟩
      · go_wp2_with fail
        refine (numbers_run _ _ _).mono ?_
        rintro e w1 ⟨rfl, hb⟩
        go_wp2_with fail
        go_ret
        exact ⟨by rw [HE.out]; rfl, HW.out.trans (hb.mono HW.out.size)⟩
end Go.Proofs.YtdlnfmakfnggpaaDoor.Pr
namespace Go.Proofs.YtdlnfmakfnggpaaDoor.Pr
open Go.RowKit Go.Proofs.YtdlnfmakfnggpaaDoorW.PrintWords Go.Proofs.YtdlnfmakfnggpaaDoorW.PrintMore
set_option linter.unusedVariables false
set_option linter.unusedSimpArgs false
theorem C_ints {w : World} {g t : Nat} {cs : Array Value} (l : List Int) (h : w.heap[g]? = some (.cells cs t (0, 0))) (hc : cs = (l.map (Value.int .i64)).toArray) (hl : l.length ≤ 9223372036854775807) :
    Kd.C (Kd.int .i64) w (some ⟨g, 0, none⟩) l.length l := by
  refine ⟨rfl, hl, fun _ => ⟨_, rfl, fun j p hj => ⟨[.int .i64 p], rfl, rfl, fun i u hu => ?_⟩⟩⟩
  have hi : i = 0 := by
    rcases i with _ | i
    · rfl
    · simp at hu
  subst hi
  obtain rfl : Value.int .i64 p = u := by simpa using hu
  show w.cell? (Addr.add ⟨g, 0, none⟩ (j * 1 + 0)) = _
  rw [Addr.add_lit, blk_cell h, hc]
  simp [hj]
/-- The first of answers that were just laid into a row. -/
theorem first_new (l : List Int) (r : Int) (hr : firstF l = r) (hl : l.length ≤ 100) (W : World) (t : Nat) (cs : Array Value) (n : Nat) (hc : cs = (l.map (Value.int .i64)).toArray) (hn : l.length = n) :
    Calls Tryd.prog 46 #[.slice (some ⟨W.heap.size, 0, none⟩) n n] (W.alloc (.cells cs t)) fun e w' => e = .returned (.int .i64 r) ∧ Below W.heap.size W w' := by
  subst hn
  refine (first_run _ _ l _ (C_ints l (blk_new W _) hc (by omega)) (Nat.le_refl _) (by omega)).mono ?_
  rintro e w' ⟨rfl, hb⟩
  have h1 := below_alloc (Below.refl W.heap.size W) (.cells cs t)
  exact ⟨by rw [hr], h1.trans (hb.mono h1.size)⟩
set_option maxHeartbeats 4000000 in
theorem attrsOf_run (A B : Option Addr) (c d : Nat) (l m : List S120) (w : World) (hr : Kd.C k120 w A l.length l) (hc : l.length ≤ c) (hs : Kd.C k120 w B m.length m) (hd : m.length ≤ d) (hl : l.length ≤ 140737488351232) (hm : m.length ≤ 140737488351232) :
    Calls Tryd.prog 51 #[.slice A l.length c, .slice B m.length d] w fun e w' => e = .returned (.int .i64 (lexF ordA l m)) ∧ Below w.heap.size w w' := by
  have HR := Lib.hid hr
  have HS := Lib.hid hs
  clear hr hs
  go_enter Tryd.func51, Tryd.ntmps51
  go_wp2_with fail
  go_loopw [5] (fun v5 wr => ∃ k : Nat, v5 = .int .i64 k ∧ k ≤ l.length ∧ k ≤ m.length ∧ Hid (lexF ordA l m = lexF ordA (l.drop k) (m.drop k)) ∧ Hid (Below w.heap.size w wr)) (fun v5 _ => l.length - (intOf v5).toNat)
  case atStart => exact ⟨0, rfl, Nat.zero_le _, Nat.zero_le _, Lib.hid rfl, Lib.hid (Below.refl _ _)⟩
  case round =>
    obtain ⟨k, rfl, hk, hk', HF, HW⟩ := hrel
    by_cases hlt : k < l.length ∧ k < m.length
    · obtain ⟨h1, h2⟩ := hlt
      have b1 : (k : Int) < (l.length : Int) := by omega
      have b2 : (k : Int) < (m.length : Int) := by omega
      obtain ⟨ab, ao, rfl, x0, x1, x2, x3⟩ := t120_at HR.out k h1
      obtain ⟨eb, eo, rfl, y0, y1, y2, y3⟩ := t120_at HS.out k h2
      have hD := lex_drop ordA l m k h1 h2
      rw [show l[k] = rd_T120 l (k : Int) by simp [rd_T120, List.getD, h1], show m[k] = rd_T120 m (k : Int) by simp [rd_T120, List.getD, h2]] at hD
      have HD := Lib.hid hD
      clear hD
      generalize rd_T120 l (k : Int) = x at *
      generalize rd_T120 m (k : Int) = y at *
      have z1 := pw_cell_below HW.out x1
      have z2 := pw_cell_below HW.out x2
      have z3 := pw_cell_below HW.out x3
      have u1 := pw_cell_below HW.out y1
      have u2 := pw_cell_below HW.out y2
      have u3 := pw_cell_below HW.out y3
      have X0 := Lib.hid (pw_cell_below HW.out x0)
      have Y0 := Lib.hid (pw_cell_below HW.out y0)
      clear x0 x1 x2 x3 y0 y1 y2 y3
      have hlt : (decide ((k : Int) < (l.length : Int)) && decide ((k : Int) < (m.length : Int))) = true := by simp [h1, h2]
      have H1 := Lib.hid (below_alloc (Below.refl wr.heap.size wr) (.cells #[.int .i64 x.f1.f0, .string x.f1.f1, .int .i64 x.f1.f2] 118))
      have v1 := pw_cell_below H1.out u1
      have v2 := pw_cell_below H1.out u2
      have v3 := pw_cell_below H1.out u3
      clear u1 u2 u3
      go_wp2_with fail
      have HB := Lib.hid (below_alloc H1.out (.cells #[.int .i64 y.f1.f0, .string y.f1.f1, .int .i64 y.f1.f2] 118))
      have g1 := blk_alloc (blk_new wr (.cells #[.int .i64 x.f1.f0, .string x.f1.f1, .int .i64 x.f1.f2] 118)) (.cells #[.int .i64 y.f1.f0, .string y.f1.f1, .int .i64 y.f1.f2] 118)
      have g2 := blk_new (wr.alloc (.cells #[.int .i64 x.f1.f0, .string x.f1.f1, .int .i64 x.f1.f2] 118)) (.cells #[.int .i64 y.f1.f0, .string y.f1.f1, .int .i64 y.f1.f2] 118)
      rw [World.size_alloc] at g2
      generalize (wr.alloc (.cells #[.int .i64 x.f1.f0, .string x.f1.f1, .int .i64 x.f1.f2] 118)).alloc (.cells #[.int .i64 y.f1.f0, .string y.f1.f1, .int .i64 y.f1.f2] 118) = w2 at *
      have X := fun z : Wx w2 => z.cell (pw_cell_below HB.out X0.out)
      have Y := fun z : Wx w2 => z.cell (pw_cell_below HB.out Y0.out)
      have p0 := fun z : Wx w2 => z.cell ((cell_of_row _ _ 0 _ _ _ g1).trans rfl)
      have p1 := fun z : Wx w2 => z.cell ((cell_of_row _ _ 1 _ _ _ g1).trans rfl)
      have p2 := fun z : Wx w2 => z.cell ((cell_of_row _ _ 2 _ _ _ g1).trans rfl)
      have q0 := fun z : Wx w2 => z.cell ((cell_of_row _ _ 0 _ _ _ g2).trans rfl)
      have q1 := fun z : Wx w2 => z.cell ((cell_of_row _ _ 1 _ _ _ g2).trans rfl)
      have q2 := fun z : Wx w2 => z.cell ((cell_of_row _ _ 2 _ _ _ g2).trans rfl)
      clear g1 g2 z1 z2 z3 v1 v2 v3
      refine wp_region_ext_tail 26 (by kernel_rfl) (by kernel_rfl) ?_
      simp only [List.take_succ_cons, List.take_zero, List.drop_succ_cons, List.drop_zero]
      repeat (go_big_quiet_step (first | (go_at_call 49; with_reducible exact Calls.ext_of (texts_run _ _ _)) | (go_at_call 48; with_reducible exact Calls.ext_of (numbers_run _ _ _))))
      refine wpQuiet_nil ?_
      intro _ hw'
      obtain ⟨xx, rfl⟩ := hw'
      clear X Y p0 p1 p2 q0 q1 q2
      go_wp2_with fail
      refine (first_new [ordT x.f0 y.f0, ordI x.f1.f0 y.f1.f0, ordT x.f1.f1 y.f1.f1, ordI x.f1.f2 y.f1.f2] (ordA x y) rfl (by simp) _ _ _ _ rfl rfl).mono ?_
      rintro e w3 ⟨rfl, hb⟩
      have b1 := HB.out.trans (xx.h.mono HB.out.size)
      have b2 := b1.trans (hb.mono b1.size)
      have HE := Lib.hid (HW.out.trans (b2.mono HW.out.size))
      clear b1 b2 hb
      by_cases h0 : ordA x y = 0
      · have h0' : (ordA x y != 0) = false := by rw [h0]; rfl
        go_wp2_with fail
        go_roundw
        case rel => exact ⟨k + 1, by go_num, by omega, by omega, Lib.hid (by rw [HF.out, HD.out, if_pos h0]), HE⟩
        case measure => simp [intOf]; omega
      · have h0' : (ordA x y != 0) = true := by simpa using h0
        go_wp2_with fail
        go_ret
        exact ⟨by rw [HF.out, HD.out, if_neg h0]; rfl, HE.out⟩
    · have HE := Lib.hid (HF.out.trans (lex_end ordA l m k hk hk' (by omega)))
      by_cases b1 : (k : Int) < (l.length : Int)
      · have b2 : ¬ (k : Int) < (m.length : Int) := by omega
        go_wp2_with fail
        refine (numbers_run _ _ _).mono ?_
        rintro e w1 ⟨rfl, hb⟩
        go_wp2_with fail
        go_ret
        exact ⟨by rw [HE.out]; rfl, HW.out.trans (hb.mono HW.out.size)⟩
      · go_wp2_with fail
        refine (numbers_run _ _ _).mono ?_
        rintro e w1 ⟨rfl, hb⟩
        go_wp2_with fail
        go_ret
        exact ⟨by rw [HE.out]; rfl, HW.out.trans (hb.mono HW.out.size)⟩
set_option maxHeartbeats 4000000 in
theorem eventsOf_run (A B : Option Addr) (c d : Nat) (l m : List S122) (w : World) (hr : Kd.C k122 w A l.length l) (hc : l.length ≤ c) (hs : Kd.C k122 w B m.length m) (hd : m.length ≤ d) (hl : l.length ≤ 140737488351232) (hm : m.length ≤ 140737488351232) :
    Calls Tryd.prog 52 #[.slice A l.length c, .slice B m.length d] w fun e w' => e = .returned (.int .i64 (lexF ordE l m)) ∧ Below w.heap.size w w' := by
  have HR := Lib.hid hr
  have HS := Lib.hid hs
  clear hr hs
  go_enter Tryd.func52, Tryd.ntmps52
  go_wp2_with fail
  go_loopw [5] (fun v5 wr => ∃ k : Nat, v5 = .int .i64 k ∧ k ≤ l.length ∧ k ≤ m.length ∧ Hid (lexF ordE l m = lexF ordE (l.drop k) (m.drop k)) ∧ Hid (Below w.heap.size w wr)) (fun v5 _ => l.length - (intOf v5).toNat)
  case atStart => exact ⟨0, rfl, Nat.zero_le _, Nat.zero_le _, Lib.hid rfl, Lib.hid (Below.refl _ _)⟩
  case round =>
    obtain ⟨k, rfl, hk, hk', HF, HW⟩ := hrel
    by_cases hlt : k < l.length ∧ k < m.length
    · obtain ⟨h1, h2⟩ := hlt
      have b1 : (k : Int) < (l.length : Int) := by omega
      have b2 : (k : Int) < (m.length : Int) := by omega
      obtain ⟨ab, ao, rfl, x0, x1⟩ := t122_at HR.out k h1
      obtain ⟨eb, eo, rfl, y0, y1⟩ := t122_at HS.out k h2
      have hD := lex_drop ordE l m k h1 h2
      rw [show l[k] = rd_T122 l (k : Int) by simp [rd_T122, List.getD, h1], show m[k] = rd_T122 m (k : Int) by simp [rd_T122, List.getD, h2]] at hD
      have HD := Lib.hid hD
      clear hD
      generalize rd_T122 l (k : Int) = x at *
      generalize rd_T122 m (k : Int) = y at *
      have X0 := fun z : Wx wr => z.cell (pw_cell_below HW.out x0)
      have X1 := fun z : Wx wr => z.cell (pw_cell_below HW.out x1)
      have Y0 := fun z : Wx wr => z.cell (pw_cell_below HW.out y0)
      have Y1 := fun z : Wx wr => z.cell (pw_cell_below HW.out y1)
      clear x0 x1 y0 y1
      have hlt : (decide ((k : Int) < (l.length : Int)) && decide ((k : Int) < (m.length : Int))) = true := by simp [h1, h2]
      go_wp2_with fail
      refine wp_region_ext_tail 22 (by kernel_rfl) (by kernel_rfl) ?_
      simp only [List.take_succ_cons, List.take_zero, List.drop_succ_cons, List.drop_zero]
      repeat (go_big_quiet_step (first | (go_at_call 49; with_reducible exact Calls.ext_of (texts_run _ _ _)) | (go_at_call 48; with_reducible exact Calls.ext_of (numbers_run _ _ _))))
      refine wpQuiet_nil ?_
      intro _ hw'
      obtain ⟨xx, rfl⟩ := hw'
      clear X0 X1 Y0 Y1
      go_wp2_with fail
      refine (first_new [ordI x.f0 y.f0, ordT x.f1 y.f1] (ordE x y) rfl (by simp) _ _ _ _ rfl rfl).mono ?_
      rintro e w3 ⟨rfl, hb⟩
      have b2 := xx.h.trans (hb.mono xx.h.size)
      have HE := Lib.hid (HW.out.trans (b2.mono HW.out.size))
      clear b2 hb
      by_cases h0 : ordE x y = 0
      · have h0' : (ordE x y != 0) = false := by rw [h0]; rfl
        go_wp2_with fail
        go_roundw
        case rel => exact ⟨k + 1, by go_num, by omega, by omega, Lib.hid (by rw [HF.out, HD.out, if_pos h0]), HE⟩
        case measure => simp [intOf]; omega
      · have h0' : (ordE x y != 0) = true := by simpa using h0
        go_wp2_with fail
        go_ret
        exact ⟨by rw [HF.out, HD.out, if_neg h0]; rfl, HE.out⟩
    · have HE := Lib.hid (HF.out.trans (lex_end ordE l m k hk hk' (by omega)))
      by_cases b1 : (k : Int) < (l.length : Int)
      · have b2 : ¬ (k : Int) < (m.length : Int) := by omega
        go_wp2_with fail
        refine (numbers_run _ _ _).mono ?_
        rintro e w1 ⟨rfl, hb⟩
        go_wp2_with fail
        go_ret
        exact ⟨by rw [HE.out]; rfl, HW.out.trans (hb.mono HW.out.size)⟩
      · go_wp2_with fail
        refine (numbers_run _ _ _).mono ?_
        rintro e w1 ⟨rfl, hb⟩
        go_wp2_with fail
        go_ret
        exact ⟨by rw [HE.out]; rfl, HW.out.trans (hb.mono HW.out.size)⟩
end Go.Proofs.YtdlnfmakfnggpaaDoor.Pr
