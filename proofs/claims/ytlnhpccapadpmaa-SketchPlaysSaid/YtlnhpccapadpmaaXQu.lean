/- spoorref13.Quantile, by hand. -/
import Derived.Test.YtlnhpccapadpmaaXQt
import Derived.Test.YtlnhpccapadpmaaXTm
import Derived.Test.YtlnhpccapadpmaaPr0g
import Derived.Outline
import Derived.Lib.LaidU8
namespace Go.Proofs.Ytlnhpccapadpmaa.Pr
open Go.RowKit Go.Proofs.YtlnhpccapadpmaaW.PrintWords Go.Proofs.YtlnhpccapadpmaaW.PrintLast Go.Proofs.YtlnhpccapadpmaaW.PrintMore
set_option linter.unusedVariables false
set_option linter.unusedSimpArgs false
theorem t61_at {w : World} {A : Option Addr} {n : Nat} {xs : List S61} (h : Kd.C k61 w A n xs) (k : Nat) (hk : k < n) : ∃ b o, A = some ⟨b, o, none⟩ ∧ w.cell? ⟨b, o + k * 2, none⟩ = some (.int .i64 (rd_T61 xs (k : Int)).f0) ∧ w.cell? ⟨b, o + k * 2 + 1, none⟩ = some (.int .u64 (rd_T61 xs (k : Int)).f1) := by
  obtain ⟨ad, hA, y0, _⟩ := at_T61 h 0 (by omega) (by omega)
  obtain ⟨b, o, sp⟩ := ad
  obtain rfl : sp = none := Go.Proofs.cell_spot y0
  obtain ⟨ad, hA', a, b'⟩ := at_T61 h (k : Int) (by omega) (by omega)
  rw [hA] at hA'
  cases hA'
  rw [Int.toNat_natCast, Addr.add_lit] at a b'
  exact ⟨b, o, hA, a, b'⟩
def QPost (W : World) (u v f : Int) (e : Ending) (w' : World) : Prop := e = .returned (.tuple #[.int .u64 u, .int .u64 v, .int .i64 f]) ∧ Below W.heap.size W w'
set_option maxHeartbeats 2000000 in
/-- A sketch that may not be. -/
theorem quant_no (A : Option Addr) (c : Nat) (l : List S61) (num den : Int) (W : World) (hr : Kd.C k61 W A l.length l) (hc : l.length ≤ c) (k : Nat) (e0 : Int) (he : e0 ≠ 0) (h : spoorref13_Check.f k l = some e0) :
    Calls Try.prog 43 #[.slice A l.length c, .int .u64 num, .int .u64 den] W (QPost W 0 0 131) := by
  have HC := Lib.hid (spoorref13_Check.calls k A c l e0 W hr hc h)
  have h0 : (e0 != 0) = true := by simpa using he
  clear hr h he
  go_enter Try.func43, Try.ntmps43
  go_wp2_with fail
  refine HC.out.mono ?_
  rintro e w1 ⟨rfl, ⟨n, rfl⟩⟩
  go_wp2_with fail
  go_ret3
  exact ⟨rfl, pw_below_drewN (Below.refl _ _) _⟩
theorem quant_none (A : Option Addr) (c : Nat) (num den : Int) (W : World) (hr : Kd.C k61 W A 0 []) :
    Calls Try.prog 43 #[.slice A 0 c, .int .u64 num, .int .u64 den] W (QPost W 0 0 132) := by
  have HC := Lib.hid (spoorref13_Check.calls 1 A c [] 0 W hr (Nat.zero_le _) rfl)
  clear hr
  go_enter Try.func43, Try.ntmps43
  go_wp2_with fail
  refine HC.out.mono ?_
  rintro e w1 ⟨rfl, ⟨n, rfl⟩⟩
  go_wp2_with fail
  go_ret3
  exact ⟨rfl, pw_below_drewN (Below.refl _ _) _⟩
theorem quant_ratio (A : Option Addr) (c : Nat) (l : List S61) (num den : Int) (W : World) (hr : Kd.C k61 W A l.length l) (hc : l.length ≤ c) (hl : l.length ≤ 9223372036854775807) (k : Nat) (h : spoorref13_Check.f k l = some 0) (hne : 0 < l.length) (hd : (den = 0 ∨ 1000000 < den) ∨ den < num) :
    Calls Try.prog 43 #[.slice A l.length c, .int .u64 num, .int .u64 den] W (QPost W 0 0 133) := by
  have HC := Lib.hid (spoorref13_Check.calls k A c l 0 W hr hc h)
  have h1 : ((l.length : Int) == 0) = false := beq_eq_false_iff_ne.2 (by omega)
  have h2 : (l.length == 0) = false := beq_eq_false_iff_ne.2 (by omega)
  clear hr h
  have fin : ∀ (b : Bool), ((den == 0) || decide (1000000 < den) || decide (num > den)) = b → b = true := fun b hb => by rw [← hb]; simp; omega
  rcases (by omega : den = 0 ∨ (den ≠ 0 ∧ 1000000 < den) ∨ (den ≠ 0 ∧ ¬ 1000000 < den ∧ den < num)) with d | ⟨d, d'⟩ | ⟨d, d', d''⟩
  · have c0 : (den == 0) = true := beq_iff_eq.2 d
    clear d hd fin
    go_enter Try.func43, Try.ntmps43
    go_wp2_with fail
    refine HC.out.mono ?_
    rintro e w1 ⟨rfl, ⟨n, rfl⟩⟩
    go_wp2_with fail
    go_ret3
    exact ⟨rfl, pw_below_drewN (Below.refl _ _) _⟩
  · have c0 : (den == 0) = false := beq_eq_false_iff_ne.2 d
    have c1 : decide (1000000 < den) = true := decide_eq_true d'
    clear d d' hd fin
    go_enter Try.func43, Try.ntmps43
    go_wp2_with fail
    refine HC.out.mono ?_
    rintro e w1 ⟨rfl, ⟨n, rfl⟩⟩
    go_wp2_with fail
    go_ret3
    exact ⟨rfl, pw_below_drewN (Below.refl _ _) _⟩
  · have c0 : (den == 0) = false := beq_eq_false_iff_ne.2 d
    have c1 : decide (1000000 < den) = false := decide_eq_false d'
    have c2 : decide (den < num) = true := decide_eq_true d''
    clear d d' d'' hd fin
    go_enter Try.func43, Try.ntmps43
    go_wp2_with fail
    refine HC.out.mono ?_
    rintro e w1 ⟨rfl, ⟨n, rfl⟩⟩
    go_wp2_with fail
    go_ret3
    exact ⟨rfl, pw_below_drewN (Below.refl _ _) _⟩
theorem count_any (A : Option Addr) (c : Nat) (l : List S61) (W : World) (hr : Kd.C k61 W A l.length l) (hc : l.length ≤ c) (i : Int) (p : Int × Int) (h : ∃ k, spoorref13_count.f k l i = some p) :
    ∀ V, Below W.heap.size W V → Calls Try.prog 47 #[.slice A l.length c, .int .i64 i] V fun e w' => e = .returned (.agg #[.int .u64 p.1, .int .u64 p.2]) ∧ Below V.heap.size V w' := by
  intro V hV
  obtain ⟨k, hk⟩ := h
  exact spoorref13_count.calls k A c l i p.1 p.2 V (Kd.C_below hr hV) hc hk
set_option maxHeartbeats 4000000 in
set_option maxRecDepth 100000 in
theorem quant_ok (A : Option Addr) (c : Nat) (l : List S61) (num den : Int) (W : World) (hr : Kd.C k61 W A l.length l) (hc : l.length ≤ c) (hl : l.length ≤ 1920) (k : Nat) (h : spoorref13_Check.f k l = some 0)
    (hd0 : 0 < den) (hd1 : den ≤ 1000000) (hn0 : 0 ≤ num) (hn : num ≤ den) (cn : Nat → Int × Int) (hcn : ∀ i : Nat, i ≤ l.length → ∃ k, spoorref13_count.f k l (i : Int) = some (cn i))
    (hb1 : ∀ i, 0 ≤ (cn i).1 ∧ (cn i).1 ≤ 18446744073709551615) (hb2 : ∀ i, 0 ≤ (cn i).2 ∧ (cn i).2 ≤ 18446744073709551615)
    (m : Nat) (hm : m < l.length) (hmt : ltFrom (tv (cn (m + 1)).1 (cn (m + 1)).2 den) (tv (cn l.length).1 (cn l.length).2 num) 5 = false)
    (hmi : ∀ i, i < m → ltFrom (tv (cn (i + 1)).1 (cn (i + 1)).2 den) (tv (cn l.length).1 (cn l.length).2 num) 5 = true)
    (u v f : Int) (ks : Nat) (hs : spoorref13_Span.f ks (rd_T61 l (m : Int)).f0 = some (u, v, f)) :
    Calls Try.prog 43 #[.slice A l.length c, .int .u64 num, .int .u64 den] W (QPost W u v f) := by
  have HC := Lib.hid (spoorref13_Check.calls k A c l 0 W hr hc h)
  have HN := Lib.hid (fun (i : Nat) (hi : i ≤ l.length) => count_any A c l W hr hc i (cn i) (hcn i hi))
  have HR := Lib.hid hr
  have HS := Lib.hid (fun V => spoorref13_Span.calls ks (rd_T61 l (m : Int)).f0 u v f V hs)
  have H1 := Lib.hid hb1
  have H2 := Lib.hid hb2
  have HMT := Lib.hid hmt
  have HMI := Lib.hid hmi
  have h1 : ((l.length : Int) == 0) = false := beq_eq_false_iff_ne.2 (by omega)
  have h2 : (l.length == 0) = false := beq_eq_false_iff_ne.2 (by omega)
  have c0 : (den == 0) = false := beq_eq_false_iff_ne.2 (by omega)
  have c1 : decide (1000000 < den) = false := decide_eq_false (by omega)
  have c2 : decide (den < num) = false := decide_eq_false (by omega)
  clear hr h hb1 hb2 hcn hmt hmi hs
  go_enter Try.func43, Try.ntmps43
  go_wp2_with fail
  refine HC.out.mono ?_
  rintro e w1 ⟨rfl, ⟨n, rfl⟩⟩
  have HW := Lib.hid (pw_below_drewN (Below.refl W.heap.size W) n)
  generalize W.drewN n = w1 at *
  go_wp2_with fail
  refine (HN.out l.length (Nat.le_refl _) w1 HW.out).mono ?_
  rintro e w2 ⟨rfl, hb⟩
  have HW2 := Lib.hid (HW.out.trans (hb.mono HW.out.size))
  clear hb h1 h2 c0 c1 c2
  go_wp2_with fail
  refine (times_run _ _ num _ (H1.out _) (H2.out _) ⟨hn0, by omega⟩).mono ?_
  rintro e w3 ⟨rfl, hb⟩
  have HW3 := Lib.hid (HW2.out.trans (hb.mono HW2.out.size))
  clear hb
  obtain ⟨T, hT⟩ : ∃ T, T = tv (cn l.length).1 (cn l.length).2 num := ⟨_, rfl⟩
  rw [show rowT (cn l.length).1 (cn l.length).2 num 5 = arr5 T by rw [hT]; rfl]
  rw [← hT] at HMT HMI
  clear hT
  have HG := Lib.hid (blk_new w3 (.cells (arr5 T) 80))
  have HA := Lib.hid (HW3.out.trans ((below_alloc (Below.refl w3.heap.size w3) (.cells (arr5 T) 80)).mono HW3.out.size))
  unfold arr5 at *
  go_wp2_with fail
  generalize w3.alloc (.cells #[.int .u64 (T 0), .int .u64 (T 1), .int .u64 (T 2), .int .u64 (T 3), .int .u64 (T 4)] 80) = w4 at *
  go_loopw [10] (fun v10 wr => ∃ i : Nat, v10 = .int .i64 i ∧ i ≤ m ∧ Hid (Below w4.heap.size w4 wr)) (fun v10 _ => m + 1 - (intOf v10).toNat)
  case atStart => exact ⟨0, rfl, Nat.zero_le _, Lib.hid (Below.refl _ _)⟩
  case round =>
    obtain ⟨i, rfl, hi, HF⟩ := hrel
    have hg := blk_below HG.out HF.out
    have HWr := Lib.hid (HA.out.trans (HF.out.mono HA.out.size))
    have g0 := fun z : Wx wr => z.cell ((cell_of_row _ _ 0 _ _ _ hg).trans rfl)
    have g1 := fun z : Wx wr => z.cell ((cell_of_row _ _ 1 _ _ _ hg).trans rfl)
    have g2 := fun z : Wx wr => z.cell ((cell_of_row _ _ 2 _ _ _ hg).trans rfl)
    have g3 := fun z : Wx wr => z.cell ((cell_of_row _ _ 3 _ _ _ hg).trans rfl)
    have g4 := fun z : Wx wr => z.cell ((cell_of_row _ _ 4 _ _ _ hg).trans rfl)
    have hil : (i : Int) < (l.length : Int) := by omega
    have C1 : Hid (∀ z : Wx wr, Calls Try.prog 47 #[.slice A l.length c, .int .i64 ((i : Int) + 1)] z.W fun e w' => e = .returned (.agg #[.int .u64 (cn (i + 1)).1, .int .u64 (cn (i + 1)).2]) ∧ Below z.W.heap.size z.W w') := Lib.hid (fun z => by
      have := HN.out (i + 1) (by omega) z.W (HWr.out.trans (z.h.mono HWr.out.size))
      rwa [show ((i + 1 : Nat) : Int) = (i : Int) + 1 by omega] at this)
    obtain ⟨U, hU⟩ : ∃ U, U = tv (cn (i + 1)).1 (cn (i + 1)).2 den := ⟨_, rfl⟩
    have C2 : Hid (∀ z : Wx wr, Calls Try.prog 48 #[.agg #[.int .u64 (cn (i + 1)).1, .int .u64 (cn (i + 1)).2], .int .u64 den] z.W fun e w' => e = .returned (.agg #[.int .u64 (U 0), .int .u64 (U 1), .int .u64 (U 2), .int .u64 (U 3), .int .u64 (U 4)]) ∧ Below z.W.heap.size z.W w') := Lib.hid (fun z => by
      rw [hU]
      exact times_run _ _ den z.W (H1.out _) (H2.out _) ⟨by omega, by omega⟩)
    obtain ⟨bb, hbb⟩ : ∃ b, ltFrom U T 5 = b := ⟨_, rfl⟩
    have C3 : Hid (∀ z : Wx wr, Calls Try.prog 49 #[.agg #[.int .u64 (U 0), .int .u64 (U 1), .int .u64 (U 2), .int .u64 (U 3), .int .u64 (U 4)], .agg #[.int .u64 (T 0), .int .u64 (T 1), .int .u64 (T 2), .int .u64 (T 3), .int .u64 (T 4)]] z.W fun e w' => e = .returned (.bool bb) ∧ Below z.W.heap.size z.W w') := Lib.hid (fun z => by
      rw [← hbb]
      exact below_run U T z.W)
    have HBB : Hid ((i < m → bb = true) ∧ (i = m → bb = false)) := Lib.hid ⟨fun h => by rw [← hbb, hU]; exact HMI.out i h, fun h => by rw [← hbb, hU, h]; exact HMT.out⟩
    clear hU hbb hg
    by_cases hlt : i < m
    · obtain rfl := HBB.out.1 hlt
      go_wp2_with fail
      refine wp_region_ext (by kernel_rfl) (by kernel_rfl) ?_
      repeat (go_big_quiet_step (first | (go_at_call 47; with_reducible exact Calls.ext_of (C1.out _)) | (go_at_call 48; with_reducible exact Calls.ext_of (C2.out _)) | (go_at_call 49; with_reducible exact Calls.ext_of (C3.out _))))
      refine wpQuiet_nil ?_
      intro _ hw'
      obtain ⟨xx, rfl⟩ := hw'
      go_wp2_with fail
      go_roundw
      case rel => exact ⟨i + 1, by go_num, by omega, Lib.hid (HF.out.trans (xx.h.mono HF.out.size))⟩
      case measure => simp [intOf]; omega
    · obtain rfl : i = m := by omega
      obtain rfl := HBB.out.2 rfl
      go_wp2_with fail
      refine wp_region_ext (by kernel_rfl) (by kernel_rfl) ?_
      repeat (go_big_quiet_step (first | (go_at_call 47; with_reducible exact Calls.ext_of (C1.out _)) | (go_at_call 48; with_reducible exact Calls.ext_of (C2.out _)) | (go_at_call 49; with_reducible exact Calls.ext_of (C3.out _))))
      refine wpQuiet_nil ?_
      intro _ hw'
      obtain ⟨xx, rfl⟩ := hw'
      have HX := Lib.hid (HWr.out.trans (xx.h.mono HWr.out.size))
      obtain ⟨ab, ao, rfl, y0, _⟩ := t61_at (Kd.C_below HR.out HX.out) i hm
      clear g0 g1 g2 g3 g4
      generalize xx.W = w5 at *
      go_wp2_with fail
      refine (HS.out _).mono ?_
      rintro e w6 ⟨rfl, ⟨n6, rfl⟩⟩
      go_wp2_with fail
      go_ret3
      exact ⟨rfl, pw_below_drewN HX.out _⟩
end Go.Proofs.Ytlnhpccapadpmaa.Pr
