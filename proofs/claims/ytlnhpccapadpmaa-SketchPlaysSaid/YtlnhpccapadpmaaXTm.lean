/- spoorref13's times, below, by hand. -/
import Derived.Test.YtlnhpccapadpmaaPr0
import Derived.Test.YtlnhpccapadpmaaXRk
import Derived.Outline
import Derived.Deep.QuietTactic
import Derived.BigQuiet
namespace Go.Proofs.Ytlnhpccapadpmaa.Pr
open Go.RowKit Go.Proofs.YtlnhpccapadpmaaW.PrintWords Go.Proofs.YtlnhpccapadpmaaW.PrintLast Go.Proofs.YtlnhpccapadpmaaW.PrintMore
set_option linter.unusedVariables false
set_option linter.unusedSimpArgs false
/-- The words of a number, what is carried, what comes out. -/
def tw (hi lo : Int) : Nat → Int
  | 0 => lo % 4294967296
  | 1 => lo / 4294967296
  | 2 => hi % 4294967296
  | 3 => hi / 4294967296
  | _ => 0
def tc (hi lo b : Int) : Nat → Int
  | 0 => 0
  | k + 1 => (tw hi lo k * b + tc hi lo b k) / 4294967296
def tv (hi lo b : Int) (k : Nat) : Int := (tw hi lo k * b + tc hi lo b k) % 4294967296
theorem tw_range {hi lo : Int} (hh : 0 ≤ hi ∧ hi ≤ 18446744073709551615) (hl : 0 ≤ lo ∧ lo ≤ 18446744073709551615) (k : Nat) : 0 ≤ tw hi lo k ∧ tw hi lo k ≤ 4294967295 := by
  unfold tw; split <;> omega
theorem mul_range {x b : Int} (hx : 0 ≤ x ∧ x ≤ 4294967295) (hb : 0 ≤ b ∧ b ≤ 1048576) : 0 ≤ x * b ∧ x * b ≤ 4503599626321920 := by
  constructor
  · exact Int.mul_nonneg hx.1 hb.1
  · have := Int.mul_le_mul hx.2 hb.2 hb.1 (by omega : (0 : Int) ≤ 4294967295); omega
theorem tc_range {hi lo b : Int} (hh : 0 ≤ hi ∧ hi ≤ 18446744073709551615) (hl : 0 ≤ lo ∧ lo ≤ 18446744073709551615) (hb : 0 ≤ b ∧ b ≤ 1048576) : ∀ k, 0 ≤ tc hi lo b k ∧ tc hi lo b k ≤ 1048576
  | 0 => by unfold tc; omega
  | k + 1 => by
    have h1 := tc_range hh hl hb k
    have h2 := mul_range (tw_range hh hl k) hb
    unfold tc
    omega
def rowT (hi lo b : Int) : Nat → Array Value
  | 0 => #[.int .u64 (tw hi lo 0), .int .u64 (tw hi lo 1), .int .u64 (tw hi lo 2), .int .u64 (tw hi lo 3), .int .u64 0]
  | 1 => #[.int .u64 (tv hi lo b 0), .int .u64 (tw hi lo 1), .int .u64 (tw hi lo 2), .int .u64 (tw hi lo 3), .int .u64 0]
  | 2 => #[.int .u64 (tv hi lo b 0), .int .u64 (tv hi lo b 1), .int .u64 (tw hi lo 2), .int .u64 (tw hi lo 3), .int .u64 0]
  | 3 => #[.int .u64 (tv hi lo b 0), .int .u64 (tv hi lo b 1), .int .u64 (tv hi lo b 2), .int .u64 (tw hi lo 3), .int .u64 0]
  | 4 => #[.int .u64 (tv hi lo b 0), .int .u64 (tv hi lo b 1), .int .u64 (tv hi lo b 2), .int .u64 (tv hi lo b 3), .int .u64 0]
  | _ => #[.int .u64 (tv hi lo b 0), .int .u64 (tv hi lo b 1), .int .u64 (tv hi lo b 2), .int .u64 (tv hi lo b 3), .int .u64 (tv hi lo b 4)]
theorem rowT_get (hi lo b : Int) (k : Nat) (h : k < 5) : (rowT hi lo b k)[k]? = some (.int .u64 (tw hi lo k)) := by
  rcases k with _ | _ | _ | _ | _ | k
  all_goals first | rfl | omega
theorem rowT_set (hi lo b : Int) (k : Nat) (h : k < 5) : (rowT hi lo b k).setIfInBounds k (.int .u64 (tv hi lo b k)) = rowT hi lo b (k + 1) := by
  rcases k with _ | _ | _ | _ | _ | k
  all_goals first | rfl | omega
set_option maxHeartbeats 1000000 in
theorem times_run (hi lo b : Int) (W : World) (hh : 0 ≤ hi ∧ hi ≤ 18446744073709551615) (hl : 0 ≤ lo ∧ lo ≤ 18446744073709551615) (hb : 0 ≤ b ∧ b ≤ 1048576) :
    Calls Try.prog 48 #[.agg #[.int .u64 hi, .int .u64 lo], .int .u64 b] W fun e w' => e = .returned (.agg (rowT hi lo b 5)) ∧ Below W.heap.size W w' := by
  have HR := Lib.hid (tc_range hh hl hb)
  have HT := Lib.hid (tw_range hh hl)
  have HBB := Lib.hid hb
  obtain ⟨h0, h1⟩ := hh
  obtain ⟨l0, l1⟩ := hl
  obtain ⟨b0, b1⟩ := hb
  have hG : Hid (((((W.alloc (.cells #[.int .u64 hi, .int .u64 lo] 35)).alloc (.cells #[.int .u64 0, .int .u64 0, .int .u64 0, .int .u64 0, .int .u64 0] 80)).alloc (.cells (rowT hi lo b 0) 80)).heap[W.heap.size + 1 + 1]? = some (.cells (rowT hi lo b 0) 80 (0, 0))) ∧
      ((((W.alloc (.cells #[.int .u64 hi, .int .u64 lo] 35)).alloc (.cells #[.int .u64 0, .int .u64 0, .int .u64 0, .int .u64 0, .int .u64 0] 80)).alloc (.cells (rowT hi lo b 0) 80)).heap[W.heap.size + 1]? = some (.cells #[.int .u64 0, .int .u64 0, .int .u64 0, .int .u64 0, .int .u64 0] 80 (0, 0))) ∧
      Below W.heap.size W (((W.alloc (.cells #[.int .u64 hi, .int .u64 lo] 35)).alloc (.cells #[.int .u64 0, .int .u64 0, .int .u64 0, .int .u64 0, .int .u64 0] 80)).alloc (.cells (rowT hi lo b 0) 80))) := by
    have e1 := blk_new ((W.alloc (.cells #[.int .u64 hi, .int .u64 lo] 35)).alloc (.cells #[.int .u64 0, .int .u64 0, .int .u64 0, .int .u64 0, .int .u64 0] 80)) (.cells (rowT hi lo b 0) 80)
    have e2 := blk_alloc (blk_new (W.alloc (.cells #[.int .u64 hi, .int .u64 lo] 35)) (.cells #[.int .u64 0, .int .u64 0, .int .u64 0, .int .u64 0, .int .u64 0] 80)) (.cells (rowT hi lo b 0) 80)
    rw [World.size_alloc, World.size_alloc] at e1
    rw [World.size_alloc] at e2
    exact Lib.hid ⟨e1, e2, below_alloc (below_alloc (below_alloc (Below.refl _ _) _) _) _⟩
  unfold rowT tw at hG
  simp only [] at hG
  go_enter Try.func48, Try.ntmps48
  go_wp2_with fail
  generalize ((W.alloc (.cells #[.int .u64 hi, .int .u64 lo] 35)).alloc (.cells #[.int .u64 0, .int .u64 0, .int .u64 0, .int .u64 0, .int .u64 0] 80)).alloc (.cells #[.int .u64 (lo % 4294967296), .int .u64 (lo / 4294967296), .int .u64 (hi % 4294967296), .int .u64 (hi / 4294967296), .int .u64 0] 80) = w3 at *
  go_loopw [6, 7] (fun v6 v7 wr => ∃ k : Nat, v7 = .int .i64 k ∧ k ≤ 5 ∧ v6 = .int .u64 (tc hi lo b k) ∧ Hid (wr.heap[W.heap.size + 1 + 1]? = some (.cells (rowT hi lo b k) 80 (0, 0))) ∧ Hid (wr.heap[W.heap.size + 1]? = some (.cells #[.int .u64 0, .int .u64 0, .int .u64 0, .int .u64 0, .int .u64 0] 80 (0, 0))) ∧ Hid (Below W.heap.size W wr)) (fun _ v7 _ => 5 - (intOf v7).toNat)
  case atStart => exact ⟨0, rfl, Nat.zero_le _, rfl, Lib.hid hG.out.1, Lib.hid hG.out.2.1, Lib.hid hG.out.2.2⟩
  case round =>
    obtain ⟨k, rfl, hk, rfl, HB, HZ, HF⟩ := hrel
    by_cases hlt : k < 5
    · have hk5 : (k : Int) < 5 := by omega
      have x0 : wr.cell? ⟨W.heap.size + 1 + 1, k, none⟩ = some (.int .u64 (tw hi lo k)) := by rw [blk_cell HB.out]; exact rowT_get hi lo b k hlt
      have xf := fun j => blk_frozen HB.out j
      have hm := mul_range (HT.out k) HBB.out
      have hc := HR.out k
      have hv := tv hi lo b k
      have HS := Lib.hid (blk_put HB.out k (.int .u64 (tv hi lo b k)) (rowT_set hi lo b k hlt))
      have HZ' := Lib.hid ((Below.heap_setCell wr ⟨W.heap.size + 1 + 1, k, none⟩ (.int .u64 (tv hi lo b k)) (W.heap.size + 1) (by simp)).trans HZ.out)
      have HF' := Lib.hid (below_set (j := k) (v := .int .u64 (tv hi lo b k)) HF.out (show W.heap.size ≤ W.heap.size + 1 + 1 by omega))
      have hcs : Hid (tc hi lo b (k + 1) = (tw hi lo k * b + tc hi lo b k) / 4294967296) := Lib.hid rfl
      have hvs : Hid (tv hi lo b k = (tw hi lo k * b + tc hi lo b k) % 4294967296) := Lib.hid rfl
      generalize tv hi lo b k = v' at *
      generalize tw hi lo k = m at *
      generalize tc hi lo b k = c at *
      obtain ⟨hm0, hm1⟩ := hm
      obtain ⟨hc0, hc1⟩ := hc
      clear hv
      go_wp2_with fail
      rw [← hvs.out]
      go_roundw
      case rel => exact ⟨k + 1, by go_num, by omega, by rw [hcs.out], HS, HZ', HF'⟩
      case measure => simp [intOf]; omega
    · obtain rfl : k = 5 := by omega
      have y0 : wr.cell? ⟨W.heap.size + 1 + 1, 0, none⟩ = some (.int .u64 (tv hi lo b 0)) := (cell_of_row _ _ 0 _ _ _ HB.out).trans rfl
      have y1 : wr.cell? ⟨W.heap.size + 1 + 1, 1, none⟩ = some (.int .u64 (tv hi lo b 1)) := (cell_of_row _ _ 1 _ _ _ HB.out).trans rfl
      have y2 : wr.cell? ⟨W.heap.size + 1 + 1, 2, none⟩ = some (.int .u64 (tv hi lo b 2)) := (cell_of_row _ _ 2 _ _ _ HB.out).trans rfl
      have y3 : wr.cell? ⟨W.heap.size + 1 + 1, 3, none⟩ = some (.int .u64 (tv hi lo b 3)) := (cell_of_row _ _ 3 _ _ _ HB.out).trans rfl
      have y4 : wr.cell? ⟨W.heap.size + 1 + 1, 4, none⟩ = some (.int .u64 (tv hi lo b 4)) := (cell_of_row _ _ 4 _ _ _ HB.out).trans rfl
      have z0 := (cell_of_row _ _ 0 _ _ _ HZ.out).trans rfl
      have z1 := (cell_of_row _ _ 1 _ _ _ HZ.out).trans rfl
      have z2 := (cell_of_row _ _ 2 _ _ _ HZ.out).trans rfl
      have z3 := (cell_of_row _ _ 3 _ _ _ HZ.out).trans rfl
      have z4 := (cell_of_row _ _ 4 _ _ _ HZ.out).trans rfl
      have zf := fun j => blk_frozen HZ.out j
      go_wp2_with fail
      refine bodyPost_ret (results_cell_row rfl _ _ (W.heap.size + 1) 80 (rowT hi lo b 5) (0, 0) _ rfl ?_ Try.underlying80 rfl (by kernel_rfl)) rfl ⟨rfl, ?_⟩
      · exact blk_put (blk_put (blk_put (blk_put (blk_put HZ.out 0 _ rfl) 1 _ rfl) 2 _ rfl) 3 _ rfl) 4 _ rfl
      · have hz : W.heap.size ≤ W.heap.size + 1 := by omega
        exact below_set (below_set (below_set (below_set (below_set HF.out hz) hz) hz) hz) hz
/-! ### below -/
def val5 (t : Nat → Int) : Int := t 0 + 4294967296 * (t 1 + 4294967296 * (t 2 + 4294967296 * (t 3 + 4294967296 * t 4)))
def ltFrom (s t : Nat → Int) : Nat → Bool
  | 0 => false
  | k + 1 => if s k = t k then ltFrom s t k else decide (s k < t k)
def arr5 (s : Nat → Int) : Array Value := #[.int .u64 (s 0), .int .u64 (s 1), .int .u64 (s 2), .int .u64 (s 3), .int .u64 (s 4)]
theorem arr5_get (s : Nat → Int) (k : Nat) (h : k < 5) : (arr5 s)[k]? = some (.int .u64 (s k)) := by
  rcases k with _ | _ | _ | _ | _ | k
  all_goals first | rfl | omega
set_option maxHeartbeats 1000000 in
theorem below_run (s t : Nat → Int) (W : World) : Calls Try.prog 49 #[.agg (arr5 s), .agg (arr5 t)] W fun e w' => e = .returned (.bool (ltFrom s t 5)) ∧ Below W.heap.size W w' := by
  have e1 := blk_alloc (blk_new W (.cells (arr5 s) 80)) (.cells (arr5 t) 80)
  have e2 := blk_new (W.alloc (.cells (arr5 s) 80)) (.cells (arr5 t) 80)
  rw [World.size_alloc] at e2
  have hb := below_alloc (below_alloc (Below.refl W.heap.size W) (.cells (arr5 s) 80)) (.cells (arr5 t) 80)
  have x : ∀ k, k < 5 → ((W.alloc (.cells (arr5 s) 80)).alloc (.cells (arr5 t) 80)).cell? ⟨W.heap.size, k, none⟩ = some (.int .u64 (s k)) := fun k hk => by rw [blk_cell e1]; exact arr5_get s k hk
  have y : ∀ k, k < 5 → ((W.alloc (.cells (arr5 s) 80)).alloc (.cells (arr5 t) 80)).cell? ⟨W.heap.size + 1, k, none⟩ = some (.int .u64 (t k)) := fun k hk => by rw [blk_cell e2]; exact arr5_get t k hk
  have HX := Lib.hid x
  have HY := Lib.hid y
  have HB := Lib.hid hb
  clear e1 e2 x y hb
  unfold arr5 at *
  go_enter Try.func49, Try.ntmps49
  go_wp2_with fail
  generalize (W.alloc (.cells #[.int .u64 (s 0), .int .u64 (s 1), .int .u64 (s 2), .int .u64 (s 3), .int .u64 (s 4)] 80)).alloc (.cells #[.int .u64 (t 0), .int .u64 (t 1), .int .u64 (t 2), .int .u64 (t 3), .int .u64 (t 4)] 80) = w2 at *
  go_loopw [5] (fun v5 wr => ∃ i : Int, v5 = .int .i64 i ∧ -1 ≤ i ∧ i ≤ 4 ∧ Hid (ltFrom s t 5 = ltFrom s t (i + 1).toNat) ∧ ∃ n, wr = w2.drewN n) (fun v5 _ => (intOf v5 + 1).toNat)
  case atStart => exact ⟨4, rfl, by omega, by omega, Lib.hid rfl, 0, rfl⟩
  case round =>
    obtain ⟨i, rfl, hi0, hi1, HL, nd, rfl⟩ := hrel
    by_cases hlt : 0 ≤ i
    · obtain ⟨m, rfl⟩ : ∃ m : Nat, i = m := ⟨i.toNat, by omega⟩
      have hm5 : (m : Int) < 5 := by omega
      have x := HX.out m (by omega)
      have y := HY.out m (by omega)
      have HU := Lib.hid (show ltFrom s t ((m : Int) + 1).toNat = if s m = t m then ltFrom s t m else decide (s m < t m) by rw [show ((m : Int) + 1).toNat = m + 1 by omega]; rfl)
      by_cases he : s m = t m
      · have hne : (s m != t m) = false := by simp [he]
        have HV := Lib.hid (HU.out.trans (if_pos he))
        clear he
        generalize s m = a at *
        generalize t m = b at *
        go_wp2_with fail
        go_quiet (fail)
        go_wp2_with fail
        go_roundw
        case rel => exact ⟨(m : Int) - 1, rfl, by omega, by omega, Lib.hid (by rw [HL.out, HV.out, show ((m : Int) - 1 + 1).toNat = m by omega]), _, rfl⟩
        case measure => simp [intOf]
      · have hne : (s m != t m) = true := by simpa using he
        have HV := Lib.hid (HU.out.trans (if_neg he))
        clear he
        generalize s m = a at *
        generalize t m = b at *
        go_wp2_with fail
        go_quiet (fail)
        go_wp2_with fail
        go_quiet (fail)
        go_wp2_with fail
        go_ret
        exact ⟨by rw [HL.out, HV.out]; rfl, by repeat (first | exact HB.out | apply pw_below_drewN)⟩
    · have hi : i = -1 := by omega
      subst hi
      go_wp2_with fail
      go_ret
      exact ⟨by rw [HL.out]; rfl, pw_below_drewN HB.out _⟩
end Go.Proofs.Ytlnhpccapadpmaa.Pr
