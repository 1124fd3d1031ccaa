/- (*Store).All's iterator: its contract. -/
import Derived.Test.YthdkgilpnkabmaaGreatDoorMe
import Derived.Test.YthdkgilpnkabmaaGreatDoorRv
import Derived.Shelf.Abstract
import Derived.Shelf.RegionOpen
import Derived.WalkKit
import Derived.OwnWalkIn
import Derived.TacticsInMore
import Derived.LoopNIn
import Derived.LoopIn
namespace Go.Proofs.YthdkgilpnkabmaaGreatDoor.Pr
open Go Go.RowKit Go.Proofs.YthdkgilpnkabmaaGreatDoorW.PrintWords Go.Proofs.YthdkgilpnkabmaaGreatDoorW.PrintMore
open Go.Shelf
open Rm Ps Rv
set_option linter.unusedVariables false
set_option linter.unusedSimpArgs false
attribute [local go_sem] Oper.semAt_some
/-- The span that is handed over lies in memory from b0 on. -/
def VS (b0 : Nat) (r : SpR) (W : World) : Prop := kSq.M W b0 (fun _ => True) r.x (encS r)
def encY (r : SpR) : Array Value := #[.agg (encS r).toArray]
set_option maxHeartbeats 4000000 in
set_option maxRecDepth 100000 in
theorem iter_in (n : Nat) (hn : 1 ≤ n) (l Bn b0 : Nat) (A : Option Addr) (c : Nat) (xs : List Sp) (hok : ∀ x ∈ xs, okSp x) (hl : xs.length ≤ 140737488351232) (Kp : World → World → Prop) (St : World → Prop) (J Jx : List SpR → World → Prop)
    (hSc : ∀ W, St W → W.cell? ⟨Bn, 0, none⟩ = some (.slice A xs.length c) ∧ Kd.C kSp W A xs.length xs) (hSb : ∀ V W, St V → Below V.heap.size V W → St W) (hSk : ∀ V W, St V → Kp V W → St W ∧ V.heap.size ≤ W.heap.size)
    (hJ : ∀ s V W, J s V → Below V.heap.size V W → J s W)
    (hY : ∀ pre x W1, J pre W1 → VS b0 x W1 → pre.length < xs.length → YieldAt Fence.wide (n - 1) Tryz.prog l (encY x) W1 fun e W' =>
      (e = .returned (.bool true) ∧ J (pre ++ [x]) W' ∧ Kp W1 W') ∨ (e = .returned (.bool false) ∧ Jx (pre ++ [x]) W'))
    (W : World) (hb0 : b0 ≤ W.heap.size) (hS : St W) (h0 : J [] W) :
    CallsIn Fence.wide n Tryz.prog 50 #[.func (.yield l) #[] #[], .pointer (some ⟨Bn, 0, none⟩)] W fun e W' => (∃ v, e = .returned v) ∧
      ((∃ ys, ys.map SpR.x = xs ∧ J ys W') ∨ (∃ pre, pre.map SpR.x <+: xs ∧ Jx pre W')) := by
  have HOK := Lib.hid hok
  have HSC := Lib.hid hSc
  have HSB := Lib.hid hSb
  have HSK := Lib.hid hSk
  have HJ := Lib.hid hJ
  have HY := Lib.hid hY
  have HS := Lib.hid hS
  have H0 := Lib.hid h0
  have hcell := (hSc W hS).1
  obtain ⟨_, _, hAl⟩ := (hSc W hS).2
  clear hok hSc hSb hSk hJ hY hS h0 hAl
  refine callsIn_of_wp Tryz.func50 rfl trivial ?_ rfl
  simp only [Tryz.ntmps50, List.size_toArray, List.length_cons, List.length_nil, Nat.reduceAdd, Nat.reduceSub, Array.replicate_succ, Array.replicate_zero, List.push_toArray, List.append_toArray, List.nil_append, List.cons_append]
  gi_wp2
  gi_loopw [7] (fun i wr => ∃ (k : Nat) (ys : List SpR), k ≤ xs.length ∧ i = .int .i64 k ∧ Hid (ys.map SpR.x = xs.take k) ∧ Hid (J ys wr) ∧ Hid (St wr) ∧ Hid (b0 ≤ wr.heap.size))
    (fun i _ => xs.length - (intOf i).toNat)
  case atStart => exact ⟨0, [], Nat.zero_le _, rfl, Lib.hid (by simp), H0, HS, Lib.hid hb0⟩
  case round =>
    obtain ⟨k, ys, hk, rfl, HM, HJs, HSt, HB0⟩ := hrel
    by_cases hlt : k < xs.length
    · have hlk : (k : Int) < (xs.length : Int) := by omega
      obtain ⟨ab, ao, rfl, hab, A4, c4, A11, c11, A12, c12, hK, hx⟩ := spRow (HSC.out _ HSt.out).2 k hlt
      have HAT := Lib.hid (rdS_at hlt)
      have HOX := Lib.hid (HOK.out _ (rdS_mem hlt))
      have hx' := hx
      have HK := Lib.hid hK
      generalize rdS xs k = x at *
      obtain ⟨⟨hi, lo⟩, id, par, lk, sv, op, kd, st, s0, s1, la, le⟩ := x
      dsimp only [cSp] at hx'
      have x0 := hx' 0 _ rfl
      have x1 := hx' 1 _ rfl
      have x2 := hx' 2 _ rfl
      have x3 := hx' 3 _ rfl
      have x4 := hx' 4 _ rfl
      have x5 := hx' 5 _ rfl
      have x6 := hx' 6 _ rfl
      have x7 := hx' 7 _ rfl
      have x8 := hx' 8 _ rfl
      have x9 := hx' 9 _ rfl
      have x10 := hx' 10 _ rfl
      have x11 := hx' 11 _ rfl
      have x12 := hx' 12 _ rfl
      simp only [Nat.add_zero] at x0
      clear hx hx' hK
      have hb1 := below_alloc (Below.refl wr.heap.size wr) (.cells #[.int .u64 hi, .int .u64 lo, .int .u64 id, .int .u64 par, .slice A4 lk.length c4, .string sv, .string op, .int .i64 kd, .int .i64 st, .int .i64 s0, .int .i64 s1, .slice A11 la.length c11, .slice A12 le.length c12] 41)
      have HCL := Lib.hid (clone_run _ HOX.out (wr.alloc (.cells #[.int .u64 hi, .int .u64 lo, .int .u64 id, .int .u64 par, .slice A4 lk.length c4, .string sv, .string op, .int .i64 kd, .int .i64 st, .int .i64 s0, .int .i64 s1, .slice A11 la.length c11, .slice A12 le.length c12] 41)) _ (kSp.K_below hb1 HK.out))
      have HW1 := Lib.hid hb1
      clear hb1 hab
      gi_wp2
      refine ⟨trivial, ?_⟩
      refine (callsIn_wide.2 HCL.out).mono ?_
      rintro e w2 ⟨v4, v11, v12, rfl, hM, hb2⟩
      obtain ⟨_, _, _, hu, z4, z11, z12⟩ := kSq_openM hM
      obtain ⟨E4, e4, rfl, _, _⟩ := Kd.Zv_reads z4
      obtain ⟨E11, e11, rfl, _, _⟩ := Kd.Zv_reads z11
      obtain ⟨E12, e12, rfl, _, _⟩ := Kd.Zv_reads z12
      simp only [cSp, List.cons.injEq, and_true, true_and] at hu
      obtain ⟨rfl, rfl, rfl⟩ := hu
      have HW2 := Lib.hid (HW1.out.trans (hb2.mono HW1.out.size))
      have HB2 := Lib.hid (Nat.le_trans HB0.out HW2.out.size)
      have HM2 := Lib.hid (show VS b0 ⟨⟨⟨hi, lo⟩, id, par, lk, sv, op, kd, st, s0, s1, la, le⟩, E4, lk.length, e4, E11, la.length, e11, E12, le.length, e12⟩ w2 from kSq.M_lower (Nat.le_trans HB0.out HW1.out.size) hM)
      have HJ2 := Lib.hid (HJ.out _ _ _ HJs.out HW2.out)
      have HS2 := Lib.hid (HSB.out _ _ HSt.out HW2.out)
      have HLY := Lib.hid (show ys.length = k by
        have := congrArg List.length HM.out
        rw [List.length_map, List.length_take] at this
        omega)
      obtain ⟨fn, tmps, assign, body, hy, hR⟩ := HY.out ys _ w2 HJ2.out HM2.out (by rw [HLY.out]; exact hlt)
      have HR := Lib.hid hR
      have HMM := Lib.hid (show (ys ++ [(⟨⟨⟨hi, lo⟩, id, par, lk, sv, op, kd, st, s0, s1, la, le⟩, E4, lk.length, e4, E11, la.length, e11, E12, le.length, e12⟩ : SpR)]).map SpR.x = xs.take (k + 1) by
        rw [List.map_append, HM.out, List.take_succ_eq_append_getElem hlt, ← HAT.out]
        rfl)
      clear hM hb2 z4 z11 z12 hR HCL HK HOX HW1
      dsimp only [encY, encS, cSp] at hy
      gi_wp2
      refine HR.out.mono ?_
      rintro e w3 (⟨rfl, hJ3, hk3⟩ | ⟨rfl, hJx3⟩)
      · have HJ3 := Lib.hid hJ3
        have HS3 := Lib.hid (HSK.out _ _ HS2.out hk3)
        clear hJ3 hk3 hy
        gi_wp2
        go_roundw
        case rel => exact ⟨k + 1, _, by omega, by go_num, HMM, HJ3, Lib.hid HS3.out.1, Lib.hid (Nat.le_trans HB2.out HS3.out.2)⟩
        case measure => simp [intOf]; omega
      · have HJ3 := Lib.hid hJx3
        have HPX := Lib.hid (show (ys ++ [(⟨⟨⟨hi, lo⟩, id, par, lk, sv, op, kd, st, s0, s1, la, le⟩, E4, lk.length, e4, E11, la.length, e11, E12, le.length, e12⟩ : SpR)]).map SpR.x <+: xs by rw [HMM.out]; exact List.take_prefix _ _)
        clear hJx3 hy
        gi_wp2
        refine bodyPost_ret (results_none rfl _ _ _) rfl ?_
        exact ⟨⟨_, rfl⟩, .inr ⟨_, HPX.out, HJ3.out⟩⟩
    · obtain rfl : k = xs.length := by omega
      have HF := Lib.hid (show ys.map SpR.x = xs by rw [HM.out, List.take_length])
      gi_wp2
      go_end0
      exact ⟨⟨_, rfl⟩, .inl ⟨ys, HF.out, HJs.out⟩⟩
/-- What All hands back: a function over a list of its own. -/
def ItPost (w : World) (L : List Sp) (e : Ending) (w' : World) : Prop :=
  ∃ Bn A c ys, e = .returned (.func (.func 50) #[] #[.pointer (some ⟨Bn, 0, none⟩)]) ∧ ys.Perm L ∧ ys.Pairwise ltSp ∧ w.heap.size ≤ Bn ∧ w'.heap[Bn]? = some (.cells #[.slice A ys.length c] 22 (0, 0)) ∧ OwnS w' w.heap.size (.slice A ys.length c) ys ∧ Below w.heap.size w w'
set_option maxHeartbeats 1000000 in
theorem allIt_run (w : World) (base s : Nat) (F : Nat → Prop) (L : List Sp) (B : StoreAt w base s F L) :
    Calls Tryz.prog 21 #[.pointer (some ⟨s, 0, none⟩)] w (ItPost w L) := by
  have HA := Lib.hid (all_run w base s F L B)
  clear B
  go_enter Tryz.func21, Tryz.ntmps21
  go_wp2_with fail
  refine HA.out.mono ?_
  rintro e w1 ⟨v, ys, rfl, h1, h2, h3, h4⟩
  obtain ⟨A, c, rfl, _, _⟩ := Kd.R_reads h3
  have HL := Lib.hid (And.intro h1 (And.intro h2 (And.intro h3 h4)))
  clear h1 h2 h3 h4 HA
  go_wp2_with fail
  go_ret
  obtain ⟨h1, h2, h3, h4⟩ := HL.out
  have hal := below_alloc (Below.refl w1.heap.size w1) (.cells #[.slice A ys.length c] 22)
  exact ⟨w1.heap.size, A, c, ys, rfl, h1, h2, h4.size, blk_new _ _, Kd.R_below h3 hal, h4.trans (hal.mono h4.size)⟩
end Go.Proofs.YthdkgilpnkabmaaGreatDoor.Pr
