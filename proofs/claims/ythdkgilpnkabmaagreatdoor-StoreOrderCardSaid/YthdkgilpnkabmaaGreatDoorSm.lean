/- same: are two lists of spans the same? -/
import Derived.Test.YthdkgilpnkabmaaGreatDoorTo
import Derived.Test.YthdkgilpnkabmaaGreatDoorRf
import Derived.Test.YthdkgilpnkabmaaGreatDoorOq
namespace Go.Proofs.YthdkgilpnkabmaaGreatDoor.Pr
open Go Go.RowKit Go.Proofs.YthdkgilpnkabmaaGreatDoorW.PrintWords Go.Proofs.YthdkgilpnkabmaaGreatDoorW.PrintMore
open Rm Ps
set_option linter.unusedVariables false
set_option linter.unusedSimpArgs false
theorem refcmp_run (x y : Sp) (hx : okSp x) (hy : okSp y) (W : World) (A4 A11 A12 : Option Addr) (c4 c11 c12 : Nat) (B4 B11 B12 : Option Addr) (d4 d11 d12 : Nat) (hK : kSp.K W x (cSp x (.slice A4 x.f3.length c4) (.slice A11 x.f10.length c11) (.slice A12 x.f11.length c12))) (hL : kSp.K W y (cSp y (.slice B4 y.f3.length d4) (.slice B11 y.f10.length d11) (.slice B12 y.f11.length d12))) :
    Calls Tryz.prog 14 #[.agg (cSp x (.slice A4 x.f3.length c4) (.slice A11 x.f10.length c11) (.slice A12 x.f11.length c12)).toArray, .agg (cSp y (.slice B4 y.f3.length d4) (.slice B11 y.f10.length d11) (.slice B12 y.f11.length d12)).toArray] W fun e w' => e = .returned (.int .i64 (ordS x y)) ∧ Below W.heap.size W w' := by
  obtain ⟨_, _, _, _, _, _, hu, l4, g4, l11, g11, l12, g12⟩ := kSp_open' hK
  obtain ⟨_, _, _, _, _, _, hv, m4, k4, m11, k11, m12, k12⟩ := kSp_open' hL
  simp only [cSp, List.cons.injEq, Value.slice.injEq, and_true, true_and] at hu hv
  obtain ⟨⟨rfl, rfl⟩, ⟨rfl, rfl⟩, rfl, rfl⟩ := hu
  obtain ⟨⟨rfl, rfl⟩, ⟨rfl, rfl⟩, rfl, rfl⟩ := hv
  have h1 := hx.1
  have h2 := hx.2.1
  have h3 := hx.2.2.1
  have h4 := hy.1
  have h5 := hy.2.1
  have h6 := hy.2.2.1
  exact compare_run x y W A4 c4 A11 c11 A12 c12 B4 d4 B11 d11 B12 d12 g4 l4 g11 l11 g12 l12 k4 m4 k11 m11 k12 m12 (by omega) (by omega) (by omega) (by omega) (by omega) (by omega)
/-- Are they the same? -/
def sameF : List Sp → List Sp → Bool
  | [], [] => true
  | x :: r, y :: s => decide (ordS x y = 0) && sameF r s
  | _, _ => false
theorem sameF_len : ∀ {l m : List Sp}, l.length ≠ m.length → sameF l m = false
  | [], [], h => absurd rfl h
  | [], _ :: _, _ => rfl
  | _ :: _, [], _ => rfl
  | x :: r, y :: s, h => by
    rw [sameF, sameF_len (l := r) (m := s) (fun e => h (by simp [e])), Bool.and_false]
theorem sameF_refl : ∀ l : List Sp, sameF l l = true
  | [] => rfl
  | x :: r => by rw [sameF, sameF_refl r, decide_eq_true (cmp3_S.refl x)]; rfl
theorem sameF_step {l m : List Sp} {k : Nat} (h1 : k < l.length) (h2 : k < m.length) : sameF (l.drop k) (m.drop k) = (decide (ordS l[k] m[k] = 0) && sameF (l.drop (k + 1)) (m.drop (k + 1))) := by
  rw [List.drop_eq_getElem_cons h1, List.drop_eq_getElem_cons h2, sameF]
def SamePost (w : World) (b : Bool) (e : Ending) (w' : World) : Prop := e = .returned (.bool b) ∧ Below w.heap.size w w'
set_option maxHeartbeats 8000000 in
set_option maxRecDepth 100000 in
theorem same_run (w : World) (A B : Option Addr) (c d : Nat) (l m : List Sp) (hl : Kd.C kSp w A l.length l) (hm : Kd.C kSp w B m.length m) (ol : ∀ x ∈ l, okSp x) (om : ∀ x ∈ m, okSp x) (hln : l.length ≤ 140737488351232) (hmn : m.length ≤ 140737488351232) :
    Calls Tryz.prog 12 #[.slice A l.length c, .slice B m.length d] w (SamePost w (sameF l m)) := by
  have HL := Lib.hid hl
  have HM := Lib.hid hm
  have OL := Lib.hid ol
  have OM := Lib.hid om
  clear hl hm ol om
  by_cases hne : l.length = m.length
  · have hne' : ((l.length : Int) != (m.length : Int)) = false := by simp [hne]
    obtain ⟨n, hn⟩ : ∃ n, n = l.length := ⟨_, rfl⟩
    have HNL := Lib.hid hn
    have HNM := Lib.hid (hn.trans hne)
    rw [← hne, ← hn]
    rw [← hn] at HL hln
    rw [← hne, ← hn] at HM
    clear hne hne' hmn hn
    go_enter Tryz.func12, Tryz.ntmps12
    go_wp2_with fail
    go_loopw [5] (fun v5 wr => ∃ k : Nat, v5 = .int .i64 k ∧ k ≤ n ∧ Hid (sameF l m = sameF (l.drop k) (m.drop k)) ∧ Hid (Below w.heap.size w wr)) (fun v5 _ => n - (intOf v5).toNat)
    case atStart => exact ⟨0, rfl, Nat.zero_le _, Lib.hid rfl, Lib.hid (Below.refl _ _)⟩
    case round =>
      obtain ⟨k, rfl, hk, HF, HW⟩ := hrel
      by_cases hlt : k < n
      · have hlk : (k : Int) < (n : Int) := by omega
        have h1 : k < l.length := by rw [← HNL.out]; exact hlt
        have h2 : k < m.length := by rw [← HNM.out]; exact hlt
        obtain ⟨ab, ao, rfl, hab, A4, c4, A11, c11, A12, c12, hK, hx⟩ := spRow (l := l) (by rw [← HNL.out]; exact HL.out) k h1
        obtain ⟨bb, bo, rfl, hbb, B4, d4, B11, d11, B12, d12, hK', hy⟩ := spRow (l := m) (by rw [← HNM.out]; exact HM.out) k h2
        have HST := Lib.hid (sameF_step (l := l) (m := m) h1 h2)
        have HRC := Lib.hid (fun z : Wx wr => refcmp_run (rdS l k) (rdS m k) (OL.out _ (rdS_mem h1)) (OM.out _ (rdS_mem h2)) z.W A4 A11 A12 c4 c11 c12 B4 B11 B12 d4 d11 d12 (kSp.K_below (HW.out.trans (z.h.mono HW.out.size)) hK) (kSp.K_below (HW.out.trans (z.h.mono HW.out.size)) hK'))
        have hx' : ∀ z : Wx wr, ∀ i u, (cSp (rdS l k) (.slice A4 (rdS l k).f3.length c4) (.slice A11 (rdS l k).f10.length c11) (.slice A12 (rdS l k).f11.length c12))[i]? = some u → z.W.cell? ⟨ab, ao + k * 13 + i, none⟩ = some u := fun z i u hi => z.cell (pw_cell_below HW.out (hx i u hi))
        have hy' : ∀ z : Wx wr, ∀ i u, (cSp (rdS m k) (.slice B4 (rdS m k).f3.length d4) (.slice B11 (rdS m k).f10.length d11) (.slice B12 (rdS m k).f11.length d12))[i]? = some u → z.W.cell? ⟨bb, bo + k * 13 + i, none⟩ = some u := fun z i u hi => z.cell (pw_cell_below HW.out (hy i u hi))
        rw [← rdS_at h1, ← rdS_at h2] at HST
        clear hx hy hK hK' hab hbb
        generalize rdS l k = x at *
        generalize rdS m k = y at *
        obtain ⟨⟨xhi, xlo⟩, xid, xpar, xlk, xsv, xop, xkd, xst, xs0, xs1, xla, xle⟩ := x
        obtain ⟨⟨yhi, ylo⟩, yid, ypar, ylk, ysv, yop, ykd, yst, ys0, ys1, yla, yle⟩ := y
        dsimp only [cSp] at hx' hy' HRC
        have x0 := fun z : Wx wr => hx' z 0 _ rfl
        have y0 := fun z : Wx wr => hy' z 0 _ rfl
        have x1 := fun z : Wx wr => hx' z 1 _ rfl
        have y1 := fun z : Wx wr => hy' z 1 _ rfl
        have x2 := fun z : Wx wr => hx' z 2 _ rfl
        have y2 := fun z : Wx wr => hy' z 2 _ rfl
        have x3 := fun z : Wx wr => hx' z 3 _ rfl
        have y3 := fun z : Wx wr => hy' z 3 _ rfl
        have x4 := fun z : Wx wr => hx' z 4 _ rfl
        have y4 := fun z : Wx wr => hy' z 4 _ rfl
        have x5 := fun z : Wx wr => hx' z 5 _ rfl
        have y5 := fun z : Wx wr => hy' z 5 _ rfl
        have x6 := fun z : Wx wr => hx' z 6 _ rfl
        have y6 := fun z : Wx wr => hy' z 6 _ rfl
        have x7 := fun z : Wx wr => hx' z 7 _ rfl
        have y7 := fun z : Wx wr => hy' z 7 _ rfl
        have x8 := fun z : Wx wr => hx' z 8 _ rfl
        have y8 := fun z : Wx wr => hy' z 8 _ rfl
        have x9 := fun z : Wx wr => hx' z 9 _ rfl
        have y9 := fun z : Wx wr => hy' z 9 _ rfl
        have x10 := fun z : Wx wr => hx' z 10 _ rfl
        have y10 := fun z : Wx wr => hy' z 10 _ rfl
        have x11 := fun z : Wx wr => hx' z 11 _ rfl
        have y11 := fun z : Wx wr => hy' z 11 _ rfl
        have x12 := fun z : Wx wr => hx' z 12 _ rfl
        have y12 := fun z : Wx wr => hy' z 12 _ rfl
        simp only [Nat.add_zero] at x0 y0
        clear hx' hy'
        obtain ⟨r, hr⟩ : ∃ r, Hid (r = ordS ⟨⟨xhi, xlo⟩, xid, xpar, xlk, xsv, xop, xkd, xst, xs0, xs1, xla, xle⟩ ⟨⟨yhi, ylo⟩, yid, ypar, ylk, ysv, yop, ykd, yst, ys0, ys1, yla, yle⟩) := ⟨_, rfl⟩
        rw [← hr.out] at HRC HST
        go_wp2_with fail
        refine wp_region_ext (by kernel_rfl) (by kernel_rfl) ?_
        repeat (go_big_quiet_step (first | (go_at_call 14; with_reducible exact Calls.ext_of (HRC.out _))))
        refine wpQuiet_nil ?_
        intro _ hw'
        obtain ⟨xx, rfl⟩ := hw'
        clear x0 y0 x1 y1 x2 y2 x3 y3 x4 y4 x5 y5 x6 y6 x7 y7 x8 y8 x9 y9 x10 y10 x11 y11 x12 y12 HRC
        have HW2 := Lib.hid (HW.out.trans (xx.h.mono HW.out.size))
        generalize xx.W = w2 at *
        by_cases h0 : r = 0
        · have h0' : (r != 0) = false := by rw [h0]; rfl
          have HF2 := Lib.hid (show sameF l m = sameF (l.drop (k + 1)) (m.drop (k + 1)) by rw [HF.out, HST.out, decide_eq_true h0, Bool.true_and])
          go_wp2_with fail
          go_roundw
          case rel => exact ⟨k + 1, by go_num, by omega, HF2, HW2⟩
          case measure => simp [intOf]; omega
        · have h0' : (r != 0) = true := by simpa using h0
          have HF2 := Lib.hid (show sameF l m = false by rw [HF.out, HST.out, decide_eq_false h0, Bool.false_and])
          go_wp2_with fail
          go_ret
          exact ⟨by rw [HF2.out]; rfl, HW2.out⟩
      · obtain rfl : k = n := by omega
        have HE := Lib.hid (show sameF l m = true by
          rw [HF.out, List.drop_eq_nil_of_le (by rw [HNL.out]; exact Nat.le_refl _), List.drop_eq_nil_of_le (by rw [HNM.out]; exact Nat.le_refl _)]
          rfl)
        go_wp2_with fail
        go_ret
        exact ⟨by rw [HE.out]; rfl, HW.out⟩
  · have hne' : ((l.length : Int) != (m.length : Int)) = true := by
      rw [bne_iff_ne]; omega
    have HE := Lib.hid (sameF_len hne)
    go_enter Tryz.func12, Tryz.ntmps12
    go_wp2_with fail
    go_ret
    exact ⟨by rw [HE.out]; rfl, Below.refl _ _⟩
end Go.Proofs.YthdkgilpnkabmaaGreatDoor.Pr
