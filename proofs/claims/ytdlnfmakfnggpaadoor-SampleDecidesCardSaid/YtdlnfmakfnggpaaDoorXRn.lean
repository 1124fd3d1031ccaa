/- spoorref21.Decide, by hand: what it answers at any input; Compare of a span with itself. -/
import Derived.Test.YtdlnfmakfnggpaaDoorXRm
import Derived.Test.YtdlnfmakfnggpaaDoorXRf
import Derived.Test.YtdlnfmakfnggpaaDoorXRd
import Derived.Test.YtdlnfmakfnggpaaDoorXRh
import Derived.Test.YtdlnfmakfnggpaaDoorXDc
namespace Go.Proofs.YtdlnfmakfnggpaaDoor.Pr
open Go.RowKit Go.Proofs.YtdlnfmakfnggpaaDoorW.PrintWords Go.Proofs.YtdlnfmakfnggpaaDoorW.PrintMore Mg
set_option linter.unusedVariables false
set_option linter.unusedSimpArgs false
set_option maxHeartbeats 1000000 in
theorem rdec_c (v1 : Value) (l0 : List S30) (A0 : Option Addr) (c0 : Nat) (a : Option Addr) (c : Nat) (w : World) (hl0 : l0.length ≤ 140737488351232) (h1 : ∀ W, Below w.heap.size w W → Calls Tryd.prog 15 #[.slice A0 l0.length c0] W fun e w' => e = .returned (.int .i64 0) ∧ Below W.heap.size W w')
    (h2 : ∀ W, Below w.heap.size w W → Calls Tryd.prog 44 #[.slice a 0 c] W (BoolPost W true)) : Calls Tryd.prog 19 #[.slice A0 l0.length c0, .slice a 0 c] w (DecPost w false (-1) 0 0) := by
  have H1 := Lib.hid (h1 (B0 w) (B0_below w))
  have H2 := Lib.hid h2
  clear h1 h2
  unfold B0 at H1
  go_enter Tryd.func19, Tryd.ntmps19
  go_wp2_with fail
  refine H1.out.mono ?_
  rintro e w1 ⟨rfl, hb⟩
  have HB := Lib.hid hb
  clear hb
  go_wp2_with fail
  refine (H2.out w1 ((B0_below w).trans (HB.out.mono (B0_below w).size))).mono ?_
  rintro e w2 ⟨rfl, hb⟩
  have HB2 := Lib.hid (show Below (B0 w).heap.size (B0 w) w2 from HB.out.trans (hb.mono HB.out.size))
  have hlt : w.heap.size < w2.heap.size := by have := HB2.out.size; rw [B0_size] at this; omega
  have hblk := B0_blk HB2.out
  have hc0 := (cell_of_row _ _ 0 _ _ _ hblk).trans rfl
  have hc1 := (cell_of_row _ _ 1 _ _ _ hblk).trans rfl
  have hc2 := (cell_of_row _ _ 2 _ _ _ hblk).trans rfl
  have hc3 := (cell_of_row _ _ 3 _ _ _ hblk).trans rfl
  have hf := fun j => blk_frozen hblk j
  have HBK := Lib.hid hblk
  clear hb hblk
  go_wp2_with fail
  have g0 := blk_new w2 (.cells #[.bool false, .int .i64 (-1), .int .u64 0, .int .u64 0] 47)
  have bw := below_alloc (Below.refl w2.heap.size w2) (.cells #[.bool false, .int .i64 (-1), .int .u64 0, .int .u64 0] 47)
  have HBK2 := Lib.hid (blk_below HBK.out bw)
  have HBW := Lib.hid (HB2.out.trans (bw.mono HB2.out.size))
  generalize w2.alloc (.cells #[.bool false, .int .i64 (-1), .int .u64 0, .int .u64 0] 47) = w3 at *
  have d0 := (cell_of_row _ _ 0 _ _ _ g0).trans rfl
  have d1 := (cell_of_row _ _ 1 _ _ _ g0).trans rfl
  have d2 := (cell_of_row _ _ 2 _ _ _ g0).trans rfl
  have d3 := (cell_of_row _ _ 3 _ _ _ g0).trans rfl
  have df := fun j => blk_frozen g0 j
  have k0 := (cell_of_row _ _ 0 _ _ _ HBK2.out).trans rfl
  have k1 := (cell_of_row _ _ 1 _ _ _ HBK2.out).trans rfl
  have k2 := (cell_of_row _ _ 2 _ _ _ HBK2.out).trans rfl
  have k3 := (cell_of_row _ _ 3 _ _ _ HBK2.out).trans rfl
  have kf := fun j => blk_frozen HBK2.out j
  clear hc0 hc1 hc2 hc3 hf g0 bw
  go_loop [8, 9, 10] (fun v8 v9 v10 => v8 = .bool false ∧ v9 = .int .i64 0 ∧ v10 = .int .i64 0) (fun _ _ _ => 0)
  case atStart => exact ⟨rfl, rfl, rfl⟩
  case round =>
    obtain ⟨rfl, rfl, rfl⟩ := hrel
    by_cases hl : 0 < l0.length
    · have hl1 : decide ((0 : Int) < (l0.length : Int)) = true := decide_eq_true (by omega)
      have hl2 : decide (0 < l0.length) = true := decide_eq_true (by omega)
      go_wp2_with fail
      refine bodyPost_ret (results_ct rfl _ _ w.heap.size 47 #[.bool false, .int .i64 (-1), .int .u64 0, .int .u64 0] (0, 0) _ rfl (set4 _ _ _ _ HBK2.out) Tryd.underlying47 rfl (by kernel_rfl)) rfl ?_
      exact ⟨rfl, below4 _ _ _ _ ((B0_below w).trans (HBW.out.mono (B0_below w).size)) (Nat.le_refl _)⟩
    · have hl1 : decide ((0 : Int) < (l0.length : Int)) = false := decide_eq_false (by omega)
      have hl2 : decide (0 < l0.length) = false := decide_eq_false (by omega)
      go_wp2_with fail
      refine bodyPost_ret (results_ct rfl _ _ w.heap.size 47 #[.bool false, .int .i64 (-1), .int .u64 0, .int .u64 0] (0, 0) _ rfl (set4 _ _ _ _ HBK2.out) Tryd.underlying47 rfl (by kernel_rfl)) rfl ?_
      exact ⟨rfl, below4 _ _ _ _ ((B0_below w).trans (HBW.out.mono (B0_below w).size)) (Nat.le_refl _)⟩
theorem rdecide_run (A0 : Option Addr) (c0 : Nat) (l0 : List S30) (A1 : Option Addr) (c1 : Nat) (l1 : List S43) (w : World) (hr0 : Kd.C k30 w A0 l0.length l0) (hc0 : l0.length ≤ c0) (hr1 : Kd.C k43 w A1 l1.length l1) (hc1 : l1.length ≤ c1)
    (hl0 : l0.length ≤ 140737488351232) (h0 : ∀ x ∈ l0, x.f2.size ≤ 140737488351232) (h1 : ∀ x ∈ l1, okS x) (hp : ∀ x ∈ l1, ∀ e ∈ x.f3, 0 ≤ e) (hl : l1.length ≤ 140737488351232) (r1 : Bool) (r2 r3 r4 r5 : Int) (h : decV l0 l1 = some (r1, r2, r3, r4, r5)) :
    Calls Tryd.prog 19 #[.slice A0 l0.length c0, .slice A1 l1.length c1] w fun e w' => e = .returned (.tuple #[.agg #[.bool r1, .int .i64 r2, .int .u64 r3, .int .u64 r4], .int .i64 r5]) ∧ Below w.heap.size w w' := by
  have hP : ∀ W, Below w.heap.size w W → Calls Tryd.prog 15 #[.slice A0 l0.length c0] W fun e w' => e = .returned (.int .i64 (polF l0)) ∧ Below W.heap.size W w' := fun W hW => spoorref21_Check.calls _ A0 c0 l0 _ W (Kd.C_below hr0 hW) hc0 (refcheck_eq l0 hl0 h0)
  have hO : ∀ W, Below w.heap.size w W → Calls Tryd.prog 44 #[.slice A1 l1.length c1] W (BoolPost W (oneF chkS l1)) := fun W hW => rtrace_run A1 c1 l1 W (Kd.C_below hr1 hW) hc1 hl (fun x hx => rcheck_run x (h1 x hx) (hp x hx))
  unfold decV at h
  by_cases hz : polF l0 = 0
  · rw [if_pos hz] at h
    rw [hz] at hP
    cases ho : oneF chkS l1 with
    | false =>
      rw [ho] at h hO
      rw [if_neg (by simp)] at h
      simp only [Option.some.injEq, Prod.mk.injEq] at h
      obtain ⟨rfl, rfl, rfl, rfl, rfl⟩ := h
      exact rdec_b _ _ w hP hO
    | true =>
      rw [ho] at h hO
      rw [if_pos rfl] at h
      by_cases hl : l1.length = 0
      · rw [if_pos hl] at h
        simp only [Option.some.injEq, Prod.mk.injEq] at h
        obtain ⟨rfl, rfl, rfl, rfl, rfl⟩ := h
        rw [hl] at hO ⊢
        exact rdec_c (.slice A0 l0.length c0) l0 _ _ _ _ w hl0 hP hO
      · rw [if_neg hl] at h
        obtain ⟨mx, hm, h⟩ := Option.bind_eq_some_iff.1 h
        unfold decTail at h
        by_cases hd : (dst (fun p => holdsF p l1 (tookV l1) mx) l0 l0.length).2.1 = false ∧ (dst (fun p => holdsF p l1 (tookV l1) mx) l0 l0.length).2.2.1 = true ∧ IntKind.u64.wrap (dst (fun p => holdsF p l1 (tookV l1) mx) l0 l0.length).1 = 0
        · rw [if_pos hd] at h; cases h
        · rw [if_neg hd] at h
          simp only [Option.some.injEq, Prod.mk.injEq] at h
          obtain ⟨rfl, rfl, rfl, rfl, rfl⟩ := h
          exact rdec_d A0 c0 l0 A1 l1.length c1 w hr0 hP hO (by omega) (fun p => holdsF p l1 (tookV l1) mx) (fun p hp' => ⟨fun e => ((may_part ((pol_zero hz).2 p hp')).1 e).1, (may_part ((pol_zero hz).2 p hp')).2⟩)
            (fun p _ W hW => rholds_run p A1 c1 l1 W (Kd.C_below hr1 hW) hc1 (by omega) (by omega) mx hm) (fun h1 h2 h3 => hd ⟨h1, h2, h3⟩)
  · rw [if_neg hz] at h
    simp only [Option.some.injEq, Prod.mk.injEq] at h
    obtain ⟨rfl, rfl, rfl, rfl, rfl⟩ := h
    exact rdec_a _ _ w _ hz hP
/-! ### Compare of a span with itself -/
theorem ordI_self (a : Int) : ordI a a = 0 := by unfold ordI; rw [if_neg (by omega), if_neg (by omega)]
theorem less_self : ∀ a : List UInt8, Op.bytesLess a a = false
  | [] => by simp [Op.bytesLess]
  | a :: xs => by
    have h : ¬ a < a := fun h => by
      have a1 : a.toNat < a.toNat := h
      omega
    simp [Op.bytesLess, h, less_self xs]
theorem ordT_self (a : ByteArray) : ordT a a = 0 := by unfold ordT; rw [less_self, if_neg (by decide), if_neg (by decide)]
theorem lexF_self {α : Type} (f : α → α → Int) (hf : ∀ a, f a a = 0) : ∀ l, lexF f l l = 0
  | [] => rfl
  | a :: l => by rw [lexF, hf, if_pos rfl]; exact lexF_self f hf l
theorem ordS_self (x : S43) : ordS x x = 0 := by
  unfold ordS
  simp only [ordI_self, ordT_self, lexF_self ordI ordI_self, lexF_self ordA (fun a => by unfold ordA; simp [ordT_self, ordI_self, firstF]), lexF_self ordE (fun a => by unfold ordE; simp [ordT_self, ordI_self, firstF]), firstF, if_true]
theorem cmp_ok (x : S43) (h : okS x) : CmpOK x := by
  intro W A4 c4 A11 c11 A12 c12 B4 d4 B11 d11 B12 d12 r4 l4 r11 l11 r12 l12 s4 m4 s11 m11 s12 m12
  have h4 := h.links
  have h11 := h.attrs.1
  have h12 := h.events.1
  have := compare_run x x W A4 c4 A11 c11 A12 c12 B4 d4 B11 d11 B12 d12 r4 l4 r11 l11 r12 l12 s4 m4 s11 m11 s12 m12 (by omega) (by omega) (by omega) (by omega) (by omega) (by omega)
  rw [ordS_self] at this
  exact this
end Go.Proofs.YtdlnfmakfnggpaaDoor.Pr
