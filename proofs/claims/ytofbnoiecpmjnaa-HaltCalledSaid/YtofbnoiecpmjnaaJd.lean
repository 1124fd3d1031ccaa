/- Cancel, as it is called, of a stop in a tree. -/
import Derived.Test.YtofbnoiecpmjnaaJc
namespace Go.Proofs.Ytofbnoiecpmjnaa.Pr
open Go.RowKit Go.Proofs.YtofbnoiecpmjnaaW.PrintWords Go.Proofs.YtofbnoiecpmjnaaW.PrintLast Go.Proofs.YtofbnoiecpmjnaaW.PrintMore Go.MuLone
open Go.Lib
set_option linter.unusedVariables false
set_option linter.unusedSimpArgs false
theorem TH.muset {b b' : Int} {w0 W : World} {m : Nat} {st : List PL} {up : List Nat} {Y : List Int} (h : TH b w0 W m st up Y) : TH b' w0 (W.setCell ⟨m, 0, none⟩ (.int .i32 b')) m st up Y := by
  have far : ∀ k, k ≠ m → (W.setCell ⟨m, 0, none⟩ (.int .i32 b')).heap[k]? = W.heap[k]? := fun k hk => set_far W m 0 _ hk
  have hkept : RowsKept W (W.setCell ⟨m, 0, none⟩ (.int .i32 b')) := fun q cells t hq ht hu => far q (by
    rintro rfl; have := h.mu; rw [hq] at this; cases this; exact hu rfl)
  refine ⟨h.len, h.lenY, blk_set h.mu 0 (.int .i32 b'), h.mb, below_set h.below h.mb, fun i z hz => ?_, h.apart, h.rows, h.ups⟩
  obtain ⟨q1, q2, q3, q4, q5⟩ := h.at_ i z hz
  refine ⟨(far z.g ?_).trans q1, (far z.c ?_).trans q2, q3, q4, hkept.row q5 kP_E⟩
  · rintro e; have := h.mu; unfold IsStop at q1; rw [e, this] at q1; cases q1
  · rintro e; have := h.mu; unfold IsCh chObj at q2; rw [e, this] at q2; cases q2
theorem TH.kept_mu {b b' : Int} {w0 W : World} {m : Nat} {st : List PL} {up : List Nat} {Y : List Int} (h : TH b w0 W m st up Y) : RowsKept W (W.setCell ⟨m, 0, none⟩ (.int .i32 b')) := fun q cells t hq ht hu => set_far W m 0 _ (by
    rintro rfl; have := h.mu; rw [hq] at this; cases this; exact hu rfl)
theorem TH.isMu {w0 W : World} {m : Nat} {st : List PL} {up : List Nat} {Y : List Int} (h : TH 0 w0 W m st up Y) : IsMu W m := h.mu
def CancelCall (w0 : World) (m : Nat) (st : List PL) (up : List Nat) (Y : List Int) (k : Nat) (y : Int) (W : World) (e : Ending) (w' : World) : Prop :=
  e = .returned (.int .i64 (if Y.getD k 0 ≠ 0 then Y.getD k 0 else y)) ∧ TH 0 w0 w' m st up (cancelF up y st.length Y k) ∧ RowsKept W w'
theorem cancel_ok (g : Nat) (W : World) : Calls Try.prog 16 #[.pointer (some ⟨g, 0, none⟩), .int .i64 0] W fun e w' => e = .returned (.int .i64 1) ∧ w' = W := by
  go_enter Try.func16, Try.ntmps16
  go_wp2_with fail
  go_ret
  exact ⟨rfl, rfl⟩
set_option maxHeartbeats 1000000 in
theorem cancel_call (w0 : World) (m : Nat) (st : List PL) (up : List Nat) (Y : List Int) (y : Int) (hy : y ≠ 0) (k : Nat) (hk : k < st.length) (W : World) (hT : TH 0 w0 W m st up Y) :
    Calls Try.prog 16 #[.pointer (some ⟨gOf st k, 0, none⟩), .int .i64 y] W fun e w' => CancelCall w0 m st up Y k y W e w' := by
  obtain ⟨x, hx⟩ : ∃ x, st[k]? = some x := ⟨st[k], by simp⟩
  have hg : gOf st k = x.g := gOf_eq hx
  have hs := (hT.at_ k x hx).1
  have hm := hT.isMu
  have hm0 := hm.free
  have hT1 : TH 1 w0 (W.setCell ⟨m, 0, none⟩ (.int .i32 1)) m st up Y := hT.muset
  have hC := cancel_tree w0 m st up y hy st.length k (by omega) hk _ Y hT1
  rw [← hg] at hs
  have c0 : W.cell? ⟨gOf st k, 0, none⟩ = some (.pointer (some ⟨m, 0, none⟩)) := hs.cell 0 rfl
  have d0 : (W.setCell ⟨m, 0, none⟩ (.int .i32 1)).cell? ⟨gOf st k, 0, none⟩ = some (.pointer (some ⟨m, 0, none⟩)) := cell_held hs hm 0 rfl
  have d5 : (W.setCell ⟨m, 0, none⟩ (.int .i32 1)).cell? ⟨gOf st k, 5, none⟩ = some (.int .i64 (Y.getD k 0)) := cell_held hs hm 5 rfl
  have hy0 : (y == 0) = false := beq_eq_false_iff_ne.mpr hy
  have HX := Lib.hid hx
  have HC := Lib.hid hC
  have HT1 := Lib.hid hT1
  have HCF := Lib.hid (show Y.getD k 0 ≠ 0 → cancelF up y st.length Y k = Y from fun h => by
    obtain ⟨d, hd⟩ : ∃ d, st.length = d + 1 := ⟨st.length - 1, by omega⟩
    rw [hd, cancelF, if_pos h])
  have HG := Lib.hid hg
  have HM := Lib.hid hm
  have HTT := Lib.hid hT
  clear hs hm hT hT1 hC hx hg
  unfold CancelCall
  generalize hgg : gOf st k = g at *
  have HGG := Lib.hid hgg
  clear hgg
  by_cases hw : Y.getD k 0 ≠ 0
  · have hb : (Y.getD k 0 != 0) = true := bne_iff_ne.mpr hw
    rw [if_pos hw]
    generalize Y.getD k 0 = yk at *
    go_enter Try.func16, Try.ntmps16
    go_wp2_with (go_at_call 22; refine (lock_free muLib ⟨m, 0, none⟩ _ hm0.1 hm0.2).mono ?_; rintro e w' ⟨rfl, rfl⟩)
    refine (unlock_held muLib ⟨m, 0, none⟩ _ HM.out.held.1 HM.out.held.2).mono ?_
    rintro e w3 ⟨rfl, rfl⟩
    go_wp2_with fail
    go_ret
    rw [HCF.out hw, lock_back HM.out]
    exact ⟨rfl, HTT.out, RowsKept.refl _⟩
  · have hw0 : Y.getD k 0 = 0 := Decidable.not_not.1 hw
    rw [if_neg hw]
    rw [hw0] at d5
    clear hw hw0 HCF
    go_enter Try.func16, Try.ntmps16
    go_wp2_with (go_at_call 22; refine (lock_free muLib ⟨m, 0, none⟩ _ hm0.1 hm0.2).mono ?_; rintro e w' ⟨rfl, rfl⟩)
    refine HC.out.mono ?_
    rintro e w2 ⟨rfl, hT2, hK2⟩
    have hs2 := (hT2.at_ k x HX.out).1
    rw [← HG.out] at hs2
    have e0 : w2.cell? ⟨g, 0, none⟩ = some (.pointer (some ⟨m, 0, none⟩)) := hs2.cell 0 rfl
    have hmh : IsMuH w2 m := hT2.mu
    have HT2 := Lib.hid hT2
    have HK2 := Lib.hid hK2
    clear hT2 hs2 hK2
    go_wp2_with fail
    refine (unlock_held muLib ⟨m, 0, none⟩ _ hmh.cell.1 hmh.cell.2).mono ?_
    rintro e w3 ⟨rfl, rfl⟩
    go_wp2_with fail
    refine (run_nil g y _).mono ?_
    rintro e w4 ⟨rfl, rfl⟩
    go_wp2_with fail
    go_ret
    exact ⟨rfl, HT2.out.muset, (HTT.out.kept_mu.trans HK2.out).trans HT2.out.kept_mu⟩
end Go.Proofs.Ytofbnoiecpmjnaa.Pr
