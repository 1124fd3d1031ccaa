/- Cancel of a stop with one beneath it. -/
import Derived.Test.YtofbnoiecpmjnaaHh
namespace Go.Proofs.Ytofbnoiecpmjnaa.Pr
open Go.RowKit Go.Proofs.YtofbnoiecpmjnaaW.PrintWords Go.Proofs.YtofbnoiecpmjnaaW.PrintLast Go.Proofs.YtofbnoiecpmjnaaW.PrintMore Go.MuLone
open Go.Lib
set_option linter.unusedVariables false
set_option linter.unusedSimpArgs false
set_option maxHeartbeats 1000000 in
/-- The child's own cancel is handed in as 'child'. -/
theorem cancel_one (w0 : World) (m g g1 : Nat) (s : SR) (why : Int) (W : World) (R : World → Prop) (ad : Nat) (cap : Nat) (hm : IsMuH W m) (hs : IsStop W m g s) (hw : s.why = 0) (hu : s.und = .slice (some ⟨ad, 0, none⟩) 1 cap)
    (hrow : ∃ cs, W.heap[ad]? = some (.cells cs 25 (0, 0)) ∧ cs[0]? = some (.pointer (some ⟨g1, 0, none⟩))) (hc : IsCh W s.chn false) (hB : Below w0.heap.size w0 W) (hgb : w0.heap.size ≤ g) (hcb : w0.heap.size ≤ s.chn)
    (child : ∀ W8, CancelPost w0 m g s why W (.returned (.slice none 0 0)) W8 → Calls Try.prog 24 #[.pointer (some ⟨g1, 0, none⟩), .int .i64 why] W8 fun e w' => e = .returned (.slice none 0 0) ∧ R w') :
    Calls Try.prog 24 #[.pointer (some ⟨g, 0, none⟩), .int .i64 why] W fun e w' => e = .returned (.slice none 0 0) ∧ R w' := by
  have hgc : g ≠ s.chn := by
    rintro rfl
    unfold IsStop at hs; unfold IsCh chObj at hc
    rw [hs] at hc; cases hc
  have hmc : m ≠ s.chn := by
    rintro rfl
    unfold IsMuH at hm; unfold IsCh chObj at hc
    rw [hm] at hc; cases hc
  have hmg : m ≠ g := by
    rintro rfl
    unfold IsMuH at hm; unfold IsStop at hs
    rw [hm] at hs; cases hs
  obtain ⟨rcs, hr0, hr1⟩ := hrow
  have hag : ad ≠ g := by
    rintro rfl
    unfold IsStop at hs
    rw [hr0] at hs; cases hs
  have hac : ad ≠ s.chn := by
    rintro rfl
    unfold IsCh chObj at hc
    rw [hr0] at hc; cases hc
  have c5 : W.cell? ⟨g, 5, none⟩ = some (.int .i64 0) := by rw [← hw]; exact hs.cell 5 rfl
  have f5 := hs.frozen 5
  have hs1 := blk_set hs 5 (.int .i64 why)
  have c6 : (W.setCell ⟨g, 5, none⟩ (.int .i64 why)).cell? ⟨g, 6, none⟩ = some (.chan (some s.chn)) := (blk_cell hs1 6).trans rfl
  have hc1 : IsCh (W.setCell ⟨g, 5, none⟩ (.int .i64 why)) s.chn false := (set_far W g 5 _ (Ne.symm hgc)).trans hc
  have HM := Lib.hid hm
  have HS1 := Lib.hid hs1
  have HC1 := Lib.hid hc1
  have HB := Lib.hid hB
  have HU := Lib.hid hu
  have HR0 := Lib.hid hr0
  have HR1 := Lib.hid hr1
  have HCH := Lib.hid child
  have happ := app_nil
  clear hm hs hs1 hc1 hB hu hw hc hr0 hr1 child
  go_enter Try.func24, Try.ntmps24
  go_wp2_with (refine close_list (c := s.chn) (.tmp 20) 67 rfl rfl rfl HC1.out ?_; intro w5 hw5; have hl5 := Lib.hid (cancel_facts hw5 HM.out HS1.out HC1.out HB.out hgc hmc hmg hgb hcb); clear hw5; have hs5 := hl5.out.2.1; have c7 : w5.cell? ⟨g, 7, none⟩ = some (.slice none 0 0) := (blk_cell hs5 7).trans rfl; have f7 := blk_frozen hs5 7; have c2 : (w5.setCell ⟨g, 7, none⟩ (.slice none 0 0)).cell? ⟨g, 2, none⟩ = some (.slice (some ⟨ad, 0, none⟩) 1 cap) := (blk_cell (blk_set hs5 7 (.slice none 0 0)) 2).trans (by rw [← HU.out]; rfl); clear hs5)
  obtain ⟨hm5, hs5, hc5, hb5, hk5, hz5⟩ := hl5.out
  have HP := Lib.hid (show CancelPost w0 m g s why W (.returned (.slice none 0 0)) (w5.setCell ⟨g, 7, none⟩ (.slice none 0 0)) from
    ⟨rfl, (set_far w5 g 7 _ hmg).trans hm5, by
      have h := blk_set hs5 7 (.slice none 0 0)
      exact h, (set_far w5 g 7 _ (Ne.symm hgc)).trans hc5, below_set hb5 hgb, fun k h1 h2 => (set_far w5 g 7 _ h1).trans (hk5 k h1 h2), by rw [set_size]; exact hz5⟩)
  have r0 : (w5.setCell ⟨g, 7, none⟩ (.slice none 0 0)).cell? ⟨ad, 0, none⟩ = some (.pointer (some ⟨g1, 0, none⟩)) := by
    have h : (w5.setCell ⟨g, 7, none⟩ (.slice none 0 0)).heap[ad]? = _ := (HP.out.2.2.2.2.2.1 ad hag hac).trans HR0.out
    rw [blk_cell h 0, HR1.out]
  clear hl5 hm5 hs5 hc5 hb5 hk5 hz5 c7 f7 c2
  generalize w5.setCell ⟨g, 7, none⟩ (.slice none 0 0) = w8 at *
  go_loopw [5, 7, 33] (fun v5 v7 v33 wr => v5 = .slice none 0 0 ∧ ((v33 = .int .i64 0 ∧ wr = w8) ∨ (v33 = .int .i64 1 ∧ Hid (R wr)))) (fun _ _ v33 _ => 1 - (intOf v33).toNat)
  case atStart => exact ⟨rfl, .inl ⟨rfl, rfl⟩⟩
  case round =>
    obtain ⟨rfl, ⟨rfl, rfl⟩ | ⟨rfl, HRR⟩⟩ := hrel
    · go_wp2_with fail
      refine (HCH.out _ HP.out).mono ?_
      rintro e w9 ⟨rfl, hR9⟩
      have HR9 := Lib.hid hR9
      clear hR9
      go_wp2_with fail
      go_roundw
      case rel => exact ⟨rfl, .inr ⟨by go_num, HR9⟩⟩
      case measure => simp [intOf]
    · go_wp2_with fail
      go_ret
      exact ⟨rfl, HRR.out⟩
end Go.Proofs.Ytofbnoiecpmjnaa.Pr
