/- Cancel of a stop in a tree: it and those beneath that have no reason yet. -/
import Derived.Test.YtofbnoiecpmjnaaJa
namespace Go.Proofs.Ytofbnoiecpmjnaa.Pr
open Go.RowKit Go.Proofs.YtofbnoiecpmjnaaW.PrintWords Go.Proofs.YtofbnoiecpmjnaaW.PrintLast Go.Proofs.YtofbnoiecpmjnaaW.PrintMore Go.MuLone
open Go.Lib
set_option linter.unusedVariables false
set_option linter.unusedSimpArgs false
theorem foldl_take {α β : Type} (f : β → α → β) (b : β) (l : List α) (j : Nat) (h : j < l.length) : (l.take (j + 1)).foldl f b = f ((l.take j).foldl f b) l[j] := by
  rw [List.take_succ_eq_append_getElem h, List.foldl_append]
  rfl
set_option maxHeartbeats 2000000 in
theorem cancel_tree (w0 : World) (m : Nat) (st : List PL) (up : List Nat) (y : Int) (hy : y ≠ 0) : ∀ (d k : Nat), st.length - k ≤ d → k < st.length → ∀ (W : World) (Y : List Int), TH 1 w0 W m st up Y →
    Calls Try.prog 24 #[.pointer (some ⟨gOf st k, 0, none⟩), .int .i64 y] W fun e w' => e = .returned (.slice none 0 0) ∧ TH 1 w0 w' m st up (cancelF up y d Y k) ∧ RowsKept W w' := by
  intro d
  induction d with
  | zero => intro k h1 h2; omega
  | succ d ih =>
    intro k hd hkl W Y hT
    obtain ⟨⟨g, c, u⟩, hx⟩ : ∃ x, st[k]? = some x := ⟨st[k], by simp⟩
    rw [show gOf st k = g from gOf_eq hx]
    obtain ⟨hs', hc', hgb', hcb', hR'⟩ := hT.at_ k _ hx
    have hs : IsStop W m g (srT st up Y k ⟨g, c, u⟩) := hs'
    have hc : IsCh W c (decide (Y.getD k 0 ≠ 0)) := hc'
    have hgb : w0.heap.size ≤ g := hgb'
    have hcb : w0.heap.size ≤ c := hcb'
    have hR : Kd.R kP 25 W w0.heap.size T1 u ((kidsOf up k).map (gOf st)) := hR'
    clear hs' hc' hgb' hcb' hR'
    by_cases hw : Y.getD k 0 ≠ 0
    · refine (cancel_done m g (srT st up Y k ⟨g, c, u⟩) y W hs hw).mono ?_
      rintro e w' ⟨rfl, rfl⟩
      exact ⟨rfl, by rw [cancelF, if_pos hw]; exact hT, RowsKept.refl _⟩
    · have hw0 : Y.getD k 0 = 0 := Decidable.not_not.1 hw
      rw [cancelF, if_neg hw]
      have hc0 : IsCh W c false := by rw [decide_eq_false (by simpa using hw0)] at hc; exact hc
      have hm : IsMuH W m := hT.mu
      have hgc : g ≠ c := stop_ne_ch hs hc0
      have hmc : m ≠ c := by
        rintro rfl
        unfold IsMuH at hm; unfold IsCh chObj at hc0
        rw [hm] at hc0; cases hc0
      have hmg : m ≠ g := by
        rintro rfl
        unfold IsMuH at hm; unfold IsStop at hs
        rw [hm] at hs; cases hs
      obtain ⟨A, cap, hu⟩ := Kd.R_slice hR
      rw [List.length_map] at hu
      have hnm : (kidsOf up k).length ≤ 9223372036854775807 := by
        rw [hu] at hR
        have := (Kd.R_reads' hR).2.2.2.1
        simpa using this
      have hkids : ∀ j, j < (kidsOf up k).length → (kidsOf up k).getD j 0 < st.length ∧ st.length - (kidsOf up k).getD j 0 ≤ d := by
        intro j hj
        have hmem : (kidsOf up k).getD j 0 ∈ kidsOf up k := by simp [List.getD, hj]
        obtain ⟨h1, h2, h3⟩ := mem_kids hmem
        rw [hT.len] at h2
        have h4 := hT.ups _ h1 h2
        omega
      have HKD := Lib.hid hkids
      clear hkids
      have c5 : W.cell? ⟨g, 5, none⟩ = some (.int .i64 0) := by rw [← hw0]; exact hs.cell 5 rfl
      have f5 := hs.frozen 5
      have hs1 := blk_set hs 5 (.int .i64 y)
      have c6 : (W.setCell ⟨g, 5, none⟩ (.int .i64 y)).cell? ⟨g, 6, none⟩ = some (.chan (some c)) := (blk_cell hs1 6).trans rfl
      have hc1 : IsCh (W.setCell ⟨g, 5, none⟩ (.int .i64 y)) c false := (set_far W g 5 _ (Ne.symm hgc)).trans hc0
      have HT := Lib.hid hT
      have HSW := Lib.hid hs
      have HCW := Lib.hid hc0
      have HM := Lib.hid hm
      have HS1 := Lib.hid hs1
      have HC1 := Lib.hid hc1
      have HB := Lib.hid hT.below
      have HU := Lib.hid hu
      have HX := Lib.hid hx
      have HIH := Lib.hid ih
      have happ := app_nil
      obtain ⟨n, hn⟩ : ∃ n, n = (kidsOf up k).length := ⟨_, rfl⟩
      rw [← hn] at HU hnm
      have HN := Lib.hid hn
      clear hm hs hs1 hc1 hw hw0 hc hc0 hT hR hu hx ih hn
      go_enter Try.func24, Try.ntmps24
      go_wp2_with (refine close_list (c := c) (.tmp 20) 67 rfl rfl rfl HC1.out ?_; intro w5 hw5; have hl5 := Lib.hid (cancel_facts hw5 HM.out HS1.out HC1.out HB.out hgc hmc hmg hgb hcb); clear hw5; have hs5 := hl5.out.2.1; have c7 : w5.cell? ⟨g, 7, none⟩ = some (.slice none 0 0) := (blk_cell hs5 7).trans rfl; have f7 := blk_frozen hs5 7; have c2 : (w5.setCell ⟨g, 7, none⟩ (.slice none 0 0)).cell? ⟨g, 2, none⟩ = some (.slice A n cap) := (blk_cell (blk_set hs5 7 (.slice none 0 0)) 2).trans (by rw [← HU.out]; rfl); clear hs5)
      obtain ⟨hm5, hs5, hc5, hb5, hk5, hz5⟩ := hl5.out
      have HT8 := Lib.hid (show TH 1 w0 (w5.setCell ⟨g, 7, none⟩ (.slice none 0 0)) m st up (Y.set k y) from
        HT.out.cut HX.out hy ((set_far w5 g 7 _ hmg).trans hm5) (by
          have h := blk_set hs5 7 (.slice none 0 0)
          exact h) ((set_far w5 g 7 _ (Ne.symm hgc)).trans hc5) (below_set hb5 hgb) (fun q h1 h2 => (set_far w5 g 7 _ h1).trans (hk5 q h1 h2)))
      have HKW := Lib.hid (show RowsKept W (w5.setCell ⟨g, 7, none⟩ (.slice none 0 0)) from kept_of HSW.out HCW.out (fun q h1 h2 => (set_far w5 g 7 _ h1).trans (hk5 q h1 h2)))
      clear hl5 hm5 hs5 hc5 hb5 hk5 hz5 c7 f7 c2
      generalize w5.setCell ⟨g, 7, none⟩ (.slice none 0 0) = w8 at *
      clear HT HM HS1 HC1 HB HSW HCW
      go_loopw [5, 7, 33] (fun v5 v7 v33 wr => ∃ j : Nat, v5 = .slice none 0 0 ∧ v33 = .int .i64 j ∧ j ≤ n ∧ Hid (TH 1 w0 wr m st up (((kidsOf up k).take j).foldl (fun Y j => cancelF up y d Y j) (Y.set k y))) ∧ Hid (RowsKept W wr)) (fun _ _ v33 _ => n - (intOf v33).toNat)
      case atStart => exact ⟨0, rfl, rfl, Nat.zero_le _, HT8, HKW⟩
      case round =>
        obtain ⟨j, rfl, rfl, hjn, HTr, HKr⟩ := hrel
        by_cases hlt : j < n
        · have hjl : j < (kidsOf up k).length := by rw [← HN.out]; exact hlt
          have hRr := (HTr.out.at_ k _ HX.out).2.2.2.2
          obtain ⟨go, cap', hu', _⟩ := Kd.R_form hRr (by simp; omega)
          rw [List.length_map, ← HN.out] at hu'
          have hu2 := HU.out.symm.trans hu'
          cases hu2
          have hrd := read_P (go := go) (n := n) (co := cap) (by rw [← HU.out]; exact hRr) j hlt
          have e1 : ((kidsOf up k).map (gOf st)).getD j 0 = gOf st ((kidsOf up k).getD j 0) := by simp [List.getD, hjl]
          rw [e1] at hrd
          have HC := Lib.hid (HIH.out ((kidsOf up k).getD j 0) (HKD.out j hjl).2 (HKD.out j hjl).1 wr _ HTr.out)
          have e2 : (kidsOf up k).getD j 0 = (kidsOf up k)[j] := by simp [List.getD, hjl]
          have HF := Lib.hid (show ((kidsOf up k).take (j + 1)).foldl (fun Y j => cancelF up y d Y j) (Y.set k y) = cancelF up y d (((kidsOf up k).take j).foldl (fun Y j => cancelF up y d Y j) (Y.set k y)) ((kidsOf up k).getD j 0) by rw [foldl_take _ _ _ j hjl, e2])
          clear e1 e2 hRr hu'
          generalize gOf st ((kidsOf up k).getD j 0) = gj at *
          go_wp2_with fail
          refine HC.out.mono ?_
          clear HC
          rintro e w9 ⟨rfl, hT9, hK9⟩
          have HT9 := Lib.hid hT9
          have HK9 := Lib.hid (HKr.out.trans hK9)
          clear hT9 hK9
          go_wp2_with fail
          go_roundw
          case rel => exact ⟨j + 1, rfl, by go_num, by omega, Lib.hid (by rw [HF.out]; exact HT9.out), HK9⟩
          case measure => simp [intOf]; omega
        · go_wp2_with fail
          go_ret
          obtain rfl : j = n := by omega
          refine ⟨rfl, ?_, HKr.out⟩
          have h := HTr.out
          rw [HN.out, List.take_length] at h
          exact h
end Go.Proofs.Ytofbnoiecpmjnaa.Pr
