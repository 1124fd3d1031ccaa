/- What Spend does at a stop that has too little, with none beneath it. -/
import Derived.Test.YtofbnoiecpmjnaaHe
namespace Go.Proofs.Ytofbnoiecpmjnaa.Pr
open Go.RowKit Go.Proofs.YtofbnoiecpmjnaaW.PrintWords Go.Proofs.YtofbnoiecpmjnaaW.PrintLast Go.Proofs.YtofbnoiecpmjnaaW.PrintMore Go.MuLone
open Go.Lib
set_option linter.unusedVariables false
set_option linter.unusedSimpArgs false
def ShortPost (w0 : World) (m g : Nat) (s : SR) (W : World) (e : Ending) (w' : World) : Prop :=
  e = .returned (.int .i64 31) ∧ IsMu w' m ∧ IsStop w' m g (cutSR s 31) ∧ IsCh w' s.chn true ∧ Below w0.heap.size w0 w' ∧ (∀ k, k ≠ g → k ≠ s.chn → k ≠ m → w'.heap[k]? = W.heap[k]?) ∧ w'.heap.size = W.heap.size
set_option maxHeartbeats 2000000 in
theorem spend_short0 (w0 : World) (m : Nat) (n : Int) (g : Nat) (s : SR) (W : World) (hn : 0 ≤ n) (hm : IsMu W m) (hs : IsStop W m g s) (hw : s.why = 0) (hb : s.bud = true) (hl : s.left < n) (hu : s.und = .slice none 0 0) (hc : IsCh W s.chn false) (hB : Below w0.heap.size w0 W)
    (hmb : w0.heap.size ≤ m) (hgb : w0.heap.size ≤ g) (hcb : w0.heap.size ≤ s.chn) :
    Calls Try.prog 12 #[.pointer (some ⟨g, 0, none⟩), .int .i64 n] W fun e w' => ShortPost w0 m g s W e w' := by
  have hn0 : decide (n < 0) = false := decide_eq_false (by omega)
  have hl0 : decide (s.left < n) = true := decide_eq_true hl
  have hm0 := hm.free
  have hgm : g ≠ m := ne_mu hs hm
  have hcm : s.chn ≠ m := by
    intro e
    unfold IsCh chObj at hc; unfold IsMu at hm
    rw [e, hm] at hc; cases hc
  have c0 : W.cell? ⟨g, 0, none⟩ = some (.pointer (some ⟨m, 0, none⟩)) := hs.cell 0 rfl
  have d0 : (W.setCell ⟨m, 0, none⟩ (.int .i32 1)).cell? ⟨g, 0, none⟩ = some (.pointer (some ⟨m, 0, none⟩)) := cell_held hs hm 0 rfl
  have d5 : (W.setCell ⟨m, 0, none⟩ (.int .i32 1)).cell? ⟨g, 5, none⟩ = some (.int .i64 0) := by rw [← hw]; exact cell_held hs hm 5 rfl
  have d3 : (W.setCell ⟨m, 0, none⟩ (.int .i32 1)).cell? ⟨g, 3, none⟩ = some (.bool true) := by rw [← hb]; exact cell_held hs hm 3 rfl
  have d4 : (W.setCell ⟨m, 0, none⟩ (.int .i32 1)).cell? ⟨g, 4, none⟩ = some (.int .i64 s.left) := cell_held hs hm 4 rfl
  have hs1 : IsStop (W.setCell ⟨m, 0, none⟩ (.int .i32 1)) m g s := (set_far W m 0 _ hgm).trans hs
  have hc1 : IsCh (W.setCell ⟨m, 0, none⟩ (.int .i32 1)) s.chn false := (set_far W m 0 _ hcm).trans hc
  have HCL := Lib.hid (cancel_leaf w0 m g s 31 (W.setCell ⟨m, 0, none⟩ (.int .i32 1)) hm.lock hs1 hw hu hc1 (below_set hB hmb) hgb hcb)
  have HK1 := Lib.hid (show ∀ k, k ≠ m → (W.setCell ⟨m, 0, none⟩ (.int .i32 1)).heap[k]? = W.heap[k]? from fun k hk => set_far W m 0 _ hk)
  have HZ1 := Lib.hid (set_size W ⟨m, 0, none⟩ (.int .i32 1))
  clear hs hm hw hb hu hc hB hs1 hc1
  go_enter Try.func12, Try.ntmps12
  go_wp2_with (go_at_call 22; refine (lock_free muLib ⟨m, 0, none⟩ _ hm0.1 hm0.2).mono ?_; rintro e w' ⟨rfl, rfl⟩)
  generalize W.setCell ⟨m, 0, none⟩ (.int .i32 1) = W1 at *
  go_loopw [6] (fun v6 wr => v6 = .pointer (some ⟨g, 0, none⟩) ∧ wr = W1) (fun _ _ => 0)
  case atStart => exact ⟨rfl, rfl⟩
  case round =>
    obtain ⟨rfl, rfl⟩ := hrel
    go_wp2_with fail
    refine HCL.out.mono ?_
    rintro e w2 ⟨rfl, hm2, hs2, hc2, hb2, hk2, hz2⟩
    have e0 : w2.cell? ⟨g, 0, none⟩ = some (.pointer (some ⟨m, 0, none⟩)) := hs2.cell 0 rfl
    have HM2 := Lib.hid hm2
    have HS2 := Lib.hid hs2
    have HC2 := Lib.hid hc2
    have HB2 := Lib.hid hb2
    have HK2 := Lib.hid hk2
    have HZ2 := Lib.hid hz2
    clear hm2 hs2 hc2 hb2 hk2 hz2
    go_wp2_with fail
    refine (unlock_held muLib ⟨m, 0, none⟩ _ HM2.out.cell.1 HM2.out.cell.2).mono ?_
    rintro e w3 ⟨rfl, rfl⟩
    go_wp2_with fail
    refine (run_nil g 31 _).mono ?_
    rintro e w4 ⟨rfl, rfl⟩
    go_wp2_with fail
    go_ret
    exact ⟨rfl, HM2.out.unlock, (set_far w2 m 0 _ hgm).trans HS2.out, (set_far w2 m 0 _ hcm).trans HC2.out, below_set HB2.out hmb,
      fun k h1 h2 h3 => (set_far w2 m 0 _ h3).trans ((HK2.out k h1 h2).trans (HK1.out k h3)), by rw [set_size, HZ2.out, HZ1.out]⟩
end Go.Proofs.Ytofbnoiecpmjnaa.Pr
