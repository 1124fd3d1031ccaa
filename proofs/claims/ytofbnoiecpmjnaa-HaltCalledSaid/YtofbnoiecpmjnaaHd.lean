/- What cancel does at a stop that has none beneath; run of nothing. -/
import Derived.Test.YtofbnoiecpmjnaaHc
import Derived.LoopTactic
namespace Go.Proofs.Ytofbnoiecpmjnaa.Pr
open Go.RowKit Go.Proofs.YtofbnoiecpmjnaaW.PrintWords Go.Proofs.YtofbnoiecpmjnaaW.PrintLast Go.Proofs.YtofbnoiecpmjnaaW.PrintMore Go.MuLone
open Go.Lib
set_option linter.unusedVariables false
set_option linter.unusedSimpArgs false
/-- A channel is closed. -/
def closeCh (W : World) (c : Nat) : World := { W with heap := W.heap.setIfInBounds c (chObj true) }
theorem close_far (W : World) (c : Nat) {k : Nat} (h : k ≠ c) : (closeCh W c).heap[k]? = W.heap[k]? := by
  simp [closeCh, Array.getElem?_setIfInBounds, Ne.symm h]
theorem close_size (W : World) (c : Nat) : (closeCh W c).heap.size = W.heap.size := by simp [closeCh]
theorem close_is {W : World} {c : Nat} (h : IsCh W c false) : IsCh (closeCh W c) c true := by
  have := lt_of h
  simp [closeCh, IsCh, this]
theorem close_below {w0 W : World} {c : Nat} (h : Below w0.heap.size w0 W) (hc : w0.heap.size ≤ c) : Below w0.heap.size w0 (closeCh W c) :=
  ⟨h.os, h.tape, h.output, by rw [close_size]; exact h.size, fun k hk => (close_far W c (by omega)).trans (h.block k hk)⟩
theorem close_list {P : Program} {rest : List Oper} {opsA : Array Oper} {o : Oper} {a : Act} {Q : Exit → Act → World → Prop} {W : World} {c : Nat} (x : Operand) (t : TypeId) (hgd : o.guard = none)
    (ho : o.op = .call { callee := .builtin .close, args := #[x], argTypes := #[t] }) (hx : a.eval x = .chan (some c)) (hc : IsCh W c false) (h : ∀ w', w' = closeCh W c → wpList P opsA Q rest (a.put o.dst (.tuple #[])) w') :
    wpList P opsA Q (o :: rest) a W := by
  have hr := run_close_open (P := P) (w := W) #[t] o.type hc
  refine wpList_plain hgd fun K hK => ?_
  unfold Oper.wp execOp
  simp only [ho, resolve, invoke, builtin, Sem.run_bind, Sem.run_pure, Result.andThen_ok, List.map_toArray, List.map_cons, List.map_nil, hx, hr]
  exact hK _ _ (h _ rfl)
def cutSR (s : SR) (why : Int) : SR := { s with why := why }
def CancelPost (w0 : World) (m g : Nat) (s : SR) (why : Int) (W : World) (e : Ending) (w' : World) : Prop :=
  e = .returned (.slice none 0 0) ∧ IsMuH w' m ∧ IsStop w' m g (cutSR s why) ∧ IsCh w' s.chn true ∧ Below w0.heap.size w0 w' ∧ (∀ k, k ≠ g → k ≠ s.chn → w'.heap[k]? = W.heap[k]?) ∧ w'.heap.size = W.heap.size
theorem cancel_facts {w0 W w5 : World} {m g c : Nat} {cs : Array Value} {why : Int} (h : w5 = closeCh (W.setCell ⟨g, 5, none⟩ (.int .i64 why)) c) (hm : IsMuH W m) (hs : (W.setCell ⟨g, 5, none⟩ (.int .i64 why)).heap[g]? = some (.cells cs 70 (0, 0)))
    (hc : IsCh (W.setCell ⟨g, 5, none⟩ (.int .i64 why)) c false) (hB : Below w0.heap.size w0 W) (hgc : g ≠ c) (hmc : m ≠ c) (hmg : m ≠ g) (hgb : w0.heap.size ≤ g) (hcb : w0.heap.size ≤ c) :
    IsMuH w5 m ∧ w5.heap[g]? = some (.cells cs 70 (0, 0)) ∧ IsCh w5 c true ∧ Below w0.heap.size w0 w5 ∧ (∀ k, k ≠ g → k ≠ c → w5.heap[k]? = W.heap[k]?) ∧ w5.heap.size = W.heap.size := by
  subst h
  refine ⟨(close_far _ c hmc).trans ((set_far W g 5 _ hmg).trans hm), (close_far _ c hgc).trans hs, close_is hc, close_below (below_set hB hgb) hcb, fun k h1 h2 => (close_far _ c h2).trans (set_far W g 5 _ h1), by rw [close_size, set_size]⟩
set_option maxHeartbeats 1000000 in
theorem cancel_leaf (w0 : World) (m g : Nat) (s : SR) (why : Int) (W : World) (hm : IsMuH W m) (hs : IsStop W m g s) (hw : s.why = 0) (hu : s.und = .slice none 0 0) (hc : IsCh W s.chn false) (hB : Below w0.heap.size w0 W) (hgb : w0.heap.size ≤ g) (hcb : w0.heap.size ≤ s.chn) :
    Calls Try.prog 24 #[.pointer (some ⟨g, 0, none⟩), .int .i64 why] W fun e w' => CancelPost w0 m g s why W e w' := by
  have hgc : g ≠ s.chn := by
    rintro rfl
    unfold IsStop at hs; unfold IsCh chObj at hc
    rw [hs] at hc; cases hc
  have hmc : m ≠ s.chn := by
    rintro rfl
    unfold IsMuH at hm; unfold IsCh chObj at hc
    rw [hm] at hc; cases hc
  have hmg : m ≠ g := by
    rintro rfl
    unfold IsMuH at hm; unfold IsStop at hs
    rw [hm] at hs; cases hs
  have c5 : W.cell? ⟨g, 5, none⟩ = some (.int .i64 0) := by rw [← hw]; exact hs.cell 5 rfl
  have f5 := hs.frozen 5
  have hs1 := blk_set hs 5 (.int .i64 why)
  have c6 : (W.setCell ⟨g, 5, none⟩ (.int .i64 why)).cell? ⟨g, 6, none⟩ = some (.chan (some s.chn)) := (blk_cell hs1 6).trans rfl
  have hc1 : IsCh (W.setCell ⟨g, 5, none⟩ (.int .i64 why)) s.chn false := (set_far W g 5 _ (Ne.symm hgc)).trans hc
  have HM := Lib.hid hm
  have HS1 := Lib.hid hs1
  have HC1 := Lib.hid hc1
  have HB := Lib.hid hB
  have HU := Lib.hid hu
  have HW := Lib.hid hw
  clear hm hs hs1 hc1 hB hu hw hc
  go_enter Try.func24, Try.ntmps24
  go_wp2_with (refine close_list (c := s.chn) (.tmp 20) 67 rfl rfl rfl HC1.out ?_; intro w5 hw5; have hl5 := Lib.hid (cancel_facts hw5 HM.out HS1.out HC1.out HB.out hgc hmc hmg hgb hcb); clear hw5; have hs5 := hl5.out.2.1; have c7 : w5.cell? ⟨g, 7, none⟩ = some (.slice none 0 0) := (blk_cell hs5 7).trans rfl; have f7 := blk_frozen hs5 7; have c2 : (w5.setCell ⟨g, 7, none⟩ (.slice none 0 0)).cell? ⟨g, 2, none⟩ = some (.slice none 0 0) := (blk_cell (blk_set hs5 7 (.slice none 0 0)) 2).trans (by rw [← HU.out]; rfl); clear hs5)
  obtain ⟨hm5, hs5, hc5, hb5, hk5, hz5⟩ := hl5.out
  have hp := Lib.hid (show CancelPost w0 m g s why W (.returned (.slice none 0 0)) (w5.setCell ⟨g, 7, none⟩ (.slice none 0 0)) from
    ⟨rfl, (set_far w5 g 7 _ hmg).trans hm5, by
      have h := blk_set hs5 7 (.slice none 0 0)
      exact h, (set_far w5 g 7 _ (Ne.symm hgc)).trans hc5, below_set hb5 hgb, fun k h1 h2 => (set_far w5 g 7 _ h1).trans (hk5 k h1 h2), by rw [set_size]; exact hz5⟩)
  clear hl5 hm5 hs5 hc5 hb5 hk5 hz5 c7 f7 c2
  generalize w5.setCell ⟨g, 7, none⟩ (.slice none 0 0) = w8 at *
  go_loopw [5, 33] (fun v5 v33 wr => v5 = .slice none 0 0 ∧ v33 = .int .i64 0 ∧ wr = w8) (fun _ _ _ => 0)
  case atStart => exact ⟨rfl, rfl, rfl⟩
  case round =>
    obtain ⟨rfl, rfl, rfl⟩ := hrel
    go_wp2_with fail
    go_ret
    exact hp.out
set_option maxHeartbeats 1000000 in
theorem run_nil (g : Nat) (why : Int) (W : World) : Calls Try.prog 25 #[.pointer (some ⟨g, 0, none⟩), .slice none 0 0, .int .i64 why] W fun e w' => e = .returned (.tuple #[]) ∧ w' = W := by
  go_enter Try.func25, Try.ntmps25
  go_wp2_with fail
  go_loopw [10] (fun v10 wr => v10 = .int .i64 0 ∧ wr = W) (fun _ _ => 0)
  case atStart => exact ⟨rfl, rfl⟩
  case round =>
    obtain ⟨rfl, rfl⟩ := hrel
    go_wp2_with fail
    go_end0
    exact ⟨rfl, rfl⟩
end Go.Proofs.Ytofbnoiecpmjnaa.Pr
