/- Stores side by side: what becomes of one leaves the others. -/
import Derived.Test.YthdkgilpnkabmaaGreatDoorSm
import Derived.Test.YthdkgilpnkabmaaGreatDoorAv
import Derived.Test.YthdkgilpnkabmaaGreatDoorRu
namespace Go.Proofs.YthdkgilpnkabmaaGreatDoor.Pr
open Go Go.RowKit Go.Proofs.YthdkgilpnkabmaaGreatDoorW.PrintWords Go.Proofs.YthdkgilpnkabmaaGreatDoorW.PrintMore
open Rm Ps
set_option linter.unusedVariables false
set_option linter.unusedSimpArgs false
/-- What a Put leaves, whether it is refused or not. -/
def after (chk : Sp → Int) (L l : List Sp) : List Sp := if fitsF nmS chk L l = 0 then putAll nmS ordS L l else L
theorem puts_any {w : World} {base s : Nat} {F : Nat → Prop} {chk : Sp → Int} {L l : List Sp} {e : Ending} {w' : World} (B : StoreAt w base s F L) (h : PutsPost w base s F chk L l e w') :
    ∃ u F', e = .returned (.tuple #[u, .int .i64 (fitsF nmS chk L l)]) ∧ StoreAt w' base s F' (after chk L l) ∧ Chg F w w' ∧ (∀ k, F' k → F k ∨ w.heap.size ≤ k) ∧
      ((fitsF nmS chk L l ≠ 0 ∧ u = .slice none 0 0) ∨ (fitsF nmS chk L l = 0 ∧ ∃ out, u = .slice (some ⟨out, 0, none⟩) l.length l.length ∧ w.heap.size ≤ out ∧ w'.heap[out]? = some (.cells ((changes nmS ordS L l).map (Value.int .i64)).toArray 50 (0, 0)))) := by
  rcases h with ⟨h1, h2, h3⟩ | ⟨h1, F', out, h2, h3, h4, h5, h6, h7⟩
  · exact ⟨_, F, h2, by unfold after; rw [if_neg h1]; exact B.below h3, Chg.of_below h3, fun k hk => .inl hk, .inl ⟨h1, rfl⟩⟩
  · exact ⟨_, F', by rw [h1]; exact h2, by unfold after; rw [if_pos h1]; exact h5, h6, h7, .inr ⟨h1, out, rfl, h3, h4⟩⟩
section
variable {w w' : World} {base a b c d : Nat} {FA FB FC FD FA' : Nat → Prop} {LA LB LC LD LA' : List Sp}
structure Two (w : World) (base : Nat) (a : Nat) (FA : Nat → Prop) (LA : List Sp) (b : Nat) (FB : Nat → Prop) (LB : List Sp) : Prop where
  sa : StoreAt w base a FA LA
  sb : StoreAt w base b FB LB
  ab : ∀ k, FA k → ¬ FB k
theorem Two.swap (h : Two w base a FA LA b FB LB) : Two w base b FB LB a FA LA := ⟨h.sb, h.sa, fun k hb ha => h.ab k ha hb⟩
theorem Two.below (h : Two w base a FA LA b FB LB) (hb : Below w.heap.size w w') : Two w' base a FA LA b FB LB := ⟨h.sa.below hb, h.sb.below hb, h.ab⟩
theorem Two.step (h : Two w base a FA LA b FB LB) (s : StoreAt w' base a FA' LA') (hc : Chg FA w w') (hF : ∀ k, FA' k → FA k ∨ w.heap.size ≤ k) : Two w' base a FA' LA' b FB LB :=
  ⟨s, h.sb.chg hc (fun k hb ha => h.ab k ha hb) (Ours.nt (fun k hk => (h.sa.ours k hk).2.2)), fun k ha hb => (hF k ha).elim (fun h1 => h.ab k h1 hb) (fun h1 => by have := (h.sb.ours k hb).2.1; omega)⟩
theorem Two.other (h : Two w base a FA LA b FB LB) {FB' : Nat → Prop} {LB' : List Sp} (s : StoreAt w' base b FB' LB') (hc : Chg FB w w') (hF : ∀ k, FB' k → FB k ∨ w.heap.size ≤ k) : Two w' base a FA LA b FB' LB' := (h.swap.step s hc hF).swap
/-- Four stores, no two of which share a block. -/
structure Four (w : World) (base : Nat) (a : Nat) (FA : Nat → Prop) (LA : List Sp) (b : Nat) (FB : Nat → Prop) (LB : List Sp) (c : Nat) (FC : Nat → Prop) (LC : List Sp) (d : Nat) (FD : Nat → Prop) (LD : List Sp) : Prop where
  ab : Two w base a FA LA b FB LB
  ac : Two w base a FA LA c FC LC
  ad : Two w base a FA LA d FD LD
  bc : Two w base b FB LB c FC LC
  bd : Two w base b FB LB d FD LD
  cd : Two w base c FC LC d FD LD
theorem Four.rot (h : Four w base a FA LA b FB LB c FC LC d FD LD) : Four w base b FB LB c FC LC d FD LD a FA LA := ⟨h.bc, h.bd, h.ab.swap, h.cd, h.ac.swap, h.ad.swap⟩
theorem Four.below (h : Four w base a FA LA b FB LB c FC LC d FD LD) (hb : Below w.heap.size w w') : Four w' base a FA LA b FB LB c FC LC d FD LD := ⟨h.ab.below hb, h.ac.below hb, h.ad.below hb, h.bc.below hb, h.bd.below hb, h.cd.below hb⟩
theorem Four.step (h : Four w base a FA LA b FB LB c FC LC d FD LD) (s : StoreAt w' base a FA' LA') (hc : Chg FA w w') (hF : ∀ k, FA' k → FA k ∨ w.heap.size ≤ k) : Four w' base a FA' LA' b FB LB c FC LC d FD LD := by
  have h1 := h.ab.step s hc hF
  have h2 := h.ac.step s hc hF
  have h3 := h.ad.step s hc hF
  exact ⟨h1, h2, h3, ⟨h1.sb, h2.sb, h.bc.ab⟩, ⟨h1.sb, h3.sb, h.bd.ab⟩, ⟨h2.sb, h3.sb, h.cd.ab⟩⟩
theorem Four.step_b (h : Four w base a FA LA b FB LB c FC LC d FD LD) {FB' : Nat → Prop} {LB' : List Sp} (s : StoreAt w' base b FB' LB') (hc : Chg FB w w') (hF : ∀ k, FB' k → FB k ∨ w.heap.size ≤ k) : Four w' base a FA LA b FB' LB' c FC LC d FD LD := (h.rot.step s hc hF).rot.rot.rot
theorem Four.step_c (h : Four w base a FA LA b FB LB c FC LC d FD LD) {FC' : Nat → Prop} {LC' : List Sp} (s : StoreAt w' base c FC' LC') (hc : Chg FC w w') (hF : ∀ k, FC' k → FC k ∨ w.heap.size ≤ k) : Four w' base a FA LA b FB LB c FC' LC' d FD LD := (h.rot.rot.step s hc hF).rot.rot
theorem Four.step_d (h : Four w base a FA LA b FB LB c FC LC d FD LD) {FD' : Nat → Prop} {LD' : List Sp} (s : StoreAt w' base d FD' LD') (hc : Chg FD w w') (hF : ∀ k, FD' k → FD k ∨ w.heap.size ≤ k) : Four w' base a FA LA b FB LB c FC LC d FD' LD' := (h.rot.rot.rot.step s hc hF).rot
end
end Go.Proofs.YthdkgilpnkabmaaGreatDoor.Pr
