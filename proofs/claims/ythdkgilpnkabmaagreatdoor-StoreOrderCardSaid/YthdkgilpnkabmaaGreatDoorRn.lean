/- A range over a map, at its step. -/
import Derived.Test.YthdkgilpnkabmaaGreatDoorRm
namespace Go.Proofs.YthdkgilpnkabmaaGreatDoor.Rm
open Go Go.RowKit Go.ChangeMaps Go.MapKept Go.WideElems
set_option linter.unusedVariables false
set_option linter.unusedSimpArgs false
theorem wpList_next_is {α β : Type} {P : Program} (w : World) {ops : Array Oper} {rest : List Oper} {o : Oper} {a : Act} {Q : Exit → Act → World → Prop} (hg : o.guard = none) (it : Operand) (hop : o.op = Op.next it false)
    (k : TypeId) (mk : α → Value) (mv : β → Value) (b r : Nat) (M Lf : List (α × β)) (hit : a.eval it = .pointer (some ⟨r, 0, none⟩)) (h : RangeIs w P k mk mv b r M Lf)
    (hDone : Lf = [] → wpList P ops Q rest (a.put o.dst (.tuple #[.bool false])) w)
    (hMore : ∀ (s t : List (α × β)) (x : α) (c : β) (w' : World), Lf = s ++ (x, c) :: t → (x, c) ∈ M → RangeIs w' P k mk mv b r M (s ++ t) → w.grownBy w' (some r) → w'.heap.size = w.heap.size →
      (Instr.entry (.pointer (some ⟨r, 0, none⟩))).run P w' = .ok (.tuple #[mk x, mv c]) w' → wpList P ops Q rest (a.put o.dst (.tuple #[.bool true, mk x, mv c])) w') :
    wpList P ops Q (o :: rest) a w := by
  refine wpList_plain hg fun K' hK' => ?_
  unfold Oper.wp
  rcases h.next o.type with ⟨h0, hrun⟩ | ⟨s, p, t, w', h1, h2, hrun, h3, h4, h5, h6⟩
  · simp [execOp, hop, hit, hrun, Result.andThen]
    exact hK' _ _ (hDone h0)
  · simp [execOp, hop, hit, hrun, Result.andThen]
    exact hK' _ _ (hMore s t p.1 p.2 w' h1 h2 h3 h4 h5 h6)
end Go.Proofs.YthdkgilpnkabmaaGreatDoor.Rm
