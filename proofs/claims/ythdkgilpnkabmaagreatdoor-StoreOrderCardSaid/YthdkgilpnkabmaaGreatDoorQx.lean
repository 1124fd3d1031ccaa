/- A region that draws its order, whose operations read and whose callees make memory alone: one walk, over the class of the worlds that stand on one. -/
import Derived.Test.YthdkgilpnkabmaaGreatDoorWWords
import Derived.Deep.QuietTactic
import Derived.BigQuiet
import Derived.Below
namespace Go.Proofs.YthdkgilpnkabmaaGreatDoor.Pr
open Go.RowKit Go.Proofs.YthdkgilpnkabmaaGreatDoorW.PrintWords
/-- A world that stands on w: all that lies in w is as it was. -/
structure Wx (w : World) where
  W : World
  h : Below w.heap.size w W
instance Wx.inh (w : World) : Inhabited (Wx w) := ⟨⟨w, Below.refl _ _⟩⟩
theorem wp_region_ext {P : Program} {id : Nat} {Q : Exit → Act → World → Prop} {a : Act} {w : World} {l : List Oper} (hm : P.follows .mixedOrders = true) (hB : Region.lexB .any l.toArray = true)
    (h : wpQuiet P l.toArray (fun w' => ∃ x : Wx w, w' = x.W) (fun a' => ∀ w', (∃ x : Wx w, w' = x.W) → Q .normal a' w') l a) : (Code.region id l.toArray true).wp P Q a w :=
  wp_region_quiet (C := fun w' => ∃ x : Wx w, w' = x.W) hm hB ⟨⟨_, below_drew (Below.refl _ _)⟩, rfl⟩ (by simpa using h)
theorem Calls.ext_of {P : Program} {f : FuncId} {args : Array Value} {w : World} {x : Wx w} {v : Value}
    (h : Calls P f args x.W fun e w' => e = .returned v ∧ Below x.W.heap.size x.W w') : Calls P f args x.W fun e w'' => e = .returned v ∧ ∃ y : Wx w, w'' = y.W :=
  h.mono fun _ w'' ⟨he, hb⟩ => ⟨he, ⟨w'', x.h.trans (hb.mono x.h.size)⟩, rfl⟩
theorem Wx.cell {w : World} (x : Wx w) {b o : Nat} {v : Value} (h : w.cell? ⟨b, o, none⟩ = some v) : x.W.cell? ⟨b, o, none⟩ = some v := pw_cell_below x.h h
end Go.Proofs.YthdkgilpnkabmaaGreatDoor.Pr
