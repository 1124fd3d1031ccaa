/- What changes between two worlds: the blocks of a set, and what is new. -/
import Derived.Test.YthdkgilpnkabmaaGreatDoorRm
import Derived.Test.YthdkgilpnkabmaaGreatDoorWWords
namespace Go.Proofs.YthdkgilpnkabmaaGreatDoor.Rm
open Go Go.RowKit Go.Proofs.YthdkgilpnkabmaaGreatDoorW.PrintWords
set_option linter.unusedVariables false
set_option linter.unusedSimpArgs false
structure Chg (G : Nat → Prop) (w w' : World) : Prop where
  os : w'.os = w.os
  tape : w'.tape = w.tape
  output : w'.output = w.output
  size : w.heap.size ≤ w'.heap.size
  block : ∀ k, k < w.heap.size → ¬ G k → w'.heap[k]? = w.heap[k]?
section
variable {G G' : Nat → Prop} {w w' a b c : World}
theorem Chg.refl (G : Nat → Prop) (w : World) : Chg G w w := ⟨rfl, rfl, rfl, Nat.le_refl _, fun _ _ _ => rfl⟩
theorem Chg.trans (h : Chg G a b) (k : Chg G' b c) (hG : ∀ j, j < a.heap.size → G' j → G j) : Chg G a c :=
  ⟨k.os.trans h.os, k.tape.trans h.tape, k.output.trans h.output, Nat.le_trans h.size k.size, fun j hj hn => (k.block j (Nat.lt_of_lt_of_le hj h.size) (fun e => hn (hG j hj e))).trans (h.block j hj hn)⟩
theorem Chg.mono (h : Chg G a b) (hG : ∀ j, j < a.heap.size → G j → G' j) : Chg G' a b := ⟨h.os, h.tape, h.output, h.size, fun j hj hn => h.block j hj (fun e => hn (hG j hj e))⟩
theorem Chg.of_below (h : Below w.heap.size w w') : Chg G w w' := ⟨h.os, h.tape, h.output, h.size, fun k hk _ => h.block k hk⟩
theorem Chg.of_grown {k : Nat} (h : w.grownBy w' (some k)) (hG : G k) : Chg G w w' := ⟨h.os, h.tape, h.output, h.size, fun j hj hn => h.block j hj (fun e => hn (by cases e; exact hG))⟩
theorem Chg.below {B : Nat} (h : Chg G w w') (hB : B ≤ w.heap.size) (hG : ∀ k, k < w.heap.size → G k → B ≤ k) : Below B w w' :=
  ⟨h.os, h.tape, h.output, h.size, fun k hk => h.block k (by omega) (fun e => by have := hG k (by omega) e; omega)⟩
theorem Chg.set {p : Addr} {v : Value} (hG : G p.block) : Chg G w (w.setCell p v) :=
  ⟨rfl, rfl, rfl, by simp, fun k hk hn => Below.heap_setCell w p v k (fun e => hn (e ▸ hG))⟩
theorem Chg.cell (h : Chg G w w') {p : Addr} {v : Value} (hc : w.cell? p = some v) (hn : ¬ G p.block) : w'.cell? p = some v := by
  have hlt := World.block_lt_of_cell? w p hc
  unfold World.cell? at hc ⊢
  rw [h.block _ hlt hn]
  exact hc
theorem Chg.blk (h : Chg G w w') {k : Nat} {o : Obj} (hb : w.heap[k]? = some o) (hn : ¬ G k) : w'.heap[k]? = some o := (h.block k (Array.getElem?_eq_some_iff.1 hb).1 hn).trans hb
theorem MapIs.chg {α β : Type} {P : Program} {k : TypeId} {mk : α → Value} {mv : β → Value} {n : Nat} {M : List (α × β)} (hm : MapIs w P k mk mv n M) (h : Chg G w w') (hn : ¬ G n) : MapIs w' P k mk mv n M := hm.of_block (h.block n hm.lt hn)
/-- None of these blocks is a row of one of these types. -/
def NT (E : List Nat) (w : World) (G : Nat → Prop) : Prop := ∀ k, G k → ∀ q ∈ E, ∀ cells, w.heap[k]? ≠ some (.cells cells q (0, 0))
theorem M_chg {α : Type} {d : Kd α} {base : Nat} {ok : Nat → Prop} {x : α} {cs : List Value} (hM : d.M w base ok x cs) (h : Chg G w w') (hG : NT d.E w G) : d.M w' base ok x cs := by
  refine d.M_mono (fun _ hk => hk.1) (d.M_move (ok := fun k => ok k ∧ base ≤ k ∧ k < w.heap.size ∧ ∃ q, q ∈ d.E ∧ ∃ cells, w.heap[k]? = some (.cells cells q (0, 0))) (fun k hk => ?_) (d.M_bound hM))
  obtain ⟨_, _, hlt, q, hq, cells, hc⟩ := hk
  exact h.block k hlt (fun e => hG k e q hq cells hc)
end
end Go.Proofs.YthdkgilpnkabmaaGreatDoor.Rm
