/- Stops, each beneath the one ahead of it: what holds of them in memory, and what Spend does to them. -/
import Derived.Test.YtofbnoiecpmjnaaHk
import Derived.Test.YtofbnoiecpmjnaaHg
namespace Go.Proofs.Ytofbnoiecpmjnaa.Pr
open Go.RowKit Go.Proofs.YtofbnoiecpmjnaaW.PrintWords Go.Proofs.YtofbnoiecpmjnaaW.PrintLast Go.Proofs.YtofbnoiecpmjnaaW.PrintMore Go.MuLone
open Go.Lib
set_option linter.unusedVariables false
set_option linter.unusedSimpArgs false
/-- A place: a stop's block, its channel, its row. -/
structure PL where
  g : Nat
  c : Nat
  u : Value
def srAt (st : List PL) (L : List Int) (low i : Nat) (x : PL) : SR :=
  { above := if i = 0 then none else (st[i-1]?).map PL.g, und := x.u, bud := true, left := L.getD i 0, why := if i < low then 0 else 31, chn := x.c }
def RowsTo (W : World) (u : Value) : Option PL → Prop
  | none => u = .slice none 0 0
  | some y => RowOne W u y.g
structure Inv (w0 W : World) (m : Nat) (st : List PL) (L : List Int) (low : Nat) : Prop where
  mu : IsMu W m
  mb : w0.heap.size ≤ m
  below : Below w0.heap.size w0 W
  at_ : ∀ (i : Nat) (x : PL), st[i]? = some x → IsStop W m x.g (srAt st L low i x) ∧ IsCh W x.c (decide (low ≤ i)) ∧ w0.heap.size ≤ x.g ∧ w0.heap.size ≤ x.c ∧ RowsTo W x.u (st[i+1]?)
  apart : ∀ (i j : Nat) (x y : PL), i < j → st[i]? = some x → st[j]? = some y → x.g < y.g ∧ x.c ≠ y.c
/-- Rows in memory (of no stop, no mutex) are as before. -/
def RowsKept (W w' : World) : Prop := ∀ (k : Nat) (cells : Array Value) (t : Nat), W.heap[k]? = some (.cells cells t (0, 0)) → t ≠ 70 → t ≠ 66 → w'.heap[k]? = W.heap[k]?
theorem RowsKept.refl (W : World) : RowsKept W W := fun _ _ _ _ _ _ => rfl
theorem RowsKept.trans {W W1 W2 : World} (h1 : RowsKept W W1) (h2 : RowsKept W1 W2) : RowsKept W W2 := fun k cells t hk ht hu => by
  have h := h1 k cells t hk ht hu
  exact (h2 k cells t (h.trans hk) ht hu).trans h
theorem RowsKept.row {α : Type} {d : Kd α} {e base : Nat} {W w' : World} {v : Value} {xs : List α} (h : RowsKept W w') (hR : Kd.R d e W base (fun _ => True) v xs) (hE : ∀ q ∈ e :: d.E, q ≠ 70 ∧ q ≠ 66) : Kd.R d e w' base (fun _ => True) v xs :=
  Kd.R_mono (Kd.R_move (Kd.R_bound hR) (fun k hk => by
    obtain ⟨_, _, _, q, hq, cells, hc⟩ := hk
    exact h k cells q hc (hE q hq).1 (hE q hq).2)) (fun _ _ => trivial)
theorem RowOne.grown {W W' : World} {u : Value} {g : Nat} {row : Option Nat} (h : RowOne W u g) (hk : ∀ k, k < W.heap.size → some k ≠ row → W'.heap[k]? = W.heap[k]?) (ho : u.ownBlock = none ∨ u.ownBlock ≠ row) : RowOne W' u g := by
  obtain ⟨ad, cap, cs, rfl, h2, h3⟩ := h
  refine ⟨ad, cap, cs, rfl, (hk ad (lt_of h2) ?_).trans h2, h3⟩
  rcases ho with ho | ho
  · cases ho
  · exact ho
theorem RowOne.kept {W W' : World} {u : Value} {g : Nat} (h : RowOne W u g) (hk : RowsKept W W') : RowOne W' u g := by
  obtain ⟨ad, cap, cs, rfl, h2, h3⟩ := h
  exact ⟨ad, cap, cs, rfl, (hk ad cs 25 h2 (by decide) (by decide)).trans h2, h3⟩
theorem RowsTo.kept {W W' : World} {u : Value} {o : Option PL} (h : RowsTo W u o) (hk : RowsKept W W') : RowsTo W' u o := by
  cases o with
  | none => exact h
  | some y => exact RowOne.kept h hk
/-- A step that writes one row alone. -/
theorem Inv.grown {w0 W W' : World} {m : Nat} {st : List PL} {L : List Int} {low : Nat} {row : Option Nat} (h : Inv w0 W m st L low) (hB : Below w0.heap.size w0 W')
    (hk : ∀ k, k < W.heap.size → some k ≠ row → W'.heap[k]? = W.heap[k]?) (hrow : ∀ b, row = some b → b < W.heap.size → ∃ cells t, W.heap[b]? = some (.cells cells t (0, 0)) ∧ t ≠ 70 ∧ t ≠ 66)
    (hoff : ∀ x ∈ st, x.u.ownBlock = none ∨ x.u.ownBlock ≠ row) : Inv w0 W' m st L low := by
  have keepC : ∀ {k : Nat} {cs : Array Value} {t : Nat}, W.heap[k]? = some (.cells cs t (0, 0)) → (t = 70 ∨ t = 66) → W'.heap[k]? = W.heap[k]? := by
    intro k cs t hkk ht
    refine hk k (lt_of hkk) (fun e => ?_)
    obtain ⟨cells, t', h1, h2, h3⟩ := hrow k e.symm (lt_of hkk)
    rw [hkk] at h1
    cases h1
    rcases ht with ht | ht
    · exact h2 ht
    · exact h3 ht
  refine ⟨(keepC h.mu (.inr rfl)).trans h.mu, h.mb, hB, fun i x hx => ?_, h.apart⟩
  obtain ⟨h1, h2, h3, h4, h5⟩ := h.at_ i x hx
  refine ⟨(keepC h1 (.inl rfl)).trans h1, ?_, h3, h4, ?_⟩
  · refine (hk x.c (lt_of h2) (fun e => ?_)).trans h2
    obtain ⟨cells, t', h1', h2', h3'⟩ := hrow x.c e.symm (lt_of h2)
    unfold IsCh chObj at h2
    rw [h2] at h1'; cases h1'
  · cases hy : st[i+1]? with
    | none => rw [hy] at h5; exact h5
    | some y => rw [hy] at h5; exact RowOne.grown h5 hk (hoff x (List.mem_of_getElem? hx))
/-- Memory that is laid leaves all as it was. -/
theorem Inv.more {w0 W W' : World} {m : Nat} {st : List PL} {L : List Int} {low : Nat} (h : Inv w0 W m st L low) (hB : Below w0.heap.size w0 W') (hk : ∀ k, k < W.heap.size → W'.heap[k]? = W.heap[k]?) : Inv w0 W' m st L low :=
  h.grown (row := none) hB (fun k h1 _ => hk k h1) (fun b hb => by cases hb) (fun x hx => by cases hx' : x.u.ownBlock <;> simp)
/-- The stops from one on upwards. -/
def chainL (st : List PL) (L : List Int) (low : Nat) : Nat → List (Nat × SR)
  | 0 => []
  | k + 1 => match st[k]? with
    | some x => (x.g, srAt st L low k x) :: chainL st L low k
    | none => chainL st L low k
theorem mem_chainL {st : List PL} {L : List Int} {low : Nat} : ∀ {k : Nat} {y : Nat × SR}, y ∈ chainL st L low k → ∃ i x, i < k ∧ st[i]? = some x ∧ y = (x.g, srAt st L low i x)
  | 0, y, h => by cases h
  | k + 1, y, h => by
    unfold chainL at h
    cases hx : st[k]? with
    | none =>
      rw [hx] at h
      obtain ⟨i, x, h1, h2⟩ := mem_chainL h
      exact ⟨i, x, by omega, h2⟩
    | some x =>
      rw [hx] at h
      rcases List.mem_cons.1 h with rfl | h
      · exact ⟨k, x, by omega, hx, rfl⟩
      · obtain ⟨i, x, h1, h2⟩ := mem_chainL h
        exact ⟨i, x, by omega, h2⟩
theorem chainL_succ {st : List PL} {L : List Int} {low k : Nat} {x : PL} (h : st[k]? = some x) : chainL st L low (k + 1) = (x.g, srAt st L low k x) :: chainL st L low k := by
  rw [chainL, h]
theorem Inv.chain {w0 W : World} {m : Nat} {st : List PL} {L : List Int} {low : Nat} (h : Inv w0 W m st L low) : ∀ (k : Nat), k ≤ st.length → Chain W m (chainL st L low k)
  | 0, _ => trivial
  | k + 1, hk => by
    have hx : st[k]? = some st[k] := by simp
    rw [chainL_succ hx]
    refine ⟨(h.at_ k _ hx).1, ?_, ?_, h.chain k (by omega)⟩
    · cases k with
      | zero => rfl
      | succ k =>
        have hy : st[k]? = some (st[k]'(by omega)) := by simp
        rw [chainL_succ hy]
        simp [srAt, hy]
    · intro y hy
      obtain ⟨i, z, h1, h2, rfl⟩ := mem_chainL hy
      exact (h.apart i k z _ h1 h2 hx).1
theorem chainL_split {st : List PL} {L : List Int} {low j : Nat} {x : PL} (hx : st[j]? = some x) : ∀ (d : Nat), j + d < st.length → ∃ pre, chainL st L low (j + d + 1) = pre ++ (x.g, srAt st L low j x) :: chainL st L low j ∧ ∀ y ∈ pre, ∃ i z, j < i ∧ i ≤ j + d ∧ st[i]? = some z ∧ y = (z.g, srAt st L low i z)
  | 0, _ => ⟨[], by rw [Nat.add_zero, chainL_succ hx]; rfl, fun y hy => by cases hy⟩
  | d + 1, hd => by
    obtain ⟨pre, h1, h2⟩ := chainL_split (L := L) (low := low) hx d (by omega)
    have hz : st[j + d + 1]? = some (st[j + d + 1]'(by omega)) := by simp
    refine ⟨((st[j + d + 1]'(by omega)).g, srAt st L low (j + d + 1) (st[j + d + 1]'(by omega))) :: pre, ?_, ?_⟩
    · rw [show j + (d + 1) + 1 = (j + d + 1) + 1 from by omega, chainL_succ hz, h1]; rfl
    · intro y hy
      rcases List.mem_cons.1 hy with rfl | hy
      · exact ⟨j + d + 1, _, by omega, by omega, hz, rfl⟩
      · obtain ⟨i, z, h3, h4, h5⟩ := h2 y hy
        exact ⟨i, z, h3, by omega, h5⟩
/-- So many stops downwards. -/
def downL (st : List PL) (L : List Int) (low : Nat) : Nat → Nat → List (Nat × SR)
  | 0, _ => []
  | d + 1, j => match st[j]? with
    | some x => (x.g, srAt st L low j x) :: downL st L low d (j + 1)
    | none => []
theorem downL_succ {st : List PL} {L : List Int} {low d j : Nat} {x : PL} (h : st[j]? = some x) : downL st L low (d + 1) j = (x.g, srAt st L low j x) :: downL st L low d (j + 1) := by
  rw [downL, h]
theorem mem_downL {st : List PL} {L : List Int} {low : Nat} : ∀ {d j : Nat} {y : Nat × SR}, y ∈ downL st L low d j → ∃ i x, j ≤ i ∧ i < j + d ∧ st[i]? = some x ∧ y = (x.g, srAt st L low i x)
  | 0, j, y, h => by cases h
  | d + 1, j, y, h => by
    cases hx : st[j]? with
    | none => rw [downL, hx] at h; cases h
    | some x =>
      rw [downL_succ hx] at h
      rcases List.mem_cons.1 h with rfl | h
      · exact ⟨j, x, by omega, by omega, hx, rfl⟩
      · obtain ⟨i, z, h1, h2, h3⟩ := mem_downL h
        exact ⟨i, z, by omega, by omega, h3⟩
theorem in_downL {st : List PL} {L : List Int} {low : Nat} : ∀ {d j i : Nat} {x : PL}, j ≤ i → i < j + d → j + d ≤ st.length → st[i]? = some x → (x.g, srAt st L low i x) ∈ downL st L low d j
  | 0, j, i, x, h1, h2, _, _ => by omega
  | d + 1, j, i, x, h1, h2, h3, hx => by
    have hj : st[j]? = some (st[j]'(by omega)) := by simp
    rw [downL_succ hj]
    by_cases e : i = j
    · subst e
      rw [hj] at hx; cases hx
      exact List.mem_cons_self
    · exact List.mem_cons_of_mem _ (in_downL (by omega) (by omega) (by omega) hx)
theorem Inv.down {w0 W : World} {m : Nat} {st : List PL} {L : List Int} {low : Nat} (h : Inv w0 W m st L low) (hl : low ≤ st.length) : ∀ (d j : Nat), j + d = low → Down W m w0.heap.size (downL st L low d j)
  | 0, _, _ => trivial
  | d + 1, j, hj => by
    obtain ⟨x, hx⟩ : ∃ x, st[j]? = some x := ⟨st[j]'(by omega), by simp⟩
    rw [downL_succ hx]
    obtain ⟨h1, h2, h3, h4, h5⟩ := h.at_ j x hx
    refine ⟨h1, by simp [srAt]; omega, ?_, h3, h4, ?_, ?_, h.down hl d (j + 1) (by omega)⟩
    · rw [decide_eq_false (by omega)] at h2; exact h2
    · cases d with
      | zero =>
        show LastOk W m x.u
        cases hy : st[j+1]? with
        | none => rw [hy] at h5; exact .inl h5
        | some y =>
          rw [hy] at h5
          refine .inr ⟨y.g, _, h5, (h.at_ (j+1) y hy).1, ?_⟩
          simp [srAt]; omega
      | succ d =>
        have hy : st[j+1]? = some (st[j+1]'(by omega)) := by simp
        rw [downL_succ hy]
        rw [hy] at h5
        exact h5
    · intro y hy
      obtain ⟨i, z, h6, h7, h8, rfl⟩ := mem_downL hy
      have := h.apart j i x z (by omega) hx h8
      exact ⟨by show z.g ≠ x.g; omega, Ne.symm this.2⟩
end Go.Proofs.Ytofbnoiecpmjnaa.Pr
