/- Stops that are made one after the other, and the two rows that name them. -/
import Derived.Test.YtofbnoiecpmjnaaHo
namespace Go.Proofs.Ytofbnoiecpmjnaa.Pr
open Go.RowKit Go.Proofs.YtofbnoiecpmjnaaW.PrintWords Go.Proofs.YtofbnoiecpmjnaaW.PrintLast Go.Proofs.YtofbnoiecpmjnaaW.PrintMore Go.MuLone
open Go.Lib
set_option linter.unusedVariables false
set_option linter.unusedSimpArgs false
abbrev T1 : Nat → Prop := fun _ => True
theorem row_past {α β : Type} {d : Kd α} {d' : Kd β} {e e' base base' : Nat} {W w1 : World} {v v' : Value} {xs : List α} {ys : List β} (hI : Kd.R d e W base T1 v xs) (hP : Kd.R d' e' W base' T1 v' ys) (hE : ∀ q ∈ e :: d.E, q ≠ e') (hg : W.grownBy w1 v'.ownBlock) : Kd.R d e w1 base T1 v xs := by
  refine Kd.R_mono (Kd.R_grown (Kd.R_bound hI) hg (fun k hk he => ?_)) (fun _ _ => trivial)
  obtain ⟨_, _, _, q, hq, cells, hc⟩ := hk
  obtain ⟨cells', hc'⟩ := Kd.R_typed hP k he.symm
  rw [hc] at hc'
  cases hc'
  exact hE _ hq rfl
theorem Inv.u_of {w0 W : World} {m : Nat} {st : List PL} {L : List Int} {low : Nat} (h : Inv w0 W m st L low) : ∀ x ∈ st, ∀ k, x.u.ownBlock = some k → k < W.heap.size ∧ ∃ cells, W.heap[k]? = some (.cells cells 25 (0, 0)) := by
  intro x hx k hk
  obtain ⟨i, hi⟩ := List.getElem?_of_mem hx
  have h5 := (h.at_ i x hi).2.2.2.2
  cases hy : st[i+1]? with
  | none => rw [hy] at h5; have h5' : x.u = .slice none 0 0 := h5; rw [h5'] at hk; cases hk
  | some y =>
    rw [hy] at h5
    obtain ⟨ad, cap, cs, he, h2, _⟩ := h5
    rw [he] at hk
    cases hk
    exact ⟨lt_of h2, cs, h2⟩
theorem Inv.past {α : Type} {d : Kd α} {e base : Nat} {w0 W w1 : World} {m : Nat} {st : List PL} {L : List Int} {low : Nat} {v : Value} {xs : List α} (h : Inv w0 W m st L low) (hR : Kd.R d e W base T1 v xs) (he : e ≠ 70 ∧ e ≠ 66) (hg : W.grownBy w1 v.ownBlock) (hB : Below w0.heap.size w0 w1) (hoff : ∀ x ∈ st, x.u.ownBlock = none ∨ x.u.ownBlock ≠ v.ownBlock) : Inv w0 w1 m st L low :=
  h.grown hB hg.block (fun b hb _ => by obtain ⟨cells, hc⟩ := Kd.R_typed hR b hb; exact ⟨cells, e, hc, he.1, he.2⟩) hoff
theorem Inv.off3 {α : Type} {d : Kd α} {e base : Nat} {w0 W : World} {m : Nat} {st : List PL} {L : List Int} {low : Nat} {v : Value} {xs : List α} (h : Inv w0 W m st L low) (hR : Kd.R d e W base T1 v xs) (he : e ≠ 25) : ∀ x ∈ st, x.u.ownBlock = none ∨ x.u.ownBlock ≠ v.ownBlock := by
  intro x hx
  cases hu : x.u.ownBlock with
  | none => exact .inl rfl
  | some k =>
    refine .inr (fun hv => ?_)
    obtain ⟨_, cells, hc⟩ := h.u_of x hx k hu
    obtain ⟨cells', hc'⟩ := Kd.R_typed hR k hv.symm
    rw [hc] at hc'; cases hc'; exact he rfl
/-- So many stops are made; both rows name them. -/
structure Grown (w0 wr : World) (m : Nat) (st : List PL) (L : List Int) (i : Nat) (v8 v9 : Value) : Prop where
  len : st.length = i
  lenL : L.length = i
  inv : st = [] ∨ Inv w0 wr m st L i
  rowP : Kd.R kP 25 wr w0.heap.size T1 v8 (st.map PL.g)
  rowI : Kd.R kI 3 wr w0.heap.size T1 v9 L
  off : ∀ x ∈ st, x.u.ownBlock = none ∨ x.u.ownBlock ≠ v8.ownBlock
  below : Below w0.heap.size w0 wr
  rng : ∀ v ∈ L, 1 ≤ v ∧ v ≤ 9223372036854775807
/-- One more is made; the rows do not name it yet. -/
structure Mid (w0 wr : World) (m : Nat) (st : List PL) (gs : List Nat) (g : Nat) (L : List Int) (b : Int) (i : Nat) (v8 v9 : Value) : Prop where
  len : st.length = i + 1
  lenL : L.length = i
  mapg : st.map PL.g = gs ++ [g]
  inv : Inv w0 wr m st (L ++ [b]) (i + 1)
  rowP : Kd.R kP 25 wr w0.heap.size T1 v8 gs
  rowI : Kd.R kI 3 wr w0.heap.size T1 v9 L
  off : ∀ x ∈ st, x.u.ownBlock = none ∨ x.u.ownBlock ≠ v8.ownBlock
  rng : ∀ v ∈ L ++ [b], 1 ≤ v ∧ v ≤ 9223372036854775807
/-- The row of stops names it, that of what is left does not. -/
structure Mid2 (w0 wr : World) (m : Nat) (st : List PL) (L : List Int) (b : Int) (i : Nat) (v8 v9 : Value) : Prop where
  len : st.length = i + 1
  lenL : L.length = i
  inv : Inv w0 wr m st (L ++ [b]) (i + 1)
  rowP : Kd.R kP 25 wr w0.heap.size T1 v8 (st.map PL.g)
  rowI : Kd.R kI 3 wr w0.heap.size T1 v9 L
  off : ∀ x ∈ st, x.u.ownBlock = none ∨ x.u.ownBlock ≠ v8.ownBlock
  rng : ∀ v ∈ L ++ [b], 1 ≤ v ∧ v ≤ 9223372036854775807
theorem Grown.start (w0 : World) : Grown w0 w0 0 [] [] 0 (.slice none 0 0) (.slice none 0 0) :=
  ⟨rfl, rfl, .inl rfl, Kd.R_nil _ _ _ _ _, Kd.R_nil _ _ _ _ _, (fun x hx => by cases hx), Below.refl _ _, (fun v hv => by cases hv)⟩
theorem Grown.more {w0 W W' : World} {m : Nat} {st : List PL} {L : List Int} {i : Nat} {v8 v9 : Value} (h : Grown w0 W m st L i v8 v9) (hB : Below w0.heap.size w0 W') (hB' : Below W.heap.size W W') : Grown w0 W' m st L i v8 v9 :=
  ⟨h.len, h.lenL, h.inv.imp id (fun hi => hi.more hB hB'.block), Kd.R_below h.rowP hB', Kd.R_below h.rowI hB', h.off, hB, h.rng⟩
theorem rng_more {L : List Int} {b : Int} (h : ∀ v ∈ L, 1 ≤ v ∧ v ≤ 9223372036854775807) (hb : 1 ≤ b ∧ b ≤ 9223372036854775807) : ∀ v ∈ L ++ [b], 1 ≤ v ∧ v ≤ 9223372036854775807 := by
  intro v hv
  rcases List.mem_append.1 hv with hv | hv
  · exact h v hv
  · simp at hv; subst hv; exact hb
theorem Grown.first {w0 W : World} {m : Nat} {st : List PL} {L : List Int} {v8 v9 : Value} (n : Int) (h : Grown w0 W m st L 0 v8 v9) (hn : 1 ≤ n ∧ n ≤ 9223372036854775807) :
    ∃ m' st', Mid w0 (((W.alloc muObj).alloc (chObj false)).alloc (.cells ((newSR n (W.heap.size + 1)).cells W.heap.size) 70)) m' st' [] (W.heap.size + 2) L n 0 v8 v9 := by
  have hs : st = [] := List.length_eq_zero_iff.1 h.len
  have hl : L = [] := List.length_eq_zero_iff.1 h.lenL
  subst hs; subst hl
  have hb := new_below (w0 := W) n W (Below.refl _ _)
  refine ⟨W.heap.size, [⟨W.heap.size + 2, W.heap.size + 1, .slice none 0 0⟩], rfl, rfl, rfl, Inv.first n W hn.1 h.below, Kd.R_below h.rowP hb, Kd.R_below h.rowI hb, ?_, rng_more h.rng hn⟩
  intro x hx
  simp at hx; subst hx
  exact .inl rfl
theorem Grown.under {w0 W : World} {m : Nat} {st : List PL} {L : List Int} {i : Nat} {v8 v9 : Value} (n : Int) (h : Grown w0 W m st L (i + 1) v8 v9) (hn : 1 ≤ n ∧ n ≤ 9223372036854775807) :
    Calls Try.prog 10 #[.pointer (some ⟨(st.map PL.g).getD i 0, 0, none⟩), .int .i64 n] W fun e w' =>
      ∃ st' g, e = .returned (.tuple #[.pointer (some ⟨g, 0, none⟩), .int .i64 0]) ∧ Mid w0 w' m st' (st.map PL.g) g L n (i + 1) v8 v9 := by
  have hl := h.len
  have hne : st ≠ [] := by intro e; rw [e] at hl; simp at hl
  obtain ⟨pre, x, rfl⟩ : ∃ pre x, st = pre ++ [x] := ⟨_, _, (List.dropLast_concat_getLast hne).symm⟩
  have hpl : pre.length = i := by simpa using hl
  subst hpl
  have hi : Inv w0 W m (pre ++ [x]) L (pre.length + 1) := by
    rcases h.inv with e | e
    · exact absurd e hne
    · exact e
  have hg : ((pre ++ [x]).map PL.g).getD pre.length 0 = x.g := by simp [List.getD]
  rw [hg]
  refine (hi.under hn.1 h.lenL).mono ?_
  rintro e w' ⟨v1, rfl, q1, q2, q3, b, hb, hbs⟩
  refine ⟨_, _, rfl, ?_, h.lenL, ?_, q1, q2.row h.rowP (by intro q hq; simp [kP, Kd.scalar] at hq; subst hq; decide), q2.row h.rowI (by intro q hq; simp [kI, Kd.scalar] at hq; subst hq; decide), ?_, rng_more h.rng hn⟩
  · simp
  · simp
  · intro y hy
    rcases List.mem_append.1 hy with hy | hy
    · exact h.off y (List.mem_append.2 (.inl hy))
    · simp at hy
      rcases hy with rfl | rfl
      · refine .inr (fun e => ?_)
        have e' : v8.ownBlock = some b := by rw [← e]; exact hb
        have := Kd.R_lt h.rowP b e'
        omega
      · exact .inl rfl
theorem Mid.step {w0 W w1 : World} {m : Nat} {st : List PL} {gs : List Nat} {g : Nat} {L : List Int} {b : Int} {i : Nat} {v8 v9 v1 : Value} (h : Mid w0 W m st gs g L b i v8 v9)
    (hR : Kd.R kP 25 w1 w0.heap.size T1 v1 (gs ++ [g])) (hB : Below w0.heap.size w0 w1) (hg : W.grownBy w1 v8.ownBlock) (hat : v1.ownBlock = v8.ownBlock ∨ ∃ b, v1.ownBlock = some b ∧ W.heap.size ≤ b) : Mid2 w0 w1 m st L b i v1 v9 := by
  refine ⟨h.len, h.lenL, h.inv.past h.rowP (by decide) hg hB h.off, by rw [h.mapg]; exact hR, row_past h.rowI h.rowP (by intro q hq; simp [kI, Kd.scalar] at hq; subst hq; decide) hg, ?_, h.rng⟩
  intro x hx
  rcases hat with e | ⟨b', hb, hbs⟩
  · rw [e]; exact h.off x hx
  · cases hu : x.u.ownBlock with
    | none => exact .inl rfl
    | some k =>
      refine .inr (fun e => ?_)
      have := (h.inv.u_of x hx k hu).1
      rw [hb] at e; cases e; omega
theorem Mid2.step {w0 W w1 : World} {m : Nat} {st : List PL} {L : List Int} {b : Int} {i : Nat} {v8 v9 v1 : Value} (h : Mid2 w0 W m st L b i v8 v9)
    (hR : Kd.R kI 3 w1 w0.heap.size T1 v1 (L ++ [b])) (hB : Below w0.heap.size w0 w1) (hg : W.grownBy w1 v9.ownBlock) : Grown w0 w1 m st (L ++ [b]) (i + 1) v8 v1 :=
  ⟨h.len, by simp [h.lenL], .inr (h.inv.past h.rowI (by decide) hg hB (h.inv.off3 h.rowI (by decide))), row_past h.rowP h.rowI (by intro q hq; simp [kP, Kd.scalar] at hq; subst hq; decide) hg, hR, h.off, hB, h.rng⟩
end Go.Proofs.Ytofbnoiecpmjnaa.Pr
