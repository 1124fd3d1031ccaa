/- A tree of stops that grows, and the two rows that name them. -/
import Derived.Test.YtofbnoiecpmjnaaJf
namespace Go.Proofs.Ytofbnoiecpmjnaa.Pr
open Go.RowKit Go.Proofs.YtofbnoiecpmjnaaW.PrintWords Go.Proofs.YtofbnoiecpmjnaaW.PrintLast Go.Proofs.YtofbnoiecpmjnaaW.PrintMore Go.MuLone
open Go.Lib
set_option linter.unusedVariables false
set_option linter.unusedSimpArgs false
theorem TH.past {α : Type} {d : Kd α} {e base : Nat} {b : Int} {w0 W w1 : World} {m : Nat} {st : List PL} {up : List Nat} {Y : List Int} {v : Value} {xs : List α} (h : TH b w0 W m st up Y) (hR : Kd.R d e W base T1 v xs) (he : e ≠ 70 ∧ e ≠ 66) (hg : W.grownBy w1 v.ownBlock) (hB : Below w0.heap.size w0 w1)
    (hoff : ∀ x ∈ st, x.u.ownBlock = none ∨ x.u.ownBlock ≠ v.ownBlock) : TH b w0 w1 m st up Y := by
  have keepC : ∀ {k : Nat} {cs : Array Value} {t : Nat}, W.heap[k]? = some (.cells cs t (0, 0)) → e ≠ t → w1.heap[k]? = W.heap[k]? := by
    intro k cs t hkk ht
    refine hg.block k (lt_of hkk) (fun e' => ?_)
    obtain ⟨cells, h1⟩ := Kd.R_typed hR k e'.symm
    rw [hkk] at h1
    cases h1
    exact ht rfl
  refine ⟨h.len, h.lenY, (keepC h.mu he.2).trans h.mu, h.mb, hB, fun i x hx => ?_, h.apart, h.rows, h.ups⟩
  obtain ⟨h1, h2, h3, h4, h5⟩ := h.at_ i x hx
  refine ⟨(keepC h1 he.1).trans h1, ?_, h3, h4, ?_⟩
  · refine (hg.block x.c (lt_of h2) (fun e' => ?_)).trans h2
    obtain ⟨cells, h1'⟩ := Kd.R_typed hR x.c e'.symm
    unfold IsCh chObj at h2
    rw [h2] at h1'; cases h1'
  · refine row_keep rfl h5 (fun k hk => ?_)
    refine hg.block k (Kd.R_lt h5 k hk) (fun e' => ?_)
    rcases hoff x (List.mem_of_getElem? hx) with t | t
    · rw [hk] at t; cases t
    · exact t (hk.trans e')
theorem TH.off3 {α : Type} {d : Kd α} {e base : Nat} {b : Int} {w0 W : World} {m : Nat} {st : List PL} {up : List Nat} {Y : List Int} {v : Value} {xs : List α} (h : TH b w0 W m st up Y) (hR : Kd.R d e W base T1 v xs) (he : e ≠ 25) : ∀ x ∈ st, x.u.ownBlock = none ∨ x.u.ownBlock ≠ v.ownBlock := by
  intro x hx
  cases hu : x.u.ownBlock with
  | none => exact .inl rfl
  | some k =>
    refine .inr (fun hv => ?_)
    obtain ⟨_, cells, hc⟩ := h.u_of x hx k hu
    obtain ⟨cells', hc'⟩ := Kd.R_typed hR k hv.symm
    rw [hc] at hc'; cases hc'; exact he rfl
theorem lit_P (W : World) (base g : Nat) (hb : base ≤ W.heap.size) : Kd.R kP 25 (W.alloc (.cells #[.pointer (some ⟨g, 0, none⟩)] 25)) base T1 (.slice (some ⟨W.heap.size, 0, none⟩) 1 1) [g] :=
  ⟨fun _ _ => trivial, OwnRow.lit W base (inner := [.pointer (some ⟨g, 0, none⟩)]) ⟨rfl, fun j p hj => by
    cases j with
    | zero => simp at hj; subst hj; rfl
    | succ j => simp at hj⟩ hb (by simp)⟩
theorem lit_I (W : World) (base : Nat) (v : Int) (hb : base ≤ W.heap.size) : Kd.R kI 3 (W.alloc (.cells #[.int .i64 v] 3)) base T1 (.slice (some ⟨W.heap.size, 0, none⟩) 1 1) [v] :=
  ⟨fun _ _ => trivial, OwnRow.lit W base (inner := [.int .i64 v]) ⟨rfl, fun j p hj => by
    cases j with
    | zero => simp at hj; subst hj; rfl
    | succ j => simp at hj⟩ hb (by simp)⟩
/-- What stands in the program's list of who is above whom. -/
def upI (up : List Nat) : List Int := (-1 : Int) :: List.map (fun n : Nat => (n : Int)) (up.drop 1)
theorem upI_more (up : List Nat) (k : Nat) (h : 0 < up.length) : upI (up ++ [k]) = upI up ++ [(k : Int)] := by
  cases up with
  | nil => cases h
  | cons a t => simp [upI]
theorem upI_len (up : List Nat) (h : 0 < up.length) : (upI up).length = up.length := by
  cases up with
  | nil => cases h
  | cons a t => simp [upI]
theorem upI_get (up : List Nat) (i : Nat) (h0 : 0 < i) (h : i < up.length) : (upI up).getD i 0 = ((up.getD i 0 : Nat) : Int) := by
  cases up with
  | nil => cases h
  | cons a t =>
    cases i with
    | zero => omega
    | succ i =>
      have : i < t.length := by simpa using h
      simp [upI, List.getD, this]
structure GT (w0 wr : World) (m : Nat) (st : List PL) (up : List Nat) (n : Nat) (v7 v8 : Value) : Prop where
  cnt : st.length = n
  th : TH 0 w0 wr m st up (List.replicate n 0)
  rowP : Kd.R kP 25 wr w0.heap.size T1 v7 (st.map PL.g)
  rowI : Kd.R kI 3 wr w0.heap.size T1 v8 (upI up)
  off : ∀ x ∈ st, x.u.ownBlock = none ∨ x.u.ownBlock ≠ v7.ownBlock
theorem rep_get (n i : Nat) : (List.replicate n (0 : Int)).getD i 0 = 0 := by
  simp only [List.getD, List.getElem?_replicate]
  split <;> rfl
/-- The first one. -/
theorem TH.first {w0 : World} (W : World) (hB : Below w0.heap.size w0 W) :
    TH 0 w0 (((W.alloc muObj).alloc (chObj false)).alloc (.cells ((newSR 0 (W.heap.size + 1)).cells W.heap.size) 70)) W.heap.size [⟨W.heap.size + 2, W.heap.size + 1, .slice none 0 0⟩] [0] [0] := by
  have hz := hB.size
  refine ⟨rfl, rfl, made_mu 0 W, hz, new_below 0 W hB, fun i x hx => ?_, fun i j x y h1 h2 h3 => ?_, fun i j x y h1 h2 h3 => ?_, fun i h1 h2 => ?_⟩
  · cases i with
    | succ i => simp at hx
    | zero =>
      simp at hx
      subst hx
      exact ⟨made_stop 0 W, new_ch 0 W, by show w0.heap.size ≤ W.heap.size + 2; omega, by show w0.heap.size ≤ W.heap.size + 1; omega, Kd.R_nil _ _ _ _ _⟩
  · cases j with
    | zero => omega
    | succ j => simp at h3
  · cases j with
    | zero => cases i with
      | zero => exact absurd rfl h1
      | succ i => simp at h2
    | succ j => simp at h3
  · simp at h2; omega
/-- Both rows are laid behind it. -/
theorem GT.start {w0 W : World} {m : Nat} {st : List PL} {g : Nat} (h : TH 0 w0 W m st [0] [0]) (h1 : st.length = 1) (hg : st.map PL.g = [g]) (hu : ∀ x ∈ st, x.u.ownBlock = none) :
    GT w0 ((W.alloc (.cells #[.pointer (some ⟨g, 0, none⟩)] 25)).alloc (.cells #[.int .i64 (-1)] 3)) m st [0] 1 (.slice (some ⟨W.heap.size, 0, none⟩) 1 1) (.slice (some ⟨W.heap.size + 1, 0, none⟩) 1 1) := by
  have hz := h.below.size
  have b1 : Below W.heap.size W (W.alloc (.cells #[.pointer (some ⟨g, 0, none⟩)] 25)) := below_alloc (Below.refl _ _) _
  have hsz : (W.alloc (.cells #[.pointer (some ⟨g, 0, none⟩)] 25)).heap.size = W.heap.size + 1 := by simp
  have b2 := below_alloc (Below.refl (W.alloc (.cells #[.pointer (some ⟨g, 0, none⟩)] 25)).heap.size (W.alloc (.cells #[.pointer (some ⟨g, 0, none⟩)] 25))) (.cells #[.int .i64 (-1)] 3)
  have hR1 := lit_P W w0.heap.size g hz
  have hR2 := lit_I (W.alloc (.cells #[.pointer (some ⟨g, 0, none⟩)] 25)) w0.heap.size (-1) (by rw [hsz]; omega)
  rw [hsz] at hR2
  have hnil := Kd.R_nil kP 25 W w0.heap.size T1
  have hB2 : Below w0.heap.size w0 ((W.alloc (.cells #[.pointer (some ⟨g, 0, none⟩)] 25)).alloc (.cells #[.int .i64 (-1)] 3)) := below_alloc (below_alloc h.below _) _
  have hT : TH 0 w0 ((W.alloc (.cells #[.pointer (some ⟨g, 0, none⟩)] 25)).alloc (.cells #[.int .i64 (-1)] 3)) m st [0] [0] := by
    refine h.past hnil (by decide) ⟨rfl, rfl, rfl, by simp; omega, fun k hk _ => ?_⟩ hB2 (fun x hx => .inl (hu x hx))
    rw [heap_alloc_lt _ _ (by rw [hsz]; omega), heap_alloc_lt _ _ hk]
  exact ⟨h1, hT, by rw [hg]; exact Kd.R_below hR1 b2, hR2, fun x hx => .inl (hu x hx)⟩
/-- One more is made beneath the k-th; the rows do not name it yet. -/
structure GM (w0 wr : World) (m : Nat) (st : List PL) (gs : List Nat) (g : Nat) (up : List Nat) (k n : Nat) (v7 v8 : Value) : Prop where
  cnt : st.length = n + 1
  lenU : up.length = n
  th : TH 0 w0 wr m st (up ++ [k]) (List.replicate (n + 1) 0)
  mapg : st.map PL.g = gs ++ [g]
  rowP : Kd.R kP 25 wr w0.heap.size T1 v7 gs
  rowI : Kd.R kI 3 wr w0.heap.size T1 v8 (upI up)
  off : ∀ x ∈ st, x.u.ownBlock = none ∨ x.u.ownBlock ≠ v7.ownBlock
structure GM2 (w0 wr : World) (m : Nat) (st : List PL) (up : List Nat) (k n : Nat) (v7 v8 : Value) : Prop where
  cnt : st.length = n + 1
  lenU : up.length = n
  th : TH 0 w0 wr m st (up ++ [k]) (List.replicate (n + 1) 0)
  rowP : Kd.R kP 25 wr w0.heap.size T1 v7 (st.map PL.g)
  rowI : Kd.R kI 3 wr w0.heap.size T1 v8 (upI up)
  off : ∀ x ∈ st, x.u.ownBlock = none ∨ x.u.ownBlock ≠ v7.ownBlock
theorem GT.under {w0 W : World} {m : Nat} {st : List PL} {up : List Nat} {n : Nat} {v7 v8 : Value} (h : GT w0 W m st up n v7 v8) (k : Nat) (hk : k < n) (hn : n ≤ 17592186044415) :
    Calls Try.prog 10 #[.pointer (some ⟨(st.map PL.g).getD k 0, 0, none⟩), .int .i64 0] W fun e w' =>
      ∃ st' g, e = .returned (.tuple #[.pointer (some ⟨g, 0, none⟩), .int .i64 0]) ∧ GM w0 w' m st' (st.map PL.g) g up k n v7 v8 := by
  have hc := h.cnt
  refine (h.th.under k (by omega) (by omega)).mono ?_
  rintro e w' ⟨v1, rfl, q1, q2, q3⟩
  rw [rep_get, show List.replicate n (0 : Int) ++ [0] = List.replicate (n + 1) 0 from List.replicate_succ'.symm] at q1
  refine ⟨_, _, rfl, by rw [more_len, hc], by rw [h.th.len, hc], q1, more_g _ _ _ _, q2 kP 25 _ _ _ rfl (by decide) h.rowP (.inr h.off), q2 kI 3 _ _ _ rfl (by decide) h.rowI (.inl (by decide)), q3 v7 (fun b hb => Kd.R_lt h.rowP b hb) h.off⟩
theorem GM.step {w0 W w1 : World} {m : Nat} {st : List PL} {gs : List Nat} {g : Nat} {up : List Nat} {k n : Nat} {v7 v8 v1 : Value} (h : GM w0 W m st gs g up k n v7 v8)
    (hR : Kd.R kP 25 w1 w0.heap.size T1 v1 (gs ++ [g])) (hB : Below w0.heap.size w0 w1) (hg : W.grownBy w1 v7.ownBlock) (hat : v1.ownBlock = v7.ownBlock ∨ ∃ b, v1.ownBlock = some b ∧ W.heap.size ≤ b) : GM2 w0 w1 m st up k n v1 v8 := by
  refine ⟨h.cnt, h.lenU, h.th.past h.rowP (by decide) hg hB h.off, by rw [h.mapg]; exact hR, row_past h.rowI h.rowP (by intro q hq; simp [kI, Kd.scalar] at hq; subst hq; decide) hg, ?_⟩
  intro x hx
  rcases hat with e | ⟨b', hb, hbs⟩
  · rw [e]; exact h.off x hx
  · cases hu : x.u.ownBlock with
    | none => exact .inl rfl
    | some k =>
      refine .inr (fun e => ?_)
      have := (h.th.u_of x hx k hu).1
      rw [hb] at e; cases e; omega
theorem GM2.step {w0 W w1 : World} {m : Nat} {st : List PL} {up : List Nat} {k n : Nat} {v7 v8 v1 : Value} (h : GM2 w0 W m st up k n v7 v8) (hn : 0 < n)
    (hR : Kd.R kI 3 w1 w0.heap.size T1 v1 (upI up ++ [(k : Int)])) (hB : Below w0.heap.size w0 w1) (hg : W.grownBy w1 v8.ownBlock) : GT w0 w1 m st (up ++ [k]) (n + 1) v7 v1 :=
  ⟨h.cnt, h.th.past h.rowI (by decide) hg hB (h.th.off3 h.rowI (by decide)), row_past h.rowP h.rowI (by intro q hq; simp [kP, Kd.scalar] at hq; subst hq; decide) hg, by rw [upI_more up k (by rw [h.lenU]; exact hn)]; exact hR, h.off⟩
end Go.Proofs.Ytofbnoiecpmjnaa.Pr
