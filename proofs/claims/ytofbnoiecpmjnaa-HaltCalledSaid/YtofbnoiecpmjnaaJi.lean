/- A tree of stops with the rows of the law: those that are cancelled, and what is made beneath in the end. -/
import Derived.Test.YtofbnoiecpmjnaaJh
namespace Go.Proofs.Ytofbnoiecpmjnaa.Pr
open Go.RowKit Go.Proofs.YtofbnoiecpmjnaaW.PrintWords Go.Proofs.YtofbnoiecpmjnaaW.PrintLast Go.Proofs.YtofbnoiecpmjnaaW.PrintMore Go.MuLone
open Go.Lib
set_option linter.unusedVariables false
set_option linter.unusedSimpArgs false
theorem infoI26 : (Try.prog.info? 26).map (fun i => (i.zero, i.size, i.bytes)) = some (some (.int .i64 0), 1, 8) := by kernel_rfl
theorem kI_E26 : ∀ q ∈ 26 :: kI.E, q ≠ 70 ∧ q ≠ 66 := by intro q hq; simp [kI, Kd.scalar] at hq; subst hq; decide
theorem read_J {e base : Nat} {W : World} {go n co : Nat} {L : List Int} (h : Kd.R kI e W base T1 (.slice (some ⟨go, 0, none⟩) n co) L) (x : Nat) (hx : x < n) :
    W.cell? ⟨go, x, none⟩ = some (.int .i64 (L.getD x 0)) ∧ W.frozen? ⟨go, x, none⟩ = false := by
  obtain ⟨ce, hcl, hM, hcc, hfr⟩ := Kd.R_elem h (0 : Int) (x : Int) (by omega) (by omega)
  have hce : ce = [encI (L.getD (x : Int).toNat 0)] := hM
  subst hce
  have e1 : (x : Int).toNat * kI.sz + 0 = x := by show x * 1 + 0 = x; omega
  have h1 := hcc 0 _ rfl
  have h2 := hfr 0
  rw [e1] at h1 h2
  exact ⟨h1, h2⟩
theorem store_J {e base : Nat} {W : World} {go n co : Nat} {L : List Int} (h : Kd.R kI e W base T1 (.slice (some ⟨go, 0, none⟩) n co) L) (x : Nat) (hx : x < n) (y : Int) :
    Kd.R kI e (W.setCell ⟨go, x, none⟩ (.int .i64 y)) base T1 (.slice (some ⟨go, 0, none⟩) n co) (L.set x y) ∧ W.grownBy (W.setCell ⟨go, x, none⟩ (.int .i64 y)) (some go) := by
  obtain ⟨ce, hcl, hM, hcc, hfr⟩ := Kd.R_elem h (0 : Int) (x : Int) (by omega) (by omega)
  have hce : ce = [encI (L.getD (x : Int).toNat 0)] := hM
  subst hce
  have hs := Kd.R_seg h (x : Int) (by omega) (by omega) (seg := [.int .i64 y]) (j := 0) hcl hcc (show 1 ≤ 1 from by decide) (x' := y) (okp := fun _ => False) (show ([.int .i64 y] : List Value) = [encI y] from rfl) (fun _ hk => hk.elim)
  have e1 : (x : Int).toNat * kI.sz + 0 = x := by show x * 1 + 0 = x; omega
  rw [e1] at hs
  exact hs
structure LT (w0 wr : World) (m : Nat) (st : List PL) (up : List Nat) (Y R : List Int) (N : Nat) (v8 v9 v11 : Value) : Prop where
  cnt : st.length = N
  th : TH 0 w0 wr m st up Y
  rowP : Kd.R kP 25 wr w0.heap.size T1 v8 (st.map PL.g)
  rowI : Kd.R kI 3 wr w0.heap.size T1 v9 (upI up)
  rowR : Kd.R kI 26 wr w0.heap.size T1 v11 R
  off : ∀ x ∈ st, x.u.ownBlock = none ∨ x.u.ownBlock ≠ v8.ownBlock
  closed : Closed up N Y
theorem LT.ups {w0 wr : World} {m : Nat} {st : List PL} {up : List Nat} {Y R : List Int} {N : Nat} {v8 v9 v11 : Value} (h : LT w0 wr m st up Y R N v8 v9 v11) : Ups up N := fun i h1 h2 => h.th.ups i h1 (by rw [h.cnt]; exact h2)
theorem LT.upl {w0 wr : World} {m : Nat} {st : List PL} {up : List Nat} {Y R : List Int} {N : Nat} {v8 v9 v11 : Value} (h : LT w0 wr m st up Y R N v8 v9 v11) : up.length = N := h.th.len.trans h.cnt
theorem LT.yl {w0 wr : World} {m : Nat} {st : List PL} {up : List Nat} {Y R : List Int} {N : Nat} {v8 v9 v11 : Value} (h : LT w0 wr m st up Y R N v8 v9 v11) : Y.length = N := h.th.lenY.trans h.cnt
theorem GT.withRow {w0 W w1 : World} {m : Nat} {st : List PL} {up : List Nat} {n : Nat} {v8 v9 v11 : Value} (h : GT w0 W m st up n v8 v9) (hg : W.grownBy w1 none) (hB : Below w0.heap.size w0 w1) (hR : Kd.R kI 26 w1 w0.heap.size T1 v11 (List.replicate n 0)) :
    LT w0 w1 m st up (List.replicate n 0) (List.replicate n 0) n v8 v9 v11 := by
  have hb : Below W.heap.size W w1 := ⟨hg.os, hg.tape, hg.output, hg.size, fun k hk => hg.block k hk (by simp)⟩
  exact ⟨h.cnt, h.th.past (Kd.R_nil kP 25 W w0.heap.size T1) (by decide) hg hB (fun x hx => by
    have e : (Value.slice none 0 0).ownBlock = none := rfl
    rw [e]
    cases x.u.ownBlock with
    | none => exact .inl rfl
    | some b => exact .inr (by simp)), Kd.R_below h.rowP hb, Kd.R_below h.rowI hb, hR, h.off, fun i h1 h2 h3 => absurd (rep_get n _) h3⟩
theorem LT.cancel {w0 wr : World} {m : Nat} {st : List PL} {up : List Nat} {Y R : List Int} {N : Nat} {v8 v9 v11 : Value} (h : LT w0 wr m st up Y R N v8 v9 v11) (k : Nat) (hk : k < N) (y : Int) (hy : y ≠ 0) :
    Calls Try.prog 16 #[.pointer (some ⟨(st.map PL.g).getD k 0, 0, none⟩), .int .i64 y] wr fun e w' => e = .returned (.int .i64 (if Y.getD k 0 ≠ 0 then Y.getD k 0 else y)) ∧ LT w0 w' m st up (cancelF up y N Y k) R N v8 v9 v11 := by
  refine (cancel_call w0 m st up Y y hy k (by rw [h.cnt]; exact hk) wr h.th).mono ?_
  rintro e w' ⟨rfl, q1, q2⟩
  rw [h.cnt] at q1
  exact ⟨rfl, h.cnt, q1, q2.row h.rowP kP_E, q2.row h.rowI kI_E, q2.row h.rowR kI_E26, h.off, (cancel_pass up N k y hy h.upl h.ups hk Y _ h.yl h.closed rfl).2.1⟩
theorem LT.store {w0 wr : World} {m : Nat} {st : List PL} {up : List Nat} {Y R : List Int} {N : Nat} {v8 v9 : Value} {go n co : Nat} (h : LT w0 wr m st up Y R N v8 v9 (.slice (some ⟨go, 0, none⟩) n co)) (x : Nat) (hx : x < n) (y : Int) :
    LT w0 (wr.setCell ⟨go, x, none⟩ (.int .i64 y)) m st up Y (R.set x y) N v8 v9 (.slice (some ⟨go, 0, none⟩) n co) := by
  obtain ⟨h1, h2⟩ := store_J h.rowR x hx y
  have hb : w0.heap.size ≤ go := Kd.R_base h.rowR go rfl
  exact ⟨h.cnt, h.th.past h.rowR (by decide) h2 (below_set (j := x) (v := .int .i64 y) h.th.below hb) (h.th.off3 h.rowR (by decide)), row_past h.rowP h.rowR (by intro q hq; simp [kP, Kd.scalar] at hq; subst hq; decide) h2, row_past h.rowI h.rowR (by intro q hq; simp [kI, Kd.scalar] at hq; subst hq; decide) h2, h1, h.off, h.closed⟩
theorem TH.drew {b : Int} {w0 wr : World} {m : Nat} {st : List PL} {up : List Nat} {Y : List Int} (h : TH b w0 wr m st up Y) : TH b w0 wr.drew m st up Y :=
  ⟨h.len, h.lenY, h.mu, h.mb, below_drew1 h.below, fun i x hx => by
    obtain ⟨q1, q2, q3, q4, q5⟩ := h.at_ i x hx
    exact ⟨q1, q2, q3, q4, Kd.R_drew q5⟩, h.apart, h.rows, h.ups⟩
theorem LT.drew {w0 wr : World} {m : Nat} {st : List PL} {up : List Nat} {Y R : List Int} {N : Nat} {v8 v9 v11 : Value} (h : LT w0 wr m st up Y R N v8 v9 v11) : LT w0 wr.drew m st up Y R N v8 v9 v11 :=
  ⟨h.cnt, h.th.drew, Kd.R_drew h.rowP, Kd.R_drew h.rowI, Kd.R_drew h.rowR, h.off, h.closed⟩
/-- In the end: those from n on. -/
structure FT (w0 wr : World) (m : Nat) (st : List PL) (up : List Nat) (Y : List Int) (N n : Nat) (v8 v11 : Value) : Prop where
  cnt : st.length = N
  len : up.length = N
  mu : IsMu wr m
  mb : w0.heap.size ≤ m
  below : Below w0.heap.size w0 wr
  at_ : ∀ (i : Nat) (x : PL), n ≤ i → st[i]? = some x → IsStop wr m x.g (srT st up Y i x) ∧ w0.heap.size ≤ x.g ∧ Kd.R kP 25 wr w0.heap.size T1 x.u ((kidsOf up i).map (gOf st))
  apart : ∀ (i j : Nat) (x y : PL), i < j → st[i]? = some x → st[j]? = some y → x.g < y.g ∧ x.c ≠ y.c
  rows : ∀ (i j : Nat) (x y : PL), i ≠ j → st[i]? = some x → st[j]? = some y → x.u.ownBlock = none ∨ x.u.ownBlock ≠ y.u.ownBlock
  rowP : Kd.R kP 25 wr w0.heap.size T1 v8 (st.map PL.g)
  rowR : Kd.R kI 26 wr w0.heap.size T1 v11 Y
  off : ∀ x ∈ st, x.u.ownBlock = none ∨ x.u.ownBlock ≠ v8.ownBlock
theorem LT.last {w0 wr : World} {m : Nat} {st : List PL} {up : List Nat} {Y : List Int} {N : Nat} {v8 v9 v11 : Value} (h : LT w0 wr m st up Y Y N v8 v9 v11) : FT w0 wr m st up Y N 0 v8 v11 :=
  ⟨h.cnt, h.upl, h.th.isMu, h.th.mb, h.th.below, fun i x _ hx => by
    obtain ⟨q1, q2, q3, q4, q5⟩ := h.th.at_ i x hx
    exact ⟨q1, q3, q5⟩, h.th.apart, h.th.rows, h.rowP, h.rowR, h.off⟩
/-- One is made beneath the n-th, with seven steps. -/
structure KF (w0 wr : World) (m : Nat) (st : List PL) (up : List Nat) (Y : List Int) (N n : Nat) (v8 v11 : Value) (g : Nat) : Prop where
  ft : FT w0 wr m st up Y N (n + 1) v8 v11
  par : ∃ s : SR, IsStop wr m ((st.map PL.g).getD n 0) s ∧ s.why = Y.getD n 0 ∧ s.bud = false
  kid : ∃ s : SR, IsStop wr m g s ∧ s.why = Y.getD n 0 ∧ s.bud = true ∧ s.left = 7
theorem FT.under {w0 W : World} {m : Nat} {st : List PL} {up : List Nat} {Y : List Int} {N n : Nat} {v8 v11 : Value} (h : FT w0 W m st up Y N n v8 v11) (hn : n < N) (hN : N ≤ 17592186044415) :
    Calls Try.prog 10 #[.pointer (some ⟨(st.map PL.g).getD n 0, 0, none⟩), .int .i64 7] W fun e w' =>
      ∃ g, e = .returned (.tuple #[.pointer (some ⟨g, 0, none⟩), .int .i64 0]) ∧ KF w0 w' m st up Y N n v8 v11 g := by
  have hc := h.cnt
  obtain ⟨x, hx⟩ : ∃ x, st[n]? = some x := ⟨st[n]'(by omega), by simp⟩
  have hgx : (st.map PL.g).getD n 0 = x.g := gOf_eq hx
  rw [hgx]
  obtain ⟨p1, p3, p5⟩ := h.at_ n x (Nat.le_refl _) hx
  have hkl : ((kidsOf up n).map (gOf st)).length ≤ 17592186044415 := by
    rw [List.length_map]
    have h1 : (kidsOf up n).length ≤ (List.range up.length).length := List.length_filter_le _ _
    rw [List.length_range, h.len] at h1
    omega
  refine (under_any w0 m x.g (srT st up Y n x) _ 7 W (by omega) h.mu p1 p5 h.below h.mb p3 hkl).mono ?_
  rintro e w' ⟨v1, rfl, q1, q2, q3, q4, q5, q6, q7, q8, q9⟩
  have hund : (srT st up Y n x).und = x.u := rfl
  rw [hund] at q7 q9
  have offx : x.u.ownBlock = none ∨ x.u.ownBlock ≠ v8.ownBlock := h.off x (List.mem_of_getElem? hx)
  have rP := under_row (w0 := w0) rfl (by decide) h.rowP p1 h.mu q7 (.inr offx)
  have rR := under_row (w0 := w0) rfl (by decide) h.rowR p1 h.mu q7 (by
    cases hu : x.u.ownBlock with
    | none => exact .inr (.inl hu)
    | some b =>
      refine .inr (.inr (fun e' => ?_))
      obtain ⟨cells, hcc⟩ := Kd.R_typed p5 b hu
      obtain ⟨cells', hc'⟩ := Kd.R_typed h.rowR b (e'.symm.trans hu)
      rw [hcc] at hc'; cases hc')
  refine ⟨_, rfl, ⟨hc, h.len, q1, h.mb, q6, fun i y hi hy => ?_, h.apart, h.rows, rP, rR, h.off⟩, ?_, ?_⟩
  · obtain ⟨r1, r3, r5⟩ := h.at_ i y (by omega) hy
    obtain ⟨n1, n2⟩ := apart_g h.apart (show i ≠ n by omega) hy hx
    refine ⟨(q7 y.g (lt_of r1) n1 (ne_mu r1 h.mu) (Kd.R_ne p5 r1 (by decide))).trans r1, r3, ?_⟩
    exact under_row (w0 := w0) rfl (by decide) r5 p1 h.mu q7 (.inr (h.rows n i x y (by omega) hx hy))
  · rw [hgx]
    exact ⟨_, q2, rfl, rfl⟩
  · exact ⟨_, q3, rfl, rfl, rfl⟩
theorem KF.whyP {w0 wr : World} {m : Nat} {st : List PL} {up : List Nat} {Y : List Int} {N n : Nat} {v8 v11 : Value} {g : Nat} (h : KF w0 wr m st up Y N n v8 v11 g) :
    Calls Try.prog 14 #[.pointer (some ⟨(st.map PL.g).getD n 0, 0, none⟩)] wr fun e w' => e = .returned (.int .i64 (Y.getD n 0)) ∧ w' = wr := by
  obtain ⟨s, h1, h2, h3⟩ := h.par
  rw [← h2]
  exact why_run m _ s wr h.ft.mu h1
theorem KF.leftP {w0 wr : World} {m : Nat} {st : List PL} {up : List Nat} {Y : List Int} {N n : Nat} {v8 v11 : Value} {g : Nat} (h : KF w0 wr m st up Y N n v8 v11 g) :
    Calls Try.prog 13 #[.pointer (some ⟨(st.map PL.g).getD n 0, 0, none⟩)] wr fun e w' => e = .returned (.int .i64 (-1)) ∧ w' = wr := by
  obtain ⟨s, h1, h2, h3⟩ := h.par
  have := left_run m _ s wr h.ft.mu h1
  rw [h3] at this
  exact this
theorem KF.whyC {w0 wr : World} {m : Nat} {st : List PL} {up : List Nat} {Y : List Int} {N n : Nat} {v8 v11 : Value} {g : Nat} (h : KF w0 wr m st up Y N n v8 v11 g) :
    Calls Try.prog 14 #[.pointer (some ⟨g, 0, none⟩)] wr fun e w' => e = .returned (.int .i64 (Y.getD n 0)) ∧ w' = wr := by
  obtain ⟨s, h1, h2, h3⟩ := h.kid
  rw [← h2]
  exact why_run m _ s wr h.ft.mu h1
theorem KF.leftC {w0 wr : World} {m : Nat} {st : List PL} {up : List Nat} {Y : List Int} {N n : Nat} {v8 v11 : Value} {g : Nat} (h : KF w0 wr m st up Y N n v8 v11 g) :
    Calls Try.prog 13 #[.pointer (some ⟨g, 0, none⟩)] wr fun e w' => e = .returned (.int .i64 7) ∧ w' = wr := by
  obtain ⟨s, h1, h2, h3, h4⟩ := h.kid
  have := left_run m _ s wr h.ft.mu h1
  rw [h3, if_pos rfl, h4] at this
  exact this
theorem KF.spendC {w0 wr : World} {m : Nat} {st : List PL} {up : List Nat} {Y : List Int} {N n : Nat} {v8 v11 : Value} {g : Nat} (h : KF w0 wr m st up Y N n v8 v11 g) (hy : Y.getD n 0 ≠ 0) :
    Calls Try.prog 12 #[.pointer (some ⟨g, 0, none⟩), .int .i64 1] wr fun e w' => e = .returned (.int .i64 (Y.getD n 0)) ∧ w' = wr := by
  obtain ⟨s, h1, h2, h3⟩ := h.kid
  rw [← h2]
  exact spend_done m 1 _ s wr (by omega) h.ft.mu h1 (by rw [h2]; exact hy)
theorem KF.drewN {w0 wr : World} {m : Nat} {st : List PL} {up : List Nat} {Y : List Int} {N n : Nat} {v8 v11 : Value} {g : Nat} (h : KF w0 wr m st up Y N n v8 v11 g) (q : Nat) : KF w0 (wr.drewN q) m st up Y N n v8 v11 g :=
  ⟨⟨h.ft.cnt, h.ft.len, h.ft.mu, h.ft.mb, pw_below_drewN h.ft.below q, fun i x hi hx => by
    obtain ⟨q1, q3, q5⟩ := h.ft.at_ i x hi hx
    exact ⟨q1, q3, Kd.R_drewN q5 q⟩, h.ft.apart, h.ft.rows, Kd.R_drewN h.ft.rowP q, Kd.R_drewN h.ft.rowR q, h.ft.off⟩, h.par, h.kid⟩
end Go.Proofs.Ytofbnoiecpmjnaa.Pr
