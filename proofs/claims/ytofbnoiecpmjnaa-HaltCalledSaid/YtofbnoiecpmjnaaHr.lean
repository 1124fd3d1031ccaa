/- Stops one beneath the other, and the two rows that name them and what they have left. -/
import Derived.Test.YtofbnoiecpmjnaaHp
namespace Go.Proofs.Ytofbnoiecpmjnaa.Pr
open Go.RowKit Go.Proofs.YtofbnoiecpmjnaaW.PrintWords Go.Proofs.YtofbnoiecpmjnaaW.PrintLast Go.Proofs.YtofbnoiecpmjnaaW.PrintMore Go.MuLone
open Go.Lib
set_option linter.unusedVariables false
set_option linter.unusedSimpArgs false
theorem store_I {base : Nat} {W : World} {go n co : Nat} {L : List Int} (h : Kd.R kI 3 W base T1 (.slice (some ⟨go, 0, none⟩) n co) L) (x : Nat) (hx : x < n) (y : Int) :
    Kd.R kI 3 (W.setCell ⟨go, x, none⟩ (.int .i64 y)) base T1 (.slice (some ⟨go, 0, none⟩) n co) (L.set x y) ∧ W.grownBy (W.setCell ⟨go, x, none⟩ (.int .i64 y)) (some go) := by
  obtain ⟨ce, hcl, hM, hcc, hfr⟩ := Kd.R_elem h (0 : Int) (x : Int) (by omega) (by omega)
  have hce : ce = [encI (L.getD (x : Int).toNat 0)] := hM
  subst hce
  have hs := Kd.R_seg h (x : Int) (by omega) (by omega) (seg := [.int .i64 y]) (j := 0) hcl hcc (show 1 ≤ 1 from by decide) (x' := y) (okp := fun _ => False) (show ([.int .i64 y] : List Value) = [encI y] from rfl) (fun _ hk => hk.elim)
  have e1 : (x : Int).toNat * kI.sz + 0 = x := by show x * 1 + 0 = x; omega
  rw [e1] at hs
  exact hs
theorem read_I {base : Nat} {W : World} {go n co : Nat} {L : List Int} (h : Kd.R kI 3 W base T1 (.slice (some ⟨go, 0, none⟩) n co) L) (x : Nat) (hx : x < n) :
    W.cell? ⟨go, x, none⟩ = some (.int .i64 (L.getD x 0)) ∧ W.frozen? ⟨go, x, none⟩ = false := by
  obtain ⟨ce, hcl, hM, hcc, hfr⟩ := Kd.R_elem h (0 : Int) (x : Int) (by omega) (by omega)
  have hce : ce = [encI (L.getD (x : Int).toNat 0)] := hM
  subst hce
  have e1 : (x : Int).toNat * kI.sz + 0 = x := by show x * 1 + 0 = x; omega
  have h1 := hcc 0 _ rfl
  have h2 := hfr 0
  rw [e1] at h1 h2
  exact ⟨h1, h2⟩
theorem read_P {base : Nat} {W : World} {go n co : Nat} {L : List Nat} (h : Kd.R kP 25 W base T1 (.slice (some ⟨go, 0, none⟩) n co) L) (x : Nat) (hx : x < n) :
    W.cell? ⟨go, x, none⟩ = some (.pointer (some ⟨L.getD x 0, 0, none⟩)) := by
  obtain ⟨ce, hcl, hM, hcc, hfr⟩ := Kd.R_elem h (0 : Nat) (x : Int) (by omega) (by omega)
  have hce : ce = [encP (L.getD (x : Int).toNat 0)] := hM
  subst hce
  have e1 : (x : Int).toNat * kP.sz + 0 = x := by show x * 1 + 0 = x; omega
  have h1 := hcc 0 _ rfl
  rw [e1] at h1
  exact h1
structure Lane (w0 wr : World) (m : Nat) (st : List PL) (L M : List Int) (low : Nat) (v8 v9 : Value) : Prop where
  lenL : L.length = st.length
  low_le : low ≤ st.length
  inv : Inv w0 wr m st L low
  rowP : Kd.R kP 25 wr w0.heap.size T1 v8 (st.map PL.g)
  rowI : Kd.R kI 3 wr w0.heap.size T1 v9 M
  rng : ∀ v ∈ L, 0 ≤ v ∧ v ≤ 9223372036854775807
theorem Grown.lane {w0 wr : World} {m : Nat} {st : List PL} {L : List Int} {i : Nat} {v8 v9 : Value} (h : Grown w0 wr m st L i v8 v9) (hi : 0 < i) : Lane w0 wr m st L L i v8 v9 := by
  have hl := h.len
  refine ⟨by rw [h.lenL, h.len], by omega, ?_, h.rowP, h.rowI, fun v hv => by have := h.rng v hv; omega⟩
  rcases h.inv with e | e
  · rw [e] at hl; simp at hl; omega
  · exact e
theorem Lane.get {w0 wr : World} {m : Nat} {st : List PL} {L M : List Int} {low : Nat} {v8 v9 : Value} (h : Lane w0 wr m st L M low v8 v9) (k : Nat) (hk : k < st.length) : ∃ x, st[k]? = some x ∧ (st.map PL.g).getD k 0 = x.g :=
  ⟨st[k], by simp, by simp [List.getD, hk]⟩
theorem Lane.cut {w0 wr : World} {m : Nat} {st : List PL} {L M : List Int} {low : Nat} {v8 v9 : Value} (h : Lane w0 wr m st L M low v8 v9) (k : Nat) (hk : k < st.length) (n : Int) (hn : 0 ≤ n) (hl : low ≤ k) :
    Calls Try.prog 12 #[.pointer (some ⟨(st.map PL.g).getD k 0, 0, none⟩), .int .i64 n] wr fun e w' => e = .returned (.int .i64 31) ∧ w' = wr := by
  obtain ⟨x, h1, h2⟩ := h.get k hk
  rw [h2]
  exact h.inv.spend_cut h1 hn hl
theorem kI_E : ∀ q ∈ 3 :: kI.E, q ≠ 70 ∧ q ≠ 66 := by intro q hq; simp [kI, Kd.scalar] at hq; subst hq; decide
theorem kP_E : ∀ q ∈ 25 :: kP.E, q ≠ 70 ∧ q ≠ 66 := by intro q hq; simp [kP, Kd.scalar] at hq; subst hq; decide
theorem Lane.short {w0 wr : World} {m : Nat} {st : List PL} {L M : List Int} {low : Nat} {v8 v9 : Value} (h : Lane w0 wr m st L M low v8 v9) (k : Nat) (n : Int) (hn : 0 ≤ n) (hk : k < low) (j : Nat) (hj : shortAt L n (k + 1) = some j) :
    Calls Try.prog 12 #[.pointer (some ⟨(st.map PL.g).getD k 0, 0, none⟩), .int .i64 n] wr fun e w' => e = .returned (.int .i64 31) ∧ Lane w0 w' m st L M j v8 v9 := by
  have hll := h.low_le
  obtain ⟨x, h1, h2⟩ := h.get k (by omega)
  rw [h2]
  refine (h.inv.spend_short h1 hn hk h.low_le h.lenL (fun v hv => (h.rng v hv).2) hj).mono ?_
  rintro e w' ⟨rfl, q1, q2, q3⟩
  have := (shortAt_some hj).1
  exact ⟨rfl, h.lenL, by omega, q1, q2.row h.rowP kP_E, q2.row h.rowI kI_E, h.rng⟩
theorem Lane.ok {w0 wr : World} {m : Nat} {st : List PL} {L M : List Int} {low : Nat} {v8 v9 : Value} (h : Lane w0 wr m st L M low v8 v9) (k : Nat) (n : Int) (hn : 0 ≤ n) (hk : k < low) (hj : shortAt L n (k + 1) = none) :
    Calls Try.prog 12 #[.pointer (some ⟨(st.map PL.g).getD k 0, 0, none⟩), .int .i64 n] wr fun e w' => e = .returned (.int .i64 0) ∧ Lane w0 w' m st (subTo L n (k + 1)) M low v8 v9 := by
  have hll := h.low_le
  obtain ⟨x, h1, h2⟩ := h.get k (by omega)
  rw [h2]
  refine (h.inv.spend_ok h1 hn hk h.lenL (fun v hv => (h.rng v hv).2) hj).mono ?_
  rintro e w' ⟨rfl, q1, q2, q3⟩
  refine ⟨rfl, by rw [subTo_len]; exact h.lenL, h.low_le, q1, q2.row h.rowP kP_E, q2.row h.rowI kI_E, ?_⟩
  intro v hv
  obtain ⟨i, hi, rfl⟩ := List.getElem_of_mem hv
  rw [subTo_len] at hi
  have e1 := subTo_get L n (k + 1) i hi
  have e2 : (subTo L n (k + 1)).getD i 0 = (subTo L n (k + 1))[i]'(by rw [subTo_len]; exact hi) := by simp [List.getD, hi, subTo_len]
  rw [← e2, e1]
  have hmem : L.getD i 0 ∈ L := by simp [List.getD, hi]
  have hr := h.rng _ hmem
  by_cases hik : i < k + 1
  · rw [if_pos hik]
    have := shortAt_none hj i hik
    omega
  · rw [if_neg hik]; exact hr
theorem Lane.store {w0 wr : World} {m : Nat} {st : List PL} {L M : List Int} {low : Nat} {v8 : Value} {go n co : Nat} (h : Lane w0 wr m st L M low v8 (.slice (some ⟨go, 0, none⟩) n co)) (x : Nat) (hx : x < n) (y : Int) :
    Lane w0 (wr.setCell ⟨go, x, none⟩ (.int .i64 y)) m st L (M.set x y) low v8 (.slice (some ⟨go, 0, none⟩) n co) := by
  obtain ⟨h1, h2⟩ := store_I h.rowI x hx y
  have hb : w0.heap.size ≤ go := Kd.R_base h.rowI go rfl
  exact ⟨h.lenL, h.low_le, h.inv.past h.rowI (by decide) h2 (below_set (j := x) (v := .int .i64 y) h.inv.below hb) (h.inv.off3 h.rowI (by decide)), row_past h.rowP h.rowI (by intro q hq; simp [kP, Kd.scalar] at hq; subst hq; decide) h2, h1, h.rng⟩
theorem Lane.left {w0 wr : World} {m : Nat} {st : List PL} {L M : List Int} {low : Nat} {v8 v9 : Value} (h : Lane w0 wr m st L M low v8 v9) (k : Nat) (hk : k < st.length) :
    Calls Try.prog 13 #[.pointer (some ⟨(st.map PL.g).getD k 0, 0, none⟩)] wr fun e w' => e = .returned (.int .i64 (L.getD k 0)) ∧ w' = wr := by
  obtain ⟨x, h1, h2⟩ := h.get k hk
  rw [h2]
  exact left_run m x.g _ wr h.inv.mu (h.inv.at_ k x h1).1
theorem Lane.why {w0 wr : World} {m : Nat} {st : List PL} {L M : List Int} {low : Nat} {v8 v9 : Value} (h : Lane w0 wr m st L M low v8 v9) (k : Nat) (hk : k < st.length) :
    Calls Try.prog 14 #[.pointer (some ⟨(st.map PL.g).getD k 0, 0, none⟩)] wr fun e w' => e = .returned (.int .i64 (if k < low then 0 else 31)) ∧ w' = wr := by
  obtain ⟨x, h1, h2⟩ := h.get k hk
  rw [h2]
  exact why_run m x.g _ wr h.inv.mu (h.inv.at_ k x h1).1
theorem Lane.drewN {w0 wr : World} {m : Nat} {st : List PL} {L M : List Int} {low : Nat} {v8 v9 : Value} (h : Lane w0 wr m st L M low v8 v9) (q : Nat) : Lane w0 (wr.drewN q) m st L M low v8 v9 :=
  ⟨h.lenL, h.low_le, ⟨h.inv.mu, h.inv.mb, pw_below_drewN h.inv.below q, h.inv.at_, h.inv.apart⟩, Kd.R_drewN h.rowP q, Kd.R_drewN h.rowI q, h.rng⟩
end Go.Proofs.Ytofbnoiecpmjnaa.Pr
