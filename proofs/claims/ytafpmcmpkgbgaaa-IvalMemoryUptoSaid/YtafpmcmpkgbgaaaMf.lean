/- Plain law: what the document's pieces answer is what the sweep answers. -/
import Derived.Test.YtafpmcmpkgbgaaaMb
namespace Go.Proofs.Ytafpmcmpkgbgaaa.Pr
set_option linter.unusedVariables false
set_option linter.unusedSimpArgs false
theorem Mem_one (x y m : Int) : Mem [(⟨x, y⟩ : S23)] m ↔ (x ≤ m ∧ m < y) := by simp [Mem]
theorem Form_snoc {o : List S23} {z : S23} : Form (o ++ [z]) ↔ Form o ∧ z.f0 < z.f1 ∧ ∀ u ∈ o, u.f1 < z.f0 := by
  unfold Form
  rw [List.pairwise_append]
  simp only [List.mem_append, List.mem_singleton, List.pairwise_cons, List.not_mem_nil, false_implies, implies_true, true_and]
  constructor
  · rintro ⟨h1, h2, h3⟩
    exact ⟨⟨fun x hx => h1 x (.inl hx), h2⟩, h1 z (.inr rfl), fun u hu => h3.2 u hu z rfl⟩
  · rintro ⟨⟨h1, h2⟩, h3, h4⟩
    exact ⟨fun x hx => by rcases hx with hx | rfl; exact h1 x hx; exact h3, h2, .nil, fun u hu v hv => by subst hv; exact h4 u hu⟩
def pushP (out : List S23) (x y : Int) : List S23 := match out.getLast? with
  | some z => if z.f1 = x then out.dropLast ++ [⟨z.f0, y⟩] else out ++ [⟨x, y⟩]
  | none => out ++ [⟨x, y⟩]
theorem pushP_nil (x y : Int) : pushP [] x y = [⟨x, y⟩] := rfl
theorem pushP_snoc (o : List S23) (z : S23) (x y : Int) : pushP (o ++ [z]) x y = if z.f1 = x then o ++ [⟨z.f0, y⟩] else (o ++ [z]) ++ [⟨x, y⟩] := by
  unfold pushP
  rw [List.getLast?_append]
  simp
theorem pushP_length (out : List S23) (x y : Int) : (pushP out x y).length ≤ out.length + 1 := by
  rcases List.eq_nil_or_concat out with rfl | ⟨o, z, rfl⟩
  · simp [pushP_nil]
  · rw [List.concat_eq_append, pushP_snoc]; split <;> simp
theorem pushP_spec {out : List S23} {x y : Int} (hF : Form out) (hz : ∀ z ∈ out, z.f1 ≤ x) (hxy : x < y) :
    Form (pushP out x y) ∧ (∀ z ∈ pushP out x y, z.f1 ≤ y) ∧ ∀ m, Mem (pushP out x y) m ↔ Mem out m ∨ (x ≤ m ∧ m < y) := by
  rcases List.eq_nil_or_concat out with rfl | ⟨o, z, rfl⟩
  · rw [pushP_nil]
    exact ⟨Form.cons Form.nil hxy (by simp), by simp, fun m => by rw [Mem_one]; simp [Mem_nil]⟩
  · rw [List.concat_eq_append] at *
    obtain ⟨h1, h2, h3⟩ := Form_snoc.1 hF
    have hzx := hz z (by simp)
    rw [pushP_snoc]
    split
    · rename_i e
      refine ⟨Form_snoc.2 ⟨h1, by show z.f0 < y; omega, h3⟩, fun u hu => ?_, fun m => ?_⟩
      · rcases List.mem_append.1 hu with hu | hu
        · have := hz u (List.mem_append.2 (.inl hu)); omega
        · simp at hu; subst hu; exact Int.le_refl _
      · rw [Mem_append, Mem_append, Mem_one, show z = ⟨z.f0, z.f1⟩ from rfl, Mem_one]
        constructor
        · rintro (h | h)
          · exact .inl (.inl h)
          · by_cases c : m < z.f1
            · exact .inl (.inr ⟨h.1, c⟩)
            · exact .inr ⟨by omega, h.2⟩
        · rintro ((h | h) | h)
          · exact .inl h
          · exact .inr ⟨h.1, by have := h.2; omega⟩
          · exact .inr ⟨by show z.f0 ≤ m; omega, h.2⟩
    · rename_i e
      refine ⟨Form_snoc.2 ⟨hF, hxy, fun u hu => ?_⟩, fun u hu => ?_, fun m => ?_⟩
      · show u.f1 < x
        rcases List.mem_append.1 hu with hu | hu
        · have := h3 u hu; omega
        · simp at hu; subst hu; omega
      · rcases List.mem_append.1 hu with hu | hu
        · have := hz u hu; omega
        · simp at hu; subst hu; exact Int.le_refl _
      · rw [Mem_append, Mem_one]
def pc (P : Int → Int → Bool) : List S56 → Int → Int → List S23 → List S23
  | x :: y :: t, a, b, out => pc P (y :: t) (a + dA x.f1) (b + dB x.f1) (if (decide (x.f0 = y.f0) || !P (a + dA x.f1) (b + dB x.f1)) = true then out else pushP out x.f0 y.f0)
  | _, _, _, out => out
theorem pc_spec (P : Int → Int → Bool) : ∀ (t : List S56) (x : S56) (a b : Int) (out : List S23), Rising (x :: t) → Form out → (∀ z ∈ out, z.f1 ≤ x.f0) → P (a + tA (x :: t)) (b + tB (x :: t)) = false →
    Form (pc P (x :: t) a b out) ∧ ∀ m, Mem (pc P (x :: t) a b out) m ↔ Mem out m ∨ (x.f0 ≤ m ∧ P (a + cA (x :: t) m) (b + cB (x :: t) m) = true) := by
  intro t
  induction t with
  | nil =>
    intro x a b out _ hF hz hP
    refine ⟨by unfold pc; exact hF, fun m => ?_⟩
    unfold pc
    constructor
    · exact .inl
    · rintro (h | ⟨h, h'⟩)
      · exact h
      · have e1 : cA [x] m = tA [x] := by simp [cA, tA, h]
        have e2 : cB [x] m = tB [x] := by simp [cB, tB, h]
        rw [e1, e2, hP] at h'; cases h'
  | cons y t ih =>
    intro x a b out hr hF hz hP
    obtain ⟨hx, hr'⟩ := List.pairwise_cons.1 hr
    have hxy := hx y List.mem_cons_self
    have hP' : P (a + dA x.f1 + tA (y :: t)) (b + dB x.f1 + tB (y :: t)) = false := by
      rw [← hP]; simp only [tA, tB, List.map_cons, List.sum_cons]; congr 1 <;> omega
    have hV : ∀ m, x.f0 ≤ m → P (a + cA (x :: y :: t) m) (b + cB (x :: y :: t) m) = P (a + dA x.f1 + cA (y :: t) m) (b + dB x.f1 + cB (y :: t) m) := by
      intro m h; rw [cA_cons _ _ _ h, cB_cons _ _ _ h]; congr 1 <;> omega
    have hlow : ∀ m, m < y.f0 → cA (y :: t) m = 0 ∧ cB (y :: t) m = 0 := fun m h => c_zero _ m (fun z hz => by
      rcases List.mem_cons.1 hz with rfl | hz
      · exact h
      · have := (List.pairwise_cons.1 hr').1 z hz; omega)
    unfold pc
    by_cases he : x.f0 = y.f0
    · rw [if_pos (by simp [he])]
      obtain ⟨i1, i2⟩ := ih y (a + dA x.f1) (b + dB x.f1) out hr' hF (fun z h => by have := hz z h; omega) hP'
      refine ⟨i1, fun m => ?_⟩
      rw [i2 m, he]
      constructor
      · rintro (h | ⟨h, h'⟩)
        · exact .inl h
        · exact .inr ⟨h, by rw [hV m (by omega)]; exact h'⟩
      · rintro (h | ⟨h, h'⟩)
        · exact .inl h
        · exact .inr ⟨h, by rw [hV m (by omega)] at h'; exact h'⟩
    · cases hi : P (a + dA x.f1) (b + dB x.f1) with
      | false =>
        rw [if_pos (by simp)]
        obtain ⟨i1, i2⟩ := ih y (a + dA x.f1) (b + dB x.f1) out hr' hF (fun z h => by have := hz z h; omega) hP'
        refine ⟨i1, fun m => ?_⟩
        rw [i2 m]
        constructor
        · rintro (h | ⟨h, h'⟩)
          · exact .inl h
          · exact .inr ⟨by omega, by rw [hV m (by omega)]; exact h'⟩
        · rintro (h | ⟨h, h'⟩)
          · exact .inl h
          · rw [hV m h] at h'
            by_cases c : y.f0 ≤ m
            · exact .inr ⟨c, h'⟩
            · obtain ⟨z1, z2⟩ := hlow m (by omega)
              rw [z1, z2, Int.add_zero, Int.add_zero, hi] at h'; cases h'
      | true =>
        rw [if_neg (by simp [he])]
        obtain ⟨p1, p2, p3⟩ := pushP_spec hF hz (show x.f0 < y.f0 by omega)
        obtain ⟨i1, i2⟩ := ih y (a + dA x.f1) (b + dB x.f1) _ hr' p1 p2 hP'
        refine ⟨i1, fun m => ?_⟩
        rw [i2 m, p3 m]
        constructor
        · rintro ((h | h) | ⟨h, h'⟩)
          · exact .inl h
          · refine .inr ⟨h.1, ?_⟩
            obtain ⟨z1, z2⟩ := hlow m h.2
            rw [hV m h.1, z1, z2, Int.add_zero, Int.add_zero]; exact hi
          · exact .inr ⟨by omega, by rw [hV m (by omega)]; exact h'⟩
        · rintro (h | ⟨h, h'⟩)
          · exact .inl (.inl h)
          · by_cases c : y.f0 ≤ m
            · exact .inr ⟨c, by rw [hV m h] at h'; exact h'⟩
            · exact .inl (.inr ⟨h, by omega⟩)
theorem counts_eq (a b : List S23) (ys : List S56) (hp : ys.Perm (allEnds a b)) : (∀ m, cA ys m = cnt a m ∧ cB ys m = cnt b m) ∧ tA ys = 0 ∧ tB ys = 0 := by
  refine ⟨fun m => ⟨?_, ?_⟩, ?_⟩
  · unfold cA; rw [sumMap_perm _ hp]; unfold allEnds; rw [sumMap_append]
    have h1 := (cA_ends a m).1; have h2 := (cA_ends b m).2.2.1
    unfold cA at h1 h2; rw [h1, h2]; omega
  · unfold cB; rw [sumMap_perm _ hp]; unfold allEnds; rw [sumMap_append]
    have h1 := (cA_ends a m).2.1; have h2 := (cA_ends b m).2.2.2
    unfold cB at h1 h2; rw [h1, h2]; omega
  · unfold tA tB; rw [sumMap_perm _ hp, sumMap_perm _ hp]; unfold allEnds; rw [sumMap_append, sumMap_append]
    have h1 := (tA_ends a).1; have h2 := (tA_ends a).2.1; have h3 := (tA_ends b).2.2.1; have h4 := (tA_ends b).2.2.2
    unfold tA at h1 h3; unfold tB at h2 h4; rw [h1, h2, h3, h4]; exact ⟨rfl, rfl⟩
/-- In whatever order equal ends stand. -/
theorem pc_eq (P : Int → Int → Bool) (hP : P 0 0 = false) (a b : List S23) (ys : List S56) (hp : ys.Perm (allEnds a b)) (hr : Rising ys) : pc P ys 0 0 [] = swept P a b := by
  obtain ⟨h3, h4⟩ := swept_spec P hP a b
  obtain ⟨c1, c2, c3⟩ := counts_eq a b ys hp
  cases ys with
  | nil =>
    refine form_unique Form.nil h3 (fun m => ?_)
    rw [h4 m, ← (c1 m).1, ← (c1 m).2]
    simp [Mem_nil, cA, cB, hP, pc]
  | cons x t =>
    obtain ⟨h1, h2⟩ := pc_spec P t x 0 0 [] hr Form.nil (by simp) (by rw [c2, c3]; exact hP)
    refine form_unique h1 h3 (fun m => ?_)
    rw [h2 m, h4 m, ← (c1 m).1, ← (c1 m).2, Int.zero_add, Int.zero_add]
    constructor
    · rintro (h | ⟨_, h⟩)
      · exact absurd h (Mem_nil m)
      · exact h
    · intro h
      refine .inr ⟨?_, h⟩
      by_cases c : x.f0 ≤ m
      · exact c
      · obtain ⟨z1, z2⟩ := c_zero (x :: t) m (fun z hz => by have := rising_low hr (y := x) (by simp) z hz; omega)
        rw [z1, z2, hP] at h; cases h
def pW (wi : Bool) (a b : Int) : Bool := decide (a > 0) && (decide (b > 0) == wi)
def piecesL (wi : Bool) (a b : List S23) : List S23 := if wi = true then meetL a b else minusL a b
theorem pieces_eq (wi : Bool) (a b : List S23) : swept (pW wi) a b = piecesL wi a b := by
  obtain ⟨h1, h2⟩ := swept_spec (pW wi) rfl a b
  cases wi with
  | true =>
    have h := meet_spec a b
    refine form_unique h1 h.1 (fun m => ?_)
    rw [h2 m, show piecesL true a b = meetL a b from rfl, h.2 m, ← cnt_pos, ← cnt_pos]
    simp [pW]
  | false =>
    have h := minus_spec a b
    refine form_unique h1 h.1 (fun m => ?_)
    rw [h2 m, show piecesL false a b = minusL a b from rfl, h.2 m, ← cnt_pos, ← cnt_pos]
    simp [pW]
theorem pieces_normal (l : List S23) : piecesL false l [] = normalL l := by
  have h := minus_spec l []
  have h' := normal_spec l
  exact form_unique h.1 h'.1 (fun m => by rw [show piecesL false l [] = minusL l [] from rfl, h.2 m, h'.2 m]; simp [Mem_nil])
end Go.Proofs.Ytafpmcmpkgbgaaa.Pr
