/- The reasons of stops in a tree when one is cancelled: what the program's recursion makes of them is what one pass over all makes. -/
import Derived.Test.YtofbnoiecpmjnaaJb
namespace Go.Proofs.Ytofbnoiecpmjnaa.Pr
open Go.RowKit Go.Proofs.YtofbnoiecpmjnaaW.PrintWords
set_option linter.unusedVariables false
set_option linter.unusedSimpArgs false
/-- It stands beneath k, or is k. -/
inductive Sub (up : List Nat) (k : Nat) : Nat → Prop where
  | here : Sub up k k
  | step {i : Nat} : 0 < i → Sub up k (up.getD i 0) → Sub up k i
theorem Sub.iff {up : List Nat} {k i : Nat} : Sub up k i ↔ i = k ∨ (0 < i ∧ Sub up k (up.getD i 0)) := by
  constructor
  · intro h
    cases h with
    | here => exact .inl rfl
    | step h1 h2 => exact .inr ⟨h1, h2⟩
  · rintro (rfl | ⟨h1, h2⟩)
    · exact .here
    · exact .step h1 h2
def Ups (up : List Nat) (N : Nat) : Prop := ∀ i, 0 < i → i < N → up.getD i 0 < i
theorem Sub.le {up : List Nat} {N k i : Nat} (hu : Ups up N) (hi : i < N) (h : Sub up k i) : k ≤ i := by
  induction h with
  | here => exact Nat.le_refl _
  | step h1 h2 ih =>
    have := hu _ h1 hi
    have := ih (by omega)
    omega
theorem Sub.trans {up : List Nat} {k j i : Nat} (h1 : Sub up k j) (h2 : Sub up j i) : Sub up k i := by
  induction h2 with
  | here => exact h1
  | step h _ ih => exact .step h ih
/-- Where one has a reason, those beneath it (within the tree of k) have one. -/
def ClosedIn (up : List Nat) (N k : Nat) (Y : List Int) : Prop := ∀ i, 0 < i → i < N → Sub up k (up.getD i 0) → Y.getD (up.getD i 0) 0 ≠ 0 → Y.getD i 0 ≠ 0
def Closed (up : List Nat) (N : Nat) (Y : List Int) : Prop := ∀ i, 0 < i → i < N → Y.getD (up.getD i 0) 0 ≠ 0 → Y.getD i 0 ≠ 0
open Classical in
/-- The reasons behind it. -/
def Marked (up : List Nat) (N k : Nat) (y : Int) (Y Z : List Int) : Prop := Z.length = Y.length ∧ ∀ i, i < N → Z.getD i 0 = if Y.getD i 0 ≠ 0 then Y.getD i 0 else if Sub up k i then y else 0
open Classical in
theorem cancelF_marked (up : List Nat) (N : Nat) (y : Int) (hy : y ≠ 0) (hN : up.length = N) (hu : Ups up N) : ∀ (d k : Nat), N - k ≤ d → k < N → ∀ (Y : List Int), Y.length = N → ClosedIn up N k Y → Marked up N k y Y (cancelF up y d Y k) := by
  intro d
  induction d with
  | zero => intro k h1 h2; omega
  | succ d ih =>
    intro k hd hk Y hl hc
    rw [cancelF]
    by_cases hw : Y.getD k 0 ≠ 0
    · rw [if_pos hw]
      refine ⟨rfl, fun i hi => ?_⟩
      have all : ∀ i, Sub up k i → i < N → Y.getD i 0 ≠ 0 := by
        intro i hs
        induction hs with
        | here => intro _; exact hw
        | step h1 h2 ih2 =>
          intro h3
          have h4 := hu _ h1 h3
          exact hc _ h1 h3 h2 (ih2 (by omega))
      by_cases h : Y.getD i 0 ≠ 0
      · rw [if_pos h]
      · rw [if_neg h, if_neg (fun hs => h (all i hs hi))]
        exact Decidable.not_not.1 h
    · rw [if_neg hw]
      have hw0 : Y.getD k 0 = 0 := Decidable.not_not.1 hw
      have key : ∀ t, t ≤ (kidsOf up k).length → (((kidsOf up k).take t).foldl (fun Y j => cancelF up y d Y j) (Y.set k y)).length = N ∧
          ∀ i, i < N → (((kidsOf up k).take t).foldl (fun Y j => cancelF up y d Y j) (Y.set k y)).getD i 0 = if Y.getD i 0 ≠ 0 then Y.getD i 0 else if i = k ∨ ∃ j ∈ (kidsOf up k).take t, Sub up j i then y else 0 := by
        intro t
        induction t with
        | zero =>
          intro _
          refine ⟨by simp [hl], fun i hi => ?_⟩
          have e : (i = k ∨ ∃ j ∈ (kidsOf up k).take 0, Sub up j i) ↔ i = k := by simp
          simp only [e]
          show (Y.set k y).getD i 0 = _
          rw [set_getD Y k i y (by omega)]
          by_cases h : i = k
          · subst h; simp only [if_pos, if_neg hw]
          · simp only [if_neg h]
            by_cases h2 : Y.getD i 0 ≠ 0
            · simp only [if_pos h2]
            · simp only [if_neg h2]
              exact Decidable.not_not.1 h2
        | succ t iht =>
          intro ht
          obtain ⟨l1, l2⟩ := iht (by omega)
          rw [foldl_take _ _ _ t (by omega)]
          have hmem : (kidsOf up k)[t] ∈ kidsOf up k := List.getElem_mem _
          have htk : (kidsOf up k).take (t + 1) = (kidsOf up k).take t ++ [(kidsOf up k)[t]] := List.take_succ_eq_append_getElem (by omega)
          obtain ⟨k1, k2, k3⟩ := mem_kids hmem
          rw [hN] at k2
          rw [htk]
          generalize (kidsOf up k)[t] = j at *
          generalize ((kidsOf up k).take t).foldl (fun Y j => cancelF up y d Y j) (Y.set k y) = Z at *
          have hjk : k < j := by have := hu j k1 k2; omega
          have hkj : Sub up k j := .step k1 (by rw [k3]; exact .here)
          obtain ⟨m1, m2⟩ := ih j (by omega) k2 Z l1 (by
            intro i h1 h2 h3 h4
            have h5 := hu i h1 h2
            rw [l2 _ (by omega)] at h4
            rw [l2 i h2]
            by_cases h6 : Y.getD i 0 ≠ 0
            · rw [if_pos h6]; exact h6
            · rw [if_neg h6]
              have h7 : ¬ Y.getD (up.getD i 0) 0 ≠ 0 := fun h8 => h6 (hc i h1 h2 (hkj.trans h3) h8)
              rw [if_neg h7] at h4
              have h8 : up.getD i 0 = k ∨ ∃ j ∈ (kidsOf up k).take t, Sub up j (up.getD i 0) := by
                by_cases h9 : up.getD i 0 = k ∨ ∃ j ∈ (kidsOf up k).take t, Sub up j (up.getD i 0)
                · exact h9
                · rw [if_neg h9] at h4; exact absurd rfl h4
              rcases h8 with h8 | ⟨j', h8, h9⟩
              · have := h3.le hu (by omega); omega
              · rw [if_pos (.inr ⟨j', h8, .step h1 h9⟩)]; exact hy)
          refine ⟨m1.trans l1, fun i hi => ?_⟩
          rw [m2 i hi, l2 i hi]
          by_cases h6 : Y.getD i 0 ≠ 0
          · simp only [if_pos h6]
          · simp only [if_neg h6]
            by_cases h7 : i = k ∨ ∃ j ∈ (kidsOf up k).take t, Sub up j i
            · rw [if_pos h7, if_pos hy, if_pos]
              rcases h7 with h7 | ⟨j', h7, h8⟩
              · exact .inl h7
              · exact .inr ⟨j', List.mem_append.2 (.inl h7), h8⟩
            · rw [if_neg h7, if_neg (by simp)]
              by_cases h8 : Sub up j i
              · rw [if_pos h8, if_pos (.inr ⟨j, by simp, h8⟩)]
              · rw [if_neg h8, if_neg]
                rintro (h9 | ⟨j', h9, h10⟩)
                · exact h7 (.inl h9)
                · rcases List.mem_append.1 h9 with h9 | h9
                  · exact h7 (.inr ⟨j', h9, h10⟩)
                  · simp at h9; subst h9; exact h8 h10
      obtain ⟨l1, l2⟩ := key (kidsOf up k).length (Nat.le_refl _)
      rw [List.take_length] at l1 l2
      refine ⟨l1.trans hl.symm, fun i hi => ?_⟩
      rw [l2 i hi]
      have hiff : (i = k ∨ ∃ j ∈ kidsOf up k, Sub up j i) ↔ Sub up k i := by
        constructor
        · rintro (rfl | ⟨j, h1, h2⟩)
          · exact .here
          · obtain ⟨k1, k2, k3⟩ := mem_kids h1
            exact (Sub.step k1 (by rw [k3]; exact .here)).trans h2
        · intro hs
          have gen : ∀ i, Sub up k i → i < N → (i = k ∨ ∃ j ∈ kidsOf up k, Sub up j i) := by
            intro i hs
            induction hs with
            | here => intro _; exact .inl rfl
            | @step i h1 h2 ih2 =>
              intro h3
              have h4 := hu _ h1 h3
              rcases ih2 (by omega) with h5 | ⟨j, h5, h6⟩
              · refine .inr ⟨i, ?_, .here⟩
                simp [kidsOf]
                exact ⟨by omega, h1, by simpa [List.getD] using h5⟩
              · exact .inr ⟨j, h5, .step h1 h6⟩
          exact gen i hs hi
      simp only [hiff]
/-- One pass: each that has no reason is given that of the one above it. -/
def passTo (up : List Nat) (R : List Int) : Nat → List Int
  | 0 => R
  | n + 1 => if n = 0 then passTo up R n else if (passTo up R n).getD n 0 = 0 then (passTo up R n).set n ((passTo up R n).getD (up.getD n 0) 0) else passTo up R n
open Classical in
theorem pass_marked (up : List Nat) (N k : Nat) (y : Int) (hy : y ≠ 0) (hu : Ups up N) (hk : k < N) (Y R : List Int) (hl : Y.length = N) (hc : Closed up N Y) (hR : R = if Y.getD k 0 = 0 then Y.set k y else Y) :
    ∀ n, n ≤ N → (passTo up R n).length = N ∧ ∀ i, i < N → (passTo up R n).getD i 0 = if Y.getD i 0 ≠ 0 then Y.getD i 0 else if Sub up k i ∧ (i < n ∨ i = k) then y else 0 := by
  have hstart : ∀ n, n ≤ 1 → R.length = N ∧ ∀ i, i < N → R.getD i 0 = if Y.getD i 0 ≠ 0 then Y.getD i 0 else if Sub up k i ∧ (i < n ∨ i = k) then y else 0 := by
    intro n hn
    have hk0 : ∀ i, Sub up k i ∧ (i < n ∨ i = k) ↔ i = k := by
      intro i
      constructor
      · rintro ⟨h1, h2 | h2⟩
        · have : i = 0 := by omega
          subst this
          cases h1 with
          | here => rfl
          | step h _ => omega
        · exact h2
      · rintro rfl; exact ⟨.here, .inr rfl⟩
    subst hR
    refine ⟨by split <;> simp [hl], fun i hi => ?_⟩
    simp only [hk0]
    by_cases hw : Y.getD k 0 = 0
    · rw [if_pos hw, set_getD Y k i y (by omega)]
      by_cases h : i = k
      · subst h; rw [if_pos rfl, if_neg (by simpa using hw), if_pos rfl]
      · rw [if_neg h, if_neg h]
        by_cases h2 : Y.getD i 0 ≠ 0
        · rw [if_pos h2]
        · rw [if_neg h2]; exact Decidable.not_not.1 h2
    · rw [if_neg hw]
      by_cases h2 : Y.getD i 0 ≠ 0
      · rw [if_pos h2]
      · rw [if_neg h2, if_neg (by rintro rfl; exact h2 hw)]
        exact Decidable.not_not.1 h2
  intro n
  induction n with
  | zero => intro _; exact hstart 0 (by omega)
  | succ n ih =>
    intro hn
    obtain ⟨l1, l2⟩ := ih (by omega)
    by_cases h0 : n = 0
    · subst h0
      rw [passTo, if_pos rfl]
      exact hstart 1 (by omega)
    · rw [passTo, if_neg h0]
      generalize passTo up R n = Z at *
      have hun := hu n (by omega) (by omega)
      have hsub : ∀ i, i ≠ n → ((Sub up k i ∧ (i < n + 1 ∨ i = k)) ↔ (Sub up k i ∧ (i < n ∨ i = k))) := by
        intro i hi
        constructor
        · rintro ⟨h1, h2 | h2⟩
          · exact ⟨h1, .inl (by omega)⟩
          · exact ⟨h1, .inr h2⟩
        · rintro ⟨h1, h2 | h2⟩
          · exact ⟨h1, .inl (by omega)⟩
          · exact ⟨h1, .inr h2⟩
      by_cases hz : Z.getD n 0 = 0
      · rw [if_pos hz]
        refine ⟨by simp [l1], fun i hi => ?_⟩
        rw [set_getD Z n i _ (by omega)]
        by_cases h : i = n
        · subst h
          rw [if_pos rfl, l2 _ (by omega)]
          have hz' := hz
          rw [l2 i hi] at hz'
          by_cases h1 : Y.getD i 0 ≠ 0
          · rw [if_pos h1] at hz'; exact absurd hz' h1
          · rw [if_neg h1] at hz' ⊢
            have h2 : ¬ Y.getD (up.getD i 0) 0 ≠ 0 := fun h3 => h1 (hc i (by omega) hi h3)
            rw [if_neg h2]
            have hik : i ≠ k := by
              intro e
              rw [if_pos ⟨by rw [e]; exact .here, .inr e⟩] at hz'
              exact hy hz'
            by_cases h3 : Sub up k (up.getD i 0)
            · rw [if_pos ⟨h3, .inl hun⟩, if_pos ⟨.step (by omega) h3, .inl (by omega)⟩]
            · rw [if_neg (fun h4 => h3 h4.1), if_neg]
              rintro ⟨h4, _⟩
              rcases Sub.iff.1 h4 with h5 | ⟨_, h5⟩
              · exact hik h5
              · exact h3 h5
        · rw [if_neg h, l2 i hi]
          simp only [hsub i h]
      · rw [if_neg hz]
        refine ⟨l1, fun i hi => ?_⟩
        by_cases h : i = n
        · subst h
          rw [l2 i hi]
          by_cases h1 : Y.getD i 0 ≠ 0
          · rw [if_pos h1, if_pos h1]
          · rw [if_neg h1, if_neg h1]
            rw [l2 i hi, if_neg h1] at hz
            by_cases h2 : Sub up k i ∧ (i < i ∨ i = k)
            · rw [if_pos h2, if_pos ⟨h2.1, .inl (by omega)⟩]
            · rw [if_neg h2] at hz; exact absurd rfl hz
        · rw [l2 i hi]
          simp only [hsub i h]
theorem list_ext {A B : List Int} {N : Nat} (ha : A.length = N) (hb : B.length = N) (h : ∀ i, i < N → A.getD i 0 = B.getD i 0) : A = B := by
  apply List.ext_getElem (by omega)
  intro i h1 h2
  have := h i (by omega)
  simpa [List.getD, h1, h2] using this
/-- What cancel makes of the reasons is what the pass makes of them. -/
theorem cancel_pass (up : List Nat) (N k : Nat) (y : Int) (hy : y ≠ 0) (hN : up.length = N) (hu : Ups up N) (hk : k < N) (Y R : List Int) (hl : Y.length = N) (hc : Closed up N Y) (hR : R = if Y.getD k 0 = 0 then Y.set k y else Y) :
    cancelF up y N Y k = passTo up R N ∧ Closed up N (cancelF up y N Y k) ∧ (cancelF up y N Y k).length = N ∧ (cancelF up y N Y k).getD k 0 = if Y.getD k 0 ≠ 0 then Y.getD k 0 else y := by
  classical
  obtain ⟨m1, m2⟩ := cancelF_marked up N y hy hN hu N k (by omega) hk Y hl (fun i h1 h2 _ h4 => hc i h1 h2 h4)
  obtain ⟨p1, p2⟩ := pass_marked up N k y hy hu hk Y R hl hc hR N (Nat.le_refl _)
  refine ⟨list_ext (m1.trans hl) p1 (fun i hi => ?_), ?_, m1.trans hl, ?_⟩
  · rw [m2 i hi, p2 i hi]
    have : (Sub up k i ∧ (i < N ∨ i = k)) ↔ Sub up k i := ⟨fun h => h.1, fun h => ⟨h, .inl hi⟩⟩
    simp only [this]
  · intro i h1 h2 h3
    have h4 := hu i h1 h2
    rw [m2 _ (by omega)] at h3
    rw [m2 i h2]
    by_cases h5 : Y.getD i 0 ≠ 0
    · rw [if_pos h5]; exact h5
    · rw [if_neg h5]
      have h6 : ¬ Y.getD (up.getD i 0) 0 ≠ 0 := fun h => h5 (hc i h1 h2 h)
      rw [if_neg h6] at h3
      by_cases h7 : Sub up k (up.getD i 0)
      · rw [if_pos (.step h1 h7)]; exact hy
      · rw [if_neg h7] at h3; exact absurd rfl h3
  · rw [m2 k hk, if_pos (Sub.here : Sub up k k)]
end Go.Proofs.Ytofbnoiecpmjnaa.Pr
