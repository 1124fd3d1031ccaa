/- Plain law: the ends of two lists, and what Normal, Meet, Minus answer: lists in their form, with the moments asked. -/
import Derived.Test.YtafpmcmpkgbgaaaMa
namespace Go.Proofs.Ytafpmcmpkgbgaaa.Pr
set_option linter.unusedVariables false
set_option linter.unusedSimpArgs false
def endsL (o c : Int) (l : List S23) : List S56 := l.flatMap fun x => if x.f1 ≤ x.f0 then [] else [⟨x.f0, o⟩, ⟨x.f1, c⟩]
theorem endsL_cons (o c : Int) (x : S23) (l : List S23) : endsL o c (x :: l) = (if x.f1 ≤ x.f0 then [] else [⟨x.f0, o⟩, ⟨x.f1, c⟩]) ++ endsL o c l := by simp [endsL]
theorem endsL_length (o c : Int) (l : List S23) : (endsL o c l).length ≤ 2 * l.length := by
  induction l with
  | nil => simp [endsL]
  | cons x l ih => rw [endsL_cons, List.length_append, List.length_cons]; split <;> simp <;> omega
def cnt (l : List S23) (m : Int) : Int := (l.map fun x => if x.f0 ≤ m ∧ m < x.f1 then (1 : Int) else 0).sum
theorem cnt_cons (x : S23) (l : List S23) (m : Int) : cnt (x :: l) m = (if x.f0 ≤ m ∧ m < x.f1 then 1 else 0) + cnt l m := by simp [cnt]
theorem cnt_nonneg (l : List S23) (m : Int) : 0 ≤ cnt l m := by
  induction l with
  | nil => simp [cnt]
  | cons x l ih => rw [cnt_cons]; split <;> omega
theorem cnt_pos (l : List S23) (m : Int) : 0 < cnt l m ↔ Mem l m := by
  induction l with
  | nil => simp [cnt, Mem]
  | cons x l ih =>
    rw [cnt_cons, Mem_cons, ← ih]
    have := cnt_nonneg l m
    split
    · rename_i h; constructor
      · intro _; exact .inl h
      · intro _; omega
    · rename_i h; constructor
      · intro _; right; omega
      · rintro (h' | h')
        · exact absurd h' h
        · omega
theorem sumMap_append (f : S56 → Int) (l l' : List S56) : ((l ++ l').map f).sum = (l.map f).sum + (l'.map f).sum := by simp [List.sum_append]
theorem sumMap_perm (f : S56 → Int) {l l' : List S56} (h : l.Perm l') : (l.map f).sum = (l'.map f).sum := by
  induction h with
  | nil => rfl
  | cons x _ ih => simp [ih]
  | swap x y l => simp; omega
  | trans _ _ h1 h2 => exact h1.trans h2
theorem cA_ends (l : List S23) (m : Int) : cA (endsL 1 0 l) m = cnt l m ∧ cB (endsL 1 0 l) m = 0 ∧ cA (endsL 3 2 l) m = 0 ∧ cB (endsL 3 2 l) m = cnt l m := by
  induction l with
  | nil => exact ⟨rfl, rfl, rfl, rfl⟩
  | cons x l ih =>
    obtain ⟨h1, h2, h3, h4⟩ := ih
    unfold cA cB at *
    rw [endsL_cons, endsL_cons, sumMap_append, sumMap_append, sumMap_append, sumMap_append, h1, h2, h3, h4, cnt_cons]
    by_cases h : x.f1 ≤ x.f0
    · rw [if_pos h, if_pos h, if_neg (by omega)]; simp
    · rw [if_neg h, if_neg h]
      simp only [List.map_cons, List.map_nil, List.sum_cons, List.sum_nil, dA, dB]
      by_cases h5 : x.f0 ≤ m <;> by_cases h6 : x.f1 ≤ m <;> simp [h5, h6, show (m < x.f1) ↔ ¬ x.f1 ≤ m by omega] <;> omega
theorem tA_ends (l : List S23) : tA (endsL 1 0 l) = 0 ∧ tB (endsL 1 0 l) = 0 ∧ tA (endsL 3 2 l) = 0 ∧ tB (endsL 3 2 l) = 0 := by
  induction l with
  | nil => exact ⟨rfl, rfl, rfl, rfl⟩
  | cons x l ih =>
    obtain ⟨h1, h2, h3, h4⟩ := ih
    unfold tA tB at *
    rw [endsL_cons, endsL_cons, sumMap_append, sumMap_append, sumMap_append, sumMap_append, h1, h2, h3, h4]
    by_cases h : x.f1 ≤ x.f0
    · rw [if_pos h, if_pos h]; simp
    · rw [if_neg h, if_neg h]; simp [dA, dB]
def allEnds (a b : List S23) : List S56 := endsL 1 0 a ++ endsL 3 2 b
theorem rising_low : ∀ {ys : List S56} {y : S56}, Rising ys → y ∈ ys.head? → ∀ z ∈ ys, y.f0 ≤ z.f0 := by
  intro ys y h hy z hz
  cases ys with
  | nil => cases hz
  | cons x t =>
    simp at hy; subst hy
    rcases List.mem_cons.1 hz with rfl | hz
    · omega
    · exact (List.pairwise_cons.1 h).1 z hz
/-- What the sweep answers of two lists. -/
theorem sweep_spec (P : Int → Int → Bool) (hP : P 0 0 = false) (a b : List S23) (ys : List S56) (hp : ys.Perm (allEnds a b)) (hr : Rising ys) :
    Form (sw P ys 0 0 0 false []) ∧ ∀ m, Mem (sw P ys 0 0 0 false []) m ↔ P (cnt a m) (cnt b m) = true := by
  have eA : ∀ m, cA ys m = cnt a m := fun m => by
    unfold cA; rw [sumMap_perm _ hp]; unfold allEnds; rw [sumMap_append]
    have h1 := (cA_ends a m).1; have h2 := (cA_ends b m).2.2.1
    unfold cA at h1 h2; rw [h1, h2]; omega
  have eB : ∀ m, cB ys m = cnt b m := fun m => by
    unfold cB; rw [sumMap_perm _ hp]; unfold allEnds; rw [sumMap_append]
    have h1 := (cA_ends a m).2.1; have h2 := (cA_ends b m).2.2.2
    unfold cB at h1 h2; rw [h1, h2]; omega
  have eT : tA ys = 0 ∧ tB ys = 0 := by
    unfold tA tB; rw [sumMap_perm _ hp, sumMap_perm _ hp]; unfold allEnds; rw [sumMap_append, sumMap_append]
    have h1 := (tA_ends a).1; have h2 := (tA_ends a).2.1; have h3 := (tA_ends b).2.2.1; have h4 := (tA_ends b).2.2.2
    unfold tA at h1 h3; unfold tB at h2 h4; rw [h1, h2, h3, h4]; exact ⟨rfl, rfl⟩
  obtain ⟨h1, _, h3⟩ := sw_spec P ys 0 0 0 false hr (fun _ => rfl) (fun h => by cases h) (by rw [eT.1, eT.2]; exact hP)
  refine ⟨h1, fun m => ?_⟩
  rw [h3 m]
  constructor
  · rintro (⟨h, _⟩ | ⟨y, _, _, h⟩)
    · cases h
    · rw [eA, eB, Int.zero_add, Int.zero_add] at h; exact h
  · intro h
    right
    by_cases hz : ∃ y ∈ ys, y.f0 ≤ m
    · obtain ⟨y, hy, hm⟩ := hz
      cases ys with
      | nil => cases hy
      | cons x t =>
        refine ⟨x, by simp, ?_, by rw [eA, eB, Int.zero_add, Int.zero_add]; exact h⟩
        have := rising_low hr (y := x) (by simp) y hy
        omega
    · obtain ⟨z1, z2⟩ := c_zero ys m (fun y hy => by by_cases c : m < y.f0; exact c; exact absurd ⟨y, hy, by omega⟩ hz)
      rw [eA] at z1; rw [eB] at z2
      rw [z1, z2, hP] at h; cases h
/-- The ends sorted, once for all. -/
def insE (x : S56) : List S56 → List S56
  | [] => [x]
  | y :: t => if x.f0 ≤ y.f0 then x :: y :: t else y :: insE x t
def sortedEnds : List S56 → List S56
  | [] => []
  | x :: t => insE x (sortedEnds t)
theorem insE_perm (x : S56) (l : List S56) : (insE x l).Perm (x :: l) := by
  induction l with
  | nil => exact .refl _
  | cons y t ih =>
    unfold insE
    split
    · exact .refl _
    · exact (List.Perm.cons y ih).trans (.swap x y t)
theorem sortedEnds_perm (l : List S56) : (sortedEnds l).Perm l := by
  induction l with
  | nil => exact .refl _
  | cons x t ih => exact (insE_perm x _).trans (.cons x ih)
theorem insE_rising (x : S56) (l : List S56) (h : Rising l) : Rising (insE x l) := by
  induction l with
  | nil => exact List.pairwise_singleton _ _
  | cons y t ih =>
    obtain ⟨h1, h2⟩ := List.pairwise_cons.1 h
    unfold insE
    split
    · refine List.pairwise_cons.2 ⟨fun z hz => ?_, h⟩
      rcases List.mem_cons.1 hz with rfl | hz
      · omega
      · have := h1 z hz; omega
    · refine List.pairwise_cons.2 ⟨fun z hz => ?_, ih h2⟩
      rcases List.mem_cons.1 ((insE_perm x t).mem_iff.1 hz) with rfl | hz
      · omega
      · exact h1 z hz
theorem sortedEnds_rising (l : List S56) : Rising (sortedEnds l) := by
  induction l with
  | nil => exact .nil
  | cons x t ih => exact insE_rising x _ ih
def swept (P : Int → Int → Bool) (a b : List S23) : List S23 := sw P (sortedEnds (allEnds a b)) 0 0 0 false []
theorem swept_spec (P : Int → Int → Bool) (hP : P 0 0 = false) (a b : List S23) : Form (swept P a b) ∧ ∀ m, Mem (swept P a b) m ↔ P (cnt a m) (cnt b m) = true :=
  sweep_spec P hP a b _ (sortedEnds_perm _) (sortedEnds_rising _)
/-- In whatever order the sort left equal ends. -/
theorem swept_eq (P : Int → Int → Bool) (hP : P 0 0 = false) (a b : List S23) (ys : List S56) (hp : ys.Perm (allEnds a b)) (hr : Rising ys) : sw P ys 0 0 0 false [] = swept P a b := by
  obtain ⟨h1, h2⟩ := sweep_spec P hP a b ys hp hr
  obtain ⟨h3, h4⟩ := swept_spec P hP a b
  exact form_unique h1 h3 (fun m => (h2 m).trans (h4 m).symm)
def pNormal (a _b : Int) : Bool := decide (a > 0)
def pMeet (a b : Int) : Bool := decide (a > 0) && decide (b > 0)
def pMinus (a b : Int) : Bool := decide (a > 0) && decide (b = 0)
def normalL (l : List S23) : List S23 := swept pNormal l []
def meetL (a b : List S23) : List S23 := swept pMeet a b
def minusL (a b : List S23) : List S23 := swept pMinus a b
theorem normal_spec (l : List S23) : Form (normalL l) ∧ ∀ m, Mem (normalL l) m ↔ Mem l m := by
  obtain ⟨h1, h2⟩ := swept_spec pNormal rfl l []
  exact ⟨h1, fun m => by unfold normalL; rw [h2 m, ← cnt_pos]; simp [pNormal]⟩
theorem meet_spec (a b : List S23) : Form (meetL a b) ∧ ∀ m, Mem (meetL a b) m ↔ (Mem a m ∧ Mem b m) := by
  obtain ⟨h1, h2⟩ := swept_spec pMeet rfl a b
  exact ⟨h1, fun m => by unfold meetL; rw [h2 m, ← cnt_pos, ← cnt_pos]; simp [pMeet]⟩
theorem minus_spec (a b : List S23) : Form (minusL a b) ∧ ∀ m, Mem (minusL a b) m ↔ (Mem a m ∧ ¬ Mem b m) := by
  obtain ⟨h1, h2⟩ := swept_spec pMinus rfl a b
  refine ⟨h1, fun m => ?_⟩
  have := cnt_nonneg b m
  unfold minusL; rw [h2 m, ← cnt_pos, ← cnt_pos]; simp [pMinus]; omega
end Go.Proofs.Ytafpmcmpkgbgaaa.Pr
