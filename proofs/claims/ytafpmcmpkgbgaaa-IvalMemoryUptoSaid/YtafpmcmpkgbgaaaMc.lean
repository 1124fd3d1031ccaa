/- Plain law: what Same, form and in answer, and how many moments a list in its form has. -/
import Derived.Test.YtafpmcmpkgbgaaaMb
import Derived.Test.YtafpmcmpkgbgaaaPr0a
import Derived.Test.YtafpmcmpkgbgaaaPr0b
namespace Go.Proofs.Ytafpmcmpkgbgaaa.Pr
open Go.RowKit Go.Proofs.YtafpmcmpkgbgaaaW.PrintWords
set_option linter.unusedVariables false
set_option linter.unusedSimpArgs false
theorem w64' {n : Int} (h : -9223372036854775808 ≤ n) (h' : n ≤ 9223372036854775807) : wrap64 n = n := by unfold wrap64; omega
theorem u64' {n : Int} (h : 0 ≤ n) (h' : n ≤ 18446744073709551615) : IntKind.u64.wrap n = n := by simp [IntKind.wrap, IntKind.bits, IntKind.signed]; omega
theorem rd_get {l : List S23} {i : Nat} (h : i < l.length) : rd_T23 l (i : Int) = l[i] := by unfold rd_T23; simp [List.getD, List.getElem?_eq_getElem h]
theorem same_refl (l : List S23) (hl : l.length < 4611686018427387904) (k : Nat) (hk : l.length < k) : spoorref06_Same.f k l l = some true := by
  unfold spoorref06_Same.f
  rw [if_pos rfl]
  have key : ∀ (d k i : Nat), i ≤ l.length → l.length - i = d → d < k → spoorref06_Same.l0 k l l (i : Int) = some true := by
    intro d
    induction d with
    | zero =>
      intro k i hi hd hk
      obtain ⟨k, rfl⟩ : ∃ m, k = m + 1 := ⟨k - 1, by omega⟩
      unfold spoorref06_Same.l0
      rw [if_neg (by omega)]
    | succ d ih =>
      intro k i hi hd hk
      obtain ⟨k, rfl⟩ : ∃ m, k = m + 1 := ⟨k - 1, by omega⟩
      unfold spoorref06_Same.l0
      rw [if_pos (by omega), if_pos (by omega), if_pos (by omega), if_neg (by simp), w64' (by omega) (by omega)]
      have := ih k (i + 1) (by omega) (by omega) (by omega)
      exact_mod_cast this
  exact key l.length k 0 (by omega) (by omega) (by omega)
theorem form_true (l : List S23) (hF : Form l) (hl : l.length < 4611686018427387904) (k : Nat) (hk : l.length < k) : spoorlaw06_form.f k l = some true := by
  unfold spoorlaw06_form.f
  have key : ∀ (d k i : Nat), i ≤ l.length → l.length - i = d → d < k → spoorlaw06_form.l0 k l (i : Int) = some true := by
    intro d
    induction d with
    | zero =>
      intro k i hi hd hk
      obtain ⟨k, rfl⟩ : ∃ m, k = m + 1 := ⟨k - 1, by omega⟩
      unfold spoorlaw06_form.l0
      rw [if_neg (by omega)]
    | succ d ih =>
      intro k i hi hd hk
      obtain ⟨k, rfl⟩ : ∃ m, k = m + 1 := ⟨k - 1, by omega⟩
      unfold spoorlaw06_form.l0
      have hil : i < l.length := by omega
      have := ih k (i + 1) (by omega) (by omega) (by omega)
      have e1 : wrap64 ((i : Int) + 1) = ((i + 1 : Nat) : Int) := by rw [w64' (by omega) (by omega)]; rfl
      rw [if_pos (by omega), if_pos (by omega), rd_get hil, e1, this]
      have hx := hF.1 l[i] (List.getElem_mem hil)
      rw [if_neg (by omega)]
      by_cases h0 : (i : Int) > 0
      · have e2 : wrap64 ((i : Int) - 1) = ((i - 1 : Nat) : Int) := by rw [w64' (by omega) (by omega)]; omega
        rw [if_pos h0, e2, if_pos (by omega), if_pos (by omega), rd_get (show i - 1 < l.length by omega)]
        have := List.pairwise_iff_getElem.1 hF.2 (i - 1) i (by omega) hil (by omega)
        rw [if_neg (by omega)]
      · rw [if_neg h0]
  exact key l.length k 0 (by omega) (by omega) (by omega)
def memB (l : List S23) (m : Int) : Bool := l.any fun x => decide (x.f0 ≤ m) && decide (m < x.f1)
theorem memB_iff (l : List S23) (m : Int) : memB l m = true ↔ Mem l m := by unfold memB Mem; simp
theorem memB_eq {l : List S23} {m : Int} {b : Bool} (h : Mem l m ↔ b = true) : memB l m = b := by
  have := (memB_iff l m).trans h
  cases hb : memB l m <;> cases b <;> simp_all
theorem in_eq (l : List S23) (m : Int) (hl : l.length < 4611686018427387904) (k : Nat) (hk : l.length < k) : spoorlaw06_in.f k l m = some (memB l m) := by
  unfold spoorlaw06_in.f
  have key : ∀ (d k i : Nat), i ≤ l.length → l.length - i = d → d < k → spoorlaw06_in.l0 k l m (i : Int) = some (memB (l.drop i) m) := by
    intro d
    induction d with
    | zero =>
      intro k i hi hd hk
      obtain ⟨k, rfl⟩ : ∃ m, k = m + 1 := ⟨k - 1, by omega⟩
      unfold spoorlaw06_in.l0
      rw [if_neg (by omega), List.drop_eq_nil_of_le (by omega)]
      rfl
    | succ d ih =>
      intro k i hi hd hk
      obtain ⟨k, rfl⟩ : ∃ m, k = m + 1 := ⟨k - 1, by omega⟩
      unfold spoorlaw06_in.l0
      have hil : i < l.length := by omega
      have := ih k (i + 1) (by omega) (by omega) (by omega)
      have e1 : wrap64 ((i : Int) + 1) = ((i + 1 : Nat) : Int) := by rw [w64' (by omega) (by omega)]; rfl
      rw [if_pos (by omega), if_pos (by omega), rd_get hil, e1, this, List.drop_eq_getElem_cons hil]
      unfold memB
      rw [List.any_cons]
      by_cases h1 : (l[i]).f0 ≤ m
      · rw [if_pos h1]
        by_cases h2 : (l[i]).f1 > m
        · rw [if_pos h2]; simp [h1, show m < (l[i]).f1 from h2]
        · rw [if_neg h2]; simp [h1, show ¬ m < (l[i]).f1 from h2]
      · rw [if_neg h1]; simp [h1]
  have := key l.length k 0 (by omega) (by omega) (by omega)
  simpa using this
/-! How many moments. -/
def cardF (p : Int → Bool) (lo : Int) : Nat → Nat
  | 0 => 0
  | n + 1 => cardF p lo n + (if p (lo + n) then 1 else 0)
theorem cardF_add {p q r : Int → Bool} {lo : Int} : ∀ (n : Nat), (∀ m, (p m).toNat = (q m).toNat + (r m).toNat) → cardF p lo n = cardF q lo n + cardF r lo n := by
  intro n h
  induction n with
  | zero => rfl
  | succ n ih =>
    have := h (lo + n)
    simp only [cardF, ih]
    cases h1 : p (lo + n) <;> cases h2 : q (lo + n) <;> cases h3 : r (lo + n) <;> simp_all [Bool.toNat] <;> omega
theorem cardF_le (p : Int → Bool) (lo : Int) (n : Nat) : cardF p lo n ≤ n := by
  induction n with
  | zero => exact Nat.le_refl _
  | succ n ih => simp only [cardF]; split <;> omega
theorem cardF_one (x y lo : Int) (n : Nat) (h0 : lo ≤ x) (h1 : x ≤ y) : y ≤ lo + n → (cardF (fun m => decide (x ≤ m) && decide (m < y)) lo n : Int) = y - x := by
  have key : ∀ n : Nat, (cardF (fun m => decide (x ≤ m) && decide (m < y)) lo n : Int) = if lo + n ≤ x then 0 else if lo + n ≤ y then lo + n - x else y - x := by
    intro n
    induction n with
    | zero => simp only [cardF]; split <;> omega
    | succ n ih =>
      have e : (cardF (fun m => decide (x ≤ m) && decide (m < y)) lo (n + 1) : Int) = cardF (fun m => decide (x ≤ m) && decide (m < y)) lo n + (if (decide (x ≤ lo + n) && decide (lo + n < y)) = true then 1 else 0) := by
        simp only [cardF]; split <;> simp_all
      rw [e, ih]
      simp only [Bool.and_eq_true, decide_eq_true_eq]
      split <;> split <;> (try split) <;> (try split) <;> (try split) <;> omega
  intro h2
  rw [key]
  split <;> (try split) <;> omega
def lens (l : List S23) : Int := (l.map fun x => x.f1 - x.f0).sum
/-- The lengths of a list in its form make up the number of its moments. -/
theorem lens_card (lo : Int) (n : Nat) : ∀ l : List S23, Form l → (∀ x ∈ l, lo ≤ x.f0 ∧ x.f1 ≤ lo + n) → lens l = cardF (memB l) lo n := by
  intro l
  induction l with
  | nil =>
    intro _ _
    have : ∀ n, cardF (memB []) lo n = 0 := by intro n; induction n with
      | zero => rfl
      | succ n ih => simp only [cardF, ih]; rfl
    rw [this]; rfl
  | cons x l ih =>
    intro hF hb
    have h1 := hb x List.mem_cons_self
    have h2 := hF.head
    rw [cardF_add (q := fun m => decide (x.f0 ≤ m) && decide (m < x.f1)) (r := memB l) n (fun m => ?_)]
    · have e : lens (x :: l) = (x.f1 - x.f0) + lens l := by simp [lens]
      rw [e, ih hF.tail (fun y hy => hb y (List.mem_cons_of_mem _ hy)), ← cardF_one x.f0 x.f1 lo n h1.1 (by omega) h1.2]
      simp
    · have e : memB (x :: l) m = ((decide (x.f0 ≤ m) && decide (m < x.f1)) || memB l m) := by simp [memB]
      rw [e]
      cases hm : memB l m
      · simp
      · obtain ⟨y, hy, h3, h4⟩ := (memB_iff l m).1 hm
        have := h2.2 y hy
        rw [show decide (m < x.f1) = false from decide_eq_false (by omega)]
        simp
/-- In the numbers of 64 bits. -/
def In64 (l : List S23) : Prop := ∀ x ∈ l, (-9223372036854775808 ≤ x.f0 ∧ x.f0 ≤ 9223372036854775807) ∧ (-9223372036854775808 ≤ x.f1 ∧ x.f1 ≤ 9223372036854775807)
/-- A list in its form, whose moments are all in a list in the numbers of 64 bits, is in these numbers. -/
theorem in64_of {l l' : List S23} (hF : Form l) (h : ∀ m, Mem l m → Mem l' m) (h' : In64 l') : In64 l := by
  intro x hx
  have h0 := hF.1 x hx
  obtain ⟨y, hy, h1, h2⟩ := h x.f0 ⟨x, hx, Int.le_refl _, h0⟩
  obtain ⟨z, hz, h3, h4⟩ := h (x.f1 - 1) ⟨x, hx, by omega, by omega⟩
  have := h' y hy
  have := h' z hz
  omega
def card64 (l : List S23) : Nat := cardF (memB l) (-9223372036854775808) 18446744073709551615
theorem lens_card64 {l : List S23} (hF : Form l) (h : In64 l) : lens l = card64 l :=
  lens_card _ _ l hF (fun x hx => by have := h x hx; omega)
theorem lens_in64 {l : List S23} (hF : Form l) (h : In64 l) : 0 ≤ lens l ∧ lens l ≤ 18446744073709551615 := by
  rw [lens_card64 hF h]
  have := cardF_le (memB l) (-9223372036854775808) 18446744073709551615
  unfold card64
  omega
theorem length_eq {x : S23} (h0 : x.f0 < x.f1) (h : (-9223372036854775808 ≤ x.f0 ∧ x.f0 ≤ 9223372036854775807) ∧ (-9223372036854775808 ≤ x.f1 ∧ x.f1 ≤ 9223372036854775807)) : ival_Length.f x.f0 x.f1 = some (x.f1 - x.f0) := by
  unfold ival_Length.f ival_empty.f
  simp only [Option.bind_some]
  rw [if_neg (by simp; omega)]
  have e : IntKind.u64.wrap (IntKind.u64.wrap x.f1 - IntKind.u64.wrap x.f0) = x.f1 - x.f0 := by
    have m : ∀ n, IntKind.u64.wrap n = n % 18446744073709551616 := by intro n; simp [IntKind.wrap, IntKind.bits, IntKind.signed]
    rw [m, m, m]; omega
  rw [e]
/-- No more pieces than ends. -/
theorem sw_length (P : Int → Int → Bool) : ∀ (t : List S56) (a b fr : Int) (was : Bool), (sw P t a b fr was []).length ≤ t.length := by
  intro t
  induction t with
  | nil => intro a b fr was; simp [sw]
  | cons x t ih =>
    intro a b fr was
    unfold sw
    split
    · have := ih (a + dA x.f1) (b + dB x.f1) fr was; simp; omega
    · rw [sw_out, List.length_append, List.length_cons]
      have h1 := ih (a + dA x.f1) (b + dB x.f1) (if (P (a + dA x.f1) (b + dB x.f1) && !was) = true then x.f0 else fr) (P (a + dA x.f1) (b + dB x.f1))
      have h2 : (if (was && !P (a + dA x.f1) (b + dB x.f1)) = true then [] ++ [(⟨fr, x.f0⟩ : S23)] else []).length ≤ 1 := by split <;> simp
      exact Nat.le_trans (Nat.add_le_add h2 h1) (by omega)
theorem swept_length (P : Int → Int → Bool) (a b : List S23) : (swept P a b).length ≤ 2 * (a.length + b.length) := by
  have h1 := sw_length P (sortedEnds (allEnds a b)) 0 0 0 false
  have h2 := (sortedEnds_perm (allEnds a b)).length_eq
  have h3 := endsL_length 1 0 a
  have h4 := endsL_length 3 2 b
  unfold swept
  unfold allEnds at *
  rw [List.length_append] at h2
  omega
end Go.Proofs.Ytafpmcmpkgbgaaa.Pr
