/- Plain laws of package sketch: bars rise with values; how many values lie below a bar; the sorted list. -/
import Derived.Test.YtlnhpccapadpmaaMd
import Derived.Test.YtlnhpccapadpmaaXSo
import Derived.Test.YtlnhpccapadpmaaPureSketchBars
namespace Go.Proofs.Ytlnhpccapadpmaa.Pure
set_option linter.unusedVariables false
set_option linter.unusedSimpArgs false
open Go.RowKit Go.Proofs.Ytlnhpccapadpmaa.Pr Go.Proofs.YtlnhpccapadpmaaW.PrintWords Go.Proofs.YtlnhpccapadpmaaW.PrintLast Go.Proofs.YtlnhpccapadpmaaW.PrintMore

theorem pow_mono2 {s t : Nat} (h : s < t) : (2 : Int) * 2 ^ s ≤ 2 ^ t := by
  have e : (2 : Int) ^ t = 2 ^ (t - s - 1) * (2 * 2 ^ s) := by
    rw [← pow_succ', ← Int.pow_add, show t - s - 1 + (s + 1) = t by omega]
  have e1 : (1 : Int) ≤ 2 ^ (t - s - 1) := Int.pow_pos (by decide)
  have e2 : (0 : Int) < 2 ^ s := Int.pow_pos (by decide)
  rw [e]
  have := Int.mul_le_mul_of_nonneg_right e1 (show (0 : Int) ≤ 2 * 2 ^ s by omega)
  omega
theorem barOf_mono {u v : Int} (hu : W u) (hv : W v) (h : u ≤ v) : barOf u ≤ barOf v := by
  have hu1 : u ≤ 18446744073709551615 := hu.2
  have hv1 : v ≤ 18446744073709551615 := hv.2
  by_cases cv : v < 64
  · unfold barOf; rw [if_pos (by omega), if_pos cv]; exact h
  · obtain ⟨s', q', b1, b2, b3, b4, b5, b6⟩ := bar_parts v (by omega) hv1
    have ev : barOf v = 32 * s' + q' := by unfold barOf; rw [if_neg cv, b5, Nat.add_sub_cancel, b6]; omega
    by_cases cu : u < 64
    · rw [ev]; unfold barOf; rw [if_pos cu]; omega
    · obtain ⟨s, q, a1, a2, a3, a4, a5, a6⟩ := bar_parts u (by omega) hu1
      have eu : barOf u = 32 * s + q := by unfold barOf; rw [if_neg cu, a5, Nat.add_sub_cancel, a6]; omega
      rw [eu, ev]
      rcases Nat.lt_trichotomy s s' with hs | hs | hs
      · omega
      · subst hs
        have : u / 2 ^ s ≤ v / 2 ^ s := Int.ediv_le_ediv (Int.pow_pos (by decide)) h
        omega
      · exfalso
        have p0 : (0 : Int) < 2 ^ s := Int.pow_pos (by decide)
        have p1 : (0 : Int) < 2 ^ s' := Int.pow_pos (by decide)
        have c1 : (q : Int) * 2 ^ s ≤ u := by rw [← a6]; exact Int.ediv_mul_le _ (by omega)
        have c2 : v < ((q' : Int) + 1) * 2 ^ s' := by rw [← b6]; exact Int.lt_ediv_add_one_mul_self _ p1
        have c3 : ((q' : Int) + 1) * 2 ^ s' ≤ 64 * 2 ^ s' := Int.mul_le_mul_of_nonneg_right (by omega) (by omega)
        have c4 : (32 : Int) * 2 ^ s ≤ q * 2 ^ s := Int.mul_le_mul_of_nonneg_right (by omega) (by omega)
        have c5 := pow_mono2 hs
        omega
theorem barOf_range {v : Int} (hv : W v) : 0 ≤ barOf v ∧ barOf v < 1920 := (add_bars Row.zero hv W0).2

/-- How many of a list have a bar below j. -/
def below (l : List Int) (j : Int) : Nat := l.countP (fun v => decide (barOf v < j))
def rowC (r : List Int) (l : List Int) : List Int := l.foldl (fun r v => putRow r (barOf v) 1) r
theorem W1 : W 1 := ⟨by decide, by decide⟩
theorem Row.rowC {l : List Int} (hl : ∀ v ∈ l, W v) : ∀ {r : List Int}, Row r → Row (rowC r l) := by
  induction l with
  | nil => intro r h; exact h
  | cons x t ih =>
    intro r h
    exact ih (fun y hy => hl y (List.mem_cons_of_mem _ hy)) (h.put (barOf_range (hl x List.mem_cons_self)) W1)
theorem rowC_get (l : List Int) : ∀ (r : List Int), (∀ v ∈ l, W v) → Row r → (∀ j, j < 1920 → r.getD j 0 + l.length ≤ 18446744073709551615) → ∀ j, j < 1920 →
    (rowC r l).getD j 0 = r.getD j 0 + (l.countP (fun v => decide (barOf v = (j : Int))) : Nat) := by
  induction l with
  | nil => intro r _ _ _ j _; simp [rowC]
  | cons x t ih =>
    intro r hl hr hb j hj
    have hx := hl x List.mem_cons_self
    have bx := barOf_range hx
    have hlen := hr.1
    have hput : ∀ i, i < 1920 → (putRow r (barOf x) 1).getD i 0 = r.getD i 0 + if barOf x = (i : Int) then 1 else 0 := by
      intro i hi
      unfold putRow
      by_cases e : barOf x = (i : Int)
      · rw [if_pos e, e, Int.toNat_natCast]
        have h1 := hb i hi
        simp only [List.length_cons] at h1
        have h2 : satAdd (r.getD i 0) 1 = r.getD i 0 + 1 := by
          unfold satAdd M64; rw [if_pos (by omega)]
        rw [h2]
        simp [List.getD, hlen, hi]
      · rw [if_neg e]
        have : (barOf x).toNat ≠ i := by omega
        simp [List.getD, List.getElem?_set_ne this]
    have e := ih (putRow r (barOf x) 1) (fun y hy => hl y (List.mem_cons_of_mem _ hy)) (hr.put bx W1) (fun i hi => by
      rw [hput i hi]
      have := hb i hi
      simp only [List.length_cons] at this
      split <;> omega) j hj
    show (rowC (putRow r (barOf x) 1) t).getD j 0 = _
    rw [e, hput j hj, List.countP_cons]
    by_cases c : barOf x = (j : Int)
    · simp only [c, if_true, decide_true]; omega
    · simp only [c, if_false, decide_false]; simp
theorem zrow_get (j : Nat) : zrow.getD j 0 = 0 := by
  unfold zrow
  rw [List.getD_eq_getElem?_getD, List.getElem?_replicate]
  split <;> rfl
theorem below_succ (l : List Int) (j : Int) : below l (j + 1) = below l j + l.countP (fun v => decide (barOf v = j)) := by
  induction l with
  | nil => rfl
  | cons x t ih =>
    unfold below at *
    rw [List.countP_cons, List.countP_cons, List.countP_cons, ih]
    by_cases h1 : barOf x < j
    · have h2 : barOf x < j + 1 := by omega
      have h3 : ¬ barOf x = j := by omega
      simp [h1, h2, h3]; omega
    · by_cases h3 : barOf x = j
      · have h2 : barOf x < j + 1 := by omega
        rw [if_pos (decide_eq_true h2), if_neg (by simp [h1]), if_pos (decide_eq_true h3)]; omega
      · have h2 : ¬ barOf x < j + 1 := by omega
        simp [h1, h2, h3]
theorem take_sum (l : List Int) (hl : ∀ v ∈ l, W v) (hn : l.length ≤ 2147483647) : ∀ i, i ≤ 1920 → ((rowC zrow l).take i).sum = (below l (i : Int) : Nat) := by
  have hr := Row.rowC hl Row.zero
  intro i
  induction i with
  | zero =>
    intro _
    have : below l 0 = 0 := by
      unfold below
      rw [List.countP_eq_zero]
      intro v hv
      have := (barOf_range (hl v hv)).1
      simp; omega
    simp [this]
  | succ i ih =>
    intro hi
    have hlt : i < (rowC zrow l).length := by rw [hr.1]; omega
    have hg := rowC_get l zrow hl Row.zero (fun j hj => by rw [zrow_get]; omega) i (by omega)
    rw [zrow_get] at hg
    have e : (rowC zrow l)[i] = (rowC zrow l).getD i 0 := by simp [List.getD, hlt]
    rw [List.take_succ_eq_append_getElem hlt, List.sum_append, ih (by omega), e, hg]
    push_cast
    rw [below_succ]
    simp
theorem tot_from (t : List Int) : ∀ n : Int, (∀ x ∈ t, 0 ≤ x) → tot (barsFrom n t) = t.sum := by
  induction t with
  | nil => intro n _; rfl
  | cons x t ih =>
    intro n h
    have hx := h x List.mem_cons_self
    have e := ih (n + 1) (fun y hy => h y (List.mem_cons_of_mem _ hy))
    simp only [barsFrom]
    split
    · simp only [tot, List.map_cons, List.sum_cons] at e ⊢; rw [e]
    · rw [e, List.sum_cons]; omega
theorem qfind_from (t : List Int) : ∀ (n c r : Int), (∀ x ∈ t, 0 ≤ x) → c < r → r ≤ c + t.sum → ∃ i, i < t.length ∧ qfind (barsFrom n t) c r = some (n + (i : Nat)) ∧ c + (t.take i).sum < r ∧ r ≤ c + (t.take (i + 1)).sum := by
  induction t with
  | nil => intro n c r _ h1 h2; simp at h2; omega
  | cons x t ih =>
    intro n c r h h1 h2
    have hx := h x List.mem_cons_self
    simp only [List.sum_cons] at h2
    simp only [barsFrom]
    by_cases hx0 : x > 0
    · rw [if_pos hx0]
      simp only [qfind]
      by_cases hge : c + x ≥ r
      · rw [if_pos hge]
        exact ⟨0, by simp, by simp, by simpa using h1, by simpa using hge⟩
      · rw [if_neg hge]
        obtain ⟨i, hi, e, a, b⟩ := ih (n + 1) (c + x) r (fun y hy => h y (List.mem_cons_of_mem _ hy)) (by omega) (by omega)
        refine ⟨i + 1, by simpa using hi, ?_, ?_, ?_⟩
        · rw [e]; simp only [Option.some.injEq]; omega
        · simp only [List.take_succ_cons, List.sum_cons]; omega
        · simp only [List.take_succ_cons, List.sum_cons] at b ⊢; omega
    · rw [if_neg hx0]
      obtain ⟨i, hi, e, a, b⟩ := ih (n + 1) c r (fun y hy => h y (List.mem_cons_of_mem _ hy)) h1 (by omega)
      refine ⟨i + 1, by simpa using hi, ?_, ?_, ?_⟩
      · rw [e]; simp only [Option.some.injEq]; omega
      · simp only [List.take_succ_cons, List.sum_cons]; omega
      · simp only [List.take_succ_cons, List.sum_cons] at b ⊢; omega

/-! ### the sorted list -/
theorem posOf_above (o : List Int) (x : Int) : ∀ k j, posOf o x k ≤ j → j < k → o.getD j 0 > x := by
  intro k
  induction k with
  | zero => intro j _ h; omega
  | succ k ih =>
    intro j h1 h2
    unfold posOf at h1
    by_cases c : o.getD k 0 > x
    · rw [if_pos c] at h1
      by_cases e : j = k
      · subst e; exact c
      · exact ih j h1 (by omega)
    · rw [if_neg c] at h1; omega
theorem posOf_at (o : List Int) (x : Int) : ∀ k, posOf o x k = 0 ∨ o.getD (posOf o x k - 1) 0 ≤ x := by
  intro k
  induction k with
  | zero => exact .inl rfl
  | succ k ih =>
    unfold posOf
    by_cases c : o.getD k 0 > x
    · rw [if_pos c]; exact ih
    · rw [if_neg c]; exact .inr (by simp only [Nat.add_sub_cancel]; omega)
theorem ins_sorted (o : List Int) (x : Int) (h : o.Pairwise (· ≤ ·)) : (ins o x).Pairwise (· ≤ ·) := by
  have hle := posOf_le o x o.length
  have ha := posOf_above o x o.length
  have hb := posOf_at o x o.length
  unfold ins
  generalize posOf o x o.length = p at *
  have hsplit : (o.take p ++ o.drop p).Pairwise (· ≤ ·) := by rw [List.take_append_drop]; exact h
  obtain ⟨h1, h2, h3⟩ := List.pairwise_append.1 hsplit
  have hge : ∀ b ∈ o.drop p, x ≤ b := by
    intro b hb2
    obtain ⟨i, hi, rfl⟩ := List.mem_iff_getElem.1 hb2
    rw [List.length_drop] at hi
    have := ha (p + i) (by omega) (by omega)
    rw [List.getElem_drop]
    simp only [List.getD, (by omega : p + i < o.length), List.getElem?_eq_getElem, Option.getD_some] at this
    omega
  have hlt : ∀ a ∈ o.take p, a ≤ x := by
    intro a ha2
    obtain ⟨i, hi, rfl⟩ := List.mem_iff_getElem.1 ha2
    rw [List.length_take] at hi
    rcases hb with hb | hb
    · omega
    · rw [List.getElem_take]
      have hp1 : p - 1 < o.length := by omega
      have e : o[i] ≤ o[p - 1] := by
        by_cases e : i = p - 1
        · subst e; exact Int.le_refl _
        · exact List.pairwise_iff_getElem.1 h i (p - 1) (by omega) hp1 (by omega)
      simp only [List.getD, hp1, List.getElem?_eq_getElem, Option.getD_some] at hb
      omega
  refine List.pairwise_append.2 ⟨h1, List.pairwise_cons.2 ⟨hge, h2⟩, fun a ha2 b hb2 => ?_⟩
  rcases List.mem_cons.1 hb2 with rfl | hb2
  · exact hlt a ha2
  · exact h3 a ha2 b hb2
theorem ins_perm (o : List Int) (x : Int) : (ins o x).Perm (x :: o) := by
  unfold ins
  have := List.perm_middle (a := x) (l₁ := o.take (posOf o x o.length)) (l₂ := o.drop (posOf o x o.length))
  rwa [List.take_append_drop] at this
theorem sorted_on (l : List Int) : ∀ o : List Int, o.Pairwise (· ≤ ·) → (l.foldl ins o).Pairwise (· ≤ ·) ∧ (l.foldl ins o).Perm (o ++ l) := by
  induction l with
  | nil => intro o h; exact ⟨h, by simp⟩
  | cons x t ih =>
    intro o h
    obtain ⟨a, b⟩ := ih (ins o x) (ins_sorted o x h)
    refine ⟨a, b.trans ?_⟩
    exact ((ins_perm o x).append_right t).trans List.perm_middle.symm
theorem sorted_ok (l : List Int) : (sortedL l).Pairwise (· ≤ ·) ∧ (sortedL l).Perm l := by
  have := sorted_on l [] List.Pairwise.nil
  simpa [sortedL] using this
/-- The r-th value lies in the bar up to whose end there are r. -/
theorem rank_bar (l : List Int) (hl : ∀ v ∈ l, W v) (r : Nat) (h1 : 1 ≤ r) (h2 : r ≤ l.length) (i : Int) (a : below l i < r) (b : r ≤ below l (i + 1)) : barOf ((sortedL l).getD (r - 1) 0) = i := by
  obtain ⟨hs, hp⟩ := sorted_ok l
  have hlen := hp.length_eq
  have hW : ∀ v ∈ sortedL l, W v := fun v hv => hl v (hp.mem_iff.1 hv)
  have e1 : ∀ j, below l j = below (sortedL l) j := fun j => (hp.countP_eq _).symm
  rw [e1] at a b
  generalize sortedL l = s at *
  have hr : r - 1 < s.length := by omega
  have hg : s.getD (r - 1) 0 = s[r - 1] := by simp [List.getD, hr]
  rw [hg]
  have hw := hW s[r - 1] (List.getElem_mem _)
  have split : ∀ j m, below s j = below (s.take m) j + below (s.drop m) j := by
    intro j m
    unfold below
    rw [← List.countP_append, List.take_append_drop]
  rcases Int.lt_trichotomy (barOf s[r - 1]) i with h | h | h
  · exfalso
    have : below (s.take r) i = (s.take r).length := by
      unfold below
      rw [List.countP_eq_length]
      intro v hv
      obtain ⟨j, hj, rfl⟩ := List.mem_iff_getElem.1 hv
      rw [List.length_take] at hj
      rw [List.getElem_take]
      have : s[j] ≤ s[r - 1] := by
        by_cases e : j = r - 1
        · subst e; exact Int.le_refl _
        · exact List.pairwise_iff_getElem.1 hs j (r - 1) (by omega) hr (by omega)
      have := barOf_mono (hW _ (List.getElem_mem _)) hw this
      simp; omega
    have h3 := split i r
    rw [this, List.length_take] at h3
    omega
  · exact h
  · exfalso
    have : below (s.drop (r - 1)) (i + 1) = 0 := by
      unfold below
      rw [List.countP_eq_zero]
      intro v hv
      obtain ⟨j, hj, rfl⟩ := List.mem_iff_getElem.1 hv
      rw [List.length_drop] at hj
      rw [List.getElem_drop]
      have : s[r - 1] ≤ s[r - 1 + j] := by
        by_cases e : j = 0
        · subst e; exact Int.le_refl _
        · exact List.pairwise_iff_getElem.1 hs (r - 1) (r - 1 + j) hr (by omega) (by omega)
      have := barOf_mono hw (hW _ (List.getElem_mem _)) this
      simp; omega
    have h3 := split (i + 1) (r - 1)
    rw [this] at h3
    have h4 : below (s.take (r - 1)) (i + 1) ≤ (s.take (r - 1)).length := List.countP_le_length
    rw [List.length_take] at h4
    omega
theorem below_mono (l : List Int) (i j : Int) (h : i ≤ j) : below l i ≤ below l j := by
  unfold below
  exact List.countP_mono_left (fun v _ hv => by simp at hv ⊢; omega)
end Go.Proofs.Ytlnhpccapadpmaa.Pure
