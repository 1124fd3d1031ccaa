/- Plain laws of package sketch: sketches as rows of 1920 numbers. -/
import Derived.Test.YtlnhpccapadpmaaXSl
import Derived.Test.YtlnhpccapadpmaaMa
namespace Go.Proofs.Ytlnhpccapadpmaa.Pure
set_option linter.unusedVariables false
set_option linter.unusedSimpArgs false
open Go.RowKit Go.Proofs.Ytlnhpccapadpmaa.Pr Go.Proofs.YtlnhpccapadpmaaW.PrintWords Go.Proofs.YtlnhpccapadpmaaW.PrintLast Go.Proofs.YtlnhpccapadpmaaW.PrintMore

def W (x : Int) : Prop := 0 ≤ x ∧ x ≤ M64
theorem W0 : W 0 := ⟨Int.le_refl _, M64_nonneg⟩
theorem satAdd_zero {x : Int} (h : W x) : satAdd x 0 = x := by unfold satAdd; rw [if_pos (by have := h.2; omega)]; omega
theorem satAdd_comm (x y : Int) : satAdd x y = satAdd y x := by unfold satAdd; rw [Int.add_comm]
theorem satAdd_W {x y : Int} (hx : W x) (hy : W y) : W (satAdd x y) := satAdd_ok hx.1 hy.1
theorem barsOK_from (t : List Int) : ∀ (n last : Int), last < n → n + t.length ≤ 1920 → (∀ x ∈ t, 0 ≤ x) → barsOK last (barsFrom n t) = true := by
  induction t with
  | nil => intro n last _ _ _; rfl
  | cons x t ih =>
    intro n last h1 h2 h3
    simp only [List.length_cons] at h2
    have h4 : ∀ y ∈ t, 0 ≤ y := fun y hy => h3 y (List.mem_cons_of_mem _ hy)
    simp only [barsFrom]
    split
    · simp only [barsOK, Bool.and_eq_true, Bool.not_eq_true', decide_eq_false_iff_not, beq_eq_false_iff_ne]
      exact ⟨⟨⟨by omega, by omega⟩, by omega⟩, ih (n + 1) n (by omega) (by omega) h4⟩
    · exact ih (n + 1) last (by omega) (by omega) h4
theorem okB_from (t : List Int) : ∀ n : Int, (∀ x ∈ t, W x) → (barsFrom n t).all okB = true := by
  induction t with
  | nil => intro n _; rfl
  | cons x t ih =>
    intro n h
    have h4 : ∀ y ∈ t, W y := fun y hy => h y (List.mem_cons_of_mem _ hy)
    have hx := h x List.mem_cons_self
    simp only [barsFrom]
    split
    · simp only [List.all_cons, Bool.and_eq_true]
      exact ⟨by simp only [okB, Bool.and_eq_true, decide_eq_true_eq]; exact hx, ih _ h4⟩
    · exact ih _ h4
theorem len_from (t : List Int) : ∀ n : Int, (barsFrom n t).length ≤ t.length := by
  induction t with
  | nil => intro n; exact Nat.le_refl _
  | cons x t ih =>
    intro n
    simp only [barsFrom]
    split
    · simp only [List.length_cons]; have := ih (n + 1); omega
    · simp only [List.length_cons]; have := ih (n + 1); omega
theorem set_mid (p : List Int) (a x : Int) (s : List Int) : (p ++ a :: s).set p.length x = (p ++ [x]) ++ s := by
  rw [List.set_append_right _ _ (Nat.le_refl _)]; simp
theorem get_mid (p : List Int) (a : Int) (s : List Int) : (p ++ a :: s).getD p.length 0 = a := by simp [List.getD]
theorem laid_from (t : List Int) : ∀ (p : List Int) (z : List Int), z = List.replicate t.length 0 → (∀ x ∈ t, 0 ≤ x) → laidRow (p ++ z) (barsFrom p.length t) = p ++ t := by
  induction t with
  | nil => intro p z hz _; subst hz; rfl
  | cons x t ih =>
    intro p z hz h
    subst hz
    have h4 : ∀ y ∈ t, 0 ≤ y := fun y hy => h y (List.mem_cons_of_mem _ hy)
    have hx := h x List.mem_cons_self
    have e := ih (p ++ [x]) _ rfl h4
    rw [List.length_append, List.length_singleton] at e
    push_cast at e
    simp only [List.length_cons, List.replicate_succ, barsFrom]
    split
    · simp only [laidRow, Int.toNat_natCast]
      rw [set_mid, e]; simp
    · have : x = 0 := by omega
      subst this
      rw [show p ++ 0 :: List.replicate t.length 0 = (p ++ [0]) ++ List.replicate t.length 0 by simp, e]; simp
theorem merge_from (t : List Int) : ∀ (p s : List Int), s.length = t.length → (∀ x ∈ t, 0 ≤ x) → (∀ x ∈ s, W x) → mergeRow (p ++ s) (barsFrom p.length t) = p ++ List.zipWith satAdd s t := by
  induction t with
  | nil => intro p s hs _ _; have : s = [] := List.eq_nil_of_length_eq_zero hs; subst this; rfl
  | cons x t ih =>
    intro p s hs h hw
    match s, hs with
    | a :: s, hs =>
      have h4 : ∀ y ∈ t, 0 ≤ y := fun y hy => h y (List.mem_cons_of_mem _ hy)
      have h5 : ∀ y ∈ s, W y := fun y hy => hw y (List.mem_cons_of_mem _ hy)
      have hx := h x List.mem_cons_self
      have ha := hw a List.mem_cons_self
      simp only [barsFrom]
      split
      · have e := ih (p ++ [satAdd a x]) s (by simpa using hs) h4 h5
        rw [List.length_append, List.length_singleton] at e
        push_cast at e
        simp only [mergeRow, putRow, Int.toNat_natCast]
        rw [get_mid, set_mid, e]; simp
      · have : x = 0 := by omega
        subst this
        have e := ih (p ++ [a]) s (by simpa using hs) h4 h5
        rw [List.length_append, List.length_singleton] at e
        push_cast at e
        rw [show p ++ a :: s = (p ++ [a]) ++ s by simp, e]
        simp [satAdd_zero ha]
theorem less_from (t : List Int) : ∀ (p s : List Int), s.length = t.length → (∀ x ∈ t, 0 ≤ x) → (∀ x ∈ s, W x) →
    lessRow (p ++ s) (barsFrom p.length t) = if (List.zipWith (fun a b => decide (b ≤ a)) s t).all id = true then some (p ++ List.zipWith (· - ·) s t) else none := by
  induction t with
  | nil => intro p s hs _ _; have : s = [] := List.eq_nil_of_length_eq_zero hs; subst this; simp [barsFrom, lessRow]
  | cons x t ih =>
    intro p s hs h hw
    match s, hs with
    | a :: s, hs =>
      have h4 : ∀ y ∈ t, 0 ≤ y := fun y hy => h y (List.mem_cons_of_mem _ hy)
      have h5 : ∀ y ∈ s, W y := fun y hy => hw y (List.mem_cons_of_mem _ hy)
      have hx := h x List.mem_cons_self
      have ha := hw a List.mem_cons_self
      simp only [barsFrom, List.zipWith_cons_cons, List.all_cons, id, Bool.and_eq_true, decide_eq_true_eq]
      split
      · simp only [lessRow, Int.toNat_natCast]
        rw [get_mid, set_mid]
        by_cases hax : a < x
        · rw [if_pos hax, if_neg (by omega)]
        · have e := ih (p ++ [a - x]) s (by simpa using hs) h4 h5
          rw [List.length_append, List.length_singleton] at e
          push_cast at e
          rw [if_neg hax, e]
          by_cases hall : (List.zipWith (fun a b => decide (b ≤ a)) s t).all id = true
          · rw [if_pos hall, if_pos ⟨by omega, hall⟩]; simp
          · rw [if_neg hall, if_neg (fun h => hall h.2)]
      · have : x = 0 := by omega
        subst this
        have e := ih (p ++ [a]) s (by simpa using hs) h4 h5
        rw [List.length_append, List.length_singleton] at e
        push_cast at e
        rw [show p ++ a :: s = (p ++ [a]) ++ s by simp, e]
        by_cases hall : (List.zipWith (fun a b => decide (b ≤ a)) s t).all id = true
        · rw [if_pos hall, if_pos ⟨ha.1, hall⟩]; simp
        · rw [if_neg hall, if_neg (fun h => hall h.2)]

/-- A row of numbers of 64 bits. -/
def Row (r : List Int) : Prop := r.length = 1920 ∧ ∀ x ∈ r, W x
theorem Row.ok {r : List Int} (h : Row r) : okRow r = true := by
  simp only [okRow, Bool.and_eq_true, List.all_eq_true, decide_eq_true_eq]
  exact ⟨h.1, h.2⟩
theorem Row.of_ok {r : List Int} (h : okRow r = true) : Row r := by
  simp only [okRow, Bool.and_eq_true, List.all_eq_true, decide_eq_true_eq] at h
  exact ⟨h.1, h.2⟩
theorem Row.zero : Row zrow := Row.of_ok okRow_zrow
def bars (r : List Int) : List S61 := barsFrom 0 r
theorem bars_ok {r : List Int} (h : Row r) : barsOK (-1) (bars r) = true := barsOK_from r 0 (-1) (by omega) (by rw [h.1]; omega) (fun x hx => (h.2 x hx).1)
theorem bars_okB {r : List Int} (h : Row r) : (bars r).all okB = true := okB_from r 0 h.2
theorem bars_len (r : List Int) (h : Row r) : (bars r).length ≤ 1920 := by have := len_from r 0; have := h.1; unfold bars; omega
theorem bars_short {r : List Int} (h : Row r) : short (bars r) = true := by
  have := bars_len r h; simp only [short, decide_eq_true_eq]; omega
theorem laid_bars {r : List Int} (h : Row r) : laidRow zrow (bars r) = r := by
  have := laid_from r [] zrow (by rw [h.1]; rfl) (fun x hx => (h.2 x hx).1)
  simpa [bars] using this
theorem Row.zip {r s : List Int} (hr : Row r) (hs : Row s) : Row (List.zipWith satAdd r s) := by
  refine ⟨by rw [List.length_zipWith, hr.1, hs.1]; rfl, fun x hx => ?_⟩
  obtain ⟨i, hi, rfl⟩ := List.mem_iff_getElem.1 hx
  simp only [List.length_zipWith] at hi
  rw [List.getElem_zipWith]
  exact satAdd_W (hr.2 _ (List.getElem_mem _)) (hs.2 _ (List.getElem_mem _))
theorem Row.put {r : List Int} (hr : Row r) {i n : Int} (hi : 0 ≤ i ∧ i < 1920) (hn : W n) : Row (putRow r i n) := Row.of_ok (okRow_put hr.ok i n hi hn.1)

theorem add_bars {r : List Int} (h : Row r) {v t : Int} (hv : W v) (ht : W t) : sketch_Add.f (bars r) v t = some (bars (putRow r (barOf v) t), 0) ∧ 0 ≤ barOf v ∧ barOf v < 1920 := by
  have hv2 : v ≤ 18446744073709551615 := hv.2
  have hb : 0 ≤ barOf v ∧ barOf v < 1920 := by
    by_cases c : v < 64
    · unfold barOf; rw [if_pos c]; exact ⟨hv.1, by omega⟩
    · obtain ⟨s, q, a1, a2, a3, a4, a5, a6⟩ := bar_parts v (by omega) hv2
      unfold barOf; rw [if_neg c, a5, Nat.add_sub_cancel, a6]; omega
  refine ⟨?_, hb⟩
  unfold sketch_Add.f
  rw [if_pos (by simp only [Bool.and_eq_true]; exact ⟨⟨bars_short h, bars_okB h⟩, by simp only [inW, Bool.and_eq_true, decide_eq_true_eq]; exact ht⟩), index_eq 0 v hv.1 hv2]
  simp only [Option.bind_some]
  rw [if_pos (by simp only [Bool.and_eq_true, decide_eq_true_eq]; exact hb), if_pos (bars_ok h), laid_bars h]
  rfl
theorem merge_bars {r s : List Int} (hr : Row r) (hs : Row s) : sketch_Merge.f (bars r) (bars s) = some (bars (List.zipWith satAdd r s), 0) := by
  unfold sketch_Merge.f
  rw [if_pos (by simp only [Bool.and_eq_true]; exact ⟨⟨⟨bars_short hr, bars_short hs⟩, bars_okB hr⟩, bars_okB hs⟩), if_pos (bars_ok hr), if_pos (bars_ok hs), laid_bars hr]
  have := merge_from s [] r (by rw [hr.1, hs.1]) (fun x hx => (hs.2 x hx).1) hr.2
  simp only [List.nil_append, List.length_nil] at this
  exact congrArg (fun x => some (barsFrom 0 x, (0 : Int))) this
theorem less_bars {r s : List Int} (hr : Row r) (hs : Row s) : sketch_Less.f (bars r) (bars s) = if (List.zipWith (fun a b => decide (b ≤ a)) r s).all id = true then some (bars (List.zipWith (· - ·) r s), 0) else some ([], 134) := by
  unfold sketch_Less.f
  rw [if_pos (by simp only [Bool.and_eq_true]; exact ⟨⟨⟨bars_short hr, bars_short hs⟩, bars_okB hr⟩, bars_okB hs⟩), if_pos (bars_ok hr), if_pos (bars_ok hs), laid_bars hr]
  have := less_from s [] r (by rw [hr.1, hs.1]) (fun x hx => (hs.2 x hx).1) hr.2
  simp only [List.nil_append, List.length_nil] at this
  refine (congrArg lessEnd this).trans ?_
  split <;> rfl
end Go.Proofs.Ytlnhpccapadpmaa.Pure
