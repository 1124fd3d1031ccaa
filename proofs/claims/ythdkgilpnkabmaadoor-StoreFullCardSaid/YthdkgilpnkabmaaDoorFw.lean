import Derived.Test.YthdkgilpnkabmaaDoorAv
import Derived.Test.YthdkgilpnkabmaaDoorMe
/- Plain: a store filled to its limits. -/
namespace Go.Proofs.YthdkgilpnkabmaaDoor.Pr
open Go Go.RowKit
open Ps
set_option linter.unusedVariables false
set_option linter.unusedSimpArgs false
set_option linter.constructorNameAsVariable false
section
variable {S : Type} {nm : S → Nm} {cmp : S → S → Int}
theorem cnt_perm {a b : List Nm} (h : a.Perm b) (t : Tr) : cntT a t = cntT b t := (h.filter _).length_eq
theorem fresh_new (L : List S) : ∀ (l : List S) (fr : List Nm), (fr ++ l.map nm).Nodup → (∀ x ∈ l, getL nm L (nm x) = none) → l.foldl (freshStep nm L) fr = fr ++ l.map nm
  | [], fr, _, _ => by simp
  | x :: r, fr, hn, hx => by
    have h1 : freshStep nm L fr x = fr ++ [nm x] := by
      unfold freshStep
      rw [if_neg]
      rw [hx x List.mem_cons_self]
      simp only [Option.isSome_none, Bool.false_or, List.contains_iff_mem]
      intro h
      rw [List.nodup_append] at hn
      exact hn.2.2 _ h (nm x) (by simp) rfl
    rw [List.foldl_cons, h1, fresh_new L r (fr ++ [nm x]) (by rw [List.append_assoc]; simpa using hn) (fun y hy => hx y (List.mem_cons_of_mem _ hy))]
    simp
theorem fresh_all {L l : List S} (hn : (l.map nm).Nodup) (hx : ∀ x ∈ l, getL nm L (nm x) = none) : freshN nm L l = l.map nm := by
  unfold freshN
  rw [fresh_new L l [] (by simpa using hn) hx, List.nil_append]
theorem puts_new : ∀ (l L : List S), (l.map nm).Nodup → (∀ x ∈ l, getL nm L (nm x) = none) → putAll nm cmp L l = L ++ l
  | [], L, _, _ => by simp [putAll]
  | x :: r, L, hn, hx => by
    have h1 : putL nm cmp L x = L ++ [x] := by
      unfold putL
      rw [hx x List.mem_cons_self]
    simp only [List.map_cons, List.nodup_cons] at hn
    show putAll nm cmp (putL nm cmp L x) r = _
    rw [h1, puts_new r (L ++ [x]) hn.2 (fun y hy => ?_), List.append_assoc]
    · rfl
    · rw [getL_none]
      intro z hz e
      rcases List.mem_append.1 hz with hz | hz
      · exact (getL_none.1 (hx y (List.mem_cons_of_mem _ hy))) z hz e
      · rw [List.mem_singleton] at hz
        subst hz
        exact hn.1 (List.mem_map.2 ⟨y, hy, e.symm⟩)
theorem room_of {L l : List S} (hn : (l.map nm).Nodup) (hx : ∀ x ∈ l, getL nm L (nm x) = none) (hc : ∀ x ∈ l, cntT (L.map nm) (nm x).1 + cntT (l.map nm) (nm x).1 ≤ 1000) : roomF nm L l = if 100000 < L.length + l.length then 92 else 0 := by
  unfold roomF
  rw [fresh_all hn hx, if_neg, List.length_map]
  rw [List.any_eq_true]
  rintro ⟨n, h1, h2⟩
  obtain ⟨x, h3, rfl⟩ := List.mem_map.1 h1
  have := hc x h3
  rw [decide_eq_true_eq] at h2
  omega
end
/-- So many spans of a trace. -/
def blkL (t n : Nat) : List Sp := (List.range n).map (fun i => oneS (t : Int) ((i + 1 : Nat) : Int) 5)
def bigL (t : Nat) : List Sp := (List.range t).flatMap (fun j => blkL (j + 1) 1000)
theorem blk_succ (t n : Nat) : blkL t (n + 1) = blkL t n ++ [oneS (t : Int) ((n + 1 : Nat) : Int) 5] := by simp [blkL, List.range_succ]
theorem big_succ (t : Nat) : bigL (t + 1) = bigL t ++ blkL (t + 1) 1000 := by simp [bigL, List.range_succ]
theorem blk_len (t n : Nat) : (blkL t n).length = n := by simp [blkL]
theorem big_len : ∀ t, (bigL t).length = 1000 * t
  | 0 => rfl
  | t + 1 => by rw [big_succ, List.length_append, big_len t, blk_len]; omega
theorem mem_blk {t n : Nat} {x : Sp} : x ∈ blkL t n ↔ ∃ i : Nat, 1 ≤ i ∧ i ≤ n ∧ x = oneS t i 5 := by
  unfold blkL
  rw [List.mem_map]
  constructor
  · rintro ⟨i, hi, rfl⟩
    rw [List.mem_range] at hi
    exact ⟨i + 1, by omega, by omega, rfl⟩
  · rintro ⟨i, h1, h2, rfl⟩
    exact ⟨i - 1, List.mem_range.2 (by omega), by rw [show i - 1 + 1 = i by omega]⟩
theorem mem_big {t : Nat} {x : Sp} : x ∈ bigL t ↔ ∃ j i : Nat, 1 ≤ j ∧ j ≤ t ∧ 1 ≤ i ∧ i ≤ 1000 ∧ x = oneS j i 5 := by
  unfold bigL
  rw [List.mem_flatMap]
  constructor
  · rintro ⟨j, hj, hx⟩
    obtain ⟨i, h1, h2, rfl⟩ := mem_blk.1 hx
    rw [List.mem_range] at hj
    exact ⟨j + 1, i, by omega, by omega, h1, h2, rfl⟩
  · rintro ⟨j, i, h1, h2, h3, h4, rfl⟩
    refine ⟨j - 1, List.mem_range.2 (by omega), mem_blk.2 ⟨i, h3, h4, ?_⟩⟩
    rw [show j - 1 + 1 = j by omega]
theorem nm_one (lo id en : Int) : nmS (oneS lo id en) = ((0, lo), id) := rfl
theorem blk_nodup (t n : Nat) : ((blkL t n).map nmS).Nodup := by
  unfold blkL
  rw [List.map_map]
  refine List.pairwise_map.2 (List.Pairwise.imp (fun {a b} hne e => hne ?_) (List.nodup_range (n := n)))
  have := congrArg Prod.snd e
  simp only [Function.comp_apply, nm_one] at this
  omega
theorem big_none {t j i : Nat} {e : Int} (h : t < j ∨ 1000 < i) : getL nmS (bigL t) (nmS (oneS j i e)) = none := by
  rw [getL_none]
  intro x hx e1
  obtain ⟨j', i', h1, h2, h3, h4, rfl⟩ := mem_big.1 hx
  rw [nm_one, nm_one] at e1
  simp only [Prod.mk.injEq, true_and] at e1
  omega
theorem big_nodup : ∀ t, ((bigL t).map nmS).Nodup
  | 0 => List.nodup_nil
  | t + 1 => by
    rw [big_succ, List.map_append, List.nodup_append]
    refine ⟨big_nodup t, blk_nodup _ _, fun a ha b hb e => ?_⟩
    subst e
    obtain ⟨x, hx, rfl⟩ := List.mem_map.1 hb
    obtain ⟨i, h1, h2, rfl⟩ := mem_blk.1 hx
    have := big_none (t := t) (j := t + 1) (i := i) (e := 5) (.inl (by omega))
    rw [mem_nm, this] at ha
    cases ha
theorem cnt_blk (t n j : Nat) : cntT ((blkL t n).map nmS) (0, (j : Int)) = if j = t then n else 0 := by
  unfold cntT blkL
  rw [List.map_map, List.filter_map, List.length_map]
  by_cases h : j = t
  · rw [if_pos h]
    subst h
    rw [List.filter_eq_self.2]
    · simp
    · intro a _; simp [nm_one]
  · rw [if_neg h, List.filter_eq_nil_iff.2]
    · rfl
    · intro a _
      simp only [Function.comp_apply, nm_one, Prod.mk.injEq, true_and, decide_eq_true_eq]
      omega
theorem cnt_big (j : Nat) : ∀ t, cntT ((bigL t).map nmS) (0, (j : Int)) = if 1 ≤ j ∧ j ≤ t then 1000 else 0
  | 0 => by rw [if_neg (by omega)]; rfl
  | t + 1 => by
    rw [big_succ, List.map_append, cnt_append, cnt_big j t, cnt_blk]
    by_cases h : j = t + 1
    · rw [if_pos h, if_neg (by omega), if_pos (by omega)]
    · rw [if_neg h]
      by_cases h2 : 1 ≤ j ∧ j ≤ t
      · rw [if_pos h2, if_pos (by omega)]
      · rw [if_neg h2, if_neg (by omega)]
theorem chk_one (lo id en : Int) (h1 : lo ≠ 0) (h2 : id ≠ 0) (h3 : 0 ≤ en) (h4 : en ≤ 4611686018427387904) : chk0 (oneS lo id en) = 0 := by
  have e1 : plainF ⟨#[115]⟩ 60 33 = true := by decide +kernel
  have e2 : plainF ⟨#[111]⟩ 100 32 = true := by decide +kernel
  unfold chk0 checkF oneS
  simp only [e1, e2]
  rw [if_neg (by omega), if_neg (by omega), if_neg (by simp), if_neg (by omega)]
  simp
theorem fits_of {L l : List Sp} (h : ∀ x ∈ l, chk0 x = 0) : fitsF nmS chk0 L l = roomF nmS L l := fits_all h
/-! ### the rounds -/
theorem blk_none (t : Nat) : ∀ x ∈ blkL (t + 1) 1000, getL nmS (bigL t) (nmS x) = none := fun x hx => by
  obtain ⟨i, h1, h2, rfl⟩ := mem_blk.1 hx
  exact big_none (t := t) (j := t + 1) (i := i) (e := 5) (.inl (by omega))
theorem fits_blk (t : Nat) (ht : t < 100) : fitsF nmS chk0 (bigL t) (blkL (t + 1) 1000) = 0 := by
  have h1 : ∀ x ∈ blkL (t + 1) 1000, chk0 x = 0 := fun x hx => by
    obtain ⟨i, h1, h2, rfl⟩ := mem_blk.1 hx
    exact chk_one _ _ _ (by omega) (by omega) (by decide) (by decide)
  have h2 : ∀ x ∈ blkL (t + 1) 1000, cntT ((bigL t).map nmS) (nmS x).1 + cntT ((blkL (t + 1) 1000).map nmS) (nmS x).1 ≤ 1000 := fun x hx => by
    obtain ⟨i, h1, h2, rfl⟩ := mem_blk.1 hx
    rw [nm_one, cnt_big, cnt_blk, if_neg (by omega), if_pos rfl]
    omega
  rw [fits_of h1, room_of (blk_nodup _ _) (blk_none t) h2, big_len, blk_len, if_neg (by omega)]
theorem put_blk (t : Nat) : putAll nmS ordS (bigL t) (blkL (t + 1) 1000) = bigL (t + 1) := by
  rw [puts_new _ _ (blk_nodup _ _) (blk_none t), big_succ]
theorem fresh_single {L : List Sp} {x : Sp} (h : getL nmS L (nmS x) = none) : freshN nmS L [x] = [nmS x] := fresh_all (by simp) (fun y hy => by rw [List.mem_singleton] at hy; subst hy; exact h)
theorem cnt_one (n : Nm) : cntT [n] n.1 = 1 := by simp [cntT]
theorem fits_more (t : Nat) (ht : 1 ≤ t) : fitsF nmS chk0 (bigL t) [oneS t 1001 5] = 91 := by
  have h1 : ∀ x ∈ [oneS t 1001 5], chk0 x = 0 := fun x hx => by
    rw [List.mem_singleton] at hx
    subst hx
    exact chk_one _ _ _ (by omega) (by decide) (by decide) (by decide)
  have h2 : getL nmS (bigL t) (nmS (oneS t 1001 5)) = none := big_none (t := t) (j := t) (i := 1001) (.inr (by omega))
  rw [fits_of h1]
  unfold roomF
  rw [fresh_single h2, if_pos]
  rw [List.any_eq_true]
  refine ⟨_, List.mem_singleton_self _, ?_⟩
  rw [cnt_one, decide_eq_true_eq]
  have h3 := cnt_big t t
  rw [if_pos ⟨ht, Nat.le_refl _⟩] at h3
  show 1000 < cntT ((bigL t).map nmS) (0, (t : Int)) + 1
  omega
/-! ### behind the rounds -/
section
variable {S : Type} {nm : S → Nm} {cmp : S → S → Int}
theorem putAll_two (L : List S) (x y : S) : putAll nm cmp L [x, y] = putL nm cmp (putL nm cmp L x) y := rfl
theorem changes_two (L : List S) (x y : S) : changes nm cmp L [x, y] = [became nm cmp L x, became nm cmp (putL nm cmp L x) y] := rfl
theorem putL_kept {L : List S} {x y : S} (h : getL nm L (nm x) = some y) (hc : ¬ 0 < cmp x y) : putL nm cmp L x = L := by
  unfold putL
  rw [h]
  simp only
  rw [if_neg hc]
theorem became_kept {L : List S} {x y : S} (h : getL nm L (nm x) = some y) (hc : ¬ 0 < cmp x y) : became nm cmp L x = 2 := by
  unfold became
  rw [h]
  simp only
  rw [if_neg hc]
theorem became_better {L : List S} {x y : S} (h : getL nm L (nm x) = some y) (hc : 0 < cmp x y) : became nm cmp L x = 1 := by
  unfold became
  rw [h]
  simp only
  rw [if_pos hc]
theorem get_better {L : List S} (hn : (L.map nm).Nodup) {x y : S} (h : getL nm L (nm x) = some y) (hc : 0 < cmp x y) (n : Nm) : getL nm (putL nm cmp L x) n = if n = nm x then some x else getL nm L n := by
  rw [get_put hn]
  by_cases e : n = nm x
  · subst e
    rw [if_pos rfl, if_pos rfl, h]
    simp only
    rw [if_pos hc]
  · rw [if_neg e, if_neg e]
end
/-- The store in the end. -/
def endL : List Sp := putAll nmS ordS (bigL 100) [oneS 7 7 6, oneS 7 7 6]
theorem get_77 : getL nmS (bigL 100) (nmS (oneS 7 7 6)) = some (oneS 7 7 5) :=
  (getL_of_mem (big_nodup 100) (mem_big.2 ⟨7, 7, by decide, by decide, by decide, by decide, rfl⟩) : getL nmS (bigL 100) (nmS (oneS 7 7 5)) = some (oneS 7 7 5))
theorem ord_a : 0 < ordS (oneS 7 7 6) (oneS 7 7 5) := by decide +kernel
theorem ord_b : ¬ 0 < ordS (oneS 7 7 6) (oneS 7 7 6) := by decide +kernel
def mid : List Sp := putL nmS ordS (bigL 100) (oneS 7 7 6)
theorem mid_get (n : Nm) : getL nmS mid n = if n = nmS (oneS 7 7 6) then some (oneS 7 7 6) else getL nmS (bigL 100) n := get_better (big_nodup 100) get_77 ord_a n
theorem mid_77 : getL nmS mid (nmS (oneS 7 7 6)) = some (oneS 7 7 6) := by rw [mid_get, if_pos rfl]
theorem mid_names : mid.map nmS = (bigL 100).map nmS := by
  unfold mid
  rw [nm_put, get_77, if_pos]
  rfl
theorem end_mid : endL = mid := by
  unfold endL
  rw [putAll_two]
  exact putL_kept mid_77 ord_b
theorem end_changes : changes nmS ordS (bigL 100) [oneS 7 7 6, oneS 7 7 6] = [1, 2] := by
  rw [changes_two, became_better get_77 ord_a]
  exact congrArg (fun z => [1, z]) (became_kept mid_77 ord_b)
theorem end_fits : fitsF nmS chk0 (bigL 100) [oneS 7 7 6, oneS 7 7 6] = 0 := by
  have h1 : ∀ x ∈ [oneS 7 7 6, oneS 7 7 6], chk0 x = 0 := fun x hx => by
    simp only [List.mem_cons, List.not_mem_nil, or_false, or_self] at hx
    subst hx
    exact chk_one _ _ _ (by decide) (by decide) (by decide) (by decide)
  have h2 : freshN nmS (bigL 100) [oneS 7 7 6, oneS 7 7 6] = [] := by
    rw [List.eq_nil_iff_forall_not_mem]
    intro n hn
    rw [mem_fresh] at hn
    obtain ⟨h3, h4⟩ := hn
    simp only [List.map_cons, List.map_nil, List.mem_cons, List.not_mem_nil, or_false, or_self] at h3
    rw [h3, get_77] at h4
    cases h4
  rw [fits_of h1]
  unfold roomF
  rw [h2, big_len]
  rfl
theorem end_len : endL.length = 100000 := by
  rw [end_mid]
  have := congrArg List.length mid_names
  rw [List.length_map, List.length_map, big_len] at this
  exact this
theorem end_none (j i : Nat) (e : Int) (h : 100 < j ∨ 1000 < i) : getL nmS endL (nmS (oneS j i e)) = none := by
  have h1 := big_none (t := 100) (j := j) (i := i) (e := e) h
  have h2 : ¬ (getL nmS endL (nmS (oneS j i e))).isSome = true := by
    rw [← mem_nm, end_mid, mid_names, mem_nm, h1]
    simp
  cases h3 : getL nmS endL (nmS (oneS j i e)) with
  | none => rfl
  | some y => rw [h3] at h2; simp at h2
theorem end_get : getL nmS endL ((0, 7), 8) = some (oneS 7 8 5) := by
  rw [end_mid, mid_get, if_neg (by decide)]
  exact (getL_of_mem (big_nodup 100) (mem_big.2 ⟨7, 8, by decide, by decide, by decide, by decide, rfl⟩) : getL nmS (bigL 100) (nmS (oneS 7 8 5)) = some (oneS 7 8 5))
theorem end_cnt (j : Nat) : cntT (endL.map nmS) (0, (j : Int)) = if 1 ≤ j ∧ j ≤ 100 then 1000 else 0 := by rw [end_mid, mid_names, cnt_big]
theorem end_101 : getL nmS endL (nmS (oneS 101 1 5)) = none := end_none 101 1 5 (.inl (by decide))
theorem chk_101 : chk0 (oneS 101 1 5) = 0 := chk_one _ _ _ (by decide) (by decide) (by decide) (by decide)
theorem end_f : fitsF nmS chk0 endL [oneS 101 1 5] = 92 := by
  have h1 : ∀ x ∈ [oneS 101 1 5], chk0 x = 0 := fun x hx => by
    rw [List.mem_singleton] at hx
    subst hx
    exact chk_101
  have h2 : ∀ x ∈ [oneS 101 1 5], getL nmS endL (nmS x) = none := fun x hx => by
    rw [List.mem_singleton] at hx
    subst hx
    exact end_none 101 1 5 (.inl (by decide))
  have h3 : ∀ x ∈ [oneS 101 1 5], cntT (endL.map nmS) (nmS x).1 + cntT ([oneS 101 1 5].map nmS) (nmS x).1 ≤ 1000 := fun x hx => by
    rw [List.mem_singleton] at hx
    subst hx
    have h4 := end_cnt 101
    rw [if_neg (by decide)] at h4
    have h5 : cntT ([oneS 101 1 5].map nmS) (nmS (oneS 101 1 5)).1 = 1 := cnt_one _
    have h6 : cntT (endL.map nmS) (nmS (oneS 101 1 5)).1 = 0 := h4
    omega
  rw [fits_of h1, room_of (by simp) h2 h3, end_len]
  rfl
theorem end_78 : getL nmS endL (nmS (oneS 7 8 9)) = some (oneS 7 8 5) := end_get
theorem fresh_skip {L : List Sp} {x y z : Sp} (h1 : getL nmS L (nmS x) = some z) (h2 : getL nmS L (nmS y) = none) : freshN nmS L [x, y] = [nmS y] := by
  unfold freshN
  rw [List.foldl_cons, List.foldl_cons, List.foldl_nil]
  unfold freshStep
  rw [h1, h2]
  simp
theorem end_g : fitsF nmS chk0 endL [oneS 7 8 9, oneS 101 1 5] = 92 := by
  have h1 : ∀ x ∈ [oneS 7 8 9, oneS 101 1 5], chk0 x = 0 := fun x hx => by
    simp only [List.mem_cons, List.not_mem_nil, or_false] at hx
    rcases hx with rfl | rfl
    · exact chk_one _ _ _ (by decide) (by decide) (by decide) (by decide)
    · exact chk_101
  rw [fits_of h1]
  unfold roomF
  rw [fresh_skip end_78 end_101, if_neg, end_len]
  · rfl
  · rw [List.any_eq_true]
    rintro ⟨n, hn, h⟩
    rw [List.mem_singleton] at hn
    subst hn
    have h4 := end_cnt 101
    rw [if_neg (by decide)] at h4
    have h6 : cntT (endL.map nmS) (nmS (oneS 101 1 5)).1 = 0 := h4
    rw [cnt_one, h6] at h
    simp at h
theorem end_h : fitsF nmS chk0 endL [oneS 101 1 5, oneS 3 1001 5] = 91 := by
  have h1 : ∀ x ∈ [oneS 101 1 5, oneS 3 1001 5], chk0 x = 0 := fun x hx => by
    simp only [List.mem_cons, List.not_mem_nil, or_false] at hx
    rcases hx with rfl | rfl
    · exact chk_101
    · exact chk_one _ _ _ (by decide) (by decide) (by decide) (by decide)
  have h2 : ∀ x ∈ [oneS 101 1 5, oneS 3 1001 5], getL nmS endL (nmS x) = none := fun x hx => by
    simp only [List.mem_cons, List.not_mem_nil, or_false] at hx
    rcases hx with rfl | rfl
    · exact end_none 101 1 5 (.inl (by decide))
    · exact end_none 3 1001 5 (.inr (by decide))
  rw [fits_of h1]
  unfold roomF
  rw [fresh_all (by decide) h2, if_pos]
  rw [List.any_eq_true]
  refine ⟨nmS (oneS 3 1001 5), by decide, ?_⟩
  have h4 := end_cnt 3
  rw [if_pos (by decide)] at h4
  have h6 : cntT (endL.map nmS) (nmS (oneS 3 1001 5)).1 = 1000 := h4
  have h7 : cntT ([oneS 101 1 5, oneS 3 1001 5].map nmS) (nmS (oneS 3 1001 5)).1 = 1 := by decide
  rw [h6, h7]
  decide
theorem end_one : ∀ x ∈ endL, ∃ lo id en, x = oneS lo id en := fun x hx => by
  rw [end_mid] at hx
  unfold mid at hx
  rcases (mem_put (big_nodup 100)).1 hx with h3 | h3
  · obtain ⟨j, i, a, b, c, d, rfl⟩ := mem_big.1 h3.1
    exact ⟨_, _, _, rfl⟩
  · obtain ⟨h4, h5⟩ := h3
    rw [get_77] at h5
    simp only at h5
    rw [if_pos ord_a] at h5
    subst h5
    exact ⟨_, _, _, rfl⟩
theorem end_i : fitsF nmS chk0 [] [oneS 101 1 5] = 0 := by decide +kernel
theorem end_o : putAll nmS ordS [] [oneS 101 1 5] = [oneS 101 1 5] := rfl
/-- The whole of it into one that has a span. -/
theorem end_k {ys : List Sp} (hp : ys.Perm endL) : fitsF nmS chk0 [oneS 101 1 5] ys = 92 := by
  have hnm : (ys.map nmS).Perm ((bigL 100).map nmS) := by
    rw [← mid_names, ← end_mid]
    exact hp.map nmS
  have hmem : ∀ x ∈ ys, ∃ j i : Nat, 1 ≤ j ∧ j ≤ 100 ∧ 1 ≤ i ∧ i ≤ 1000 ∧ nmS x = nmS (oneS j i 5) := fun x hx => by
    have h1 := hnm.mem_iff.1 (List.mem_map.2 ⟨x, hx, rfl⟩)
    obtain ⟨y, hy, e⟩ := List.mem_map.1 h1
    obtain ⟨j, i, a, b, c, d, rfl⟩ := mem_big.1 hy
    exact ⟨j, i, a, b, c, d, e.symm⟩
  have h1 : ∀ x ∈ ys, chk0 x = 0 := fun x hx => by
    have h2 := hp.mem_iff.1 hx
    rw [end_mid] at h2
    unfold mid at h2
    rcases (mem_put (big_nodup 100)).1 h2 with h3 | h3
    · obtain ⟨j, i, a, b, c, d, rfl⟩ := mem_big.1 h3.1
      exact chk_one _ _ _ (by omega) (by omega) (by decide) (by decide)
    · obtain ⟨h4, h5⟩ := h3
      rw [get_77] at h5
      simp only at h5
      rw [if_pos ord_a] at h5
      subst h5
      exact chk_one _ _ _ (by decide) (by decide) (by decide) (by decide)
  have h2 : ∀ x ∈ ys, getL nmS [oneS 101 1 5] (nmS x) = none := fun x hx => by
    obtain ⟨j, i, a, b, c, d, e⟩ := hmem x hx
    rw [getL_none]
    intro y hy
    rw [List.mem_singleton] at hy
    subst hy
    rw [e, nm_one, nm_one]
    intro e2
    simp only [Prod.mk.injEq, true_and] at e2
    omega
  have h3 : ∀ x ∈ ys, cntT ([oneS 101 1 5].map nmS) (nmS x).1 + cntT (ys.map nmS) (nmS x).1 ≤ 1000 := fun x hx => by
    obtain ⟨j, i, a, b, c, d, e⟩ := hmem x hx
    rw [e, nm_one, cnt_perm hnm, cnt_big, if_pos ⟨a, b⟩]
    have h4 : cntT ([oneS 101 1 5].map nmS) (0, (j : Int)) = 0 := by
      unfold cntT
      rw [List.length_eq_zero_iff, List.filter_eq_nil_iff]
      intro n hn
      simp only [List.map_cons, List.map_nil, List.mem_singleton] at hn
      subst hn
      rw [nm_one, decide_eq_true_eq]
      intro e2
      simp only [Prod.mk.injEq, true_and] at e2
      omega
    show cntT ([oneS 101 1 5].map nmS) (0, (j : Int)) + 1000 ≤ 1000
    omega
  rw [fits_of h1, room_of (hnm.nodup_iff.2 (big_nodup 100)) h2 h3, hp.length_eq, end_len]
  rfl
end Go.Proofs.YthdkgilpnkabmaaDoor.Pr
/- StoreFull: the walk. -/
namespace Go.Proofs.YthdkgilpnkabmaaDoor.Pr
open Go Go.RowKit Go.Proofs.YthdkgilpnkabmaaDoorW.PrintWords Go.Proofs.YthdkgilpnkabmaaDoorW.PrintMore
open Rm Ps
set_option linter.unusedVariables false
set_option linter.unusedSimpArgs false
theorem one_M (lo id en : Int) (w : World) (base : Nat) (ok : Nat → Prop) : kSq.M w base ok (oneS lo id en) [.int .u64 0, .int .u64 lo, .int .u64 id, .int .u64 0, .slice none 0 0, .string ⟨#[115]⟩, .string ⟨#[111]⟩, .int .i64 0, .int .i64 0, .int .i64 0, .int .i64 en, .slice none 0 0, .slice none 0 0] :=
  kSq_mkM w base ok (oneS lo id en) (Kd.Zv_of_R (Kd.R_nil _ _ _ _ _)) (Kd.Zv_of_R (Kd.R_nil _ _ _ _ _)) (Kd.Zv_of_R (Kd.R_nil _ _ _ _ _))
theorem wf7 : wfI 7 := (by decide : (Lit.int .u64 7).wf = true)
theorem wf8 : wfI 8 := (by decide : (Lit.int .u64 8).wf = true)
theorem wf3 : wfI 3 := (by decide : (Lit.int .u64 3).wf = true)
theorem wf101 : wfI 101 := (by decide : (Lit.int .u64 101).wf = true)
theorem wf1001 : wfI 1001 := (by decide : (Lit.int .u64 1001).wf = true)
theorem wfN {i : Nat} (h : i ≤ 2000) : wfI (i : Int) := by
  have h1 : (0 : Int) ≤ i := by omega
  have h2 : (i : Int) ≤ 2000 := by omega
  have h3 : IntKind.min .u64 = 0 := rfl
  have h4 : IntKind.max .u64 = 18446744073709551615 := rfl
  show (decide (IntKind.min .u64 ≤ (i : Int)) && decide ((i : Int) ≤ IntKind.max .u64)) = true
  rw [h3, h4, decide_eq_true h1, decide_eq_true (by omega)]
  rfl
theorem blk_ok (t : Nat) (ht : t < 100) : ∀ x ∈ blkL (t + 1) 1000, okSp x := fun x hx => by
  obtain ⟨i, h1, h2, rfl⟩ := mem_blk.1 hx
  exact one_ok _ _ _ (wfN (by omega)) (wfN (by omega))
theorem blk_one (t : Nat) : ∀ x ∈ blkL (t + 1) 1000, ∃ lo id en, x = oneS lo id en := fun x hx => by
  obtain ⟨i, h1, h2, rfl⟩ := mem_blk.1 hx
  exact ⟨_, _, _, rfl⟩
/-- Fits, of a row of bare spans just laid. -/
theorem fits_l (w : World) (base s : Nat) (F : Nat → Prop) (L : List Sp) (B : StoreAt w base s F L) (l : List Sp) (n : Nat) (hn : l.length = n) (cs : Array Value) (hc : cs.toList = l.flatMap cs0) (h : ∀ x ∈ l, ∃ lo id en, x = oneS lo id en ∧ wfI lo ∧ wfI id) (hl : l.length ≤ 1000) :
    Calls Tryd.prog 10 #[.pointer (some ⟨s, 0, none⟩), .slice (some ⟨w.heap.size, 0, none⟩) n n] (w.alloc (.cells cs 36)) (FitsPost (w.alloc (.cells cs 36)) chk0 L l) := by
  have hB := B.below (below_alloc (Below.refl w.heap.size w) (.cells cs 36))
  subst hn
  have hst : Steady F (w.alloc (.cells cs 36)) (some ⟨w.heap.size, 0, none⟩) l := steady_block (blk_new w _) hc (fun h => by have := (B.ours _ h).2.1; omega) (by omega) (fun x hx => by
    obtain ⟨lo, id, en, rfl, _⟩ := h x hx
    exact one_bare _ _ _)
  refine fits_run _ base s F L hB _ _ l (hst.reads (Chg.refl _ _)) (fun x hx => ?_) (by omega) chk0 (one_checks _ _ (fun x hx => ?_))
  · obtain ⟨lo, id, en, rfl, h1, h2⟩ := h x hx
    exact one_ok _ _ _ h1 h2
  · obtain ⟨lo, id, en, rfl, h1, h2⟩ := h x hx
    exact ⟨_, _, _, rfl⟩
theorem fits1 (w : World) (base s : Nat) (F : Nat → Prop) (L : List Sp) (B : StoreAt w base s F L) (lo id en : Int) (h1 : wfI lo) (h2 : wfI id) :
    Calls Tryd.prog 10 #[.pointer (some ⟨s, 0, none⟩), .slice (some ⟨w.heap.size, 0, none⟩) 1 1] (w.alloc (.cells (cells1 lo id en) 36)) (FitsPost (w.alloc (.cells (cells1 lo id en) 36)) chk0 L [oneS lo id en]) :=
  fits_l w base s F L B [oneS lo id en] 1 rfl _ rfl (fun x hx => by rw [List.mem_singleton] at hx; exact ⟨lo, id, en, hx, h1, h2⟩) (by simp)
theorem fits2 (w : World) (base s : Nat) (F : Nat → Prop) (L : List Sp) (B : StoreAt w base s F L) (lo id en lo' id' en' : Int) (h1 : wfI lo) (h2 : wfI id) (h1' : wfI lo') (h2' : wfI id') :
    Calls Tryd.prog 10 #[.pointer (some ⟨s, 0, none⟩), .slice (some ⟨w.heap.size, 0, none⟩) 2 2] (w.alloc (.cells (cells2 lo id en lo' id' en') 36)) (FitsPost (w.alloc (.cells (cells2 lo id en lo' id' en') 36)) chk0 L [oneS lo id en, oneS lo' id' en']) :=
  fits_l w base s F L B [oneS lo id en, oneS lo' id' en'] 2 rfl _ rfl (fun x hx => by
    simp only [List.mem_cons, List.not_mem_nil, or_false] at hx
    rcases hx with rfl | rfl
    · exact ⟨_, _, _, rfl, h1, h2⟩
    · exact ⟨_, _, _, rfl, h1', h2'⟩) (by simp)
set_option maxHeartbeats 8000000 in
set_option maxRecDepth 100000 in
theorem full_run (w : World) : Calls Tryd.prog 4 #[] w (BPost w true) := by
  go_enter Tryd.func4, Tryd.ntmps4
  go_wp2_with fail
  refine (alive_run w).mono ?_
  rintro e v0 ⟨rfl, hb0⟩
  have HW0 := Lib.hid hb0
  clear hb0
  go_wp2_with fail
  refine (new_run v0 w.heap.size HW0.out.size).mono ?_
  rintro e v1 ⟨s, F0, rfl, hS, hb, hF⟩
  have HS1 := Lib.hid (show ∃ F, StoreAt v1 w.heap.size s F (bigL 0) from ⟨F0, hS⟩)
  have HW1 := Lib.hid (HW0.out.trans (hb.mono HW0.out.size))
  clear hS hb hF HW0
  go_wp2_with fail
  go_loopw [3] (fun v3 wr => ∃ t : Nat, v3 = .int .i64 ((t : Int) + 1) ∧ t ≤ 100 ∧ Hid (∃ F, StoreAt wr w.heap.size s F (bigL t)) ∧ Hid (Below w.heap.size w wr)) (fun v3 _ => 101 - (intOf v3).toNat)
  case atStart => exact ⟨0, rfl, by omega, HS1, HW1⟩
  case round =>
    obtain ⟨t, rfl, ht, HS, HW⟩ := hrel
    by_cases htl : t < 100
    · have hti : (t : Int) + 1 ≤ 100 := by omega
      obtain ⟨wq, hwq⟩ : ∃ wq, wr = wq := ⟨_, rfl⟩
      rw [hwq] at HS HW ⊢
      clear hwq wr
      obtain ⟨F, hF⟩ := HS.out
      have HSF := Lib.hid hF
      clear hF HS
      go_wp2_with fail
      go_loopw [4, 5] (fun v4 v5 wr => ∃ (v : Value) (i : Nat), v4 = v ∧ v5 = .int .i64 ((i : Int) + 1) ∧ i ≤ 1000 ∧ Hid (OwnS wr wq.heap.size v (blkL (t + 1) i)) ∧ Hid (Below wq.heap.size wq wr)) (fun _ v5 _ => 1001 - (intOf v5).toNat)
      case atStart => exact ⟨_, 0, rfl, rfl, by omega, Lib.hid (Kd.R_nil _ _ _ _ _), Lib.hid (Below.refl _ _)⟩
      case round =>
        obtain ⟨v, i, hv, rfl, hi, HO, HX⟩ := hrel
        have hv2 := hv.symm
        clear hv
        subst hv2
        by_cases hil : i < 1000
        · have hii : (i : Int) + 1 ≤ 1000 := by omega
          go_wp2_with fail
          refine (one_run _ _ _ wr).mono ?_
          rintro e w5 ⟨rfl, hb5⟩
          have HX5 := Lib.hid (HX.out.trans (hb5.mono HX.out.size))
          have HO5 := Lib.hid (Kd.R_below HO.out hb5 : OwnS w5 wq.heap.size v (blkL (t + 1) i))
          clear hb5
          go_wp2_with (at_builtin; go_loud (refine Kd.R_append kSq (w0 := wq) wq.heap.size rfl _ _ 25 36 _ 168 rfl Tryd.underlying25 infoSp rfl (by decide) (by decide) v (blkL (t + 1) i) (oneS ((t : Int) + 1) ((i : Int) + 1) 5) _ (fun _ => True) (fun k => some k ≠ v.ownBlock) rfl rfl (one_M _ _ _ _ _ _) (fun k h => ⟨trivial, h⟩) (fun _ _ => trivial) HO5.out HX5.out HX5.out.size (by rw [blk_len]; omega) ?_; intro v7 w7 ho hb7 hg7 hat))
          have HO7 := Lib.hid (show OwnS w7 wq.heap.size v7 (blkL (t + 1) (i + 1)) by rw [blk_succ]; exact ho)
          have HX7 := Lib.hid hb7
          clear ho hb7 hg7 hat
          go_wp2_with fail
          go_roundw
          case rel => exact ⟨v7, i + 1, rfl, by go_num, by omega, HO7, HX7⟩
          case measure => simp [intOf]; omega
        · obtain rfl : i = 1000 := by omega
          have HF := Lib.hid (show ∀ k, F k → k < wq.heap.size from fun k hk => (HSF.out.ours k hk).2.1)
          obtain ⟨A, c, hv', hst⟩ := own_steady HO.out HF.out (by rw [blk_len]; decide)
          rw [blk_len] at hv'
          subst hv'
          have HP := Lib.hid (puts_run wr w.heap.size s F (bigL t) (HSF.out.below HX.out) (Nat.le_trans HW.out.size HX.out.size) A c _ hst (blk_ok t htl) (by rw [blk_len]; decide) chk0 (one_checks _ _ (blk_one t)))
          rw [blk_len] at HP
          have HX8 := HX
          clear hst HO HX
          go_wp2_with fail
          refine HP.out.mono ?_
          rintro e w8 hP
          obtain ⟨F8, o8, rfl, _, _, hS8, hC8, _⟩ := puts_ok hP (fits_blk t htl)
          rw [put_blk] at hS8
          have HS8 := Lib.hid hS8
          have HW8 := Lib.hid ((HSF.out.below HX8.out).under (HW.out.trans (HX8.out.mono HW.out.size)) hC8)
          rw [blk_len]
          clear hP hS8 hC8 HP HX8 HSF HF HW
          go_wp2_with fail
          refine (one_run _ _ _ w8).mono ?_
          rintro e w9 ⟨rfl, hb9⟩
          have HS9 := Lib.hid (HS8.out.below hb9)
          have HW9 := Lib.hid (HW8.out.trans (hb9.mono HW8.out.size))
          clear hb9 HS8 HW8
          go_wp2_with fail
          have HA := Lib.hid (below_alloc (Below.refl w9.heap.size w9) (.cells (cells1 ((t : Int) + 1) 1001 5) 36))
          refine (put1 w9 w.heap.size s F8 (bigL (t + 1)) HS9.out HW9.out.size ((t : Int) + 1) 1001 5 (wfN (i := t + 1) (by omega)) (wfN (i := 1001) (by omega))).mono ?_
          rintro e w10 hP
          have h91 : fitsF nmS chk0 (bigL (t + 1)) [oneS ((t : Int) + 1) 1001 5] = 91 := fits_more (t + 1) (by omega)
          obtain ⟨rfl, hb⟩ := puts_no hP (by rw [h91]; decide)
          rw [h91]
          have hb := HA.out.trans (hb.mono HA.out.size)
          have HS10 := Lib.hid (HS9.out.below hb)
          have HW10 := Lib.hid (HW9.out.trans (hb.mono HW9.out.size))
          clear hP h91 hb HA HS9 HW9
          go_wp2_with fail
          refine (count_run w10 w.heap.size s F8 _ HS10.out).mono ?_
          rintro e w11 ⟨rfl, hw⟩
          subst hw
          rw [big_len]
          go_wp2_with fail
          exact ⟨⟨t + 1, by go_num, by omega, Lib.hid ⟨F8, HS10.out⟩, HW10⟩, by simp [intOf]; omega⟩
    · obtain rfl : t = 100 := by omega
      obtain ⟨F, hF⟩ := HS.out
      have HSF := Lib.hid hF
      clear hF HS
      go_wp2_with fail
      refine (one_run 7 7 6 wr).mono ?_
      rintro e v2 ⟨rfl, hb⟩
      have HS2 := Lib.hid (HSF.out.below hb)
      have HW2 := Lib.hid (HW.out.trans (hb.mono HW.out.size))
      clear hb HSF HW
      go_wp2_with fail
      refine (one_run 7 7 6 v2).mono ?_
      rintro e v3 ⟨rfl, hb⟩
      have HS3 := Lib.hid (HS2.out.below hb)
      have HW3 := Lib.hid (HW2.out.trans (hb.mono HW2.out.size))
      clear hb HS2 HW2
      go_wp2_with fail
      have HA4 := Lib.hid (below_alloc (Below.refl v3.heap.size v3) (.cells (cells2 7 7 6 7 7 6) 36))
      refine (put2 v3 w.heap.size s F (bigL 100) HS3.out HW3.out.size 7 7 6 7 7 6 wf7 wf7 wf7 wf7).mono ?_
      rintro e v4 hP
      obtain ⟨F1, o1, rfl, ho1, hc1, hS4, hC4, hF4⟩ := puts_ok hP end_fits
      rw [end_changes] at hc1
      have HS4 := Lib.hid (show StoreAt v4 w.heap.size s F1 endL from hS4)
      have HW4 := Lib.hid ((HS3.out.below HA4.out).under (HW3.out.trans (HA4.out.mono HW3.out.size)) hC4)
      have HO4 := Lib.hid (show v4.heap[o1]? = some (.cells #[.int .i64 1, .int .i64 2] 47 (0, 0)) from hc1)
      clear hP ho1 hc1 hS4 hC4 hF4 HA4 HS3 HW3
      go_wp2_with fail
      refine (one_run 101 1 5 v4).mono ?_
      rintro e v5 ⟨rfl, hb⟩
      have HS5 := Lib.hid (HS4.out.below hb)
      have HW5 := Lib.hid (HW4.out.trans (hb.mono HW4.out.size))
      have HO5 := Lib.hid (blk_below HO4.out hb)
      clear hb HS4 HW4 HO4
      go_wp2_with fail
      have HA6 := Lib.hid (below_alloc (Below.refl v5.heap.size v5) (.cells (cells1 101 1 5) 36))
      refine (fits1 v5 w.heap.size s F1 endL HS5.out 101 1 5 wf101 wf1).mono ?_
      rintro e v6 ⟨he, hb⟩
      rw [end_f] at he
      subst he
      have hb := HA6.out.trans (hb.mono HA6.out.size)
      have HS6 := Lib.hid (HS5.out.below hb)
      have HW6 := Lib.hid (HW5.out.trans (hb.mono HW5.out.size))
      have HO6 := Lib.hid (blk_below HO5.out hb)
      clear hb HS5 HW5 HO5 HA6
      go_wp2_with fail
      refine (one_run 7 8 9 v6).mono ?_
      rintro e v7 ⟨rfl, hb⟩
      have HS7 := Lib.hid (HS6.out.below hb)
      have HW7 := Lib.hid (HW6.out.trans (hb.mono HW6.out.size))
      have HO7 := Lib.hid (blk_below HO6.out hb)
      clear hb HS6 HW6 HO6
      go_wp2_with fail
      refine (one_run 101 1 5 v7).mono ?_
      rintro e v8 ⟨rfl, hb⟩
      have HS8 := Lib.hid (HS7.out.below hb)
      have HW8 := Lib.hid (HW7.out.trans (hb.mono HW7.out.size))
      have HO8 := Lib.hid (blk_below HO7.out hb)
      clear hb HS7 HW7 HO7
      go_wp2_with fail
      have HA9 := Lib.hid (below_alloc (Below.refl v8.heap.size v8) (.cells (cells2 7 8 9 101 1 5) 36))
      refine (put2 v8 w.heap.size s F1 endL HS8.out HW8.out.size 7 8 9 101 1 5 wf7 wf8 wf101 wf1).mono ?_
      rintro e v9 hP
      obtain ⟨rfl, hb⟩ := puts_no hP (by rw [end_g]; decide)
      rw [end_g]
      have hb := HA9.out.trans (hb.mono HA9.out.size)
      have HS9 := Lib.hid (HS8.out.below hb)
      have HW9 := Lib.hid (HW8.out.trans (hb.mono HW8.out.size))
      have HO9 := Lib.hid (blk_below HO8.out hb)
      clear hP hb HA9 HS8 HW8 HO8
      go_wp2_with fail
      refine (one_run 101 1 5 v9).mono ?_
      rintro e v10 ⟨rfl, hb⟩
      have HS10 := Lib.hid (HS9.out.below hb)
      have HW10 := Lib.hid (HW9.out.trans (hb.mono HW9.out.size))
      have HO10 := Lib.hid (blk_below HO9.out hb)
      clear hb HS9 HW9 HO9
      go_wp2_with fail
      refine (one_run 3 1001 5 v10).mono ?_
      rintro e v11 ⟨rfl, hb⟩
      have HS11 := Lib.hid (HS10.out.below hb)
      have HW11 := Lib.hid (HW10.out.trans (hb.mono HW10.out.size))
      have HO11 := Lib.hid (blk_below HO10.out hb)
      clear hb HS10 HW10 HO10
      go_wp2_with fail
      have HA12 := Lib.hid (below_alloc (Below.refl v11.heap.size v11) (.cells (cells2 101 1 5 3 1001 5) 36))
      refine (fits2 v11 w.heap.size s F1 endL HS11.out 101 1 5 3 1001 5 wf101 wf1 wf3 wf1001).mono ?_
      rintro e v12 ⟨he, hb⟩
      rw [end_h] at he
      subst he
      have hb := HA12.out.trans (hb.mono HA12.out.size)
      have HS12 := Lib.hid (HS11.out.below hb)
      have HW12 := Lib.hid (HW11.out.trans (hb.mono HW11.out.size))
      have HO12 := Lib.hid (blk_below HO11.out hb)
      clear hb HS11 HW11 HO11 HA12
      go_wp2_with fail
      refine (get_run v12 w.heap.size s F1 endL HS12.out 0 7 8 wf0 wf7 wf8).mono ?_
      rintro e v13 ⟨hb, hg⟩
      have hg : ∃ x v4 v11 v12', getL nmS endL ((0, 7), 8) = some x ∧ e = .returned (.tuple #[.agg (cSp x v4 v11 v12').toArray, .bool true]) ∧ kSq.M v13 v12.heap.size (fun _ => True) x (cSp x v4 v11 v12') := by
        rcases hg with ⟨h1, _⟩ | h2
        · rw [end_get] at h1; cases h1
        · exact h2
      obtain ⟨x, u4', u11', u12', hx, rfl, hM⟩ := hg
      rw [end_get] at hx
      obtain rfl := Option.some.inj hx
      obtain ⟨_, _, _, hu, z4, z11, z12⟩ := kSq_openM hM
      simp only [List.cons.injEq, and_true, true_and] at hu
      obtain ⟨rfl, rfl, rfl⟩ := hu
      obtain ⟨E4, c4, rfl, _, _⟩ := Kd.Zv_reads z4
      obtain ⟨E11, c11, rfl, _, _⟩ := Kd.Zv_reads z11
      obtain ⟨E12, c12, rfl, _, _⟩ := Kd.Zv_reads z12
      have HS13 := Lib.hid (HS12.out.below hb)
      have HW13 := Lib.hid (HW12.out.trans (hb.mono HW12.out.size))
      have HO13 := Lib.hid (blk_below HO12.out hb)
      clear hb hx hM z4 z11 z12 HS12 HW12 HO12
      simp only [oneS, cSp]
      go_wp2_with fail
      have hal := below_alloc (Below.refl v13.heap.size v13) (.cells #[.int .u64 0, .int .u64 7, .int .u64 8, .int .u64 0, .slice E4 0 c4, .string ⟨#[115]⟩, .string ⟨#[111]⟩, .int .i64 0, .int .i64 0, .int .i64 0, .int .i64 5, .slice E11 0 c11, .slice E12 0 c12] 36)
      have hx := blk_new v13 (.cells #[.int .u64 0, .int .u64 7, .int .u64 8, .int .u64 0, .slice E4 0 c4, .string ⟨#[115]⟩, .string ⟨#[111]⟩, .int .i64 0, .int .i64 0, .int .i64 0, .int .i64 5, .slice E11 0 c11, .slice E12 0 c12] 36)
      generalize v13.alloc (.cells #[.int .u64 0, .int .u64 7, .int .u64 8, .int .u64 0, .slice E4 0 c4, .string ⟨#[115]⟩, .string ⟨#[111]⟩, .int .i64 0, .int .i64 0, .int .i64 0, .int .i64 5, .slice E11 0 c11, .slice E12 0 c12] 36) = v14 at *
      have HS14 := Lib.hid (HS13.out.below hal)
      have HW14 := Lib.hid (HW13.out.trans (hal.mono HW13.out.size))
      have HO14 := Lib.hid (blk_below HO13.out hal)
      have HX14 := Lib.hid hx
      clear hal hx HS13 HW13 HO13
      refine (new_run v14 v14.heap.size (Nat.le_refl _)).mono ?_
      rintro e v15 ⟨o, G0, rfl, hS, hb, hF⟩
      have HG15 := Lib.hid hS
      have HS15 := Lib.hid (HS14.out.below hb)
      have HW15 := Lib.hid (HW14.out.trans (hb.mono HW14.out.size))
      have HN15 := Lib.hid hb.size
      have HO15 := Lib.hid (blk_below HO14.out hb)
      have HX15 := Lib.hid (blk_below HX14.out hb)
      have HF15 := Lib.hid (show ∀ k, F1 k → k < v14.heap.size from fun k hk => (HS14.out.ours k hk).2.1)
      have hzo := blk_lt HO14.out
      have hzx := blk_lt HX14.out
      have HZ := Lib.hid (And.intro hzo hzx)
      have HV := Lib.hid HW14.out.size
      clear hS hb hF HS14 HW14 HO14 HX14 hzo hzx
      go_wp2_with fail
      refine (one_run 101 1 5 v15).mono ?_
      rintro e v16 ⟨rfl, hb⟩
      have HG16 := Lib.hid (HG15.out.below hb)
      have HS16 := Lib.hid (HS15.out.below hb)
      have HW16 := Lib.hid (HW15.out.trans (hb.mono HW15.out.size))
      have HN16 := Lib.hid (Nat.le_trans HN15.out hb.size)
      have HO16 := Lib.hid (blk_below HO15.out hb)
      have HX16 := Lib.hid (blk_below HX15.out hb)
      clear hb HG15 HS15 HW15 HO15 HX15 HN15
      go_wp2_with fail
      have HA17 := Lib.hid (below_alloc (Below.refl v16.heap.size v16) (.cells (cells1 101 1 5) 36))
      refine (put1 v16 v14.heap.size o G0 [] HG16.out HN16.out 101 1 5 wf101 wf1).mono ?_
      rintro e v17 hP
      obtain ⟨G1, o17, rfl, _, _, hS17, hC17, _⟩ := puts_ok hP end_i
      have HG17 := Lib.hid (show StoreAt v17 v14.heap.size o G1 [oneS 101 1 5] from hS17)
      have HGA := Lib.hid (HG16.out.below HA17.out)
      have HS17 := Lib.hid ((HS16.out.below HA17.out).chg hC17 (fun k hk h => by have h1 := (HGA.out.ours k h).1; have h2 := HF15.out k hk; omega) (Ours.nt (fun k hk => (HGA.out.ours k hk).2.2)))
      have HN17 := Lib.hid (Nat.le_trans HN16.out (Nat.le_trans HA17.out.size hC17.size))
      have HW17 := Lib.hid ((HW16.out.trans (HA17.out.mono HW16.out.size)).trans (hC17.below (B := w.heap.size) (Nat.le_trans HW16.out.size HA17.out.size) (fun k _ hk => Nat.le_trans HV.out (HGA.out.ours k hk).1)))
      have HO17 := Lib.hid (hC17.blk (blk_below HO16.out HA17.out) (fun h => by have h1 := (HGA.out.ours _ h).1; have h2 := HZ.out.1; omega))
      have HX17 := Lib.hid (hC17.blk (blk_below HX16.out HA17.out) (fun h => by have h1 := (HGA.out.ours _ h).1; have h2 := HZ.out.2; omega))
      have HNO := Lib.hid (show ∀ k, F1 k → ¬ G1 k from fun k hk h => by have h1 := (HG17.out.ours k h).1; have h2 := HF15.out k hk; omega)
      clear hP hS17 hC17 HA17 HGA HG16 HS16 HW16 HN16 HO16 HX16
      rw [show ([oneS 101 1 5] : List Sp).length = 1 from rfl]
      go_wp2_with fail
      refine (merge_run v17 w.heap.size s F1 endL HS17.out HW17.out.size v14.heap.size o G1 [oneS 101 1 5] HG17.out chk0 (one_checks _ _ (fun x hx => by rw [List.mem_singleton] at hx; exact ⟨_, _, _, hx⟩))).mono ?_
      rintro e v18 ⟨ys, hy, _, he, hP⟩
      obtain rfl := List.perm_singleton.1 hy
      rw [end_f] at he hP
      subst he
      have hb : Below v17.heap.size v17 v18 := by
        rcases hP with ⟨_, h⟩ | ⟨h, _⟩
        · exact h
        · exact absurd h (by decide)
      have HG18 := Lib.hid (HG17.out.below hb)
      have HS18 := Lib.hid (HS17.out.below hb)
      have HW18 := Lib.hid (HW17.out.trans (hb.mono HW17.out.size))
      have HN18 := Lib.hid (Nat.le_trans HN17.out hb.size)
      have HO18 := Lib.hid (blk_below HO17.out hb)
      have HX18 := Lib.hid (blk_below HX17.out hb)
      clear hy hP hb HG17 HS17 HW17 HN17 HO17 HX17
      go_wp2_with fail
      refine (merge_run v18 v14.heap.size o G1 [oneS 101 1 5] HG18.out HN18.out w.heap.size s F1 endL HS18.out chk0 (one_checks _ _ end_one)).mono ?_
      rintro e v19 ⟨ys, hy, _, he, hP⟩
      have hk := end_k hy
      rw [hk] at he hP
      subst he
      have hb : Below v18.heap.size v18 v19 := by
        rcases hP with ⟨_, h⟩ | ⟨h, _⟩
        · exact h
        · exact absurd h (by decide)
      have HG19 := Lib.hid (HG18.out.below hb)
      have HS19 := Lib.hid (HS18.out.below hb)
      have HW19 := Lib.hid (HW18.out.trans (hb.mono HW18.out.size))
      have HO19 := Lib.hid (blk_below HO18.out hb)
      have HX19 := Lib.hid (blk_below HX18.out hb)
      clear hy hk hP hb HG18 HS18 HW18 HN18 HO18 HX18 HV HNO HF15
      have a0 := (cell_of_row _ _ 0 _ _ _ HO19.out).trans rfl
      have a1 := (cell_of_row _ _ 1 _ _ _ HO19.out).trans rfl
      have x9 := (cell_of_row _ _ 10 _ _ _ HX19.out).trans rfl
      have hzo := blk_lt HO19.out
      have hzx := blk_lt HX19.out
      go_wp2_with fail
      refine (count_run v19 w.heap.size s F1 endL HS19.out).mono ?_
      rintro e v20 ⟨rfl, hw⟩
      subst hw
      rw [end_len]
      go_wp2_with fail
      refine (count_run v20 v14.heap.size o G1 _ HG19.out).mono ?_
      rintro e v21 ⟨rfl, hw⟩
      subst hw
      rw [show ([oneS 101 1 5] : List Sp).length = 1 from rfl]
      go_wp2_with fail
      go_ret
      exact ⟨by simp, HW19.out⟩
end Go.Proofs.YthdkgilpnkabmaaDoor.Pr
