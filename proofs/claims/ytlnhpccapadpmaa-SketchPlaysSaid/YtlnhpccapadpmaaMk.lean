/- Both tell the same, of any two lists of bars and any three numbers. -/
import Derived.Test.YtlnhpccapadpmaaMh
import Derived.Test.YtlnhpccapadpmaaXPy
namespace Go.Proofs.Ytlnhpccapadpmaa.Pure
set_option linter.unusedVariables false
set_option linter.unusedSimpArgs false
open Go.RowKit Go.Proofs.Ytlnhpccapadpmaa.Pr Go.Proofs.YtlnhpccapadpmaaW.PrintWords Go.Proofs.YtlnhpccapadpmaaW.PrintLast Go.Proofs.YtlnhpccapadpmaaW.PrintMore

theorem lift_on {α : Type} {g : Nat → Option α} (hm : ∀ k, LeO (g k) (g (k + 1))) {a : Nat} {r : α} (h : g a = some r) : ∀ m, g (a + m) = some r
  | 0 => h
  | m + 1 => hm _ _ (lift_on hm h m)
theorem gd_W {X : List S61} (h : Gd X) : ∀ b ∈ X, W b.f1 := fun b hb => (h.2 b hb).2
theorem gd_okB {X : List S61} (h : Gd X) : X.all okB = true := by
  rw [List.all_eq_true]
  intro b hb
  simp only [okB, Bool.and_eq_true, decide_eq_true_eq]
  exact gd_W h b hb
theorem gd_short {X : List S61} (h : Gd X) : short X = true := by
  have := h.1
  simp only [short, decide_eq_true_eq]; omega
theorem gd_row {X : List S61} (h : Gd X) (hk : barsOK (-1) X = true) : ∃ r, Row r ∧ bars r = X := bars_onto X hk (gd_okB h)
theorem inW_of {n : Int} (h : W n) : inW n = true := by
  simp only [inW, Bool.and_eq_true, decide_eq_true_eq]; exact h
theorem put_zero {r : List Int} (hr : Row r) (i : Int) : putRow r i 0 = r := by
  have hl := hr.1
  unfold putRow
  apply List.ext_getElem
  · rw [List.length_set]
  · intro j h1 h2
    rw [List.getElem_set]
    by_cases c : i.toNat = j
    · rw [if_pos c, c]
      have : r.getD j 0 = r[j] := by simp [List.getD, h2]
      rw [this, satAdd_zero (hr.2 _ (List.getElem_mem _))]
    · rw [if_neg c]
theorem zip_sub_W {r s : List Int} (hr : Row r) (hs : Row s) (h : (List.zipWith (fun a b => decide (b ≤ a)) r s).all id = true) : Row (List.zipWith (· - ·) r s) := by
  refine ⟨by rw [List.length_zipWith, hr.1, hs.1]; rfl, fun x hx => ?_⟩
  obtain ⟨i, hi, rfl⟩ := List.mem_iff_getElem.1 hx
  simp only [List.length_zipWith] at hi
  rw [List.getElem_zipWith]
  have h1 := hr.2 r[i] (List.getElem_mem _)
  have h2 := hs.2 s[i] (List.getElem_mem _)
  rw [List.all_eq_true] at h
  have h3 := h (decide (s[i] ≤ r[i])) (List.mem_iff_getElem.2 ⟨i, by simp only [List.length_zipWith]; omega, by rw [List.getElem_zipWith]⟩)
  simp at h3
  obtain ⟨a1, a2⟩ := h1; obtain ⟨b1, b2⟩ := h2
  exact ⟨by omega, by omega⟩
theorem same_add {X : List S61} (hX : Gd X) {V N : Int} (hV : W V) (hN : W N) : ∃ r e k, sketch_Add.f X V N = some (r, e) ∧ spoorref13_Add.f k X V N = some (r, e) ∧ r.length ≤ 1920 := by
  have hV2 : V ≤ 18446744073709551615 := hV.2
  have hb := (add_bars Row.zero hV W0).2
  obtain ⟨kI, hI⟩ := rindex_eq V hV.1 hV2
  have hI' := lift_on (spoorref13_Index.mono V) hI
  cases hk : barsOK (-1) X with
  | true =>
    obtain ⟨r, hr, rfl⟩ := gd_row hX hk
    have ha := add_bars hr hV hN
    by_cases c : N = 0
    · subst c
      obtain ⟨k, hm⟩ := rmerge_bars hr Row.zero
      have hm0 := hm 0
      rw [bars_zrow, zip_none hr] at hm0
      refine ⟨_, _, k + 0, ha.1, ?_, ?_⟩
      · unfold spoorref13_Add.f
        rw [if_pos rfl, hm0, put_zero hr]; rfl
      · rw [put_zero hr]; exact bars_len r hr
    · obtain ⟨h1, h2⟩ := one_row hb hN c
      obtain ⟨k, hm⟩ := rmerge_bars hr h1
      refine ⟨_, _, k + kI, ha.1, ?_, bars_len _ (hr.put hb hN)⟩
      have hmk := hm kI
      rw [h2, zip_one hr _ _ (by omega)] at hmk
      unfold spoorref13_Add.f
      rw [if_neg c, Nat.add_comm k kI, hI' k, Option.bind_some, Nat.add_comm kI k, hmk]; rfl
  | false =>
    refine ⟨[], 131, kI + X.length + 2 + 1, ?_, ?_, by simp⟩
    · unfold sketch_Add.f
      rw [if_pos (by simp only [Bool.and_eq_true]; exact ⟨⟨gd_short hX, gd_okB hX⟩, inW_of hN⟩), index_eq 0 V hV.1 hV2, Option.bind_some, if_pos (by simp only [Bool.and_eq_true, decide_eq_true_eq]; exact hb), hk]
      rfl
    · unfold spoorref13_Add.f
      have hkI : kI ≤ kI := Nat.le_refl _
      by_cases c : N = 0
      · rw [if_pos c, rmerge_bad _ X [] (by omega) (by simp) ⟨by have := hX.1; omega, by simp⟩ (.inl hk)]; rfl
      · rw [if_neg c, show kI + X.length + 2 + 1 = kI + (X.length + 3) by omega, hI', Option.bind_some, show kI + (X.length + 3) = kI + X.length + 2 + 1 by omega, rmerge_bad _ X _ (by omega) (by simp) ⟨by have := hX.1; omega, by simp⟩ (.inl hk)]; rfl
theorem same_merge {X Y : List S61} (hX : Gd X) (hY : Gd Y) : ∃ r e k, sketch_Merge.f X Y = some (r, e) ∧ spoorref13_Merge.f k X Y = some (r, e) ∧ r.length ≤ 1920 := by
  by_cases hk : barsOK (-1) X = true ∧ barsOK (-1) Y = true
  · obtain ⟨r, hr, rfl⟩ := gd_row hX hk.1
    obtain ⟨s, hs, rfl⟩ := gd_row hY hk.2
    obtain ⟨k, hm⟩ := rmerge_bars hr hs
    exact ⟨_, _, k + 0, merge_bars hr hs, hm 0, bars_len _ (hr.zip hs)⟩
  · have hor : barsOK (-1) X = false ∨ barsOK (-1) Y = false := by
      rcases Bool.eq_false_or_eq_true (barsOK (-1) X) with h | h
      · rcases Bool.eq_false_or_eq_true (barsOK (-1) Y) with h' | h'
        · exact absurd ⟨h, h'⟩ hk
        · exact .inr h'
      · exact .inl h
    refine ⟨[], 131, X.length + Y.length + 1, ?_, rmerge_bad _ X Y (by omega) (by omega) ⟨by have := hX.1; omega, by have := hY.1; omega⟩ hor, by simp⟩
    unfold sketch_Merge.f
    rw [if_pos (by simp only [Bool.and_eq_true]; exact ⟨⟨⟨gd_short hX, gd_short hY⟩, gd_okB hX⟩, gd_okB hY⟩)]
    rcases hor with h | h
    · rw [if_neg (by rw [h]; simp)]
    · rw [h]; simp
theorem same_less {X Y : List S61} (hX : Gd X) (hY : Gd Y) : ∃ r e k, sketch_Less.f X Y = some (r, e) ∧ spoorref13_Less.f k X Y = some (r, e) ∧ r.length ≤ 1920 := by
  by_cases hk : barsOK (-1) X = true ∧ barsOK (-1) Y = true
  · obtain ⟨r, hr, rfl⟩ := gd_row hX hk.1
    obtain ⟨s, hs, rfl⟩ := gd_row hY hk.2
    obtain ⟨k, hm⟩ := rless_bars hr hs
    have hl := less_bars hr hs
    by_cases c : (List.zipWith (fun a b => decide (b ≤ a)) r s).all id = true
    · rw [if_pos c] at hl hm
      exact ⟨_, _, k, hl, hm, bars_len _ (zip_sub_W hr hs c)⟩
    · rw [if_neg c] at hl hm
      exact ⟨_, _, k, hl, hm, by simp⟩
  · have hor : barsOK (-1) X = false ∨ barsOK (-1) Y = false := by
      rcases Bool.eq_false_or_eq_true (barsOK (-1) X) with h | h
      · rcases Bool.eq_false_or_eq_true (barsOK (-1) Y) with h' | h'
        · exact absurd ⟨h, h'⟩ hk
        · exact .inr h'
      · exact .inl h
    refine ⟨[], 131, X.length + Y.length + 1, ?_, rless_bad _ X Y (by omega) (by omega) ⟨by have := hX.1; omega, by have := hY.1; omega⟩ hor, by simp⟩
    unfold sketch_Less.f
    rw [if_pos (by simp only [Bool.and_eq_true]; exact ⟨⟨⟨gd_short hX, gd_short hY⟩, gd_okB hX⟩, gd_okB hY⟩)]
    rcases hor with h | h
    · rw [if_neg (by rw [h]; simp)]
    · rw [h]; simp
theorem scheck_eq {X : List S61} (hX : Gd X) : sketch_Check.f X = some (if barsOK (-1) X = true then 0 else 131) := by
  unfold sketch_Check.f; rw [if_pos (gd_short hX)]
theorem gcheck_eq {X : List S61} (hX : Gd X) : spoorref13_Check.f (X.length + 1) X = some (if barsOK (-1) X = true then 0 else 131) := rcheck_eq X (by have := hX.1; omega) _ (by omega)
theorem same_count {X : List S61} (hX : Gd X) : ∃ h l e k1 k2, sketch_Count.f k1 X = some (h, l, e) ∧ spoorref13_Count.f k2 X = some (h, l, e) := by
  cases hk : barsOK (-1) X with
  | true =>
    obtain ⟨r, hr, rfl⟩ := gd_row hX hk
    have hl := bars_len r hr
    refine ⟨tot (bars r) / 18446744073709551616, tot (bars r) % 18446744073709551616, 0, 2000, 2000, ?_, ?_⟩
    · unfold sketch_Count.f
      rw [scheck_eq hX, hk, if_pos rfl, Option.bind_some, if_pos rfl, sum_eq2 _ (gd_W hX) hl 2000 (by omega)]; rfl
    · unfold spoorref13_Count.f
      rw [rcheck_eq _ (by omega) 2000 (by omega), hk, if_pos rfl, Option.bind_some, if_pos rfl, rcount_eq _ (gd_W hX) hl _ (Nat.le_refl _), upTo_all]; rfl
  | false =>
    refine ⟨0, 0, 131, 1, X.length + 1, ?_, ?_⟩
    · unfold sketch_Count.f
      rw [scheck_eq hX, hk]; rfl
    · unfold spoorref13_Count.f
      rw [gcheck_eq hX, hk]; rfl
theorem same_quant {X : List S61} (hX : Gd X) {V N : Int} (hV : W V) (hN : W N) : ∃ u v f k, sketch_Quantile.f k X V N = some (u, v, f) ∧ ∀ (W : World) (A : Option Addr) (c : Nat), Kd.C k61 W A X.length X → X.length ≤ c → Calls Try.prog 43 #[.slice A X.length c, .int .u64 V, .int .u64 N] W (QPost W u v f) := by
  cases hk : barsOK (-1) X with
  | false =>
    refine ⟨0, 0, 131, 1, ?_, fun W A c hr hc => quant_no A c X V N W hr hc (X.length + 1) 131 (by decide) (by rw [gcheck_eq hX, hk]; rfl)⟩
    unfold sketch_Quantile.f
    rw [scheck_eq hX, hk]; rfl
  | true =>
    have hsc := scheck_eq hX
    have hrc := gcheck_eq hX
    rw [hk, if_pos rfl] at hsc hrc
    by_cases he : X.length = 0
    · obtain rfl : X = [] := List.eq_nil_of_length_eq_zero he
      exact ⟨0, 0, 132, 1, rfl, fun W A c hr hc => quant_none A c V N W hr⟩
    · have hV0 : 0 ≤ V := hV.1
      have hN0 : 0 ≤ N := hN.1
      by_cases hd : (N = 0 ∨ 1000000 < N) ∨ N < V
      · refine ⟨0, 0, 133, 1, ?_, fun W A c hr hc => quant_ratio A c X V N W hr hc (by have := hX.1; omega) _ hrc (by omega) hd⟩
        unfold sketch_Quantile.f
        rw [hsc, Option.bind_some, if_pos rfl, if_neg (by omega)]
        by_cases c0 : N = 0
        · rw [if_pos c0]
        rw [if_neg c0]
        by_cases c1 : N > 1000000
        · rw [if_pos c1]
        rw [if_neg c1, if_pos (by omega)]
      · obtain ⟨r, hr, rfl⟩ := gd_row hX hk
        have hl := bars_len r hr
        have hw := gd_W hX
        have hpos : ∀ b ∈ bars r, 1 ≤ b.f1 := fun b hb => by have := from_pos r 0 b hb; omega
        have hall := upTo_range (bars r) hw hl
        have htot := hall (bars r).length
        have hone : ∀ j, j < (bars r).length → 1 ≤ upTo (bars r) (j + 1) := fun j hj => by
          rw [upTo_succ _ j hj, rd_at _ j hj]
          have := (hall j).1
          have := hpos _ (List.getElem_mem hj)
          omega
        have ht1 : 1 ≤ tot (bars r) := by
          rw [← upTo_all]
          have := hone ((bars r).length - 1) (by omega)
          rwa [show (bars r).length - 1 + 1 = (bars r).length by omega] at this
        rw [upTo_all] at htot
        obtain ⟨rk1, rk2⟩ := rk_bounds (tot (bars r)) V N ht1 hV0 (by omega) (by omega)
        rcases first_at (upTo (bars r)) (rk (tot (bars r)) V N) (bars r).length with ⟨m, m1, m2, m3⟩ | hno
        · obtain ⟨u, v, f, hsp, ks, hsr⟩ := span_both (rd_T61 (bars r) (m : Int)).f0 (by rw [rd_at _ m m1]; exact (hX.2 _ (List.getElem_mem m1)).1.1) (by rw [rd_at _ m m1]; exact (hX.2 _ (List.getElem_mem m1)).1.2)
          refine ⟨u, v, f, 40 + 3000, ?_, fun W A c hrr hc => ?_⟩
          · unfold sketch_Quantile.f
            rw [hsc, Option.bind_some, if_pos rfl, if_neg (by omega), if_neg (by omega), if_neg (by omega), if_neg (by omega), sum_eq2 _ hw hl _ (by omega), Option.bind_some, rank_any 3000 _ V N htot.1 htot.2 hV0 (by omega) (by omega) (by omega), Option.bind_some]
            exact quant_at (bars r) hw hl _ m m1 m2 m3 (by omega) (u, v, f) hsp m (40 + 3000) 0 (by omega) (by omega) (by omega)
          · refine quant_ok A c (bars r) V N W hrr hc hl _ hrc (by omega) (by omega) hV0 (by omega) (fun i => (upTo (bars r) i / 18446744073709551616, upTo (bars r) i % 18446744073709551616)) (fun i hi => ⟨2000, rcount_eq _ hw hl i hi⟩) (fun i => ?_) (fun i => ?_) m m1 ?_ (fun i hi => ?_) u v f ks hsr
            · have := hall i; dsimp only; omega
            · dsimp only; omega
            · dsimp only
              rw [lt_times _ _ _ _ (hall _).1 (hall _).2 (hall _).1 (hall _).2 (by omega) (by omega), upTo_all]
              refine decide_eq_false (fun hc => ?_)
              have := (rk_iff (tot (bars r)) V N (upTo (bars r) (m + 1)) htot.1 hV0 (by omega) (hone m m1)).2 hc
              omega
            · dsimp only
              rw [lt_times _ _ _ _ (hall _).1 (hall _).2 (hall _).1 (hall _).2 (by omega) (by omega), upTo_all]
              exact decide_eq_true ((rk_iff (tot (bars r)) V N (upTo (bars r) (i + 1)) htot.1 hV0 (by omega) (hone i (by omega))).1 (m2 i hi))
        · exfalso
          have := hno ((bars r).length - 1) (by omega)
          rw [show (bars r).length - 1 + 1 = (bars r).length by omega, upTo_all] at this
          omega
/-- Both tell the same. -/
theorem same_all {X Y : List S61} {I V N : Int} (hX : Gd X) (hY : Gd Y) (hI : -9223372036854775808 ≤ I ∧ I ≤ 9223372036854775807) (hV : W V) (hN : W N) : Same X Y I V N where
  index := by
    obtain ⟨k, h⟩ := rindex_eq V hV.1 hV.2
    exact ⟨_, 0 + 1, k, index_eq 0 V hV.1 hV.2, h⟩
  span := by
    obtain ⟨u, v, f, h1, k2, h2⟩ := span_both I hI.1 hI.2
    exact ⟨u, v, f, 0 + 1, k2, h1 0, h2⟩
  check := ⟨_, _, scheck_eq hX, gcheck_eq hX⟩
  add := same_add hX hV hN
  merge := same_merge hX hY
  less := same_less hX hY
  count := same_count hX
  quant := same_quant hX hV hN
theorem awake_yes : spoorlaw13_awake.f 10 = some true := by kernel_rfl
end Go.Proofs.Ytlnhpccapadpmaa.Pure
