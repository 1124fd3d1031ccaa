/- Stops, each beneath the one ahead of it: what Spend, New and Under make of them. -/
import Derived.Test.YtofbnoiecpmjnaaHl
namespace Go.Proofs.Ytofbnoiecpmjnaa.Pr
open Go.RowKit Go.Proofs.YtofbnoiecpmjnaaW.PrintWords Go.Proofs.YtofbnoiecpmjnaaW.PrintLast Go.Proofs.YtofbnoiecpmjnaaW.PrintMore Go.MuLone
open Go.Lib
set_option linter.unusedVariables false
set_option linter.unusedSimpArgs false
/-- The first from one on upwards that has too little. -/
def shortAt (L : List Int) (n : Int) : Nat → Option Nat
  | 0 => none
  | k + 1 => if L.getD k 0 < n then some k else shortAt L n k
def subTo (L : List Int) (n : Int) (k : Nat) : List Int := L.mapIdx (fun i v => if i < k then v - n else v)
theorem shortAt_some {L : List Int} {n : Int} : ∀ {k j : Nat}, shortAt L n k = some j → j < k ∧ L.getD j 0 < n ∧ ∀ i, j < i → i < k → n ≤ L.getD i 0
  | 0, j, h => by cases h
  | k + 1, j, h => by
    unfold shortAt at h
    by_cases hk : L.getD k 0 < n
    · rw [if_pos hk] at h; cases h
      exact ⟨by omega, hk, fun i h1 h2 => by omega⟩
    · rw [if_neg hk] at h
      obtain ⟨h1, h2, h3⟩ := shortAt_some h
      refine ⟨by omega, h2, fun i h4 h5 => ?_⟩
      by_cases e : i = k
      · subst e; omega
      · exact h3 i h4 (by omega)
theorem shortAt_none {L : List Int} {n : Int} : ∀ {k : Nat}, shortAt L n k = none → ∀ i, i < k → n ≤ L.getD i 0
  | 0, h => fun i hi => by omega
  | k + 1, h => fun i hi => by
    unfold shortAt at h
    by_cases hk : L.getD k 0 < n
    · rw [if_pos hk] at h; cases h
    · rw [if_neg hk] at h
      by_cases e : i = k
      · subst e; omega
      · exact shortAt_none h i (by omega)
theorem subTo_len (L : List Int) (n : Int) (k : Nat) : (subTo L n k).length = L.length := by simp [subTo]
theorem subTo_get (L : List Int) (n : Int) (k i : Nat) (h : i < L.length) : (subTo L n k).getD i 0 = if i < k then L.getD i 0 - n else L.getD i 0 := by
  simp [subTo, List.getD, h]
theorem subTo_zero (L : List Int) (n : Int) : subTo L n 0 = L := by
  apply List.ext_getElem (by simp [subTo])
  intro i h1 h2
  simp [subTo]
theorem subTo_step (L : List Int) (n : Int) (k : Nat) (h : k < L.length) : (subTo L n k).set k (L.getD k 0 - n) = subTo L n (k + 1) := by
  apply List.ext_getElem (by simp [subTo])
  intro i h1 h2
  have h3 : i < L.length := by simpa [subTo] using h2
  simp only [subTo, List.getElem_set, List.getElem_mapIdx]
  by_cases e : k = i
  · subst e; simp [List.getD, h]
  · rw [if_neg e]
    by_cases h4 : i < k
    · rw [if_pos h4, if_pos (by omega)]
    · rw [if_neg h4, if_neg (by omega)]
/-- Spend of one that is cancelled. -/
theorem Inv.spend_cut {w0 W : World} {m : Nat} {st : List PL} {L : List Int} {low k : Nat} {x : PL} {n : Int} (h : Inv w0 W m st L low) (hx : st[k]? = some x) (hn : 0 ≤ n) (hl : low ≤ k) :
    Calls Try.prog 12 #[.pointer (some ⟨x.g, 0, none⟩), .int .i64 n] W fun e w' => e = .returned (.int .i64 31) ∧ w' = W := by
  have hs := (h.at_ k x hx).1
  have hw : (srAt st L low k x).why = 31 := if_neg (by omega)
  have := spend_done m n x.g (srAt st L low k x) W hn h.mu hs (by rw [hw]; decide)
  rw [hw] at this
  exact this
def SpentPost (w0 : World) (m : Nat) (st : List PL) (L : List Int) (low : Nat) (ev : Int) (W : World) (e : Ending) (w' : World) : Prop :=
  e = .returned (.int .i64 ev) ∧ Inv w0 w' m st L low ∧ RowsKept W w' ∧ w'.heap.size = W.heap.size
theorem is_row_ne {W : World} {k g m : Nat} {s : SR} {cells : Array Value} {t : Nat} (h : W.heap[k]? = some (.cells cells t (0, 0))) (ht : t ≠ 70) (hs : IsStop W m g s) : k ≠ g := by
  rintro rfl
  unfold IsStop at hs; rw [h] at hs; cases hs; exact ht rfl
theorem is_row_ne_ch {W : World} {k c : Nat} {b : Bool} {cells : Array Value} {t : Nat} (h : W.heap[k]? = some (.cells cells t (0, 0))) (hs : IsCh W c b) : k ≠ c := by
  rintro rfl
  unfold IsCh chObj at hs; rw [h] at hs; cases hs
theorem is_row_ne_mu {W : World} {k m : Nat} {cells : Array Value} {t : Nat} (h : W.heap[k]? = some (.cells cells t (0, 0))) (ht : t ≠ 66) (hs : IsMu W m) : k ≠ m := by
  rintro rfl
  unfold IsMu at hs; rw [h] at hs; cases hs; exact ht rfl
theorem ch_ne_mu {W : World} {c m : Nat} {b : Bool} (h : IsCh W c b) (hm : IsMu W m) : c ≠ m := by
  rintro rfl
  unfold IsCh chObj at h; unfold IsMu at hm; rw [h] at hm; cases hm
/-- Spend where all on the way have enough. -/
theorem Inv.spend_ok {w0 W : World} {m : Nat} {st : List PL} {L : List Int} {low k : Nat} {x : PL} {n : Int} (h : Inv w0 W m st L low) (hx : st[k]? = some x) (hn : 0 ≤ n) (hk : k < low) (hll : L.length = st.length) (hLr : ∀ v ∈ L, v ≤ 9223372036854775807) (hs : shortAt L n (k + 1) = none) :
    Calls Try.prog 12 #[.pointer (some ⟨x.g, 0, none⟩), .int .i64 n] W fun e w' => SpentPost w0 m st (subTo L n (k + 1)) low 0 W e w' := by
  have hkl : k < st.length := (List.getElem?_eq_some_iff.1 hx).1
  have hc := h.chain (k + 1) (by omega)
  rw [chainL_succ hx] at hc
  have hen := shortAt_none hs
  have hmem : ∀ y ∈ (x.g, srAt st L low k x) :: chainL st L low k, ∃ i z, i < k + 1 ∧ st[i]? = some z ∧ y = (z.g, srAt st L low i z) := fun y hy => by
    rw [← chainL_succ hx] at hy; exact mem_chainL hy
  refine (Pr.spend_ok w0 m n x.g (srAt st L low k x) (chainL st L low k) W hn h.mu hc (if_pos hk) ?_ h.below h.mb ?_).mono ?_
  · intro y hy _
    obtain ⟨i, z, h1, h2, rfl⟩ := hmem y hy
    refine ⟨hen i h1, hLr _ ?_⟩
    have hi : i < L.length := by have := (List.getElem?_eq_some_iff.1 h2).1; omega
    show L.getD i 0 ∈ L
    simp only [List.getD, List.getElem?_eq_getElem hi, Option.getD_some]
    exact List.getElem_mem hi
  · intro y hy
    obtain ⟨i, z, h1, h2, rfl⟩ := hmem y hy
    exact (h.at_ i z h2).2.2.1
  · rintro e w' ⟨rfl, h1, h2, h3, h4, h5⟩
    have hfar : ∀ q, q ≠ m → (∀ i z, i < k + 1 → st[i]? = some z → q ≠ z.g) → w'.heap[q]? = W.heap[q]? := fun q hq hz => h3 q hq (fun y hy => by
      obtain ⟨i, z, h6, h7, rfl⟩ := hmem y hy
      exact hz i z h6 h7)
    have hkept : RowsKept W w' := fun q cells t hq ht hu => hfar q (is_row_ne_mu hq hu h.mu) (fun i z _ hz => is_row_ne hq ht (h.at_ i z hz).1)
    refine ⟨rfl, ⟨h1, h.mb, h5, fun i y hy => ?_, h.apart⟩, hkept, h4⟩
    obtain ⟨p1, p2, p3, p4, p5⟩ := h.at_ i y hy
    have hil : i < L.length := by have := (List.getElem?_eq_some_iff.1 hy).1; omega
    refine ⟨?_, ?_, p3, p4, p5.kept hkept⟩
    · by_cases hi : i < k + 1
      · have hin : (y.g, srAt st L low i y) ∈ (x.g, srAt st L low k x) :: chainL st L low k := by
          rw [← chainL_succ hx]
          clear hc hmem hen h2 h3 hfar hkept
          generalize k + 1 = q at hi
          have hq : ∀ q, i < q → (y.g, srAt st L low i y) ∈ chainL st L low q := by
            intro q
            induction q with
            | zero => intro h; omega
            | succ q ih =>
              intro hi
              by_cases e : i = q
              · subst e; rw [chainL_succ hy]; exact List.mem_cons_self
              · unfold chainL
                split
                · exact List.mem_cons_of_mem _ (ih (by omega))
                · exact ih (by omega)
          exact hq q hi
        have := h2 _ hin
        have e : spent n (srAt st L low i y) = srAt st (subTo L n (k + 1)) low i y := by
          show ({ srAt st L low i y with left := L.getD i 0 - n } : SR) = _
          simp only [srAt, subTo_get L n (k + 1) i hil, if_pos hi]
        rw [← e]; exact this
      · have e : srAt st (subTo L n (k + 1)) low i y = srAt st L low i y := by
          simp only [srAt, subTo_get L n (k + 1) i hil, if_neg hi]
        rw [e]
        refine (hfar y.g (ne_mu p1 h.mu) (fun j z hj hz => ?_)).trans p1
        have := (h.apart j i z y (by omega) hz hy).1
        omega
    · exact (hfar y.c (ch_ne_mu p2 h.mu) (fun j z hj hz => Ne.symm (stop_ne_ch (h.at_ j z hz).1 p2))).trans p2
/-- Spend where one on the way has too little: it and all beneath it are cancelled. -/
theorem Inv.spend_short {w0 W : World} {m : Nat} {st : List PL} {L : List Int} {low k j : Nat} {x : PL} {n : Int} (h : Inv w0 W m st L low) (hx : st[k]? = some x) (hn : 0 ≤ n) (hk : k < low) (hlow : low ≤ st.length) (hll : L.length = st.length) (hLr : ∀ v ∈ L, v ≤ 9223372036854775807) (hs : shortAt L n (k + 1) = some j) :
    Calls Try.prog 12 #[.pointer (some ⟨x.g, 0, none⟩), .int .i64 n] W fun e w' => SpentPost w0 m st L j 31 W e w' := by
  have hkl : k < st.length := (List.getElem?_eq_some_iff.1 hx).1
  obtain ⟨hjk, hjn, hje⟩ := shortAt_some hs
  have hc := h.chain (k + 1) (by omega)
  rw [chainL_succ hx] at hc
  obtain ⟨z, hz⟩ : ∃ z, st[j]? = some z := ⟨st[j]'(by omega), by simp⟩
  obtain ⟨pre, hp1, hp2⟩ := chainL_split (L := L) (low := low) hz (k - j) (by omega)
  rw [show j + (k - j) = k from by omega] at hp1 hp2
  rw [chainL_succ hx] at hp1
  have hd := h.down hlow (low - j) j (by omega)
  obtain ⟨d, hdd⟩ : ∃ d, low - j = d + 1 := ⟨low - j - 1, by omega⟩
  rw [hdd, downL_succ hz] at hd
  have hdm : ∀ y ∈ (z.g, srAt st L low j z) :: downL st L low d (j + 1), ∃ i u, j ≤ i ∧ i < low ∧ st[i]? = some u ∧ y = (u.g, srAt st L low i u) := fun y hy => by
    rw [← downL_succ hz] at hy
    obtain ⟨i, u, h1, h2, h3⟩ := mem_downL hy
    exact ⟨i, u, h1, by omega, h3⟩
  refine (Pr.spend_short w0 m n x.g (srAt st L low k x) (chainL st L low k) pre (chainL st L low j) (z.g, srAt st L low j z) (downL st L low d (j + 1)) W hn h.mu hc (if_pos hk) hp1 ?_ rfl hjn hd h.below h.mb).mono ?_
  · intro y hy _
    obtain ⟨i, u, h1, h2, h3, rfl⟩ := hp2 y hy
    refine ⟨hje i h1 (by omega), hLr _ ?_⟩
    have hi : i < L.length := by have := (List.getElem?_eq_some_iff.1 h3).1; omega
    show L.getD i 0 ∈ L
    simp only [List.getD, List.getElem?_eq_getElem hi, Option.getD_some]
    exact List.getElem_mem hi
  · rintro e w' ⟨rfl, h1, h2, h3, h4, h5⟩
    have hfar : ∀ q, q ≠ m → (∀ i u, j ≤ i → i < low → st[i]? = some u → q ≠ u.g ∧ q ≠ u.c) → w'.heap[q]? = W.heap[q]? := fun q hq hu => h4 q hq (fun y hy => by
      obtain ⟨i, u, h6, h7, h8, rfl⟩ := hdm y hy
      exact hu i u h6 h7 h8)
    have hkept : RowsKept W w' := fun q cells t hq ht hu => hfar q (is_row_ne_mu hq hu h.mu) (fun i u _ _ hv => ⟨is_row_ne hq ht (h.at_ i u hv).1, is_row_ne_ch hq (h.at_ i u hv).2.1⟩)
    refine ⟨rfl, ⟨h1, h.mb, h3, fun i y hy => ?_, h.apart⟩, hkept, h5⟩
    obtain ⟨p1, p2, p3, p4, p5⟩ := h.at_ i y hy
    have hil : i < st.length := (List.getElem?_eq_some_iff.1 hy).1
    by_cases hi : j ≤ i ∧ i < low
    · have hin := in_downL (L := L) (low := low) (d := d + 1) hi.1 (by omega) (by omega) hy
      rw [downL_succ hz] at hin
      obtain ⟨q1, q2⟩ := h2 _ hin
      refine ⟨?_, ?_, p3, p4, p5.kept hkept⟩
      · have e : cutSR (srAt st L low i y) 31 = srAt st L j i y := by
          simp only [cutSR, srAt, if_neg (show ¬ i < j from by omega)]
        rw [← e]; exact q1
      · rw [decide_eq_true hi.1]; exact q2
    · have hout : ∀ i' u, j ≤ i' → i' < low → st[i']? = some u → i' ≠ i := fun i' u a b c e => hi ⟨by omega, by omega⟩
      refine ⟨?_, ?_, p3, p4, p5.kept hkept⟩
      · have e : srAt st L j i y = srAt st L low i y := by
          simp only [srAt]
          have : (if i < j then (0 : Int) else 31) = if i < low then 0 else 31 := by
            by_cases a : i < j
            · rw [if_pos a, if_pos (by omega)]
            · rw [if_neg a, if_neg (by omega)]
          rw [this]
        rw [e]
        refine (hfar y.g (ne_mu p1 h.mu) (fun i' u a b c => ⟨?_, stop_ne_ch p1 (h.at_ i' u c).2.1⟩)).trans p1
        have hne := hout i' u a b c
        by_cases hlt : i' < i
        · have := (h.apart i' i u y hlt c hy).1; omega
        · have := (h.apart i i' y u (by omega) hy c).1; omega
      · have e : decide (j ≤ i) = decide (low ≤ i) := by
          by_cases a : low ≤ i
          · rw [decide_eq_true a, decide_eq_true (by omega)]
          · rw [decide_eq_false a, decide_eq_false (by omega)]
        rw [e]
        refine (hfar y.c (ch_ne_mu p2 h.mu) (fun i' u a b c => ⟨Ne.symm (stop_ne_ch (h.at_ i' u c).1 p2), ?_⟩)).trans p2
        have hne := hout i' u a b c
        by_cases hlt : i' < i
        · exact Ne.symm (h.apart i' i u y hlt c hy).2
        · exact (h.apart i i' y u (by omega) hy c).2
end Go.Proofs.Ytofbnoiecpmjnaa.Pr
