/- Stops, each beneath the one ahead of it: what New and Under make of them. -/
import Derived.Test.YtofbnoiecpmjnaaHm
namespace Go.Proofs.Ytofbnoiecpmjnaa.Pr
open Go.RowKit Go.Proofs.YtofbnoiecpmjnaaW.PrintWords Go.Proofs.YtofbnoiecpmjnaaW.PrintLast Go.Proofs.YtofbnoiecpmjnaaW.PrintMore Go.MuLone
open Go.Lib
set_option linter.unusedVariables false
set_option linter.unusedSimpArgs false
theorem rowOne_of {w : World} {base : Nat} {v : Value} {g : Nat} (h : Kd.R kP 25 w base (fun _ => True) v [g]) : RowOne w v g := by
  obtain ⟨ad, cap, rfl, _, _, cells, hc⟩ := Kd.R_form h (by simp)
  obtain ⟨_, _, _, _, hr⟩ := Kd.R_reads' h
  obtain ⟨a, ha, hr⟩ := hr (by simp)
  cases ha
  obtain ⟨c, hl, hk, hcc⟩ := hr 0 g rfl
  have hk' : c = [encP g] := hk
  subst hk'
  have := hcc 0 (encP g) rfl
  refine ⟨ad, cap, cells, rfl, hc, ?_⟩
  rw [← blk_cell hc 0]
  have this' : w.cell? ⟨ad, 0, none⟩ = some (encP g) := by simpa [Addr.add] using this
  exact this'
theorem new_keeps (n : Int) (W : World) {k : Nat} (hk : k < W.heap.size) : (((W.alloc muObj).alloc (chObj false)).alloc (.cells ((newSR n (W.heap.size + 1)).cells W.heap.size) 70)).heap[k]? = W.heap[k]? := by
  rw [heap_alloc_lt _ _ (by simp; omega), heap_alloc_lt _ _ (by simp; omega), heap_alloc_lt _ _ hk]
theorem new_below {w0 : World} (n : Int) (W : World) (hB : Below w0.heap.size w0 W) : Below w0.heap.size w0 (((W.alloc muObj).alloc (chObj false)).alloc (.cells ((newSR n (W.heap.size + 1)).cells W.heap.size) 70)) :=
  below_alloc (below_alloc (below_alloc hB _) _) _
theorem new_ch (n : Int) (W : World) : IsCh (((W.alloc muObj).alloc (chObj false)).alloc (.cells ((newSR n (W.heap.size + 1)).cells W.heap.size) 70)) (W.heap.size + 1) false := by
  unfold IsCh
  rw [heap_alloc_lt _ _ (by simp)]
  have := heap_alloc_new (W.alloc muObj) (chObj false)
  simpa using this
theorem newSR_eq (n : Int) (c : Nat) (h : 1 ≤ n) : newSR n c = { above := none, und := .slice none 0 0, bud := true, left := n, why := 0, chn := c } := by
  unfold newSR; rw [decide_eq_true (show n > 0 by omega)]
theorem Inv.first {w0 : World} (n : Int) (W : World) (hn : 1 ≤ n) (hB : Below w0.heap.size w0 W) :
    Inv w0 (((W.alloc muObj).alloc (chObj false)).alloc (.cells ((newSR n (W.heap.size + 1)).cells W.heap.size) 70)) W.heap.size [⟨W.heap.size + 2, W.heap.size + 1, .slice none 0 0⟩] [n] 1 := by
  have hz := hB.size
  refine ⟨made_mu n W, hz, new_below n W hB, fun i x hx => ?_, fun i j x y h1 h2 h3 => ?_⟩
  · cases i with
    | succ i => simp at hx
    | zero =>
      simp at hx
      subst hx
      refine ⟨?_, new_ch n W, by show w0.heap.size ≤ W.heap.size + 2; omega, by show w0.heap.size ≤ W.heap.size + 1; omega, rfl⟩
      have := made_stop n W
      rw [newSR_eq n _ hn] at this ⊢
      exact this
  · cases j with
    | zero => omega
    | succ j => simp at h3
def UnderMade (w0 : World) (m : Nat) (pre : List PL) (x : PL) (L : List Int) (n : Int) (W : World) (e : Ending) (w' : World) : Prop :=
  ∃ v1, e = .returned (.tuple #[.pointer (some ⟨W.heap.size + 2, 0, none⟩), .int .i64 0]) ∧ Inv w0 w' m (pre ++ [{ x with u := v1 }, ⟨W.heap.size + 2, W.heap.size + 1, .slice none 0 0⟩]) (L ++ [n]) (pre.length + 2) ∧ RowsKept W w' ∧ W.heap.size + 3 ≤ w'.heap.size ∧
    (∃ b, v1.ownBlock = some b ∧ W.heap.size + 3 ≤ b)
theorem get_pre {pre : List PL} {i : Nat} (h : i < pre.length) (l l' : List PL) : (pre ++ l)[i]? = (pre ++ l')[i]? := by
  rw [List.getElem?_append_left h, List.getElem?_append_left h]
theorem Inv.under {w0 W : World} {m : Nat} {pre : List PL} {x : PL} {L : List Int} {n : Int} (h : Inv w0 W m (pre ++ [x]) L (pre.length + 1)) (hn : 1 ≤ n) (hll : L.length = pre.length + 1) :
    Calls Try.prog 10 #[.pointer (some ⟨x.g, 0, none⟩), .int .i64 n] W fun e w' => UnderMade w0 m pre x L n W e w' := by
  have hx : (pre ++ [x])[pre.length]? = some x := by simp
  obtain ⟨p1, p2, p3, p4, p5⟩ := h.at_ pre.length x hx
  have hu : x.u = .slice none 0 0 := by
    have : (pre ++ [x])[pre.length + 1]? = none := by simp
    rw [this] at p5
    exact p5
  refine (under_run w0 m x.g (srAt (pre ++ [x]) L (pre.length + 1) pre.length x) [] n W (by omega) h.mu p1 (if_pos (by omega)) ?_ h.below h.mb p3 (by simp)).mono ?_
  · show Kd.R kP 25 W w0.heap.size (fun _ => True) x.u []
    rw [hu]
    exact Kd.R_nil _ _ _ _ _
  · rintro e w' ⟨v1, rfl, q1, q2, q3, q4, q5, q6, q7, q8, q9⟩
    have hnone : (srAt (pre ++ [x]) L (pre.length + 1) pre.length x).und.ownBlock = none := by
      show x.u.ownBlock = none
      rw [hu]; rfl
    rw [hnone] at q9
    have hne : ∃ b, v1.ownBlock = some b ∧ W.heap.size + 3 ≤ b := by
      rcases q9 with q9 | q9
      · have := rowOne_of q5
        obtain ⟨ad, cap, cs, rfl, _⟩ := this
        cases q9
      · exact q9
    have hfar : ∀ k, k < W.heap.size → k ≠ x.g → k ≠ m → w'.heap[k]? = W.heap[k]? := fun k a b c => q7 k a b c (by rw [hnone]; simp)
    have hkept : RowsKept W w' := fun q cells t hq ht hu => hfar q (lt_of hq) (is_row_ne hq ht p1) (is_row_ne_mu hq hu h.mu)
    refine ⟨v1, rfl, ⟨q1, h.mb, q6, fun i y hy => ?_, ?_⟩, hkept, q8, hne⟩
    · have hz := h.below.size
      by_cases h1 : i < pre.length
      · have hy' : (pre ++ [x])[i]? = some y := (get_pre h1 _ _).trans hy
        obtain ⟨r1, r2, r3, r4, r5⟩ := h.at_ i y hy'
        have hlt := (h.apart i pre.length y x h1 hy' hx).1
        refine ⟨?_, ?_, r3, r4, ?_⟩
        · have e : srAt (pre ++ [{ x with u := v1 }, ⟨W.heap.size + 2, W.heap.size + 1, .slice none 0 0⟩]) (L ++ [n]) (pre.length + 2) i y = srAt (pre ++ [x]) L (pre.length + 1) i y := by
            simp only [srAt, if_pos (show i < pre.length + 2 from by omega), if_pos (show i < pre.length + 1 from by omega)]
            have e1 : (L ++ [n]).getD i 0 = L.getD i 0 := by simp [List.getD, List.getElem?_append_left (show i < L.length by omega)]
            have e2 : (pre ++ [{ x with u := v1 }, ⟨W.heap.size + 2, W.heap.size + 1, .slice none 0 0⟩])[i - 1]? = (pre ++ [x])[i-1]? := get_pre (by omega) _ _
            rw [e1, e2]
          rw [e]
          exact (hfar y.g (lt_of r1) (by omega) (ne_mu r1 h.mu)).trans r1
        · rw [decide_eq_false (by omega)]
          rw [decide_eq_false (by omega)] at r2
          exact (hfar y.c (lt_of r2) (Ne.symm (stop_ne_ch p1 r2)) (ch_ne_mu r2 h.mu)).trans r2
        · by_cases h2 : i + 1 < pre.length
          · rw [get_pre h2 _ [x]]
            exact r5.kept hkept
          · have e1 : i + 1 = pre.length := by omega
            have e2 : (pre ++ [x])[i + 1]? = some x := by rw [e1]; exact hx
            have e3 : (pre ++ [{ x with u := v1 }, ⟨W.heap.size + 2, W.heap.size + 1, .slice none 0 0⟩])[i + 1]? = some { x with u := v1 } := by rw [e1]; simp
            rw [e2] at r5
            rw [e3]
            exact RowOne.kept r5 hkept
      · by_cases h2 : i = pre.length
        · subst h2
          have : y = { x with u := v1 } := by simpa using hy.symm
          subst this
          have e3 : (pre ++ [{ x with u := v1 }, ⟨W.heap.size + 2, W.heap.size + 1, .slice none 0 0⟩])[pre.length + 1]? = some ⟨W.heap.size + 2, W.heap.size + 1, .slice none 0 0⟩ := by
            rw [List.getElem?_append_right (by omega), show pre.length + 1 - pre.length = 1 from by omega]; rfl
          refine ⟨?_, ?_, p3, p4, ?_⟩
          · have e : srAt (pre ++ [{ x with u := v1 }, ⟨W.heap.size + 2, W.heap.size + 1, .slice none 0 0⟩]) (L ++ [n]) (pre.length + 2) pre.length { x with u := v1 } = { srAt (pre ++ [x]) L (pre.length + 1) pre.length x with und := v1 } := by
              simp only [srAt, if_pos (show pre.length < pre.length + 2 from by omega), if_pos (show pre.length < pre.length + 1 from by omega)]
              have e1 : (L ++ [n]).getD pre.length 0 = L.getD pre.length 0 := by simp [List.getD, List.getElem?_append_left (show pre.length < L.length by omega)]
              rw [e1]
              by_cases h0 : pre.length = 0
              · rw [if_pos h0, if_pos h0]
              · rw [if_neg h0, if_neg h0, get_pre (show pre.length - 1 < pre.length by omega) _ [x]]
            rw [e]
            exact q2
          · show IsCh w' x.c _
            rw [decide_eq_false (by omega)]
            rw [decide_eq_false (by omega)] at p2
            exact (hfar x.c (lt_of p2) (Ne.symm (stop_ne_ch p1 p2)) (ch_ne_mu p2 h.mu)).trans p2
          · rw [e3]
            exact rowOne_of (by simpa using q5)
        · have h3 : i = pre.length + 1 := by
            have := (List.getElem?_eq_some_iff.1 hy).1
            simp at this
            omega
          subst h3
          have e3 : (pre ++ [{ x with u := v1 }, (⟨W.heap.size + 2, W.heap.size + 1, .slice none 0 0⟩ : PL)])[pre.length + 1]? = some ⟨W.heap.size + 2, W.heap.size + 1, .slice none 0 0⟩ := by
            rw [List.getElem?_append_right (by omega), show pre.length + 1 - pre.length = 1 from by omega]; rfl
          have : y = ⟨W.heap.size + 2, W.heap.size + 1, .slice none 0 0⟩ := by rw [e3] at hy; cases hy; rfl
          subst this
          refine ⟨?_, ?_, by show w0.heap.size ≤ W.heap.size + 2; omega, by show w0.heap.size ≤ W.heap.size + 1; omega, ?_⟩
          · have e : srAt (pre ++ [{ x with u := v1 }, ⟨W.heap.size + 2, W.heap.size + 1, .slice none 0 0⟩]) (L ++ [n]) (pre.length + 2) (pre.length + 1) ⟨W.heap.size + 2, W.heap.size + 1, .slice none 0 0⟩ = underSR x.g n (W.heap.size + 1) := by
              rw [underSR, newSR_eq n _ hn]
              simp only [srAt, if_pos (show pre.length + 1 < pre.length + 2 from by omega), if_neg (show ¬ pre.length + 1 = 0 from by omega), show pre.length + 1 - 1 = pre.length from by omega]
              have e1 : (L ++ [n]).getD (pre.length + 1) 0 = n := by rw [← hll]; simp [List.getD]
              have e2 : (pre ++ [{ x with u := v1 }, (⟨W.heap.size + 2, W.heap.size + 1, .slice none 0 0⟩ : PL)])[pre.length]? = some { x with u := v1 } := by simp
              rw [e1, e2]
              rfl
            rw [e]
            exact q3
          · rw [decide_eq_false (by omega)]
            exact q4
          · have e4 : (pre ++ [{ x with u := v1 }, (⟨W.heap.size + 2, W.heap.size + 1, .slice none 0 0⟩ : PL)])[pre.length + 1 + 1]? = none := by simp
            rw [e4]
            rfl
    · intro i j y z hij hy hz
      have hjl := (List.getElem?_eq_some_iff.1 hz).1
      simp at hjl
      have lift : ∀ (i : Nat) (y : PL), i < pre.length + 1 → (pre ++ [{ x with u := v1 }, (⟨W.heap.size + 2, W.heap.size + 1, .slice none 0 0⟩ : PL)])[i]? = some y → ∃ y', (pre ++ [x])[i]? = some y' ∧ y'.g = y.g ∧ y'.c = y.c := by
        intro i y hi hy
        by_cases h1 : i < pre.length
        · exact ⟨y, (get_pre h1 _ _).trans hy, rfl, rfl⟩
        · have : i = pre.length := by omega
          subst this
          have : y = { x with u := v1 } := by simpa using hy.symm
          subst this
          exact ⟨x, hx, rfl, rfl⟩
      obtain ⟨y', y1, y2, y3⟩ := lift i y (by omega) hy
      by_cases h3 : j < pre.length + 1
      · obtain ⟨z', z1, z2, z3⟩ := lift j z h3 hz
        have := h.apart i j y' z' hij y1 z1
        rw [y2, y3, z2, z3] at this
        exact this
      · have h4 : j = pre.length + 1 := by omega
        subst h4
        have e3 : (pre ++ [{ x with u := v1 }, (⟨W.heap.size + 2, W.heap.size + 1, .slice none 0 0⟩ : PL)])[pre.length + 1]? = some ⟨W.heap.size + 2, W.heap.size + 1, .slice none 0 0⟩ := by
          rw [List.getElem?_append_right (by omega), show pre.length + 1 - pre.length = 1 from by omega]; rfl
        have : z = ⟨W.heap.size + 2, W.heap.size + 1, .slice none 0 0⟩ := by rw [e3] at hz; cases hz; rfl
        subst this
        obtain ⟨r1, r2, _⟩ := h.at_ i y' y1
        have s1 := lt_of r1
        have s2 := lt_of r2
        rw [y2] at s1
        rw [y3] at s2
        exact ⟨by show y.g < W.heap.size + 2; omega, by show y.c ≠ W.heap.size + 1; omega⟩
end Go.Proofs.Ytofbnoiecpmjnaa.Pr
