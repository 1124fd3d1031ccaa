/- Stops in a tree: what holds of them in memory. -/
import Derived.Test.YtofbnoiecpmjnaaHr
namespace Go.Proofs.Ytofbnoiecpmjnaa.Pr
open Go.RowKit Go.Proofs.YtofbnoiecpmjnaaW.PrintWords Go.Proofs.YtofbnoiecpmjnaaW.PrintLast Go.Proofs.YtofbnoiecpmjnaaW.PrintMore Go.MuLone
open Go.Lib
set_option linter.unusedVariables false
set_option linter.unusedSimpArgs false
def srT (st : List PL) (up : List Nat) (Y : List Int) (i : Nat) (x : PL) : SR :=
  { above := if i = 0 then none else some ((st.map PL.g).getD (up.getD i 0) 0), und := x.u, bud := false, left := 0, why := Y.getD i 0, chn := x.c }
/-- Those beneath a stop, in the order in which they were made. -/
def kidsOf (up : List Nat) (i : Nat) : List Nat := (List.range up.length).filter (fun n => decide (0 < n ∧ up.getD n 0 = i))
def gOf (st : List PL) (n : Nat) : Nat := (st.map PL.g).getD n 0
structure TH (b : Int) (w0 W : World) (m : Nat) (st : List PL) (up : List Nat) (Y : List Int) : Prop where
  len : up.length = st.length
  lenY : Y.length = st.length
  mu : W.heap[m]? = some (.cells #[.int .i32 b, .int .u32 0] 66 (0, 0))
  mb : w0.heap.size ≤ m
  below : Below w0.heap.size w0 W
  at_ : ∀ (i : Nat) (x : PL), st[i]? = some x → IsStop W m x.g (srT st up Y i x) ∧ IsCh W x.c (decide (Y.getD i 0 ≠ 0)) ∧ w0.heap.size ≤ x.g ∧ w0.heap.size ≤ x.c ∧ Kd.R kP 25 W w0.heap.size T1 x.u ((kidsOf up i).map (gOf st))
  apart : ∀ (i j : Nat) (x y : PL), i < j → st[i]? = some x → st[j]? = some y → x.g < y.g ∧ x.c ≠ y.c
  rows : ∀ (i j : Nat) (x y : PL), i ≠ j → st[i]? = some x → st[j]? = some y → x.u.ownBlock = none ∨ x.u.ownBlock ≠ y.u.ownBlock
  ups : ∀ i, 0 < i → i < st.length → up.getD i 0 < i
theorem gOf_eq {st : List PL} {i : Nat} {x : PL} (h : st[i]? = some x) : gOf st i = x.g := by
  obtain ⟨hi, rfl⟩ := List.getElem?_eq_some_iff.1 h
  simp [gOf, List.getD, hi]
theorem mem_kids {up : List Nat} {i n : Nat} (h : n ∈ kidsOf up i) : 0 < n ∧ n < up.length ∧ up.getD n 0 = i := by
  simp [kidsOf] at h
  exact ⟨h.2.1, h.1, by simpa [List.getD] using h.2.2⟩
theorem apart_g {st : List PL} (h : ∀ (i j : Nat) (x y : PL), i < j → st[i]? = some x → st[j]? = some y → x.g < y.g ∧ x.c ≠ y.c) {i j : Nat} {x y : PL} (hij : i ≠ j) (hx : st[i]? = some x) (hy : st[j]? = some y) : x.g ≠ y.g ∧ x.c ≠ y.c := by
  rcases Nat.lt_or_gt_of_ne hij with h1 | h1
  · have := h i j x y h1 hx hy; exact ⟨by omega, this.2⟩
  · have := h j i y x h1 hy hx; exact ⟨by omega, Ne.symm this.2⟩
theorem kept_of {W w' : World} {m g c : Nat} {s : SR} {b : Bool} (hs : IsStop W m g s) (hc : IsCh W c b) (hk : ∀ q, q ≠ g → q ≠ c → w'.heap[q]? = W.heap[q]?) : RowsKept W w' :=
  fun q cells t hq ht hu => hk q (is_row_ne hq ht hs) (is_row_ne_ch hq hc)
theorem set_getD (Y : List Int) (k i : Nat) (y : Int) (hk : k < Y.length) : (Y.set k y).getD i 0 = if i = k then y else Y.getD i 0 := by
  simp only [List.getD, List.getElem?_set]
  by_cases h : k = i
  · subst h; simp [hk]
  · rw [if_neg h, if_neg (fun e => h e.symm)]
/-- One stop is given its reason, its channel closed. -/
theorem TH.cut {b : Int} {w0 W w' : World} {m : Nat} {st : List PL} {up : List Nat} {Y : List Int} {k : Nat} {x : PL} {y : Int} (h : TH b w0 W m st up Y) (hx : st[k]? = some x) (hy : y ≠ 0)
    (hm : w'.heap[m]? = some (.cells #[.int .i32 b, .int .u32 0] 66 (0, 0))) (hs : IsStop w' m x.g (cutSR (srT st up Y k x) y)) (hc : IsCh w' x.c true) (hB : Below w0.heap.size w0 w') (hk : ∀ q, q ≠ x.g → q ≠ x.c → w'.heap[q]? = W.heap[q]?) :
    TH b w0 w' m st up (Y.set k y) := by
  obtain ⟨p1, p2, p3, p4, p5⟩ := h.at_ k x hx
  have hkept := kept_of p1 p2 hk
  have hkl : k < Y.length := by rw [h.lenY]; exact (List.getElem?_eq_some_iff.1 hx).1
  refine ⟨h.len, by simp [h.lenY], hm, h.mb, hB, fun i z hz => ?_, h.apart, h.rows, h.ups⟩
  obtain ⟨q1, q2, q3, q4, q5⟩ := h.at_ i z hz
  by_cases hik : i = k
  · subst hik
    rw [hx] at hz; cases hz
    refine ⟨?_, ?_, q3, q4, hkept.row q5 kP_E⟩
    · have e : srT st up (Y.set i y) i x = cutSR (srT st up Y i x) y := by simp only [srT, cutSR, set_getD Y i i y hkl, if_pos]
      rw [e]; exact hs
    · rw [set_getD Y i i y hkl, if_pos rfl, decide_eq_true hy]; exact hc
  · obtain ⟨n1, n2⟩ := apart_g h.apart hik hz hx
    refine ⟨?_, ?_, q3, q4, hkept.row q5 kP_E⟩
    · have e : srT st up (Y.set k y) i z = srT st up Y i z := by simp only [srT, set_getD Y k i y hkl, if_neg hik]
      rw [e]; exact (hk z.g n1 (stop_ne_ch q1 p2)).trans q1
    · rw [set_getD Y k i y hkl, if_neg hik]
      exact (hk z.c (Ne.symm (stop_ne_ch p1 q2)) n2).trans q2
/-- What cancel makes of the reasons. -/
def cancelF (up : List Nat) (y : Int) : Nat → List Int → Nat → List Int
  | 0, Y, _ => Y
  | d + 1, Y, k => if Y.getD k 0 ≠ 0 then Y else (kidsOf up k).foldl (fun Y j => cancelF up y d Y j) (Y.set k y)
end Go.Proofs.Ytofbnoiecpmjnaa.Pr
