/- Stops in a tree at which functions wait: what holds of them in memory. -/
import Derived.Test.YtofbnoiecpmjnaaJj
namespace Go.Proofs.Ytofbnoiecpmjnaa.Pr
open Go.RowKit Go.Proofs.YtofbnoiecpmjnaaW.PrintWords Go.Proofs.YtofbnoiecpmjnaaW.PrintLast Go.Proofs.YtofbnoiecpmjnaaW.PrintMore Go.MuLone
open Go.Lib
set_option linter.unusedVariables false
set_option linter.unusedSimpArgs false
def SR.cellsC (m : Nat) (s : SR) (v : Value) : Array Value := #[ptrOf m, upOf s.above, s.und, .bool s.bud, .int .i64 s.left, .int .i64 s.why, .chan (some s.chn), v]
def nilV : Value := .slice none 0 0
/-- A stop with the row of what waits at it. -/
def IsStopC (W : World) (m g : Nat) (s : SR) (v : Value) : Prop := W.heap[g]? = some (.cells (s.cellsC m v) 70 (0, 0))
theorem IsStopC.cell {W : World} {m g : Nat} {s : SR} {v : Value} (h : IsStopC W m g s v) (i : Nat) {u : Value} (hv : (s.cellsC m v)[i]? = some u) : W.cell? ⟨g, i, none⟩ = some u := by
  have := blk_cell h i
  rw [this, hv]
theorem IsStopC.frozen {W : World} {m g : Nat} {s : SR} {v : Value} (h : IsStopC W m g s v) (i : Nat) : W.frozen? ⟨g, i, none⟩ = false := blk_frozen h i
theorem stopC_ne_ch {W : World} {m g c : Nat} {s : SR} {v : Value} {b : Bool} (h : IsStopC W m g s v) (hc : IsCh W c b) : g ≠ c := by
  rintro rfl
  unfold IsStopC at h; unfold IsCh chObj at hc
  rw [h] at hc; cases hc
theorem stopC_ne_mu {W : World} {m m' g : Nat} {s : SR} {v : Value} {b : Int} (h : IsStopC W m' g s v) (hm : W.heap[m]? = some (.cells #[.int .i32 b, .int .u32 0] 66 (0, 0))) : g ≠ m := by
  rintro rfl
  unfold IsStopC at h
  rw [hm] at h; cases h
theorem row_ne_stopC {W : World} {k g m : Nat} {s : SR} {v : Value} {cells : Array Value} {t : Nat} (h : W.heap[k]? = some (.cells cells t (0, 0))) (ht : t ≠ 70) (hs : IsStopC W m g s v) : k ≠ g := by
  rintro rfl
  unfold IsStopC at hs; rw [h] at hs; cases hs; exact ht rfl
structure TC (b : Int) (w0 W : World) (m : Nat) (st : List PL) (up : List Nat) (Y : List Int) (cv : List Value) (Cs : List (List Nat)) : Prop where
  len : up.length = st.length
  lenY : Y.length = st.length
  lenV : cv.length = st.length
  lenC : Cs.length = st.length
  mu : W.heap[m]? = some (.cells #[.int .i32 b, .int .u32 0] 66 (0, 0))
  mb : w0.heap.size ≤ m
  below : Below w0.heap.size w0 W
  at_ : ∀ (i : Nat) (x : PL), st[i]? = some x → IsStopC W m x.g (srT st up Y i x) (cv.getD i nilV) ∧ IsCh W x.c (decide (Y.getD i 0 ≠ 0)) ∧ w0.heap.size ≤ x.g ∧ w0.heap.size ≤ x.c ∧ Kd.R kP 25 W w0.heap.size T1 x.u ((kidsOf up i).map (gOf st)) ∧ Kd.R kP 87 W w0.heap.size T1 (cv.getD i nilV) (Cs.getD i [])
  apart : ∀ (i j : Nat) (x y : PL), i < j → st[i]? = some x → st[j]? = some y → x.g < y.g ∧ x.c ≠ y.c
  ups : ∀ i, 0 < i → i < st.length → up.getD i 0 < i
  rowsC : ∀ i j, i ≠ j → i < st.length → j < st.length → (cv.getD i nilV).ownBlock = none ∨ (cv.getD i nilV).ownBlock ≠ (cv.getD j nilV).ownBlock
  dead : ∀ i, i < st.length → Y.getD i 0 ≠ 0 → Cs.getD i [] = []
/-- A block that is none of the stops' own. -/
def Outer (W : World) (m : Nat) (st : List PL) (cv : List Value) (q : Nat) : Prop := q < W.heap.size ∧ q ≠ m ∧ (∀ x ∈ st, q ≠ x.g ∧ q ≠ x.c) ∧ ∀ i, i < st.length → (cv.getD i nilV).ownBlock ≠ some q
theorem rep_getV (n i : Nat) : (List.replicate n nilV).getD i nilV = nilV := by
  simp only [List.getD, List.getElem?_replicate]
  split <;> rfl
theorem rep_getC (n i : Nat) : (List.replicate n ([] : List Nat)).getD i [] = [] := by
  simp only [List.getD, List.getElem?_replicate]
  split <;> rfl
theorem TH.toC {b : Int} {w0 W : World} {m : Nat} {st : List PL} {up : List Nat} {Y : List Int} (h : TH b w0 W m st up Y) : TC b w0 W m st up Y (List.replicate st.length nilV) (List.replicate st.length []) := by
  refine ⟨h.len, h.lenY, by simp, by simp, h.mu, h.mb, h.below, fun i x hx => ?_, h.apart, h.ups, fun i j _ _ _ => ?_, fun i _ _ => rep_getC _ _⟩
  · obtain ⟨q1, q2, q3, q4, q5⟩ := h.at_ i x hx
    rw [rep_getV, rep_getC]
    exact ⟨q1, q2, q3, q4, q5, Kd.R_nil _ _ _ _ _⟩
  · rw [rep_getV]; exact .inl rfl
theorem setV_getD (cv : List Value) (k i : Nat) (v : Value) (hk : k < cv.length) : (cv.set k v).getD i nilV = if i = k then v else cv.getD i nilV := by
  simp only [List.getD, List.getElem?_set]
  by_cases h : k = i
  · subst h; simp [hk]
  · rw [if_neg h, if_neg (fun e => h e.symm)]
theorem setC_getD (Cs : List (List Nat)) (k i : Nat) (v : List Nat) (hk : k < Cs.length) : (Cs.set k v).getD i [] = if i = k then v else Cs.getD i [] := by
  simp only [List.getD, List.getElem?_set]
  by_cases h : k = i
  · subst h; simp [hk]
  · rw [if_neg h, if_neg (fun e => h e.symm)]
/-- A row that is nobody's calls is as before where only stops, channels and calls' rows are touched. -/
theorem TC.outer_row {α : Type} {d : Kd α} {e base : Nat} {b : Int} {w0 W w' : World} {m : Nat} {st : List PL} {up : List Nat} {Y : List Int} {cv : List Value} {Cs : List (List Nat)} {v : Value} {xs : List α} (h : TC b w0 W m st up Y cv Cs) (hE : d.E = []) (he : e ≠ 70 ∧ e ≠ 66) (hR : Kd.R d e W base T1 v xs)
    (hk : ∀ q, Outer W m st cv q → w'.heap[q]? = W.heap[q]?) (hoff : e ≠ 87 ∨ ∀ i, i < st.length → (cv.getD i nilV).ownBlock = none ∨ (cv.getD i nilV).ownBlock ≠ v.ownBlock) : Kd.R d e w' base T1 v xs := by
  refine row_keep hE hR (fun k hkv => ?_)
  obtain ⟨cells, hc⟩ := Kd.R_typed hR k hkv
  refine hk k ⟨lt_of hc, ?_, ?_, ?_⟩
  · rintro rfl; have := h.mu; rw [hc] at this; cases this; exact he.2 rfl
  · intro x hx
    obtain ⟨i, hi⟩ := List.getElem?_of_mem hx
    obtain ⟨q1, q2, _⟩ := h.at_ i x hi
    exact ⟨row_ne_stopC hc he.1 q1, is_row_ne_ch hc q2⟩
  · intro i hi e'
    have hx : st[i]? = some st[i] := by simp [hi]
    rcases hoff with ho | ho
    · obtain ⟨cells', hc'⟩ := Kd.R_typed (h.at_ i _ hx).2.2.2.2.2 k e'
      rw [hc] at hc'; cases hc'; exact ho rfl
    · rcases ho i hi with t | t
      · rw [e'] at t; cases t
      · exact t (e'.trans hkv.symm)
/-- A step that writes one row alone. -/
theorem TC.past {α : Type} {d : Kd α} {e base : Nat} {b : Int} {w0 W w1 : World} {m : Nat} {st : List PL} {up : List Nat} {Y : List Int} {cv : List Value} {Cs : List (List Nat)} {v : Value} {xs : List α} (h : TC b w0 W m st up Y cv Cs) (hR : Kd.R d e W base T1 v xs) (he : e ≠ 70 ∧ e ≠ 66 ∧ e ≠ 25) (hg : W.grownBy w1 v.ownBlock) (hB : Below w0.heap.size w0 w1)
    (hoff : e ≠ 87 ∨ ∀ i, i < st.length → (cv.getD i nilV).ownBlock = none ∨ (cv.getD i nilV).ownBlock ≠ v.ownBlock) : TC b w0 w1 m st up Y cv Cs := by
  have keepC : ∀ {k : Nat} {cs : Array Value} {t : Nat}, W.heap[k]? = some (.cells cs t (0, 0)) → e ≠ t → w1.heap[k]? = W.heap[k]? := by
    intro k cs t hkk ht
    refine hg.block k (lt_of hkk) (fun e' => ?_)
    obtain ⟨cells, h1⟩ := Kd.R_typed hR k e'.symm
    rw [hkk] at h1
    cases h1
    exact ht rfl
  refine ⟨h.len, h.lenY, h.lenV, h.lenC, (keepC h.mu he.2.1).trans h.mu, h.mb, hB, fun i x hx => ?_, h.apart, h.ups, h.rowsC, h.dead⟩
  obtain ⟨h1, h2, h3, h4, h5, h6⟩ := h.at_ i x hx
  have hil : i < st.length := (List.getElem?_eq_some_iff.1 hx).1
  refine ⟨(keepC h1 he.1).trans h1, ?_, h3, h4, ?_, ?_⟩
  · refine (hg.block x.c (lt_of h2) (fun e' => ?_)).trans h2
    obtain ⟨cells, h1'⟩ := Kd.R_typed hR x.c e'.symm
    unfold IsCh chObj at h2
    rw [h2] at h1'; cases h1'
  · refine row_keep rfl h5 (fun k hk => ?_)
    obtain ⟨cells, hc⟩ := Kd.R_typed h5 k hk
    exact keepC hc he.2.2
  · refine row_keep rfl h6 (fun k hk => ?_)
    obtain ⟨cells, hc⟩ := Kd.R_typed h6 k hk
    rcases hoff with ho | ho
    · exact keepC hc ho
    · refine hg.block k (lt_of hc) (fun e' => ?_)
      rcases ho i hil with t | t
      · rw [hk] at t; cases t
      · exact t (hk.trans e')
theorem TC.muset {b b' : Int} {w0 W : World} {m : Nat} {st : List PL} {up : List Nat} {Y : List Int} {cv : List Value} {Cs : List (List Nat)} (h : TC b w0 W m st up Y cv Cs) : TC b' w0 (W.setCell ⟨m, 0, none⟩ (.int .i32 b')) m st up Y cv Cs := by
  have far : ∀ k, k ≠ m → (W.setCell ⟨m, 0, none⟩ (.int .i32 b')).heap[k]? = W.heap[k]? := fun k hk => set_far W m 0 _ hk
  have ne : ∀ {q : Nat} {cells : Array Value} {t : Nat}, W.heap[q]? = some (.cells cells t (0, 0)) → t ≠ 66 → q ≠ m := by
    rintro q cells t hq hu rfl
    have := h.mu; rw [hq] at this; cases this; exact hu rfl
  refine ⟨h.len, h.lenY, h.lenV, h.lenC, blk_set h.mu 0 (.int .i32 b'), h.mb, below_set h.below h.mb, fun i z hz => ?_, h.apart, h.ups, h.rowsC, h.dead⟩
  obtain ⟨q1, q2, q3, q4, q5, q6⟩ := h.at_ i z hz
  refine ⟨(far z.g (ne q1 (by decide))).trans q1, (far z.c ?_).trans q2, q3, q4, ?_, ?_⟩
  · rintro e; have := h.mu; unfold IsCh chObj at q2; rw [e, this] at q2; cases q2
  · exact row_keep rfl q5 (fun k hk => by obtain ⟨cells, hc⟩ := Kd.R_typed q5 k hk; exact far k (ne hc (by decide)))
  · exact row_keep rfl q6 (fun k hk => by obtain ⟨cells, hc⟩ := Kd.R_typed q6 k hk; exact far k (ne hc (by decide)))
/-- One stop is given its reason, its channel closed, its calls taken away. -/
theorem TC.cut {b : Int} {w0 W w' : World} {m : Nat} {st : List PL} {up : List Nat} {Y : List Int} {cv : List Value} {Cs : List (List Nat)} {k : Nat} {x : PL} {y : Int} (h : TC b w0 W m st up Y cv Cs) (hx : st[k]? = some x) (hy : y ≠ 0)
    (hm : w'.heap[m]? = some (.cells #[.int .i32 b, .int .u32 0] 66 (0, 0))) (hs : IsStopC w' m x.g (cutSR (srT st up Y k x) y) nilV) (hc : IsCh w' x.c true) (hB : Below w0.heap.size w0 w') (hk : ∀ q, q ≠ x.g → q ≠ x.c → w'.heap[q]? = W.heap[q]?) :
    TC b w0 w' m st up (Y.set k y) (cv.set k nilV) (Cs.set k []) := by
  obtain ⟨p1, p2, p3, p4, p5, p6⟩ := h.at_ k x hx
  have hkl : k < st.length := (List.getElem?_eq_some_iff.1 hx).1
  have hkY : k < Y.length := by rw [h.lenY]; exact hkl
  have hkV : k < cv.length := by rw [h.lenV]; exact hkl
  have hkC : k < Cs.length := by rw [h.lenC]; exact hkl
  have keepR : ∀ {α : Type} {d : Kd α} {e : Nat} {v : Value} {xs : List α}, d.E = [] → e ≠ 70 → Kd.R d e W w0.heap.size T1 v xs → Kd.R d e w' w0.heap.size T1 v xs := fun hE he hR => row_keep hE hR (fun q hq => by
    obtain ⟨cells, hcc⟩ := Kd.R_typed hR q hq
    exact hk q (row_ne_stopC hcc he p1) (is_row_ne_ch hcc p2))
  refine ⟨h.len, by simp [h.lenY], by simp [h.lenV], by simp [h.lenC], hm, h.mb, hB, fun i z hz => ?_, h.apart, h.ups, fun i j hij hi hj => ?_, fun i hi hY => ?_⟩
  · obtain ⟨q1, q2, q3, q4, q5, q6⟩ := h.at_ i z hz
    rw [setV_getD cv k i nilV hkV, setC_getD Cs k i [] hkC]
    by_cases hik : i = k
    · subst hik
      rw [hx] at hz; cases hz
      rw [if_pos rfl, if_pos rfl]
      refine ⟨?_, ?_, q3, q4, keepR rfl (by decide) q5, Kd.R_nil _ _ _ _ _⟩
      · have e : srT st up (Y.set i y) i x = cutSR (srT st up Y i x) y := by simp only [srT, cutSR, set_getD Y i i y hkY, if_pos]
        rw [e]; exact hs
      · rw [set_getD Y i i y hkY, if_pos rfl, decide_eq_true hy]; exact hc
    · rw [if_neg hik, if_neg hik]
      obtain ⟨n1, n2⟩ := apart_g h.apart hik hz hx
      refine ⟨?_, ?_, q3, q4, keepR rfl (by decide) q5, keepR rfl (by decide) q6⟩
      · have e : srT st up (Y.set k y) i z = srT st up Y i z := by simp only [srT, set_getD Y k i y hkY, if_neg hik]
        rw [e]; exact (hk z.g n1 (stopC_ne_ch q1 p2)).trans q1
      · rw [set_getD Y k i y hkY, if_neg hik]
        exact (hk z.c (Ne.symm (stopC_ne_ch p1 q2)) n2).trans q2
  · rw [setV_getD cv k i nilV hkV, setV_getD cv k j nilV hkV]
    by_cases hik : i = k
    · rw [if_pos hik]; exact .inl rfl
    · rw [if_neg hik]
      by_cases hjk : j = k
      · rw [if_pos hjk]
        cases (cv.getD i nilV).ownBlock with
        | none => exact .inl rfl
        | some b => exact .inr (by intro e; cases e)
      · rw [if_neg hjk]; exact h.rowsC i j hij hi hj
  · rw [setC_getD Cs k i [] hkC]
    by_cases hik : i = k
    · rw [if_pos hik]
    · rw [if_neg hik]
      rw [set_getD Y k i y hkY, if_neg hik] at hY
      exact h.dead i hi hY
theorem flatten_set (Cs : List (List Nat)) (k : Nat) (hk : k < Cs.length) : (Cs.getD k [] ++ (Cs.set k []).flatten).Perm Cs.flatten := by
  induction Cs generalizing k with
  | nil => simp at hk
  | cons a t ih =>
    cases k with
    | zero => simp [List.getD]
    | succ k =>
      have h1 := ih k (by simpa using hk)
      have e1 : (a :: t).getD (k + 1) [] = t.getD k [] := by simp [List.getD]
      rw [e1]
      simp only [List.set_cons_succ, List.flatten_cons]
      refine List.Perm.trans ?_ (List.Perm.append_left a h1)
      rw [← List.append_assoc, ← List.append_assoc]
      exact List.Perm.append_right _ List.perm_append_comm
end Go.Proofs.Ytofbnoiecpmjnaa.Pr
