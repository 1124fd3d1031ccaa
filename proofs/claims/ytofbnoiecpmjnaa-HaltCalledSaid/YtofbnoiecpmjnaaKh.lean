/- After: one more function waits at a stop. -/
import Derived.Test.YtofbnoiecpmjnaaKg
import Derived.StillTailTactics
namespace Go.Proofs.Ytofbnoiecpmjnaa.Pr
open Go.RowKit Go.Proofs.YtofbnoiecpmjnaaW.PrintWords Go.Proofs.YtofbnoiecpmjnaaW.PrintLast Go.Proofs.YtofbnoiecpmjnaaW.PrintMore Go.MuLone
open Go.Lib
set_option linter.unusedVariables false
set_option linter.unusedSimpArgs false
variable {b : Int} {w0 W : World} {m : Nat} {st : List PL} {up : List Nat} {Y : List Int} {cv : List Value} {Cs : List (List Nat)} {v : VB} {y : Int} {D : List CD} {S : Nat → Int} {M : List Int}
theorem TC.more {W' : World} (h : TC b w0 W m st up Y cv Cs) (hB : Below w0.heap.size w0 W') (hk : ∀ k, k < W.heap.size → W'.heap[k]? = W.heap[k]?) : TC b w0 W' m st up Y cv Cs := by
  refine ⟨h.len, h.lenY, h.lenV, h.lenC, (hk _ (lt_of h.mu)).trans h.mu, h.mb, hB, fun i x hx => ?_, h.apart, h.ups, h.rowsC, h.dead⟩
  obtain ⟨q1, q2, q3, q4, q5, q6⟩ := h.at_ i x hx
  exact ⟨(hk _ (lt_of q1)).trans q1, (hk _ (lt_of q2)).trans q2, q3, q4, row_keep rfl q5 (fun k hkv => hk k (Kd.R_lt q5 k hkv)), row_keep rfl q6 (fun k hkv => hk k (Kd.R_lt q6 k hkv))⟩
theorem HC.more {W' : World} (h : HC b w0 W m st up Y cv Cs v y D S M) (hB : Below w0.heap.size w0 W') (hk : ∀ k, k < W.heap.size → W'.heap[k]? = W.heap[k]?) : HC b w0 W' m st up Y cv Cs v y D S M :=
  h.move (h.tc.more hB hk) (fun q cells t hq _ _ _ => hk q (lt_of hq)) (fun i hi => .inl rfl)
theorem app_get {α : Type} {D : List α} {x d : α} {j : Nat} (h : (D ++ [x])[j]? = some d) : D[j]? = some d ∧ j < D.length ∨ j = D.length ∧ d = x := by
  by_cases hj : j < D.length
  · rw [List.getElem?_append_left hj] at h
    exact .inl ⟨h, hj⟩
  · rw [List.getElem?_append_right (by omega)] at h
    have hl := (List.getElem?_eq_some_iff.1 h).1
    simp at hl
    have e : j = D.length := by omega
    subst e
    simp at h
    exact .inr ⟨rfl, h.symm⟩
/-- Its block, its box, its stop's box are laid. -/
theorem HC.add {W' : World} (h : HC b w0 W m st up Y cv Cs v y D S M) (hB : Below w0.heap.size w0 W') (hk : ∀ k, k < W.heap.size → W'.heap[k]? = W.heap[k]?) {q ib sb cb k : Nat} (hko : k < st.length)
    (hq : W'.heap[q]? = some (.cells #[cloV v ib, .int .i64 0] 89 (0, 0))) (hsb : W'.heap[sb]? = some (.cells #[ptrOf (gOf st k)] 25 (0, 0))) (hcb : W'.heap[cb]? = some (.cells #[ptrOf q] 87 (0, 0))) (fq : W.heap.size ≤ q) (fc : W.heap.size ≤ cb)
    (hib : W.heap[ib]? = some (.cells #[.int .i64 (D.length : Int)] 3 (0, 0))) (hit : ib ≠ v.tr) (hS : S D.length = 0) (hlt : D.length < v.a) : HC b w0 W' m st up Y cv Cs v y (D ++ [⟨q, ib, sb, cb, k⟩]) S M := by
  have h' := h.more hB hk
  have hz := h.tc.below.size
  refine ⟨h'.tc, h'.tbf, h'.wbf, h'.ybf, h'.wbb, h'.rowT, h'.lenM, fun j d hd => ?_, fun i j d e hij hd he => ?_, fun j d i hd hi => ?_, by simp; omega⟩
  · rcases app_get hd with ⟨hd', _⟩ | ⟨rfl, rfl⟩
    · exact h'.calls j d hd'
    · exact ⟨by rw [hS]; exact hq, (hk _ (lt_of hib)).trans hib, hsb, hcb, hko, by show w0.heap.size ≤ q; omega, hit⟩
  · rcases app_get hd with ⟨hd', hdl⟩ | ⟨rfl, rfl⟩
    · rcases app_get he with ⟨he', hel⟩ | ⟨rfl, rfl⟩
      · exact h.qs i j d e hij hd' he'
      · have := lt_of (h.calls i d hd').1
        show d.q ≠ q; omega
    · rcases app_get he with ⟨he', hel⟩ | ⟨rfl, rfl⟩
      · have := lt_of (h.calls j e he').1
        show q ≠ e.q; omega
      · exact absurd rfl hij
  · rcases app_get hd with ⟨hd', hdl⟩ | ⟨rfl, rfl⟩
    · exact h.offC j d i hd' hi
    · intro e
      have hx : st[i]? = some st[i] := by simp [hi]
      have := Kd.R_lt (h.tc.at_ i _ hx).2.2.2.2.2 _ e
      have e' : cb < W.heap.size := this
      omega
/-- It is named in its stop's row. -/
theorem HC.put {w1 : World} (h : HC b w0 W m st up Y cv Cs v y D S M) {k : Nat} {x : PL} (hx : st[k]? = some x) (hY : Y.getD k 0 = 0) {v1 : Value} {q : Nat} (hR : Kd.R kP 87 w1 w0.heap.size T1 v1 (Cs.getD k [] ++ [q])) (hB : Below w0.heap.size w0 w1) (hg : W.grownBy w1 (cv.getD k nilV).ownBlock)
    (hat : v1.ownBlock = (cv.getD k nilV).ownBlock ∨ ∃ b, v1.ownBlock = some b ∧ W.heap.size ≤ b) : HC b w0 (w1.setCell ⟨x.g, 7, none⟩ v1) m st up Y (cv.set k v1) (Cs.set k (Cs.getD k [] ++ [q])) v y D S M := by
  have hkl : k < st.length := (List.getElem?_eq_some_iff.1 hx).1
  obtain ⟨p1, p2, p3, p4, p5, p6⟩ := h.tc.at_ k x hx
  have hkV : k < cv.length := by rw [h.tc.lenV]; exact hkl
  have hkC : k < Cs.length := by rw [h.tc.lenC]; exact hkl
  have keepC : ∀ {r : Nat} {cs : Array Value} {t : Nat}, W.heap[r]? = some (.cells cs t (0, 0)) → (t ≠ 87 ∨ some r ≠ (cv.getD k nilV).ownBlock) → w1.heap[r]? = W.heap[r]? := by
    intro r cs t hr ht
    refine hg.block r (lt_of hr) (fun e' => ?_)
    rcases ht with ht | ht
    · obtain ⟨cells, h1⟩ := Kd.R_typed p6 r e'.symm
      rw [hr] at h1; cases h1; exact ht rfl
    · exact ht e'
  have chk : ∀ {r : Nat} {bb : Bool}, IsCh W r bb → w1.heap[r]? = W.heap[r]? := fun hr => hg.block _ (lt_of hr) (fun e' => by
    obtain ⟨cells, h1⟩ := Kd.R_typed p6 _ e'.symm
    unfold IsCh chObj at hr; rw [hr] at h1; cases h1)
  have p1' : w1.heap[x.g]? = some (.cells ((srT st up Y k x).cellsC m (cv.getD k nilV)) 70 (0, 0)) := (keepC p1 (.inl (by decide))).trans p1
  have far : ∀ {r : Nat}, r ≠ x.g → (w1.setCell ⟨x.g, 7, none⟩ v1).heap[r]? = w1.heap[r]? := fun hr => set_far w1 x.g 7 v1 hr
  have keep : ∀ {r : Nat} {cs : Array Value} {t : Nat}, W.heap[r]? = some (.cells cs t (0, 0)) → t ≠ 70 → (t ≠ 87 ∨ some r ≠ (cv.getD k nilV).ownBlock) → (w1.setCell ⟨x.g, 7, none⟩ v1).heap[r]? = W.heap[r]? := fun hr h70 ht => (far (row_ne_stopC hr h70 p1)).trans (keepC hr ht)
  have htc : TC b w0 (w1.setCell ⟨x.g, 7, none⟩ v1) m st up Y (cv.set k v1) (Cs.set k (Cs.getD k [] ++ [q])) := by
    refine ⟨h.tc.len, h.tc.lenY, by simp [h.tc.lenV], by simp [h.tc.lenC], (keep h.tc.mu (by decide) (.inl (by decide))).trans h.tc.mu, h.tc.mb, below_set hB p3, fun i z hz => ?_, h.tc.apart, h.tc.ups, fun i j hij hi hj => ?_, fun i hi hYi => ?_⟩
    · obtain ⟨q1, q2, q3, q4, q5, q6⟩ := h.tc.at_ i z hz
      have hil : i < st.length := (List.getElem?_eq_some_iff.1 hz).1
      rw [setV_getD cv k i v1 hkV, setC_getD Cs k i _ hkC]
      have hch : IsCh (w1.setCell ⟨x.g, 7, none⟩ v1) z.c (decide (Y.getD i 0 ≠ 0)) := (far (Ne.symm (stopC_ne_ch p1 q2))).trans ((chk q2).trans q2)
      have hr5 : Kd.R kP 25 (w1.setCell ⟨x.g, 7, none⟩ v1) w0.heap.size T1 z.u ((kidsOf up i).map (gOf st)) := row_keep rfl q5 (fun r hr => by
        obtain ⟨cells, hc⟩ := Kd.R_typed q5 r hr
        exact keep hc (by decide) (.inl (by decide)))
      by_cases hik : i = k
      · subst hik
        rw [hx] at hz; cases hz
        rw [if_pos rfl, if_pos rfl]
        refine ⟨blk_set p1' 7 v1, hch, q3, q4, hr5, row_keep rfl hR (fun r hr => ?_)⟩
        obtain ⟨cells, hc⟩ := Kd.R_typed hR r hr
        refine far ?_
        rintro rfl; rw [p1'] at hc; cases hc
      · rw [if_neg hik, if_neg hik]
        obtain ⟨n1, n2⟩ := apart_g h.tc.apart hik hz hx
        refine ⟨(far n1).trans ((keepC q1 (.inl (by decide))).trans q1), hch, q3, q4, hr5, row_keep rfl q6 (fun r hr => ?_)⟩
        obtain ⟨cells, hc⟩ := Kd.R_typed q6 r hr
        refine keep hc (by decide) (.inr (fun e => ?_))
        rcases h.tc.rowsC i k hik hil hkl with t | t
        · rw [hr] at t; cases t
        · exact t (hr.trans e)
    · rw [setV_getD cv k i v1 hkV, setV_getD cv k j v1 hkV]
      have fresh : ∀ i, i ≠ k → i < st.length → (cv.getD i nilV).ownBlock = none ∨ (cv.getD i nilV).ownBlock ≠ v1.ownBlock := by
        intro i hik hi
        cases hu : (cv.getD i nilV).ownBlock with
        | none => exact .inl rfl
        | some r =>
          refine .inr (fun e => ?_)
          rcases hat with e1 | ⟨bb, e1, e2⟩
          · rcases h.tc.rowsC i k hik hi hkl with t | t
            · rw [hu] at t; cases t
            · exact t (hu.trans (e.trans e1))
          · rw [e1] at e; cases e
            have hxi : st[i]? = some st[i] := by simp [hi]
            have := Kd.R_lt (h.tc.at_ i _ hxi).2.2.2.2.2 _ hu
            omega
      by_cases hik : i = k
      · rw [if_pos hik, if_neg (fun e => hij (hik.trans e.symm))]
        rcases fresh j (fun e => hij (hik.trans e.symm)) hj with t | t
        · rw [t]
          cases v1.ownBlock with
          | none => exact .inl rfl
          | some r => exact .inr (by intro e; cases e)
        · exact .inr (fun e => t e.symm)
      · rw [if_neg hik]
        by_cases hjk : j = k
        · rw [if_pos hjk]; exact fresh i hik hi
        · rw [if_neg hjk]; exact h.tc.rowsC i j hij hi hj
    · rw [setC_getD Cs k i _ hkC]
      by_cases hik : i = k
      · subst hik; exact absurd hY hYi
      · rw [if_neg hik]; exact h.tc.dead i hi hYi
  refine ⟨htc, (keep h.tbf (by decide) (.inl (by decide))).trans h.tbf, (keep h.wbf (by decide) (.inl (by decide))).trans h.wbf, (keep h.ybf (by decide) (.inl (by decide))).trans h.ybf, h.wbb, row_keep rfl h.rowT (fun r hr => by
    obtain ⟨cells, hc⟩ := Kd.R_typed h.rowT r hr
    exact keep hc (by decide) (.inl (by decide))), h.lenM, fun j d hd => ?_, h.qs, fun j d i hd hi => ?_, h.lenD⟩
  · obtain ⟨c1, c2, c3, c4, c5, c6, c7⟩ := h.calls j d hd
    exact ⟨(keep c1 (by decide) (.inl (by decide))).trans c1, (keep c2 (by decide) (.inl (by decide))).trans c2, (keep c3 (by decide) (.inl (by decide))).trans c3, (keep c4 (by decide) (.inr (fun e => h.offC j d k hd hkl e.symm))).trans c4, c5, c6, c7⟩
  · rw [setV_getD cv k i v1 hkV]
    by_cases hik : i = k
    · rw [if_pos hik]
      rcases hat with e1 | ⟨bb, e1, e2⟩
      · rw [e1]; exact h.offC j d k hd hkl
      · rw [e1]; intro e; cases e
        have := lt_of (h.calls j d hd).2.2.2.1
        omega
    · rw [if_neg hik]; exact h.offC j d i hd hi
end Go.Proofs.Ytofbnoiecpmjnaa.Pr
