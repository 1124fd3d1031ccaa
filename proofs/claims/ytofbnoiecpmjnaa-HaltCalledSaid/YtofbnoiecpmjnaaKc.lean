/- Functions that wait at stops: what holds of them in memory; one is taken; one is called. -/
import Derived.Test.YtofbnoiecpmjnaaKb
namespace Go.Proofs.Ytofbnoiecpmjnaa.Pr
open Go.RowKit Go.Proofs.YtofbnoiecpmjnaaW.PrintWords Go.Proofs.YtofbnoiecpmjnaaW.PrintLast Go.Proofs.YtofbnoiecpmjnaaW.PrintMore Go.MuLone
open Go.Lib
set_option linter.unusedVariables false
set_option linter.unusedSimpArgs false
/-- A function: its block, the cell of its number, the boxes of its stop and of itself, its stop's number. -/
structure CD where
  q : Nat
  ib : Nat
  sb : Nat
  cb : Nat
  o : Nat
/-- The blocks of the law's own variables: times, wrong, why; the row of times, its room, its length. -/
structure VB where
  tb : Nat
  wb : Nat
  yb : Nat
  tr : Nat
  ct : Nat
  a : Nat
def cloV (v : VB) (ib : Nat) : Value := .func (.func 21) #[] #[ptrOf v.tb, ptrOf ib, ptrOf v.wb, ptrOf v.yb]
structure HC (b : Int) (w0 W : World) (m : Nat) (st : List PL) (up : List Nat) (Y : List Int) (cv : List Value) (Cs : List (List Nat)) (v : VB) (y : Int) (D : List CD) (S : Nat → Int) (M : List Int) : Prop where
  tc : TC b w0 W m st up Y cv Cs
  tbf : W.heap[v.tb]? = some (.cells #[.slice (some ⟨v.tr, 0, none⟩) v.a v.ct] 23 (0, 0))
  wbf : W.heap[v.wb]? = some (.cells #[.bool false] 4 (0, 0))
  ybf : W.heap[v.yb]? = some (.cells #[.int .i64 y] 26 (0, 0))
  wbb : w0.heap.size ≤ v.wb
  rowT : Kd.R kI 3 W w0.heap.size T1 (.slice (some ⟨v.tr, 0, none⟩) v.a v.ct) M
  lenM : M.length = v.a
  calls : ∀ (j : Nat) (d : CD), D[j]? = some d → W.heap[d.q]? = some (.cells #[cloV v d.ib, .int .i64 (S j)] 89 (0, 0)) ∧ W.heap[d.ib]? = some (.cells #[.int .i64 (j : Int)] 3 (0, 0)) ∧ W.heap[d.sb]? = some (.cells #[ptrOf (gOf st d.o)] 25 (0, 0)) ∧ W.heap[d.cb]? = some (.cells #[ptrOf d.q] 87 (0, 0)) ∧ d.o < st.length ∧ w0.heap.size ≤ d.q ∧ d.ib ≠ v.tr
  qs : ∀ (i j : Nat) (d e : CD), i ≠ j → D[i]? = some d → D[j]? = some e → d.q ≠ e.q
  offC : ∀ (j : Nat) (d : CD) (i : Nat), D[j]? = some d → i < st.length → (cv.getD i nilV).ownBlock ≠ some d.cb
  lenD : D.length ≤ v.a
/-- A step that touches neither the functions nor the law's variables. -/
theorem HC.move {b b' : Int} {w0 W w' : World} {m : Nat} {st : List PL} {up : List Nat} {Y Y' : List Int} {cv cv' : List Value} {Cs Cs' : List (List Nat)} {v : VB} {y : Int} {D : List CD} {S : Nat → Int} {M : List Int} (h : HC b w0 W m st up Y cv Cs v y D S M) (ht : TC b' w0 w' m st up Y' cv' Cs')
    (hk : ∀ (q : Nat) (cells : Array Value) (t : Nat), W.heap[q]? = some (.cells cells t (0, 0)) → t ≠ 70 → t ≠ 66 → (∀ i, i < st.length → (cv.getD i nilV).ownBlock ≠ some q) → w'.heap[q]? = W.heap[q]?)
    (hcv : ∀ i, i < st.length → cv'.getD i nilV = cv.getD i nilV ∨ cv'.getD i nilV = nilV) : HC b' w0 w' m st up Y' cv' Cs' v y D S M := by
  have off : ∀ {q : Nat} {cells : Array Value} {t : Nat}, W.heap[q]? = some (.cells cells t (0, 0)) → t ≠ 87 → ∀ i, i < st.length → (cv.getD i nilV).ownBlock ≠ some q := by
    intro q cells t hq ht i hi e
    have hx : st[i]? = some st[i] := by simp [hi]
    obtain ⟨cells', hc'⟩ := Kd.R_typed (h.tc.at_ i _ hx).2.2.2.2.2 q e
    rw [hq] at hc'; cases hc'; exact ht rfl
  have keep : ∀ {q : Nat} {cells : Array Value} {t : Nat}, W.heap[q]? = some (.cells cells t (0, 0)) → t ≠ 70 ∧ t ≠ 66 ∧ t ≠ 87 → w'.heap[q]? = W.heap[q]? := fun hq ht => hk _ _ _ hq ht.1 ht.2.1 (off hq ht.2.2)
  refine ⟨ht, (keep h.tbf (by decide)).trans h.tbf, (keep h.wbf (by decide)).trans h.wbf, (keep h.ybf (by decide)).trans h.ybf, h.wbb, row_keep rfl h.rowT (fun k hkv => by
    obtain ⟨cells, hc⟩ := Kd.R_typed h.rowT k hkv
    exact keep hc (by decide)), h.lenM, fun j d hd => ?_, h.qs, fun j d i hd hi => ?_, h.lenD⟩
  · obtain ⟨c1, c2, c3, c4, c5, c6, c7⟩ := h.calls j d hd
    exact ⟨(keep c1 (by decide)).trans c1, (keep c2 (by decide)).trans c2, (keep c3 (by decide)).trans c3, (hk _ _ _ c4 (by decide) (by decide) (fun i hi => h.offC j d i hd hi)).trans c4, c5, c6, c7⟩
  · rcases hcv i hi with e | e
    · rw [e]; exact h.offC j d i hd hi
    · rw [e]; intro e2; cases e2
theorem HC.outer {b : Int} {w0 W w' : World} {m : Nat} {st : List PL} {up : List Nat} {Y Y' : List Int} {cv cv' : List Value} {Cs Cs' : List (List Nat)} {v : VB} {y : Int} {D : List CD} {S : Nat → Int} {M : List Int} (h : HC b w0 W m st up Y cv Cs v y D S M) (ht : TC b w0 w' m st up Y' cv' Cs')
    (hk : ∀ q, Outer W m st cv q → w'.heap[q]? = W.heap[q]?) (hcv : ∀ i, i < st.length → cv'.getD i nilV = cv.getD i nilV ∨ cv'.getD i nilV = nilV) : HC b w0 w' m st up Y' cv' Cs' v y D S M := by
  refine h.move ht (fun q cells t hq h70 h66 hoff => hk q ⟨lt_of hq, ?_, ?_, hoff⟩) hcv
  · rintro rfl; have := h.tc.mu; rw [hq] at this; cases this; exact h66 rfl
  · intro x hx
    obtain ⟨i, hi⟩ := List.getElem?_of_mem hx
    obtain ⟨q1, q2, _⟩ := h.tc.at_ i x hi
    exact ⟨row_ne_stopC hq h70 q1, is_row_ne_ch hq q2⟩
theorem HC.muset {b b' : Int} {w0 W : World} {m : Nat} {st : List PL} {up : List Nat} {Y : List Int} {cv : List Value} {Cs : List (List Nat)} {v : VB} {y : Int} {D : List CD} {S : Nat → Int} {M : List Int} (h : HC b w0 W m st up Y cv Cs v y D S M) : HC b' w0 (W.setCell ⟨m, 0, none⟩ (.int .i32 b')) m st up Y cv Cs v y D S M :=
  h.move h.tc.muset (fun q cells t hq h70 h66 _ => set_far W m 0 _ (by rintro rfl; have := h.tc.mu; rw [hq] at this; cases this; exact h66 rfl)) (fun i hi => .inl rfl)
/-- A write into a block that is neither a stop nor the mutex, nor a row of pointers. -/
theorem TC.set {b : Int} {w0 W : World} {m : Nat} {st : List PL} {up : List Nat} {Y : List Int} {cv : List Value} {Cs : List (List Nat)} (h : TC b w0 W m st up Y cv Cs) {q i : Nat} {cells : Array Value} {t : Nat} (hq : W.heap[q]? = some (.cells cells t (0, 0))) (ht : t ≠ 70 ∧ t ≠ 66 ∧ t ≠ 25 ∧ t ≠ 87) (hb : w0.heap.size ≤ q) (u : Value) :
    TC b w0 (W.setCell ⟨q, i, none⟩ u) m st up Y cv Cs := by
  have far : ∀ {k : Nat} {cs : Array Value} {t' : Nat}, W.heap[k]? = some (.cells cs t' (0, 0)) → t' ≠ t → (W.setCell ⟨q, i, none⟩ u).heap[k]? = W.heap[k]? := fun hk hne => set_far W q i u (by
    rintro rfl; rw [hk] at hq; cases hq; exact hne rfl)
  refine ⟨h.len, h.lenY, h.lenV, h.lenC, (far h.mu (Ne.symm ht.2.1)).trans h.mu, h.mb, below_set h.below hb, fun j z hz => ?_, h.apart, h.ups, h.rowsC, h.dead⟩
  obtain ⟨q1, q2, q3, q4, q5, q6⟩ := h.at_ j z hz
  refine ⟨(far q1 (Ne.symm ht.1)).trans q1, (set_far W q i u ?_).trans q2, q3, q4, ?_, ?_⟩
  · rintro e; unfold IsCh chObj at q2; rw [e, hq] at q2; cases q2
  · exact row_keep rfl q5 (fun k hk => by obtain ⟨cells, hc⟩ := Kd.R_typed q5 k hk; exact far hc (Ne.symm ht.2.2.1))
  · exact row_keep rfl q6 (fun k hk => by obtain ⟨cells, hc⟩ := Kd.R_typed q6 k hk; exact far hc (Ne.symm ht.2.2.2))
def setS (S : Nat → Int) (j : Nat) (s : Int) : Nat → Int := fun i => if i = j then s else S i
/-- A function's state is set. -/
theorem HC.state {b : Int} {w0 W : World} {m : Nat} {st : List PL} {up : List Nat} {Y : List Int} {cv : List Value} {Cs : List (List Nat)} {v : VB} {y : Int} {D : List CD} {S : Nat → Int} {M : List Int} (h : HC b w0 W m st up Y cv Cs v y D S M) {j : Nat} {d : CD} (hd : D[j]? = some d) (s : Int) :
    HC b w0 (W.setCell ⟨d.q, 1, none⟩ (.int .i64 s)) m st up Y cv Cs v y D (setS S j s) M := by
  obtain ⟨c1, c2, c3, c4, c5, c6, c7⟩ := h.calls j d hd
  have far : ∀ {k : Nat} {cs : Array Value} {t' : Nat}, W.heap[k]? = some (.cells cs t' (0, 0)) → t' ≠ 89 → (W.setCell ⟨d.q, 1, none⟩ (.int .i64 s)).heap[k]? = W.heap[k]? := fun hk hne => set_far W d.q 1 _ (by
    rintro rfl; rw [hk] at c1; cases c1; exact hne rfl)
  refine ⟨h.tc.set c1 (by decide) c6 _, (far h.tbf (by decide)).trans h.tbf, (far h.wbf (by decide)).trans h.wbf, (far h.ybf (by decide)).trans h.ybf, h.wbb, row_keep rfl h.rowT (fun k hkv => by
    obtain ⟨cells, hc⟩ := Kd.R_typed h.rowT k hkv
    exact far hc (by decide)), h.lenM, fun i e he => ?_, h.qs, h.offC, h.lenD⟩
  obtain ⟨e1, e2, e3, e4, e5, e6, e7⟩ := h.calls i e he
  refine ⟨?_, (far e2 (by decide)).trans e2, (far e3 (by decide)).trans e3, (far e4 (by decide)).trans e4, e5, e6, e7⟩
  by_cases hij : i = j
  · subst hij
    rw [hd] at he; cases he
    have := blk_set c1 1 (.int .i64 s)
    rw [show setS S i s i = s from if_pos rfl]
    exact this
  · rw [show setS S j s i = S i from if_neg hij]
    exact (set_far W d.q 1 _ (h.qs i j e d hij he hd)).trans e1
set_option maxHeartbeats 1000000 in
theorem take_run {w0 W : World} {m : Nat} {st : List PL} {up : List Nat} {Y : List Int} {cv : List Value} {Cs : List (List Nat)} {v : VB} {y : Int} {D : List CD} {S : Nat → Int} {M : List Int} (h : HC 0 w0 W m st up Y cv Cs v y D S M) {j : Nat} {d : CD} (hd : D[j]? = some d) (k : Nat) (hk : k < st.length) (s : Int) :
    Calls Try.prog 39 #[.pointer (some ⟨gOf st k, 0, none⟩), .pointer (some ⟨d.q, 0, none⟩), .int .i64 s] W fun e w' =>
      e = .returned (.bool (S j == 0)) ∧ HC 0 w0 w' m st up Y cv Cs v y D (if S j = 0 then setS S j s else S) M ∧ (∀ q, q ≠ m → q ≠ d.q → w'.heap[q]? = W.heap[q]?) ∧ w'.heap.size = W.heap.size := by
  obtain ⟨x, hx⟩ : ∃ x, st[k]? = some x := ⟨st[k], by simp⟩
  rw [gOf_eq hx]
  have hs := (h.tc.at_ k x hx).1
  have hm : IsMu W m := h.tc.mu
  have hm0 := hm.free
  obtain ⟨c1, c2, c3, c4, c5, c6, c7⟩ := h.calls j d hd
  have h1 : HC 1 w0 (W.setCell ⟨m, 0, none⟩ (.int .i32 1)) m st up Y cv Cs v y D S M := h.muset
  obtain ⟨x1, _⟩ := h1.calls j d hd
  have s1 := (h1.tc.at_ k x hx).1
  have c0 : W.cell? ⟨x.g, 0, none⟩ = some (.pointer (some ⟨m, 0, none⟩)) := hs.cell 0 rfl
  have d0 : (W.setCell ⟨m, 0, none⟩ (.int .i32 1)).cell? ⟨x.g, 0, none⟩ = some (.pointer (some ⟨m, 0, none⟩)) := s1.cell 0 rfl
  have d1 : (W.setCell ⟨m, 0, none⟩ (.int .i32 1)).cell? ⟨d.q, 1, none⟩ = some (.int .i64 (S j)) := blk_cell x1 1
  have f1 := blk_frozen x1 1
  have HH := Lib.hid h
  have HH1 := Lib.hid h1
  have HM := Lib.hid hm
  have HD := Lib.hid hd
  have hqm : d.q ≠ m := by rintro e; have := h.tc.mu; rw [← e, c1] at this; cases this
  clear h h1 hs s1 c1 c2 c3 c4 x1 hd hm
  by_cases hz : S j = 0
  · have HZ := Lib.hid hz
    rw [hz] at d1
    have HST := Lib.hid (HH1.out.state HD.out s)
    rw [if_pos hz, hz]
    generalize x.g = g at *
    generalize d.q = q at *
    clear hz
    go_enter_defers Try.func39, Try.ntmps39
    go_wp2_with (go_at_call 22; refine (lock_free muLib ⟨m, 0, none⟩ _ hm0.1 hm0.2).mono ?_; rintro e w' ⟨rfl, rfl⟩)
    refine leaves_cons (f := 23) (args := #[.pointer (some ⟨m, 0, none⟩)]) (by simp) (by simp [go_sem]) ?_
    have hmh : IsMuH ((W.setCell ⟨m, 0, none⟩ (.int .i32 1)).setCell ⟨q, 1, none⟩ (.int .i64 s)) m := HST.out.tc.mu
    refine (unlock_deferred muLib ⟨m, 0, none⟩ .returning _ hmh.cell.1 hmh.cell.2).mono ?_
    rintro e u' w'' ⟨rfl, rfl, rfl⟩
    refine ⟨_, results_tmp rfl _ _ _, rfl, HST.out.muset, fun r h1 h2 => ?_, ?_⟩
    · rw [set_far _ m 0 _ h1, set_far _ q 1 _ h2, set_far _ m 0 _ h1]
    · rw [set_size, set_size, set_size]
  · have hb : (S j != 0) = true := bne_iff_ne.mpr hz
    have hb2 : (S j == 0) = false := beq_eq_false_iff_ne.mpr hz
    rw [if_neg hz, hb2]
    generalize S j = sj at *
    generalize x.g = g at *
    generalize d.q = q at *
    clear hz
    go_enter_defers Try.func39, Try.ntmps39
    go_wp2_with (go_at_call 22; refine (lock_free muLib ⟨m, 0, none⟩ _ hm0.1 hm0.2).mono ?_; rintro e w' ⟨rfl, rfl⟩)
    refine leaves_cons (f := 23) (args := #[.pointer (some ⟨m, 0, none⟩)]) (by simp) (by simp [go_sem]) ?_
    refine (unlock_deferred muLib ⟨m, 0, none⟩ .returning _ HM.out.held.1 HM.out.held.2).mono ?_
    rintro e u' w'' ⟨rfl, rfl, rfl⟩
    refine ⟨_, results_tmp rfl _ _ _, rfl, ?_, fun r h1 h2 => ?_, ?_⟩
    · rw [lock_back HM.out]; exact HH.out
    · rw [lock_back HM.out]
    · rw [lock_back HM.out]
end Go.Proofs.Ytofbnoiecpmjnaa.Pr
