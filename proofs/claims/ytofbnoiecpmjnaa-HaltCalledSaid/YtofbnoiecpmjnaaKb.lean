/- Cancel of a stop in a tree at which functions wait: what is to be called. -/
import Derived.Test.YtofbnoiecpmjnaaKa
namespace Go.Proofs.Ytofbnoiecpmjnaa.Pr
open Go.RowKit Go.Proofs.YtofbnoiecpmjnaaW.PrintWords Go.Proofs.YtofbnoiecpmjnaaW.PrintLast Go.Proofs.YtofbnoiecpmjnaaW.PrintMore Go.MuLone
open Go.Lib
set_option linter.unusedVariables false
set_option linter.unusedSimpArgs false
theorem infoP87 : (Try.prog.info? 87).map (fun i => (i.zero, i.size, i.bytes)) = some (some (.pointer none), 1, 8) := by kernel_rfl
def CancelC (w0 : World) (m : Nat) (st : List PL) (up : List Nat) (Y' : List Int) (W : World) (cv : List Value) (Cs : List (List Nat)) (v : Value) (w' : World) : Prop :=
  ∃ (cv' : List Value) (Cs' : List (List Nat)) (Lr : List Nat), TC 1 w0 w' m st up Y' cv' Cs' ∧ Kd.R kP 87 w' w0.heap.size T1 v Lr ∧ (Lr ++ Cs'.flatten).Perm Cs.flatten ∧
    (∀ i, i < st.length → cv'.getD i nilV = cv.getD i nilV ∨ cv'.getD i nilV = nilV) ∧
    (v.ownBlock = none ∨ (∃ i, i < st.length ∧ v.ownBlock = (cv.getD i nilV).ownBlock) ∨ ∃ b, v.ownBlock = some b ∧ W.heap.size ≤ b) ∧
    (∀ i, i < st.length → (cv'.getD i nilV).ownBlock = none ∨ (cv'.getD i nilV).ownBlock ≠ v.ownBlock) ∧
    (∀ q, Outer W m st cv q → w'.heap[q]? = W.heap[q]?) ∧ W.heap.size ≤ w'.heap.size
/-- What stands behind the three writes of a stop that is cancelled. -/
theorem cutC_facts {w0 W w5 w8 : World} {b : Int} {m : Nat} {st : List PL} {up : List Nat} {Y : List Int} {cv : List Value} {Cs : List (List Nat)} {k : Nat} {g c : Nat} {u : Value} {y : Int} (h : TC b w0 W m st up Y cv Cs) (hx : st[k]? = some ⟨g, c, u⟩) (hy : y ≠ 0) (hY : Y.getD k 0 = 0)
    (h5 : w5 = closeCh (W.setCell ⟨g, 5, none⟩ (.int .i64 y)) c) (h8 : w8 = w5.setCell ⟨g, 7, none⟩ nilV) :
    IsStopC w5 m g (cutSR (srT st up Y k ⟨g, c, u⟩) y) (cv.getD k nilV) ∧ TC b w0 w8 m st up (Y.set k y) (cv.set k nilV) (Cs.set k []) ∧ (∀ q, q ≠ g → q ≠ c → w8.heap[q]? = W.heap[q]?) ∧ w8.heap.size = W.heap.size ∧ IsStopC w8 m g (cutSR (srT st up Y k ⟨g, c, u⟩) y) nilV := by
  obtain ⟨p1, p2, p3, p4, p5, p6⟩ := h.at_ k _ hx
  have p1' : IsStopC W m g (srT st up Y k ⟨g, c, u⟩) (cv.getD k nilV) := p1
  have p2' : IsCh W c false := by have := p2; rw [decide_eq_false (by simpa using hY)] at this; exact this
  have p3' : w0.heap.size ≤ g := p3
  have p4' : w0.heap.size ≤ c := p4
  have hgc : g ≠ c := stopC_ne_ch p1' p2'
  have hmg : m ≠ g := Ne.symm (stopC_ne_mu p1' h.mu)
  have hmc : m ≠ c := by rintro rfl; have := h.mu; unfold IsCh chObj at p2'; rw [this] at p2'; cases p2'
  have s1 := blk_set p1' 5 (.int .i64 y)
  have c1 : IsCh (W.setCell ⟨g, 5, none⟩ (.int .i64 y)) c false := (set_far W g 5 _ (Ne.symm hgc)).trans p2'
  have s5 : IsStopC w5 m g (cutSR (srT st up Y k ⟨g, c, u⟩) y) (cv.getD k nilV) := by
    rw [h5]; exact (close_far _ c hgc).trans s1
  have c5 : IsCh w5 c true := by rw [h5]; exact close_is c1
  have f5 : ∀ q, q ≠ g → q ≠ c → w5.heap[q]? = W.heap[q]? := fun q h1 h2 => by
    rw [h5, close_far _ c h2, set_far W g 5 _ h1]
  have B5 : Below w0.heap.size w0 w5 := by rw [h5]; exact close_below (below_set h.below p3') p4'
  have s8 : IsStopC w8 m g (cutSR (srT st up Y k ⟨g, c, u⟩) y) nilV := by rw [h8]; exact blk_set s5 7 nilV
  have c8 : IsCh w8 c true := by rw [h8]; exact (set_far w5 g 7 _ (Ne.symm hgc)).trans c5
  have f8 : ∀ q, q ≠ g → q ≠ c → w8.heap[q]? = W.heap[q]? := fun q h1 h2 => by
    rw [h8, set_far w5 g 7 _ h1]; exact f5 q h1 h2
  have B8 : Below w0.heap.size w0 w8 := by rw [h8]; exact below_set B5 p3'
  refine ⟨s5, h.cut hx hy ((f8 m hmg hmc).trans h.mu) s8 c8 B8 f8, f8, ?_, s8⟩
  rw [h8, set_size, h5, close_size, set_size]
/-- The rows of a child, joined to what came ahead of it. -/
structure Mid3 (w0 W wr : World) (m : Nat) (st : List PL) (up : List Nat) (Yc : List Int) (cv : List Value) (Cs : List (List Nat)) (l : Value) : Prop where
  ex : CancelC w0 m st up Yc W cv Cs l wr
theorem CancelC.len {w0 : World} {m : Nat} {st : List PL} {up : List Nat} {Y' : List Int} {W : World} {cv : List Value} {Cs : List (List Nat)} {v : Value} {w' : World} (h : CancelC w0 m st up Y' W cv Cs v w') (hl : Cs.flatten.length ≤ 17592186044415) : ∃ A n c, v = .slice A n c ∧ n ≤ 17592186044415 := by
  obtain ⟨cv', Cs', Lr, q1, q2, q3, _⟩ := h
  obtain ⟨A, c, rfl⟩ := Kd.R_slice q2
  have := q3.length_eq
  simp only [List.length_append] at this
  exact ⟨A, _, c, rfl, by omega⟩
theorem CancelC.start {w0 W w8 : World} {m : Nat} {st : List PL} {up : List Nat} {Y : List Int} {cv : List Value} {Cs : List (List Nat)} {k : Nat} {x : PL} {y : Int} (h : TC 1 w0 W m st up Y cv Cs) (hx : st[k]? = some x) (h8 : TC 1 w0 w8 m st up (Y.set k y) (cv.set k nilV) (Cs.set k [])) (hf : ∀ q, q ≠ x.g → q ≠ x.c → w8.heap[q]? = W.heap[q]?) (hz : w8.heap.size = W.heap.size) :
    CancelC w0 m st up (Y.set k y) W cv Cs (cv.getD k nilV) w8 := by
  have hkl : k < st.length := (List.getElem?_eq_some_iff.1 hx).1
  obtain ⟨p1, p2, p3, p4, p5, p6⟩ := h.at_ k x hx
  refine ⟨cv.set k nilV, Cs.set k [], Cs.getD k [], h8, ?_, flatten_set Cs k (by rw [h.lenC]; exact hkl), fun i hi => ?_, .inr (.inl ⟨k, hkl, rfl⟩), fun i hi => ?_, fun q hq => ?_, by omega⟩
  · refine row_keep rfl p6 (fun q hq => ?_)
    obtain ⟨cells, hcc⟩ := Kd.R_typed p6 q hq
    exact hf q (row_ne_stopC hcc (by decide) p1) (is_row_ne_ch hcc p2)
  · rw [setV_getD cv k i nilV (by rw [h.lenV]; exact hkl)]
    by_cases hik : i = k
    · rw [if_pos hik]; exact .inr rfl
    · rw [if_neg hik]; exact .inl rfl
  · rw [setV_getD cv k i nilV (by rw [h.lenV]; exact hkl)]
    by_cases hik : i = k
    · rw [if_pos hik]; exact .inl rfl
    · rw [if_neg hik]; exact h.rowsC i k hik hi hkl
  · obtain ⟨a1, a2, a3, a4⟩ := hq
    have := a3 x (List.mem_of_getElem? hx)
    exact hf q this.1 this.2
/-- A child's rows behind those that came ahead. -/
theorem CancelC.join {w0 W wr w9 w1 : World} {m : Nat} {st : List PL} {up : List Nat} {Yc Y9 : List Int} {cv : List Value} {Cs : List (List Nat)} {l l1 : Value}
    {cvc : List Value} {Csc : List (List Nat)} {Lk : List Nat} (a1 : TC 1 w0 wr m st up Yc cvc Csc) (a2 : Kd.R kP 87 wr w0.heap.size T1 l Lk) (a3 : (Lk ++ Csc.flatten).Perm Cs.flatten) (a4 : ∀ i, i < st.length → cvc.getD i nilV = cv.getD i nilV ∨ cvc.getD i nilV = nilV)
    (a5 : l.ownBlock = none ∨ (∃ i, i < st.length ∧ l.ownBlock = (cv.getD i nilV).ownBlock) ∨ ∃ b, l.ownBlock = some b ∧ W.heap.size ≤ b) (a6 : ∀ i, i < st.length → (cvc.getD i nilV).ownBlock = none ∨ (cvc.getD i nilV).ownBlock ≠ l.ownBlock) (a7 : ∀ q, Outer W m st cv q → wr.heap[q]? = W.heap[q]?) (a8 : W.heap.size ≤ wr.heap.size)
    {cv9 : List Value} {Cs9 : List (List Nat)} {Lr : List Nat} (b1 : TC 1 w0 w9 m st up Y9 cv9 Cs9) (b3 : (Lr ++ Cs9.flatten).Perm Csc.flatten) (b4 : ∀ i, i < st.length → cv9.getD i nilV = cvc.getD i nilV ∨ cv9.getD i nilV = nilV) (b7 : ∀ q, Outer wr m st cvc q → w9.heap[q]? = wr.heap[q]?) (b8 : wr.heap.size ≤ w9.heap.size)
    (hl9 : Kd.R kP 87 w9 w0.heap.size T1 l Lk) (c1 : Kd.R kP 87 w1 w0.heap.size T1 l1 (Lk ++ Lr)) (c2 : Below w0.heap.size w0 w1) (c3 : w9.grownBy w1 l.ownBlock) (c4 : l1.ownBlock = l.ownBlock ∨ ∃ b, l1.ownBlock = some b ∧ w9.heap.size ≤ b) :
    CancelC w0 m st up Y9 W cv Cs l1 w1 := by
  have off9 : ∀ i, i < st.length → (cv9.getD i nilV).ownBlock = none ∨ (cv9.getD i nilV).ownBlock ≠ l.ownBlock := fun i hi => by
    rcases b4 i hi with e | e
    · rw [e]; exact a6 i hi
    · rw [e]; exact .inl rfl
  refine ⟨cv9, Cs9, Lk ++ Lr, b1.past hl9 (by decide) c3 c2 (.inr off9), c1, ?_, fun i hi => ?_, ?_, fun i hi => ?_, fun q hq => ?_, by have := c3.size; omega⟩
  · rw [List.append_assoc]
    exact (List.Perm.append_left Lk b3).trans a3
  · rcases b4 i hi with e | e
    · rw [e]; exact a4 i hi
    · exact .inr e
  · rcases c4 with e | ⟨b, e, hb⟩
    · rw [e]; exact a5
    · exact .inr (.inr ⟨b, e, by omega⟩)
  · rcases c4 with e | ⟨b, e, hb⟩
    · rw [e]; exact off9 i hi
    · cases hu : (cv9.getD i nilV).ownBlock with
      | none => exact .inl rfl
      | some b' =>
        refine .inr (fun e' => ?_)
        have hx : st[i]? = some st[i] := by simp [hi]
        have := Kd.R_lt (b1.at_ i _ hx).2.2.2.2.2 b' hu
        rw [e] at e'; cases e'; omega
  · have hw := a7 q hq
    obtain ⟨o1, o2, o3, o4⟩ := hq
    have o4' : ∀ i, i < st.length → (cvc.getD i nilV).ownBlock ≠ some q := fun i hi => by
      rcases a4 i hi with e | e
      · rw [e]; exact o4 i hi
      · rw [e]; intro e2; cases e2
    have h9 := b7 q ⟨by omega, o2, o3, o4'⟩
    have hql : some q ≠ l.ownBlock := by
      intro e
      rcases a5 with t | ⟨i, hi, t⟩ | ⟨b, t, hb⟩
      · rw [← e] at t; cases t
      · exact o4 i hi (t.symm.trans e.symm)
      · rw [← e] at t; cases t; omega
    exact (c3.block q (by omega) hql).trans (h9.trans hw)
set_option maxHeartbeats 2000000 in
set_option maxRecDepth 100000 in
theorem cancel_treeC (w0 : World) (m : Nat) (st : List PL) (up : List Nat) (y : Int) (hy : y ≠ 0) : ∀ (d k : Nat), st.length - k ≤ d → k < st.length → ∀ (W : World) (Y : List Int) (cv : List Value) (Cs : List (List Nat)), Cs.flatten.length ≤ 17592186044415 → TC 1 w0 W m st up Y cv Cs →
    Calls Try.prog 24 #[.pointer (some ⟨gOf st k, 0, none⟩), .int .i64 y] W fun e w' => ∃ v, e = .returned v ∧ CancelC w0 m st up (cancelF up y d Y k) W cv Cs v w' := by
  intro d
  induction d with
  | zero => intro k h1 h2; omega
  | succ d ih =>
    intro k hd hkl W Y cv Cs hlen hT
    obtain ⟨⟨g, c, u⟩, hx⟩ : ∃ x, st[k]? = some x := ⟨st[k], by simp⟩
    rw [show gOf st k = g from gOf_eq hx]
    obtain ⟨hs', hc', hgb', hcb', hR', hC'⟩ := hT.at_ k _ hx
    have hs : IsStopC W m g (srT st up Y k ⟨g, c, u⟩) (cv.getD k nilV) := hs'
    have hc : IsCh W c (decide (Y.getD k 0 ≠ 0)) := hc'
    have hR : Kd.R kP 25 W w0.heap.size T1 u ((kidsOf up k).map (gOf st)) := hR'
    clear hs' hc' hgb' hcb' hR'
    by_cases hw : Y.getD k 0 ≠ 0
    · have c5 : W.cell? ⟨g, 5, none⟩ = some (.int .i64 (Y.getD k 0)) := hs.cell 5 rfl
      have hb : (Y.getD k 0 != 0) = true := bne_iff_ne.mpr hw
      have HT := Lib.hid hT
      have HF := Lib.hid (show cancelF up y (d + 1) Y k = Y by rw [cancelF, if_pos hw])
      generalize Y.getD k 0 = yk at *
      clear hT hs hc hR hC' ih hlen hx hw
      go_enter Try.func24, Try.ntmps24
      go_wp2_with fail
      go_ret
      refine ⟨nilV, rfl, cv, Cs, [], by rw [HF.out]; exact HT.out, Kd.R_nil _ _ _ _ _, List.Perm.refl _, fun i hi => .inl rfl, .inl rfl, fun i hi => ?_, fun q hq => rfl, Nat.le_refl _⟩
      cases (cv.getD i nilV).ownBlock with
      | none => exact .inl rfl
      | some b => exact .inr (by intro e; cases e)
    · have hw0 : Y.getD k 0 = 0 := Decidable.not_not.1 hw
      rw [cancelF, if_neg hw]
      have hc0 : IsCh W c false := by rw [decide_eq_false (by simpa using hw0)] at hc; exact hc
      have hgc : g ≠ c := stopC_ne_ch hs hc0
      obtain ⟨A, cap, hu⟩ := Kd.R_slice hR
      rw [List.length_map] at hu
      have hnm : (kidsOf up k).length ≤ 9223372036854775807 := by
        rw [hu] at hR
        have := (Kd.R_reads' hR).2.2.2.1
        simpa using this
      have hkids : ∀ j, j < (kidsOf up k).length → (kidsOf up k).getD j 0 < st.length ∧ st.length - (kidsOf up k).getD j 0 ≤ d := by
        intro j hj
        have hmem : (kidsOf up k).getD j 0 ∈ kidsOf up k := by simp [List.getD, hj]
        obtain ⟨h1, h2, h3⟩ := mem_kids hmem
        rw [hT.len] at h2
        have h4 := hT.ups _ h1 h2
        omega
      have HKD := Lib.hid hkids
      clear hkids
      have c5 : W.cell? ⟨g, 5, none⟩ = some (.int .i64 0) := by rw [← hw0]; exact hs.cell 5 rfl
      have f5 := hs.frozen 5
      have hs1 := blk_set hs 5 (.int .i64 y)
      have c6 : (W.setCell ⟨g, 5, none⟩ (.int .i64 y)).cell? ⟨g, 6, none⟩ = some (.chan (some c)) := (blk_cell hs1 6).trans rfl
      have hc1 : IsCh (W.setCell ⟨g, 5, none⟩ (.int .i64 y)) c false := (set_far W g 5 _ (Ne.symm hgc)).trans hc0
      obtain ⟨Al, cl, hl⟩ := Kd.R_slice hC'
      obtain ⟨nl, hnl⟩ : ∃ nl, nl = (Cs.getD k []).length := ⟨_, rfl⟩
      rw [← hnl] at hl
      have HT := Lib.hid hT
      have HC1 := Lib.hid hc1
      have HU := Lib.hid hu
      have HL := Lib.hid hl
      have HX := Lib.hid hx
      have HIH := Lib.hid ih
      have HLEN := Lib.hid hlen
      have HW0 := Lib.hid hw0
      obtain ⟨n, hn⟩ : ∃ n, n = (kidsOf up k).length := ⟨_, rfl⟩
      rw [← hn] at HU hnm
      have HN := Lib.hid hn
      clear hs hs1 hc1 hw hw0 hc hc0 hT hR hC' hu hl hx ih hn hnl hlen
      go_enter Try.func24, Try.ntmps24
      go_wp2_with (refine close_list (c := c) (.tmp 20) 67 rfl rfl rfl HC1.out ?_; intro w5 hw5; have h8 := Lib.hid (cutC_facts HT.out HX.out hy HW0.out hw5 rfl); clear hw5; have c7 : w5.cell? ⟨g, 7, none⟩ = some (.slice Al nl cl) := (h8.out.1.cell 7 rfl).trans (congrArg some HL.out); have f7 := h8.out.1.frozen 7; have c2 : (w5.setCell ⟨g, 7, none⟩ (.slice none 0 0)).cell? ⟨g, 2, none⟩ = some (.slice A n cap) := (h8.out.2.2.2.2.cell 2 rfl).trans (congrArg some HU.out))
      have HS := Lib.hid (show CancelC w0 m st up (Y.set k y) W cv Cs (.slice Al nl cl) (w5.setCell ⟨g, 7, none⟩ (.slice none 0 0)) by
        rw [← HL.out]
        exact CancelC.start HT.out HX.out h8.out.2.1 h8.out.2.2.1 h8.out.2.2.2.1)
      clear c7 f7 c2 h8
      generalize w5.setCell ⟨g, 7, none⟩ (.slice none 0 0) = w8 at *
      clear HT HC1 c6
      go_loopw [5, 7, 33] (fun v5 v7 v33 wr => ∃ j : Nat, v33 = .int .i64 j ∧ j ≤ n ∧ Hid (CancelC w0 m st up (((kidsOf up k).take j).foldl (fun Y j => cancelF up y d Y j) (Y.set k y)) W cv Cs v5 wr)) (fun _ _ v33 _ => n - (intOf v33).toNat)
      case atStart => exact ⟨0, rfl, Nat.zero_le _, HS⟩
      case round =>
        clear HS
        obtain ⟨j, rfl, hjn, HC⟩ := hrel
        by_cases hlt : j < n
        · have hjl : j < (kidsOf up k).length := by rw [← HN.out]; exact hlt
          obtain ⟨cvc, Csc, Lk, a1, a2, a3, a4, a5, a6, a7, a8⟩ := HC.out
          have hRr := (a1.at_ k _ HX.out).2.2.2.2.1
          obtain ⟨go, cap', hu', _⟩ := Kd.R_form hRr (by simp; omega)
          rw [List.length_map, ← HN.out] at hu'
          have hu2 := HU.out.symm.trans hu'
          cases hu2
          have hrd := read_P (go := go) (n := n) (co := cap) (by rw [← HU.out]; exact hRr) j hlt
          have e1 : ((kidsOf up k).map (gOf st)).getD j 0 = gOf st ((kidsOf up k).getD j 0) := by simp [List.getD, hjl]
          rw [e1] at hrd
          have hlc : Csc.flatten.length ≤ 17592186044415 := by
            have h1 := a3.length_eq
            have h2 := HLEN.out
            simp only [List.length_append] at h1
            omega
          have HCL := Lib.hid (HIH.out ((kidsOf up k).getD j 0) (HKD.out j hjl).2 (HKD.out j hjl).1 wr _ cvc Csc hlc a1)
          have e2 : (kidsOf up k).getD j 0 = (kidsOf up k)[j] := by simp [List.getD, hjl]
          have HF := Lib.hid (show ((kidsOf up k).take (j + 1)).foldl (fun Y j => cancelF up y d Y j) (Y.set k y) = cancelF up y d (((kidsOf up k).take j).foldl (fun Y j => cancelF up y d Y j) (Y.set k y)) ((kidsOf up k).getD j 0) by rw [foldl_take _ _ _ j hjl, e2])
          obtain ⟨A5, c5', h5⟩ := Kd.R_slice a2
          have H5 := Lib.hid h5
          have HA := Lib.hid (And.intro a1 (And.intro a2 (And.intro a3 (And.intro a4 (And.intro a5 (And.intro a6 (And.intro a7 a8)))))))
          clear e1 e2 hRr hu' hlc a1 a2 a3 a4 a5 a6 a7 a8 HC h5
          generalize gOf st ((kidsOf up k).getD j 0) = gj at *
          go_wp2_with fail
          refine HCL.out.mono ?_
          clear HCL hrd
          rintro e w9 ⟨v9, rfl, cv9, Cs9, Lr, b1, b2, b3, b4, b5, b6, b7, b8⟩
          obtain ⟨A9, c9, h9⟩ := Kd.R_slice b2
          have hroom : Lk.length + Lr.length ≤ 17592186044415 := by
            have h1 := HA.out.2.2.1.length_eq
            have h2 := HLEN.out
            have h3 := b3.length_eq
            simp only [List.length_append] at h1 h3
            omega
          have hl9 : Kd.R kP 87 w9 w0.heap.size T1 u5 Lk := HA.out.1.outer_row rfl (by decide) HA.out.2.1 b7 (.inr HA.out.2.2.2.2.2.1)
          have HB9 := Lib.hid (And.intro b1 (And.intro b2 (And.intro b3 (And.intro b4 (And.intro b7 (And.intro b8 hl9))))))
          have HRO := Lib.hid hroom
          subst h9
          clear b1 b2 b3 b4 b5 b6 b7 b8 hl9 hroom
          have HJF := Lib.hid (fun (l1 : Value) (w1 : World) (d1 : Kd.R kP 87 w1 w0.heap.size T1 l1 (Lk ++ Lr)) (d2 : Below w0.heap.size w0 w1) (d3 : w9.grownBy w1 u5.ownBlock) (d4 : l1.ownBlock = u5.ownBlock ∨ ∃ b, l1.ownBlock = some b ∧ w9.heap.size ≤ b) =>
            CancelC.join HA.out.1 HA.out.2.1 HA.out.2.2.1 HA.out.2.2.2.1 HA.out.2.2.2.2.1 HA.out.2.2.2.2.2.1 HA.out.2.2.2.2.2.2.1 HA.out.2.2.2.2.2.2.2 HB9.out.1 HB9.out.2.2.1 HB9.out.2.2.2.1 HB9.out.2.2.2.2.1 HB9.out.2.2.2.2.2.1 HB9.out.2.2.2.2.2.2 d1 d2 d3 d4)
          go_wp2_with (at_builtin; refine Kd.R_append_rows kP (Rr := kP.K w9) (w0 := w0) w0.heap.size rfl (.tmp 37) (.tmp 40) 68 87 (.pointer none) 8 rfl Try.underlying68 infoP87 rfl (by decide) (by omega) u5 Lk Lr A9 Lr.length c9 T1 (fun _ => False) rfl rfl ?aR ?aD ?aM (fun _ hk => hk.elim) ?aF ?aB ?aS ?aL ?_; (case aR => exact HB9.out.2.2.2.2.2.2); (case aD => exact (Kd.R_reads' HB9.out.2.1).2.2); (case aM => exact fun _ _ h => h); (case aF => exact fun _ _ => trivial); (case aB => exact HB9.out.1.below); (case aS => exact HB9.out.1.below.size); (case aL => have := HRO.out; omega); intro l1 w1 d1 d2 d3 d4; have HJ := Lib.hid (HJF.out l1 w1 d1 d2 d3 d4); clear d1 d2 d3 d4)
          go_roundw
          case rel => exact ⟨j + 1, by go_num, by omega, Lib.hid (by rw [HF.out]; exact HJ.out)⟩
          case measure => simp [intOf]; omega
        · go_wp2_with fail
          go_ret
          obtain rfl : j = n := by omega
          refine ⟨_, rfl, ?_⟩
          have h := HC.out
          rw [HN.out, List.take_length] at h
          exact h
end Go.Proofs.Ytofbnoiecpmjnaa.Pr
