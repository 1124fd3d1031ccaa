/- A tree at which functions wait, with the rows of the law. -/
import Derived.Test.YtofbnoiecpmjnaaKi
namespace Go.Proofs.Ytofbnoiecpmjnaa.Pr
open Go.RowKit Go.Proofs.YtofbnoiecpmjnaaW.PrintWords Go.Proofs.YtofbnoiecpmjnaaW.PrintLast Go.Proofs.YtofbnoiecpmjnaaW.PrintMore Go.MuLone
open Go.Lib
set_option linter.unusedVariables false
set_option linter.unusedSimpArgs false
variable {b : Int} {w0 W : World} {m : Nat} {st : List PL} {up : List Nat} {Y : List Int} {cv : List Value} {Cs : List (List Nat)} {v : VB} {y : Int} {D : List CD} {S : Nat → Int} {M : List Int}
def encF (p : Nat × Nat) : Value := .func (.func 38) #[] #[ptrOf p.1, ptrOf p.2]
def kF : Kd (Nat × Nat) := Kd.scalar encF (fun _ => rfl)
theorem infoF22 : (Try.prog.info? 22).map (fun i => (i.zero, i.size, i.bytes)) = some (some .nilFunc, 1, 8) := by kernel_rfl
theorem read_F {base : Nat} {W : World} {go n co : Nat} {L : List (Nat × Nat)} (h : Kd.R kF 22 W base T1 (.slice (some ⟨go, 0, none⟩) n co) L) (x : Nat) (hx : x < n) :
    W.cell? ⟨go, x, none⟩ = some (encF (L.getD x (0, 0))) := by
  obtain ⟨ce, hcl, hM, hcc, hfr⟩ := Kd.R_elem h ((0, 0) : Nat × Nat) (x : Int) (by omega) (by omega)
  have hce : ce = [encF (L.getD (x : Int).toNat (0, 0))] := hM
  subst hce
  have e1 : (x : Int).toNat * kF.sz + 0 = x := by show x * 1 + 0 = x; omega
  have h1 := hcc 0 _ rfl
  rw [e1] at h1
  exact h1
theorem at_B {w : World} {A : Option Addr} {n : Nat} {L : List Bool} (h : Kd.C Kd.bool w A n L) (i : Int) (h0 : 0 ≤ i) (h1 : i < n) : ∃ ad, A = some ad ∧ w.cell? (ad.add (i.toNat)) = some (.bool (L.getD i.toNat false)) := by
  obtain ⟨hl, _, hr⟩ := h
  obtain ⟨ad, rfl, hr2⟩ := hr (by omega)
  have hi : i.toNat < L.length := by omega
  obtain ⟨c, hcl, hk, hcc⟩ := hr2 i.toNat L[i.toNat] (by simp [hi])
  have hk' : c = [.bool L[i.toNat]] := hk
  subst hk'
  have := hcc 0 _ rfl
  refine ⟨ad, rfl, ?_⟩
  have h2 : w.cell? (ad.add i.toNat) = some (.bool L[i.toNat]) := by simpa [Kd.bool, Kd.scalar] using this
  rw [h2]
  simp [List.getD, hi]
/-- A row of answers is written. -/
theorem HC.past {w1 : World} {base : Nat} {u : Value} {xs : List (Nat × Nat)} (h : HC b w0 W m st up Y cv Cs v y D S M) (hR : Kd.R kF 22 W base T1 u xs) (hg : W.grownBy w1 u.ownBlock) (hB : Below w0.heap.size w0 w1) : HC b w0 w1 m st up Y cv Cs v y D S M := by
  have keep : ∀ {q : Nat} {cells : Array Value} {t : Nat}, W.heap[q]? = some (.cells cells t (0, 0)) → t ≠ 22 → w1.heap[q]? = W.heap[q]? := by
    intro q cells t hq ht
    refine hg.block q (lt_of hq) (fun e => ?_)
    obtain ⟨cells', hc'⟩ := Kd.R_typed hR q e.symm
    rw [hq] at hc'; cases hc'; exact ht rfl
  refine ⟨h.tc.past hR (by decide) hg hB (.inl (by decide)), (keep h.tbf (by decide)).trans h.tbf, (keep h.wbf (by decide)).trans h.wbf, (keep h.ybf (by decide)).trans h.ybf, h.wbb, row_keep rfl h.rowT (fun k hkv => by
    obtain ⟨cells, hc⟩ := Kd.R_typed h.rowT k hkv
    exact keep hc (by decide)), h.lenM, fun j d hd => ?_, h.qs, h.offC, h.lenD⟩
  obtain ⟨c1, c2, c3, c4, c5, c6, c7⟩ := h.calls j d hd
  exact ⟨(keep c1 (by decide)).trans c1, (keep c2 (by decide)).trans c2, (keep c3 (by decide)).trans c3, (keep c4 (by decide)).trans c4, c5, c6, c7⟩
structure QD (w0 wr : World) (m : Nat) (st : List PL) (up : List Nat) (Y : List Int) (cv : List Value) (Cs : List (List Nat)) (v : VB) (y : Int) (D : List CD) (S : Nat → Int) (M : List Int) (v10 v15 : Value) : Prop where
  hc : HC 0 w0 wr m st up Y cv Cs v y D S M
  rowP : Kd.R kP 25 wr w0.heap.size T1 v10 (st.map PL.g)
  rowB : Kd.R kF 22 wr w0.heap.size T1 v15 (D.map (fun d => (d.sb, d.cb)))
structure QC (w0 wr : World) (m : Nat) (st : List PL) (up : List Nat) (cv : List Value) (Cs : List (List Nat)) (v : VB) (y : Int) (D : List CD) (v10 v15 : Value) (ic j : Nat) : Prop where
  qd : QD w0 wr m st up (List.replicate st.length 0) cv Cs v y D (fun _ => 0) (List.replicate v.a 0) v10 v15
  len : D.length = j
  icf : wr.heap[ic]? = some (.cells #[.int .i64 (j : Int)] 3 (0, 0))
  icb : w0.heap.size ≤ ic
  ict : ic ≠ v.tr
  perm : Cs.flatten.Perm (D.map CD.q)
theorem law_row {α : Type} {d : Kd α} {e base : Nat} {v : VB} {W w' : World} {u : Value} {xs : List α} (hE : d.E = []) (he : e ≠ 89 ∧ e ≠ 66 ∧ e ≠ 70 ∧ e ≠ 87) (hR : Kd.R d e W base T1 u xs) (hk : LawKept v W w') (h1 : e ≠ 3) (h2 : e ≠ 4) (ht : ∃ cells, W.heap[v.tr]? = some (.cells cells 3 (0, 0))) (hw : W.heap[v.wb]? = some (.cells #[.bool false] 4 (0, 0))) : Kd.R d e w' base T1 u xs := by
  refine row_keep hE hR (fun k hkv => ?_)
  obtain ⟨cells, hc⟩ := Kd.R_typed hR k hkv
  refine hk k cells e hc he.1 he.2.1 he.2.2.1 he.2.2.2 ?_ ?_
  · rintro rfl; obtain ⟨c', hc'⟩ := ht; rw [hc] at hc'; cases hc'; exact h1 rfl
  · rintro rfl; rw [hw] at hc; cases hc; exact h2 rfl
theorem QD.kept {w' : World} {v10 v15 : Value} {Y' : List Int} {cv' : List Value} {Cs' : List (List Nat)} {S' : Nat → Int} {M' : List Int} (h : QD w0 W m st up Y cv Cs v y D S M v10 v15) (hc : HC 0 w0 w' m st up Y' cv' Cs' v y D S' M') (hk : LawKept v W w') : QD w0 w' m st up Y' cv' Cs' v y D S' M' v10 v15 :=
  ⟨hc, law_row rfl (by decide) h.rowP hk (by decide) (by decide) (Kd.R_typed h.hc.rowT v.tr rfl) h.hc.wbf, law_row rfl (by decide) h.rowB hk (by decide) (by decide) (Kd.R_typed h.hc.rowT v.tr rfl) h.hc.wbf⟩
theorem QD.quiet {v10 v15 : Value} {w' : World} {S' : Nat → Int} (h : QD w0 W m st up Y cv Cs v y D S M v10 v15) (hc : HC 0 w0 w' m st up Y cv Cs v y D S' M) {q : Nat} {cells : Array Value} (hq : W.heap[q]? = some (.cells cells 89 (0, 0))) (hk : ∀ r, r ≠ m → r ≠ q → w'.heap[r]? = W.heap[r]?) : QD w0 w' m st up Y cv Cs v y D S' M v10 v15 :=
  h.kept hc (fun r cells' t hr a1 a2 a3 a4 a5 a6 => hk r (by rintro rfl; have := h.hc.tc.mu; rw [hr] at this; cases this; exact a2 rfl) (by rintro rfl; rw [hr] at hq; cases hq; exact a1 rfl))
theorem flatten_put (Cs : List (List Nat)) (k q : Nat) (hk : k < Cs.length) : ((Cs.set k (Cs.getD k [] ++ [q])).flatten).Perm (Cs.flatten ++ [q]) := by
  induction Cs generalizing k with
  | nil => simp at hk
  | cons a t ih =>
    cases k with
    | zero =>
      have e1 : (a :: t).getD 0 [] = a := by simp [List.getD]
      rw [e1]
      simp only [List.set_cons_zero, List.flatten_cons]
      rw [List.append_assoc, List.append_assoc]
      exact List.Perm.append_left a List.perm_append_comm
    | succ k =>
      have h1 := ih k (by simpa using hk)
      have e1 : (a :: t).getD (k + 1) [] = t.getD k [] := by simp [List.getD]
      rw [e1]
      simp only [List.set_cons_succ, List.flatten_cons]
      rw [List.append_assoc]
      exact List.Perm.append_left a h1
theorem getD_le_flatten (Cs : List (List Nat)) (k : Nat) : (Cs.getD k []).length ≤ Cs.flatten.length := by
  induction Cs generalizing k with
  | nil => simp [List.getD]
  | cons a t ih =>
    cases k with
    | zero => simp [List.getD]
    | succ k =>
      have := ih k
      have e1 : (a :: t).getD (k + 1) [] = t.getD k [] := by simp [List.getD]
      rw [e1]
      simp only [List.flatten_cons, List.length_append]
      omega
/-- One more function waits; what After answered is not in the row yet. -/
structure QM (w0 wr : World) (m : Nat) (st : List PL) (up : List Nat) (cv : List Value) (Cs : List (List Nat)) (v : VB) (y : Int) (D : List CD) (d : CD) (v10 v15 : Value) (ic j : Nat) : Prop where
  hc : HC 0 w0 wr m st up (List.replicate st.length 0) cv Cs v y (D ++ [d]) (fun _ => 0) (List.replicate v.a 0)
  rowP : Kd.R kP 25 wr w0.heap.size T1 v10 (st.map PL.g)
  rowB : Kd.R kF 22 wr w0.heap.size T1 v15 (D.map (fun d => (d.sb, d.cb)))
  len : D.length = j
  icf : wr.heap[ic]? = some (.cells #[.int .i64 (j : Int)] 3 (0, 0))
  icb : w0.heap.size ≤ ic
  ict : ic ≠ v.tr
  perm : Cs.flatten.Perm ((D ++ [d]).map CD.q)
theorem QC.after {v10 v15 : Value} {ic j : Nat} (h : QC w0 W m st up cv Cs v y D v10 v15 ic j) (k : Nat) (hk : k < st.length) (hj : j < v.a) (ha : v.a ≤ 17592186044415) :
    Calls Try.prog 20 #[.pointer (some ⟨(st.map PL.g).getD k 0, 0, none⟩), cloV v ic] W fun e w' =>
      ∃ (d : CD) (cv' : List Value) (Cs' : List (List Nat)), e = .returned (encF (d.sb, d.cb)) ∧ QM w0 w' m st up cv' Cs' v y D d v10 v15 ic j := by
  have hl := h.len
  have hfl : Cs.flatten.length = j := by rw [h.perm.length_eq, List.length_map, hl]
  have hck := getD_le_flatten Cs k
  refine (after_run h.qd.hc k hk (rep_get _ _) ic (by rw [hl]; exact h.icf) h.ict rfl (by omega) (by omega)).mono ?_
  rintro e w' ⟨sb, cb, q, cv', rfl, q1, q2, q3, q4⟩
  have ht := Kd.R_typed h.qd.hc.rowT v.tr rfl
  refine ⟨⟨q, ic, sb, cb, k⟩, cv', _, rfl, q1, law_row rfl (by decide) h.qd.rowP q2 (by decide) (by decide) ht h.qd.hc.wbf, law_row rfl (by decide) h.qd.rowB q2 (by decide) (by decide) ht h.qd.hc.wbf, hl, ?_, h.icb, h.ict, ?_⟩
  · refine (q2 ic _ 3 h.icf (by decide) (by decide) (by decide) (by decide) h.ict ?_).trans h.icf
    rintro rfl; have := h.qd.hc.wbf; rw [h.icf] at this; cases this
  · rw [List.map_append]
    exact (flatten_put Cs k q (by rw [h.qd.hc.tc.lenC]; exact hk)).trans (List.Perm.append_right _ h.perm)
/-- What After answered is put into the row. -/
theorem QM.step {w1 : World} {d : CD} {v10 v15 u1 : Value} {ic j : Nat} (h : QM w0 W m st up cv Cs v y D d v10 v15 ic j) (hR : Kd.R kF 22 w1 w0.heap.size T1 u1 (D.map (fun d => (d.sb, d.cb)) ++ [(d.sb, d.cb)])) (hB : Below w0.heap.size w0 w1) (hg : W.grownBy w1 v15.ownBlock) :
    QD w0 w1 m st up (List.replicate st.length 0) cv Cs v y (D ++ [d]) (fun _ => 0) (List.replicate v.a 0) v10 u1 ∧ w1.heap[ic]? = some (.cells #[.int .i64 (j : Int)] 3 (0, 0)) := by
  refine ⟨⟨h.hc.past h.rowB hg hB, row_past h.rowP h.rowB (by intro q hq; simp [kP, Kd.scalar] at hq; subst hq; decide) hg, by rw [List.map_append]; exact hR⟩, ?_⟩
  refine (hg.block ic (lt_of h.icf) (fun e => ?_)).trans h.icf
  obtain ⟨cells, hc⟩ := Kd.R_typed h.rowB ic e.symm
  have := h.icf
  rw [hc] at this; cases this
/-- The next round's cell is laid. -/
theorem QD.next {w' : World} {d : CD} {v10 u1 : Value} {j n : Nat} (h : QD w0 W m st up (List.replicate st.length 0) cv Cs v y (D ++ [d]) (fun _ => 0) (List.replicate v.a 0) v10 u1) (hl : D.length = j) (hp : Cs.flatten.Perm ((D ++ [d]).map CD.q)) (hB : Below w0.heap.size w0 w') (hB' : Below W.heap.size W w') (hf : W.heap.size ≤ n)
    (hn : w'.heap[n]? = some (.cells #[.int .i64 ((j + 1 : Nat) : Int)] 3 (0, 0))) : QC w0 w' m st up cv Cs v y (D ++ [d]) v10 u1 n (j + 1) := by
  have hz := h.hc.tc.below.size
  refine ⟨⟨h.hc.more hB hB'.block, Kd.R_below h.rowP hB', Kd.R_below h.rowB hB'⟩, by simp [hl], hn, by omega, ?_, hp⟩
  have := Kd.R_lt h.hc.rowT v.tr rfl
  omega
/-- The states when so many have been gone through. -/
def SF (Tk : List Bool) (j : Nat) : Nat → Int := fun i => if i < j ∧ Tk.getD i false = true then 2 else 0
theorem SF_zero (Tk : List Bool) : SF Tk 0 = fun _ => 0 := by funext i; simp [SF]
theorem SF_same {Tk : List Bool} {j : Nat} (h : Tk.getD j false = false) : SF Tk (j + 1) = SF Tk j := by
  funext i
  unfold SF
  by_cases hi : i = j
  · subst hi; simp only [h]; simp
  · have : (i < j + 1) ↔ (i < j) := by omega
    simp only [this]
theorem SF_step {Tk : List Bool} {j : Nat} (h : Tk.getD j false = true) : setS (SF Tk j) j 2 = SF Tk (j + 1) := by
  funext i
  unfold setS SF
  by_cases hi : i = j
  · subst hi; simp only [h]; simp
  · have : (i < j + 1) ↔ (i < j) := by omega
    simp only [this, if_neg hi]
theorem SF_at (Tk : List Bool) (j : Nat) : SF Tk j j = 0 := by simp [SF]
theorem rep_len (n i : Nat) : (List.replicate n (0 : Int)).getD i 0 = 0 := rep_get n i
/-- What the answer to the i-th does. -/
theorem QD.back {v10 v15 : Value} (h : QD w0 W m st up Y cv Cs v y D S M v10 v15) (i : Nat) (hi : i < D.length) :
    ∃ p : Nat × Nat, (D.map (fun d => (d.sb, d.cb))).getD i (0, 0) = p ∧ Calls Try.prog 38 #[ptrOf p.1, ptrOf p.2] W fun e w' => e = .returned (.bool (S i == 0)) ∧ QD w0 w' m st up Y cv Cs v y D (if S i = 0 then setS S i 2 else S) M v10 v15 := by
  have hd : D[i]? = some D[i] := by simp [hi]
  refine ⟨(D[i].sb, D[i].cb), by simp [List.getD, hi], ?_⟩
  refine (back_run h.hc hd).mono ?_
  rintro e w' ⟨rfl, q1, q2, q3⟩
  exact ⟨rfl, h.quiet q1 (h.hc.calls i _ hd).1 q2⟩
/-- The root is cancelled: each that waits is called, once. -/
theorem QD.cancel {v10 v15 : Value} (h : QD w0 W m st up (List.replicate st.length 0) cv Cs v y D S M v10 v15) (hy : y ≠ 0) (hN : 0 < st.length) (hM : ∀ i, M.getD i 0 = 0) (hp : Cs.flatten.Perm (D.map CD.q)) (ha : v.a ≤ 17592186044415) :
    Calls Try.prog 16 #[.pointer (some ⟨(st.map PL.g).getD 0 0, 0, none⟩), .int .i64 y] W fun e w' => e = .returned (.int .i64 y) ∧
      ∃ (Y' : List Int) (cv' : List Value) (Cs' : List (List Nat)) (S' : Nat → Int) (M' : List Int), QD w0 w' m st up Y' cv' Cs' v y D S' M' v10 v15 ∧ Y'.getD 0 0 = y ∧ (∀ i, i < D.length → S' i = (if S i = 0 then 1 else S i) ∧ M'.getD i 0 = (if S i = 0 then 1 else 0)) := by
  have hlD := h.hc.lenD
  have hnd : (D.map CD.q).Nodup := by
    refine List.pairwise_iff_getElem.2 (fun i j hi hj hij => ?_)
    rw [List.length_map] at hi hj
    rw [List.getElem_map, List.getElem_map]
    exact h.hc.qs i j _ _ (by omega) (List.getElem?_eq_getElem hi) (List.getElem?_eq_getElem hj)
  refine (cancel_callC h.hc hy 0 hN (rep_get _ _) hM (by rw [hp.length_eq, List.length_map]; omega) (fun q hq => ?_) (hp.nodup_iff.2 hnd)).mono ?_
  · have := hp.subset hq
    obtain ⟨d, hd, rfl⟩ := List.mem_map.1 this
    obtain ⟨j, hj⟩ := List.getElem?_of_mem hd
    exact ⟨j, d, hj, rfl⟩
  · rintro e w' ⟨rfl, cv', Cs', Lr, S', M', q1, q2, q3, q4, q5⟩
    have hups : Ups up st.length := h.hc.tc.ups
    have hall : ∀ i, i < st.length → Sub up 0 i := by
      intro i
      induction i using Nat.strongRecOn with
      | ind i ih =>
        intro hi
        by_cases h0 : i = 0
        · subst h0; exact .here
        · exact .step (by omega) (ih _ (hups i (by omega) hi) (by have := hups i (by omega) hi; omega))
    obtain ⟨m1, m2⟩ := cancelF_marked up st.length y hy h.hc.tc.len hups st.length 0 (by omega) hN (List.replicate st.length 0) (by simp) (fun i _ _ _ h4 => absurd (rep_get _ _) h4)
    have hY : ∀ i, i < st.length → (cancelF up y st.length (List.replicate st.length 0) 0).getD i 0 = y := by
      intro i hi
      rw [m2 i hi, if_neg (by rw [rep_get]; simp), if_pos (hall i hi)]
    have hC : Cs'.flatten = [] := by
      apply List.flatten_eq_nil_iff.2
      intro l hl
      obtain ⟨i, hi⟩ := List.getElem?_of_mem hl
      have hil : i < st.length := by rw [← q1.tc.lenC]; exact (List.getElem?_eq_some_iff.1 hi).1
      have := q1.tc.dead i hil (by rw [hY i hil]; exact hy)
      rw [List.getD, hi] at this
      exact this
    rw [hC, List.append_nil] at q2
    refine ⟨rfl, _, cv', Cs', S', M', h.kept q1 q4, hY 0 hN, fun i hi => ?_⟩
    have hd : D[i]? = some D[i] := by simp [hi]
    obtain ⟨t1, t2⟩ := q3 i _ hd
    have hmem : D[i].q ∈ Lr := (q2.trans hp).symm.subset (List.mem_map.2 ⟨D[i], List.getElem_mem hi, rfl⟩)
    rw [t1, t2]
    simp [hmem]
end Go.Proofs.Ytofbnoiecpmjnaa.Pr
