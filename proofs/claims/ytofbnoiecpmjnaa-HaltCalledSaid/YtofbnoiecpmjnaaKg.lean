/- Cancel, as it is called, of a stop in a tree at which functions wait. -/
import Derived.Test.YtofbnoiecpmjnaaKf
namespace Go.Proofs.Ytofbnoiecpmjnaa.Pr
open Go.RowKit Go.Proofs.YtofbnoiecpmjnaaW.PrintWords Go.Proofs.YtofbnoiecpmjnaaW.PrintLast Go.Proofs.YtofbnoiecpmjnaaW.PrintMore Go.MuLone
open Go.Lib
set_option linter.unusedVariables false
set_option linter.unusedSimpArgs false
variable {b : Int} {w0 W : World} {m : Nat} {st : List PL} {up : List Nat} {Y : List Int} {cv : List Value} {Cs : List (List Nat)} {v : VB} {y : Int} {D : List CD} {S : Nat → Int} {M : List Int}
/-- What no call of this layer touches: rows of stops, of functions' answers, of numbers (but times). -/
def LawKept (v : VB) (W w' : World) : Prop := ∀ (q : Nat) (cells : Array Value) (t : Nat), W.heap[q]? = some (.cells cells t (0, 0)) → t ≠ 89 → t ≠ 66 → t ≠ 70 → t ≠ 87 → q ≠ v.tr → q ≠ v.wb → w'.heap[q]? = W.heap[q]?
theorem LawKept.refl (v : VB) (W : World) : LawKept v W W := fun _ _ _ _ _ _ _ _ _ _ => rfl
theorem LawKept.trans {v : VB} {W W1 W2 : World} (h1 : LawKept v W W1) (h2 : LawKept v W1 W2) : LawKept v W W2 := fun q cells t hq a1 a2 a3 a4 a5 a6 => by
  have h := h1 q cells t hq a1 a2 a3 a4 a5 a6
  exact (h2 q cells t (h.trans hq) a1 a2 a3 a4 a5 a6).trans h
theorem CallsKept.law {v : VB} {W w' : World} (h : CallsKept v W w') : LawKept v W w' := fun q cells t hq a1 a2 _ _ a5 a6 => h q cells t hq a1 a2 a5 a6
theorem HC.mu_kept {b' : Int} (h : HC b w0 W m st up Y cv Cs v y D S M) : LawKept v W (W.setCell ⟨m, 0, none⟩ (.int .i32 b')) := fun q cells t hq a1 a2 a3 a4 a5 a6 => set_far W m 0 _ (by
  rintro rfl; have := h.tc.mu; rw [hq] at this; cases this; exact a2 rfl)
theorem HC.outer_kept {w' : World} (h : HC b w0 W m st up Y cv Cs v y D S M) (hk : ∀ q, Outer W m st cv q → w'.heap[q]? = W.heap[q]?) : LawKept v W w' := fun q cells t hq a1 a2 a3 a4 a5 a6 => by
  refine hk q ⟨lt_of hq, ?_, ?_, ?_⟩
  · rintro rfl; have := h.tc.mu; rw [hq] at this; cases this; exact a2 rfl
  · intro x hx
    obtain ⟨i, hi⟩ := List.getElem?_of_mem hx
    obtain ⟨q1, q2, _⟩ := h.tc.at_ i x hi
    exact ⟨row_ne_stopC hq a3 q1, is_row_ne_ch hq q2⟩
  · intro i hi e
    have hx : st[i]? = some st[i] := by simp [hi]
    obtain ⟨cells', hc'⟩ := Kd.R_typed (h.tc.at_ i _ hx).2.2.2.2.2 q e
    rw [hq] at hc'; cases hc'; exact a4 rfl
/-- A stop that is cancelled already. -/
theorem cancel_again (h : HC 0 w0 W m st up Y cv Cs v y D S M) (hy : y ≠ 0) (k : Nat) (hk : k < st.length) (hY : Y.getD k 0 ≠ 0) :
    Calls Try.prog 16 #[.pointer (some ⟨gOf st k, 0, none⟩), .int .i64 y] W fun e w' => e = .returned (.int .i64 (Y.getD k 0)) ∧ w' = W := by
  obtain ⟨x, hx⟩ : ∃ x, st[k]? = some x := ⟨st[k], by simp⟩
  rw [gOf_eq hx]
  have hs := (h.tc.at_ k x hx).1
  have hm : IsMu W m := h.tc.mu
  have hm0 := hm.free
  have h1 : TC 1 w0 (W.setCell ⟨m, 0, none⟩ (.int .i32 1)) m st up Y cv Cs := h.tc.muset
  have s1 := (h1.at_ k x hx).1
  have c0 : W.cell? ⟨x.g, 0, none⟩ = some (.pointer (some ⟨m, 0, none⟩)) := hs.cell 0 rfl
  have d0 : (W.setCell ⟨m, 0, none⟩ (.int .i32 1)).cell? ⟨x.g, 0, none⟩ = some (.pointer (some ⟨m, 0, none⟩)) := s1.cell 0 rfl
  have d5 : (W.setCell ⟨m, 0, none⟩ (.int .i32 1)).cell? ⟨x.g, 5, none⟩ = some (.int .i64 (Y.getD k 0)) := s1.cell 5 rfl
  have hb : (Y.getD k 0 != 0) = true := bne_iff_ne.mpr hY
  have hy0 : (y == 0) = false := beq_eq_false_iff_ne.mpr hy
  have HM := Lib.hid hm
  clear h hs h1 s1 hx hm hY
  generalize Y.getD k 0 = yk at *
  generalize x.g = g at *
  go_enter Try.func16, Try.ntmps16
  go_wp2_with (go_at_call 22; refine (lock_free muLib ⟨m, 0, none⟩ _ hm0.1 hm0.2).mono ?_; rintro e w' ⟨rfl, rfl⟩)
  refine (unlock_held muLib ⟨m, 0, none⟩ _ HM.out.held.1 HM.out.held.2).mono ?_
  rintro e w3 ⟨rfl, rfl⟩
  go_wp2_with fail
  go_ret
  exact ⟨rfl, lock_back HM.out⟩
def CancelledC (w0 W : World) (m : Nat) (st : List PL) (up : List Nat) (Y' : List Int) (Cs : List (List Nat)) (v : VB) (y : Int) (D : List CD) (S : Nat → Int) (w' : World) : Prop :=
  ∃ (cv' : List Value) (Cs' : List (List Nat)) (Lr : List Nat) (S' : Nat → Int) (M' : List Int), HC 0 w0 w' m st up Y' cv' Cs' v y D S' M' ∧ (Lr ++ Cs'.flatten).Perm Cs.flatten ∧ Told D S Lr S' M' ∧ LawKept v W w' ∧ W.heap.size ≤ w'.heap.size
set_option maxHeartbeats 1000000 in
theorem cancel_callC (h : HC 0 w0 W m st up Y cv Cs v y D S M) (hy : y ≠ 0) (k : Nat) (hk : k < st.length) (hY : Y.getD k 0 = 0) (hM : ∀ i, M.getD i 0 = 0) (hlen : Cs.flatten.length ≤ 17592186044415) (hsub : ∀ q ∈ Cs.flatten, ∃ (j : Nat) (d : CD), D[j]? = some d ∧ d.q = q) (hnd : Cs.flatten.Nodup) :
    Calls Try.prog 16 #[.pointer (some ⟨gOf st k, 0, none⟩), .int .i64 y] W fun e w' => e = .returned (.int .i64 y) ∧ CancelledC w0 W m st up (cancelF up y st.length Y k) Cs v y D S w' := by
  obtain ⟨x, hx⟩ : ∃ x, st[k]? = some x := ⟨st[k], by simp⟩
  have hg : gOf st k = x.g := gOf_eq hx
  have hs := (h.tc.at_ k x hx).1
  have hm : IsMu W m := h.tc.mu
  have hm0 := hm.free
  have h1 : HC 1 w0 (W.setCell ⟨m, 0, none⟩ (.int .i32 1)) m st up Y cv Cs v y D S M := h.muset
  have s1 := (h1.tc.at_ k x hx).1
  rw [← hg] at hs s1
  have HCT := Lib.hid (cancel_treeC w0 m st up y hy st.length k (by omega) hk _ Y cv Cs hlen h1.tc)
  have c0 : W.cell? ⟨gOf st k, 0, none⟩ = some (.pointer (some ⟨m, 0, none⟩)) := hs.cell 0 rfl
  have d0 : (W.setCell ⟨m, 0, none⟩ (.int .i32 1)).cell? ⟨gOf st k, 0, none⟩ = some (.pointer (some ⟨m, 0, none⟩)) := s1.cell 0 rfl
  have d5 : (W.setCell ⟨m, 0, none⟩ (.int .i32 1)).cell? ⟨gOf st k, 5, none⟩ = some (.int .i64 0) := by rw [← hY]; exact s1.cell 5 rfl
  have hy0 : (y == 0) = false := beq_eq_false_iff_ne.mpr hy
  have HH := Lib.hid h
  have HH1 := Lib.hid h1
  have HX := Lib.hid hx
  have HG := Lib.hid hg
  have HMM := Lib.hid hM
  have HSUB := Lib.hid hsub
  have HND := Lib.hid hnd
  have HZ1 := Lib.hid (set_size W ⟨m, 0, none⟩ (.int .i32 1))
  have HK1 := Lib.hid (h.mu_kept (b' := 1))
  clear h h1 hs s1 hm hx hg hM hsub hnd hlen hY
  obtain ⟨g, hgg⟩ : ∃ g, g = gOf st k := ⟨_, rfl⟩
  rw [← hgg] at HG c0 d0 d5 HCT ⊢
  have HGG := Lib.hid hgg
  clear hgg
  go_enter Try.func16, Try.ntmps16
  go_wp2_with (go_at_call 22; refine (lock_free muLib ⟨m, 0, none⟩ _ hm0.1 hm0.2).mono ?_; rintro e w' ⟨rfl, rfl⟩)
  refine HCT.out.mono ?_
  rintro e w2 ⟨l, rfl, cv', Cs', Lr, q1, q2, q3, q4, q5, q6, q7, q8⟩
  have h2 : HC 1 w0 w2 m st up (cancelF up y st.length Y k) cv' Cs' v y D S M := HH1.out.outer q1 q7 q4
  have hk2 : LawKept v (W.setCell ⟨m, 0, none⟩ (.int .i32 1)) w2 := HH1.out.outer_kept q7
  have s2 := (q1.at_ k x HX.out).1
  rw [← HG.out] at s2
  have e0 : w2.cell? ⟨g, 0, none⟩ = some (.pointer (some ⟨m, 0, none⟩)) := s2.cell 0 rfl
  have hmh : IsMuH w2 m := q1.mu
  have h3 : HC 0 w0 (w2.setCell ⟨m, 0, none⟩ (.int .i32 0)) m st up (cancelF up y st.length Y k) cv' Cs' v y D S M := h2.muset
  have hk3 : LawKept v w2 (w2.setCell ⟨m, 0, none⟩ (.int .i32 0)) := h2.mu_kept
  have hr3 : Kd.R kP 87 (w2.setCell ⟨m, 0, none⟩ (.int .i32 0)) w0.heap.size T1 l Lr := row_keep rfl q2 (fun q hq => by
    obtain ⟨cells, hc⟩ := Kd.R_typed q2 q hq
    exact set_far w2 m 0 _ (by rintro rfl; rw [q1.mu] at hc; cases hc))
  have hsubL : ∀ q ∈ Lr, ∃ (j : Nat) (d : CD), D[j]? = some d ∧ d.q = q := fun q hq => HSUB.out q (q3.subset (List.mem_append.2 (.inl hq)))
  have hndL : Lr.Nodup := (List.nodup_append.1 ((q3.nodup_iff).2 HND.out)).1
  have HRUN := Lib.hid (run_calls h3 k hk l Lr hr3 hsubL hndL HMM.out)
  rw [← HGG.out] at HRUN
  have HP := Lib.hid (show (Lr ++ Cs'.flatten).Perm Cs.flatten ∧ LawKept v W (w2.setCell ⟨m, 0, none⟩ (.int .i32 0)) ∧ W.heap.size ≤ (w2.setCell ⟨m, 0, none⟩ (.int .i32 0)).heap.size from ⟨q3, (HK1.out.trans hk2).trans hk3, by rw [set_size]; have := HZ1.out; omega⟩)
  obtain ⟨Al, cl, el⟩ := Kd.R_slice q2
  subst el
  clear q1 q2 q3 q4 q5 q6 q7 q8 h2 hk2 s2 h3 hk3 hr3 hsubL hndL HCT
  go_wp2_with fail
  refine (unlock_held muLib ⟨m, 0, none⟩ _ hmh.cell.1 hmh.cell.2).mono ?_
  rintro e w3 ⟨rfl, rfl⟩
  go_wp2_with fail
  refine HRUN.out.mono ?_
  rintro e w4 ⟨rfl, S', M', r1, r2, r3, r4⟩
  have HF : Hid (CancelledC w0 W m st up (cancelF up y st.length Y k) Cs v y D S w4) := Lib.hid ⟨cv', Cs', Lr, S', M', r1, HP.out.1, r2, HP.out.2.1.trans r3.law, by rw [r4]; exact HP.out.2.2⟩
  clear r1 r2 r3 r4
  go_wp2_with fail
  go_ret
  exact ⟨rfl, HF.out⟩
end Go.Proofs.Ytofbnoiecpmjnaa.Pr
