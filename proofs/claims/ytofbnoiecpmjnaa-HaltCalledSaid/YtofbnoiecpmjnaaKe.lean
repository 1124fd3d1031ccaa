/- Functions that wait at stops: one is taken back; one is called; all of a list are called. -/
import Derived.Test.YtofbnoiecpmjnaaKc
import Derived.Deep.QuietTactic
import Derived.BigQuiet
namespace Go.Proofs.Ytofbnoiecpmjnaa.Pr
open Go.RowKit Go.Proofs.YtofbnoiecpmjnaaW.PrintWords Go.Proofs.YtofbnoiecpmjnaaW.PrintLast Go.Proofs.YtofbnoiecpmjnaaW.PrintMore Go.MuLone
open Go.Lib
set_option linter.unusedVariables false
set_option linter.unusedSimpArgs false
variable {b : Int} {w0 W : World} {m : Nat} {st : List PL} {up : List Nat} {Y : List Int} {cv : List Value} {Cs : List (List Nat)} {v : VB} {y : Int} {D : List CD} {S : Nat → Int} {M : List Int}
def CallsKept (v : VB) (W w' : World) : Prop := ∀ (q : Nat) (cells : Array Value) (t : Nat), W.heap[q]? = some (.cells cells t (0, 0)) → t ≠ 89 → t ≠ 66 → q ≠ v.tr → q ≠ v.wb → w'.heap[q]? = W.heap[q]?
theorem CallsKept.refl (v : VB) (W : World) : CallsKept v W W := fun _ _ _ _ _ _ _ _ => rfl
theorem CallsKept.trans {v : VB} {W W1 W2 : World} (h1 : CallsKept v W W1) (h2 : CallsKept v W1 W2) : CallsKept v W W2 := fun q cells t hq a1 a2 a3 a4 => by
  have h := h1 q cells t hq a1 a2 a3 a4
  exact (h2 q cells t (h.trans hq) a1 a2 a3 a4).trans h
theorem HC.times (h : HC b w0 W m st up Y cv Cs v y D S M) (j : Nat) (hj : j < v.a) (z : Int) : HC b w0 (W.setCell ⟨v.tr, j, none⟩ (.int .i64 z)) m st up Y cv Cs v y D S (M.set j z) := by
  obtain ⟨cells, hc⟩ := Kd.R_typed h.rowT v.tr rfl
  have hb : w0.heap.size ≤ v.tr := Kd.R_base h.rowT v.tr rfl
  have far : ∀ {k : Nat} {cs : Array Value} {t' : Nat}, W.heap[k]? = some (.cells cs t' (0, 0)) → t' ≠ 3 → (W.setCell ⟨v.tr, j, none⟩ (.int .i64 z)).heap[k]? = W.heap[k]? := fun hk hne => set_far W v.tr j _ (by
    rintro rfl; rw [hk] at hc; cases hc; exact hne rfl)
  refine ⟨h.tc.set hc (by decide) hb _, (far h.tbf (by decide)).trans h.tbf, (far h.wbf (by decide)).trans h.wbf, (far h.ybf (by decide)).trans h.ybf, h.wbb, (store_J h.rowT j hj z).1, by simp [h.lenM], fun i e he => ?_, h.qs, h.offC, h.lenD⟩
  obtain ⟨e1, e2, e3, e4, e5, e6, e7⟩ := h.calls i e he
  exact ⟨(far e1 (by decide)).trans e1, (set_far W v.tr j _ e7).trans e2, (far e3 (by decide)).trans e3, (far e4 (by decide)).trans e4, e5, e6, e7⟩
theorem HC.wrong (h : HC b w0 W m st up Y cv Cs v y D S M) : HC b w0 (W.setCell ⟨v.wb, 0, none⟩ (.bool false)) m st up Y cv Cs v y D S M := by
  have far : ∀ {k : Nat} {cs : Array Value} {t' : Nat}, W.heap[k]? = some (.cells cs t' (0, 0)) → t' ≠ 4 → (W.setCell ⟨v.wb, 0, none⟩ (.bool false)).heap[k]? = W.heap[k]? := fun hk hne => set_far W v.wb 0 _ (by
    intro e; rw [e, h.wbf] at hk; cases hk; exact hne rfl)
  refine ⟨h.tc.set h.wbf (by decide) h.wbb _, (far h.tbf (by decide)).trans h.tbf, blk_set h.wbf 0 (.bool false), (far h.ybf (by decide)).trans h.ybf, h.wbb, row_keep rfl h.rowT (fun k hkv => by
    obtain ⟨cells, hc⟩ := Kd.R_typed h.rowT k hkv
    exact far hc (by decide)), h.lenM, fun i e he => ?_, h.qs, h.offC, h.lenD⟩
  obtain ⟨e1, e2, e3, e4, e5, e6, e7⟩ := h.calls i e he
  exact ⟨(far e1 (by decide)).trans e1, (far e2 (by decide)).trans e2, (far e3 (by decide)).trans e3, (far e4 (by decide)).trans e4, e5, e6, e7⟩
set_option maxHeartbeats 1000000 in
/-- What After answered is called: it is taken back if it waits still. -/
theorem back_run (h : HC 0 w0 W m st up Y cv Cs v y D S M) {j : Nat} {d : CD} (hd : D[j]? = some d) :
    Calls Try.prog 38 #[ptrOf d.sb, ptrOf d.cb] W fun e w' =>
      e = .returned (.bool (S j == 0)) ∧ HC 0 w0 w' m st up Y cv Cs v y D (if S j = 0 then setS S j 2 else S) M ∧ (∀ q, q ≠ m → q ≠ d.q → w'.heap[q]? = W.heap[q]?) ∧ w'.heap.size = W.heap.size := by
  obtain ⟨c1, c2, c3, c4, c5, c6, c7⟩ := h.calls j d hd
  have x3 : W.cell? ⟨d.sb, 0, none⟩ = some (.pointer (some ⟨gOf st d.o, 0, none⟩)) := blk_cell c3 0
  have x4 : W.cell? ⟨d.cb, 0, none⟩ = some (.pointer (some ⟨d.q, 0, none⟩)) := blk_cell c4 0
  have HT := Lib.hid (take_run h hd d.o c5 2)
  clear c1 c2 c3 c4 c6 c7 c5 h hd
  generalize (S j == 0) = sb at *
  generalize (if S j = 0 then setS S j 2 else S) = S' at *
  generalize gOf st d.o = g at *
  generalize d.q = q at *
  unfold ptrOf
  generalize d.sb = s1 at *
  generalize d.cb = s2 at *
  go_enter Try.func38, Try.ntmps38
  go_wp2_with fail
  refine HT.out.mono ?_
  rintro e w2 ⟨rfl, h1, h2, h3⟩
  have H1 := Lib.hid (And.intro h1 (And.intro h2 h3))
  clear h1 h2 h3
  go_wp2_with fail
  go_ret
  exact ⟨rfl, H1.out⟩
set_option maxHeartbeats 1000000 in
/-- A function is called: its number is counted. -/
theorem clo_run (h : HC b w0 W m st up Y cv Cs v y D S M) {j : Nat} {d : CD} (hd : D[j]? = some d) (hj : j < v.a) (hM : M.getD j 0 = 0) :
    Calls Try.prog 21 #[.int .i64 y, ptrOf v.tb, ptrOf d.ib, ptrOf v.wb, ptrOf v.yb] W fun e w' =>
      e = .returned (.tuple #[]) ∧ HC b w0 w' m st up Y cv Cs v y D S (M.set j 1) ∧ (∀ q, q ≠ v.tr → q ≠ v.wb → w'.heap[q]? = W.heap[q]?) ∧ w'.heap.size = W.heap.size := by
  obtain ⟨c1, c2, c3, c4, c5, c6, c7⟩ := h.calls j d hd
  have xt : W.cell? ⟨v.tb, 0, none⟩ = some (.slice (some ⟨v.tr, 0, none⟩) v.a v.ct) := blk_cell h.tbf 0
  have xi : W.cell? ⟨d.ib, 0, none⟩ = some (.int .i64 (j : Int)) := blk_cell c2 0
  obtain ⟨xr, xf⟩ := read_J h.rowT j hj
  rw [hM] at xr
  have h2 := h.times j hj 1
  have yw : (W.setCell ⟨v.tr, j, none⟩ (.int .i64 1)).cell? ⟨v.wb, 0, none⟩ = some (.bool false) := blk_cell h2.wbf 0
  have yf : (W.setCell ⟨v.tr, j, none⟩ (.int .i64 1)).frozen? ⟨v.wb, 0, none⟩ = false := blk_frozen h2.wbf 0
  have yy : (W.setCell ⟨v.tr, j, none⟩ (.int .i64 1)).cell? ⟨v.yb, 0, none⟩ = some (.int .i64 y) := blk_cell h2.ybf 0
  have hself : (y != y) = false := by simp
  have H3 := Lib.hid h2.wrong
  have hjm : j < 9223372036854775807 := by
    have := (Kd.R_reads' h.rowT).2.2.2.1
    have := h.lenM
    omega
  clear h h2 hd c1 c2 c3 c4 c5 c6 c7 hM
  unfold ptrOf
  generalize d.ib = ib at *
  go_enter Try.func21, Try.ntmps21
  go_wp2_with fail
  go_end0
  exact ⟨rfl, H3.out, fun q h1 h2 => by rw [set_far _ v.wb 0 _ h2, set_far _ v.tr j _ h1], by rw [set_size, set_size]⟩
end Go.Proofs.Ytofbnoiecpmjnaa.Pr
