/- Contracts of package sketch: Check, Add, Merge, Less, in the print's form. -/
import Derived.Test.YtlnhpccapadpmaaXSb
namespace Go.Proofs.Ytlnhpccapadpmaa.Pr
open Go.RowKit Go.Proofs.YtlnhpccapadpmaaW.PrintWords Go.Proofs.YtlnhpccapadpmaaW.PrintLast Go.Proofs.YtlnhpccapadpmaaW.PrintMore
set_option linter.unusedVariables false
set_option linter.unusedSimpArgs false

def okB (b : S61) : Bool := decide (0 ≤ b.f1) && decide (b.f1 ≤ M64)
def short (l : List S61) : Bool := decide (l.length ≤ 140737488355328)
def okRow (r : List Int) : Bool := decide (r.length = 1920) && r.all (fun x => decide (0 ≤ x) && decide (x ≤ M64))
def putRow (r : List Int) (i n : Int) : List Int := r.set i.toNat (satAdd (r.getD i.toNat 0) n)

def sketch_Check.f (l : List S61) : Option Int := if short l = true then some (if barsOK (-1) l = true then 0 else 131) else none
set_option maxHeartbeats 1000000 in
theorem sketch_Check.calls (A0 : Option Addr) (c0 : Nat) (l0 : List S61) (r : Int) (w : World) (hr0 : Kd.C k61 w A0 l0.length l0) (hc0 : l0.length ≤ c0) (h : sketch_Check.f l0 = some r) :
    Calls Try.prog 20 #[.slice A0 l0.length c0] w fun e w' => e = .returned (.int .i64 r) ∧ Below w.heap.size w w' := by
  unfold sketch_Check.f at h
  by_cases hs : short l0 = true
  · rw [if_pos hs] at h
    obtain rfl := Option.some.inj h
    clear h
    have hL := laid_any A0 c0 l0 w hr0 hc0 (by simpa [short] using hs)
    have HL := Lib.hid hL
    clear hL hr0 hc0 hs
    by_cases hb : barsOK (-1) l0 = true
    · rw [if_pos hb]
      have HBk := Lib.hid hb
      clear hb
      go_enter Try.func20, Try.ntmps20
      go_wp2_with fail
      refine HL.out.mono ?_
      rintro e w' ⟨hbel, h1 | h1⟩
      · rw [HBk.out] at h1; exact absurd h1.1 (by simp)
      obtain ⟨_, g, rfl, _, _⟩ := h1
      have HB := Lib.hid hbel
      clear hbel
      go_wp2
      go_ret
      exact ⟨rfl, HB.out⟩
    · rw [if_neg hb]
      have HBk := Lib.hid hb
      clear hb
      go_enter Try.func20, Try.ntmps20
      go_wp2_with fail
      refine HL.out.mono ?_
      rintro e w' ⟨hbel, h1 | h1⟩
      · obtain ⟨_, rfl⟩ := h1
        have HB := Lib.hid hbel
        clear hbel
        go_wp2
        go_ret
        exact ⟨rfl, HB.out⟩
      · exact absurd h1.1 HBk.out
  · rw [if_neg hs] at h; exact absurd h (by simp)

theorem okRow_len {r : List Int} (h : okRow r = true) : r.length = 1920 := by simp [okRow] at h; exact h.1
theorem okRow_get {r : List Int} (h : okRow r = true) (i : Nat) (hi : i < 1920) : 0 ≤ r.getD i 0 ∧ r.getD i 0 ≤ M64 := by
  have hl := okRow_len h
  simp only [okRow, Bool.and_eq_true, List.all_eq_true, decide_eq_true_eq] at h
  have := h.2 (r.getD i 0) (by rw [List.getD, List.getElem?_eq_getElem (by omega)]; exact List.getElem_mem _)
  exact this
theorem okRow_set {r : List Int} (h : okRow r = true) (i : Nat) (x : Int) (hx : 0 ≤ x ∧ x ≤ M64) : okRow (r.set i x) = true := by
  simp only [okRow, Bool.and_eq_true, List.all_eq_true, decide_eq_true_eq, List.length_set] at h ⊢
  refine ⟨h.1, fun y hy => ?_⟩
  rcases List.mem_or_eq_of_mem_set hy with h1 | rfl
  · exact h.2 y h1
  · exact hx
theorem M64_nonneg : (0 : Int) ≤ M64 := by decide
theorem okRow_zrow : okRow zrow = true := by
  simp only [okRow, zrow, Bool.and_eq_true, List.all_eq_true, decide_eq_true_eq, List.length_replicate, List.mem_replicate]
  exact ⟨trivial, fun x hx => by rw [hx.2]; exact ⟨Int.le_refl _, M64_nonneg⟩⟩
theorem okRow_laid (l : List S61) : ∀ r, okRow r = true → l.all okB = true → okRow (laidRow r l) = true := by
  induction l with
  | nil => intro r h _; exact h
  | cons b t ih =>
    intro r h hl
    simp only [List.all_cons, Bool.and_eq_true] at hl
    have hb := hl.1
    simp only [okB, Bool.and_eq_true, decide_eq_true_eq] at hb
    exact ih _ (okRow_set h _ _ hb) hl.2
theorem satAdd_ok {x n : Int} (hx : 0 ≤ x) (hn : 0 ≤ n) : 0 ≤ satAdd x n ∧ satAdd x n ≤ M64 := by
  have := M64_nonneg
  unfold satAdd; split <;> omega

def sketch_Add.f (l : List S61) (v t : Int) : Option (List S61 × Int) :=
  if (short l && l.all okB && inW t) = true then
    (sketch_Index.f 1 v).bind fun i => if (decide (0 ≤ i) && decide (i < 1920)) = true then (if barsOK (-1) l = true then some (barsFrom 0 (putRow (laidRow zrow l) i t), 0) else some ([], 131)) else none
  else none
def ListPost (w : World) (xs : List S61) (c : Int) (e : Ending) (w' : World) : Prop := ∃ v0_ : Value, e = .returned (.tuple #[v0_, .int .i64 c]) ∧ Kd.R k61 61 w' w.heap.size (fun _ => True) v0_ xs ∧ Below w.heap.size w w'
theorem ListPost.no {w w' : World} (c : Int) (h : Below w.heap.size w w') : ListPost w [] c (.returned (.tuple #[.slice none 0 0, .int .i64 c])) w' := ⟨_, rfl, Kd.R_nil _ _ _ _ _, h⟩
theorem below_trans' {w w1 w2 : World} (h : Below w.heap.size w w1) (k : Below w1.heap.size w1 w2) : Below w.heap.size w w2 := h.trans (k.mono h.size)
theorem ListPost.yes {w w1 w2 : World} {xs : List S61} {v : Value} (h : Below w.heap.size w w1) (hr : Kd.R k61 61 w2 w1.heap.size (fun _ => True) v xs) (k : Below w1.heap.size w1 w2) :
    ListPost w xs 0 (.returned (.tuple #[v, .int .i64 0])) w2 := ⟨_, rfl, Kd.R_lower hr h.size, below_trans' h k⟩

set_option maxHeartbeats 1000000 in
theorem sketch_Add.calls (A0 : Option Addr) (c0 : Nat) (l0 : List S61) (a1 a2 : Int) (r1 : List S61) (r2 : Int) (w : World) (hr0 : Kd.C k61 w A0 l0.length l0) (hc0 : l0.length ≤ c0) (h : sketch_Add.f l0 a1 a2 = some (r1, r2)) :
    Calls Try.prog 13 #[.slice A0 l0.length c0, .int .u64 a1, .int .u64 a2] w fun e w' => ∃ v0_ : Value, e = .returned (.tuple #[v0_, .int .i64 r2]) ∧ Kd.R k61 61 w' w.heap.size (fun _ => True) v0_ r1 ∧ Below w.heap.size w w' := by
  show Calls Try.prog 13 _ w fun e w' => ListPost w r1 r2 e w'
  unfold sketch_Add.f at h
  by_cases hs : (short l0 && l0.all okB && inW a2) = true
  · rw [if_pos hs] at h
    simp only [Bool.and_eq_true] at hs
    obtain ⟨i, hi, h⟩ := Option.bind_eq_some_iff.1 h
    by_cases hir : (decide (0 ≤ i) && decide (i < 1920)) = true
    · rw [if_pos hir] at h
      simp only [Bool.and_eq_true, decide_eq_true_eq] at hir
      have HL := Lib.hid (laid_any A0 c0 l0 w hr0 hc0 (by simpa [short] using hs.1.1))
      have HI := fun w' => Lib.hid (sketch_Index.calls 1 a1 i w' hi)
      have HOK := Lib.hid (okRow_laid l0 zrow okRow_zrow hs.1.2)
      have HT := Lib.hid (show 0 ≤ a2 ∧ a2 ≤ M64 by simpa [inW] using hs.2)
      have HIR := Lib.hid hir
      clear hi hr0 hc0 hs hir
      by_cases hb : barsOK (-1) l0 = true
      · rw [if_pos hb] at h
        obtain ⟨rfl, rfl⟩ := Prod.mk.inj (Option.some.inj h)
        clear h
        have HBk := Lib.hid hb
        clear hb
        go_enter Try.func13, Try.ntmps13
        go_wp2_with fail
        refine HL.out.mono ?_
        rintro e w1 ⟨hbel, h1 | h1⟩
        · rw [HBk.out] at h1; exact absurd h1.1 (by simp)
        obtain ⟨_, g, rfl, hgB, hg⟩ := h1
        have HB := Lib.hid hbel
        have HG := Lib.hid hg
        have HGB := Lib.hid hgB
        clear hbel hg hgB
        go_wp2_with fail
        refine (HI _).out.mono ?_
        rintro e w2 ⟨rfl, n, rfl⟩
        have HG' := Lib.hid (blk_drewN HG.out n)
        have HB' := Lib.hid (pw_below_drewN HB.out n)
        generalize hw2 : w1.drewN n = w2 at *
        clear hw2 HG HB
        go_wp2_with fail
        refine (rowput_any g _ i a2 _ (okRow_len HOK.out) HIR.out (okRow_get HOK.out _ (by have := HIR.out; omega)) HT.out HG'.out).mono ?_
        rintro e w3 ⟨rfl, HW⟩
        have HG3 := Lib.hid (heap_setCell_same w2 g i.toNat _ 76 (.int .u64 (satAdd ((laidRow zrow l0).getD i.toNat 0) a2)) HG'.out)
        have HB3 := Lib.hid (HB'.out.setCell (p := ⟨g, i.toNat, none⟩) HGB.out (.int .u64 (satAdd ((laidRow zrow l0).getD i.toNat 0) a2)))
        rw [← HW.out] at HG3 HB3
        clear HW
        rw [rowCells_set] at HG3
        go_wp2_with fail
        refine (bars_any g _ _ (by simp [okRow_len HOK.out]) HG3.out).mono ?_
        rintro e w4 ⟨v, rfl, hR, hB4⟩
        have HR := Lib.hid hR
        have HB4 := Lib.hid hB4
        clear hR hB4
        go_wp2
        go_ret2
        exact ListPost.yes HB3.out HR.out HB4.out
      · rw [if_neg hb] at h
        obtain ⟨rfl, rfl⟩ := Prod.mk.inj (Option.some.inj h)
        clear h
        have HBk := Lib.hid hb
        clear hb
        go_enter Try.func13, Try.ntmps13
        go_wp2_with fail
        refine HL.out.mono ?_
        rintro e w' ⟨hbel, h1 | h1⟩
        · obtain ⟨_, rfl⟩ := h1
          have HB := Lib.hid hbel
          clear hbel
          go_wp2
          go_ret2
          exact ListPost.no _ HB.out
        · exact absurd h1.1 HBk.out
    · rw [if_neg hir] at h; exact absurd h (by simp)
  · rw [if_neg hs] at h; exact absurd h (by simp)
end Go.Proofs.Ytlnhpccapadpmaa.Pr
