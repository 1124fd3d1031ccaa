/- The chapter's examples (alive): true. -/
import Derived.Test.YtdlnfmakfnggpaaDoorXDe
import Derived.Test.YtdlnfmakfnggpaaDoorXPn
namespace Go.Proofs.YtdlnfmakfnggpaaDoor.Pr
open Go.RowKit Go.Lib Go.Shelf Go.Proofs.YtdlnfmakfnggpaaDoorW.PrintWords
set_option linter.unusedVariables false
set_option linter.unusedSimpArgs false
theorem newfew2 (w : World) : Calls Tryd.prog 23 #[.int .i64 2] w fun e w' => e = .returned (.tuple #[.pointer (some ⟨w.heap.size, 0, none⟩), .int .i64 0]) ∧ w' = w.alloc (.cells #[.int .i64 2, .slice none 0 0] 96) := by
  go_enter Tryd.func23, Tryd.ntmps23
  go_wp2
  go_ret2
  exact ⟨rfl, rfl⟩
theorem newfew1 (w : World) : Calls Tryd.prog 23 #[.int .i64 1] w fun e w' => e = .returned (.tuple #[.pointer none, .int .i64 1]) ∧ w' = w := by
  go_enter Tryd.func23, Tryd.ntmps23
  go_wp2
  go_ret2
  exact ⟨rfl, rfl⟩
theorem one35 (lo id s0 s1 : Int) (w : World) : Calls Tryd.prog 35 #[.int .u64 lo, .int .u64 id, .int .i64 s0, .int .i64 s1] w fun e w' => e = .returned (.agg #[.int .u64 0, .int .u64 lo, .int .u64 id, .int .u64 0, .slice none 0 0, .string ⟨#[98]⟩, .string ⟨#[111]⟩, .int .i64 0, .int .i64 2, .int .i64 s0, .int .i64 s1, .slice none 0 0, .slice none 0 0]) ∧ Below w.heap.size w w' := by
  go_enter Tryd.func35, Tryd.ntmps35
  go_wp2
  refine bodyPost_ret (results_cell_row rfl _ _ w.heap.size 43 #[.int .u64 0, .int .u64 lo, .int .u64 id, .int .u64 0, .slice none 0 0, .string ⟨#[98]⟩, .string ⟨#[111]⟩, .int .i64 0, .int .i64 2, .int .i64 s0, .int .i64 s1, .slice none 0 0, .slice none 0 0] (0, 0) _ rfl (blk_new w _) Tryd.underlying43 rfl (by kernel_rfl)) rfl ?_
  exact ⟨rfl, (Below.refl _ _).alloc (Nat.le_refl _) _⟩
theorem guess1 (g : Nat) (a : Option Addr) (c : Nat) (w : World) (hG : w.heap[g]? = some (.cells #[.int .i64 2, .slice a 1 c] 96 (0, 0))) :
    Calls Tryd.prog 28 #[.pointer (some ⟨g, 0, none⟩)] w fun e w' => e = .returned (.int .u64 1) ∧ Below w.heap.size w w' := by
  have hq0 : ∀ x : Wx w, x.W.cell? ⟨g, 0, none⟩ = some (.int .i64 2) := fun x => x.cell ((cell_of_row _ _ 0 _ _ _ hG).trans rfl)
  have hq1 : ∀ x : Wx w, x.W.cell? ⟨g, 1, none⟩ = some (.slice a 1 c) := fun x => x.cell ((cell_of_row _ _ 1 _ _ _ hG).trans rfl)
  clear hG
  go_enter Tryd.func28, Tryd.ntmps28
  go_wp2_with fail
  refine wp_region_ext (by kernel_rfl) (by kernel_rfl) ?_
  repeat (go_big_quiet_step (fail))
  refine wpQuiet_nil ?_
  intro _ hw'
  obtain ⟨xx, rfl⟩ := hw'
  have h0 := hq0 xx
  have h1 := hq1 xx
  clear hq0 hq1
  go_wp2_with fail
  go_ret
  exact ⟨rfl, xx.h⟩
/-- What Decide says of two spans of one trace, by one of its policies. -/
def polsA : List S30 := [⟨3, 0, ⟨#[97]⟩, 0⟩, ⟨1, 0, ⟨#[]⟩, 0⟩]
def polsB : List S30 := [⟨2, 6, ⟨#[]⟩, 0⟩]
def polsC : List S30 := [⟨4, 0, ⟨#[]⟩, 65537⟩]
def spansA : List S43 := [⟨⟨0, 1⟩, 1, 0, [], ⟨#[98]⟩, ⟨#[111]⟩, 0, 2, 3, 4, [], []⟩, ⟨⟨0, 1⟩, 2, 0, [], ⟨#[98]⟩, ⟨#[111]⟩, 0, 2, 7, 8, [], []⟩]
theorem polFA : polF polsA = 0 := by decide +kernel
theorem polFB : polF polsB = 0 := by decide +kernel
theorem polFC : polF polsC = 211 := by decide +kernel
theorem tookA : sample_took.f 4 spansA = some 5 := by decide +kernel
theorem mixA : ∃ mx, sample_Mix.f 0 1 = some mx := ⟨_, rfl⟩
theorem ok_a (w : World) : ValidAt ⟨#[97]⟩ w := valid_one 97 (by decide) (by decide +kernel) w
theorem ok_b (w : World) : ValidAt ⟨#[98]⟩ w := valid_one 98 (by decide) (by decide +kernel) w
theorem ok_o (w : World) : ValidAt ⟨#[111]⟩ w := valid_one 111 (by decide) (by decide +kernel) w
theorem polOKA (w : World) : polOK polsA w := by
  intro x hx
  simp only [polsA, List.mem_cons, List.mem_nil_iff, or_false] at hx
  rcases hx with rfl | rfl
  · exact ⟨by decide, ok_a w⟩
  · exact ⟨by decide, valid_empty w⟩
theorem polOKB (w : World) : polOK polsB w := by
  intro x hx
  simp only [polsB, List.mem_cons, List.mem_nil_iff, or_false] at hx
  subst hx
  exact ⟨by decide, valid_empty w⟩
theorem polOKC (w : World) : polOK polsC w := by
  intro x hx
  simp only [polsC, List.mem_cons, List.mem_nil_iff, or_false] at hx
  subst hx
  exact ⟨by decide, valid_empty w⟩
theorem plain_b : plainF ⟨#[98]⟩ 60 33 = true := by decide +kernel
theorem plain_o : plainF ⟨#[111]⟩ 100 32 = true := by decide +kernel
theorem check_one (id s0 s1 : Int) (a4 a11 a12 : Option Addr) (c4 c11 c12 : Nat) (w : World) (h : checkF 0 1 id true true 0 2 s0 s1 true true true = 0) :
    Calls Tryd.prog 63 #[.agg #[.int .u64 0, .int .u64 1, .int .u64 id, .int .u64 0, .slice a4 0 c4, .string ⟨#[98]⟩, .string ⟨#[111]⟩, .int .i64 0, .int .i64 2, .int .i64 s0, .int .i64 s1, .slice a11 0 c11, .slice a12 0 c12]] w (CheckPost w 0) := by
  have hb := plain_ans (s := ⟨#[98]⟩) (w := w) 60 33 (by decide) (ok_b w)
  rw [plain_b] at hb
  have ho := plain_ans (s := ⟨#[111]⟩) (w := w) 100 32 (by decide) (ok_o w)
  rw [plain_o] at ho
  have := check_run 0 1 id 0 (.slice a4 0 c4) ⟨#[98]⟩ ⟨#[111]⟩ 0 2 s0 s1 (.slice a11 0 c11) (.slice a12 0 c12) true true true true true w hb ho (linked_nil _ _ _ _ _ _ _ _ _ _ _ _ _ _ w) (carried_nil _ _ w) (told_nil _ _ w)
  rw [h] at this
  exact this
theorem chkA (w : World) : ∀ x ∈ spansA, ∀ cs, k43.K w x cs → ∀ W, Below w.heap.size w W → Calls Tryd.prog 63 #[.agg cs.toArray] W (CheckPost W ((fun _ => 0 : S43 → Int) x)) := by
  intro x hx cs hK W hW
  obtain ⟨A4, c4, A11, c11, A12, c12, rfl, _⟩ := k43_open hK
  simp only [spansA, List.mem_cons, List.mem_nil_iff, or_false] at hx
  rcases hx with rfl | rfl
  · exact check_one 1 3 4 A4 A11 A12 c4 c11 c12 W (by decide)
  · exact check_one 2 7 8 A4 A11 A12 c4 c11 c12 W (by decide)
theorem one_A (B : Option Addr) (c : Nat) (w : World) (hs : Kd.C k43 w B 2 spansA) : ∀ W, Below w.heap.size w W → Calls Tryd.prog 42 #[.slice B 2 c] W (BoolPost W true) := fun W hW => by
  have := one_run B c spansA W (Kd.C_below hs hW) (fun _ => 0) (chkA W) (by
    intro x hx
    simp only [spansA, List.mem_cons, List.mem_nil_iff, or_false] at hx
    rcases hx with rfl | rfl <;> decide)
  rw [show oneF (fun _ => 0) spansA = true from by decide +kernel] at this
  exact this
theorem dec_run (pols : List S30) (A0 : Option Addr) (c0 : Nat) (B : Option Addr) (c : Nat) (w : World) (hp : Kd.C k30 w A0 pols.length pols) (ho : ∀ W, polOK pols W) (hz : polF pols = 0) (hs : Kd.C k43 w B 2 spansA) (hc : 2 ≤ c) (hf : S30 → Bool) (hh : ∀ mx, sample_Mix.f 0 1 = some mx → ∀ p ∈ pols, holdsF p spansA 5 mx = hf p)
    (hdiv : (dst hf pols pols.length).2.1 = false → (dst hf pols pols.length).2.2.1 = true → IntKind.u64.wrap (dst hf pols pols.length).1 ≠ 0) :
    Calls Tryd.prog 18 #[.slice A0 pols.length c0, .slice B 2 c] w (DecPost w (dst hf pols pols.length).2.2.1 (dst hf pols pols.length).2.2.2 (wtF (dst hf pols pols.length)) 0) := by
  obtain ⟨mx, hm⟩ := mixA
  refine dec_d A0 c0 pols B 2 c w hp (fun W hW => ?_) (one_A B c w hs) (by omega) hf (fun p hpm W hW => ?_) hdiv
  · have := polcheck_run A0 c0 pols W (Kd.C_below hp hW) (ho W)
    rw [hz] at this
    exact this
  · have := holds_run p B c spansA W (Kd.C_below hs hW) hc (by decide) 4 5 mx tookA hm
    rw [hh mx hm p hpm] at this
    exact this
theorem decA (A0 : Option Addr) (c0 : Nat) (B : Option Addr) (c : Nat) (w : World) (hp : Kd.C k30 w A0 2 polsA) (hs : Kd.C k43 w B 2 spansA) (hc : 2 ≤ c) : Calls Tryd.prog 18 #[.slice A0 2 c0, .slice B 2 c] w (DecPost w true 1 65536 0) :=
  dec_run polsA A0 c0 B c w hp polOKA polFA hs hc (fun p => p.f0 == 1) (by
    intro mx _ p hp
    simp only [polsA, List.mem_cons, List.mem_nil_iff, or_false] at hp
    rcases hp with rfl | rfl <;> kernel_rfl) (by decide +kernel)
theorem decB (A0 : Option Addr) (c0 : Nat) (B : Option Addr) (c : Nat) (w : World) (hp : Kd.C k30 w A0 1 polsB) (hs : Kd.C k43 w B 2 spansA) (hc : 2 ≤ c) : Calls Tryd.prog 18 #[.slice A0 1 c0, .slice B 2 c] w (DecPost w false (-1) 0 0) :=
  dec_run polsB A0 c0 B c w hp polOKB polFB hs hc (fun p => false) (by
    intro mx _ p hp
    simp only [polsB, List.mem_cons, List.mem_nil_iff, or_false] at hp
    subst hp
    kernel_rfl) (by decide +kernel)
theorem checkC (A0 : Option Addr) (c0 : Nat) (w : World) (hp : Kd.C k30 w A0 1 polsC) : Calls Tryd.prog 13 #[.slice A0 1 c0] w fun e w' => e = .returned (.int .i64 211) ∧ Below w.heap.size w w' := by
  have := polcheck_run A0 c0 polsC w hp (polOKC w)
  rw [polFC] at this
  exact this
end Go.Proofs.YtdlnfmakfnggpaaDoor.Pr
