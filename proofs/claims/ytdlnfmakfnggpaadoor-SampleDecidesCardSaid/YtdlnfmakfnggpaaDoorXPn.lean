/- The first trace that a few is given. -/
import Derived.Test.YtdlnfmakfnggpaaDoorXQt
import Derived.Test.YtdlnfmakfnggpaaDoorPr0
import Derived.Test.YtdlnfmakfnggpaaDoorPr0a
import Derived.Deep.RegionHeld3
import Derived.Lib.Hide
import Derived.Outline
namespace Go.Proofs.YtdlnfmakfnggpaaDoor.Pr
open Go.RowKit Go.Lib Go.Proofs.YtdlnfmakfnggpaaDoorW.PrintWords
set_option linter.unusedVariables false
set_option linter.unusedSimpArgs false
theorem search_nil (a : Option Addr) (c : Nat) (v0 v1 v2 fv : Value) (w : World) : Calls Tryd.prog 72 #[.slice a 0 c, .agg #[v0, v1, v2], fv] w fun e w' => e = .returned (.tuple #[.int .i64 0, .bool false]) ∧ Below w.heap.size w w' := by
  have HB := Lib.hid ((Below.refl w.heap.size w).alloc (Nat.le_refl _) (.cells #[v0, v1, v2] 101))
  go_enter Tryd.func72, Tryd.ntmps72
  go_wp2
  refine wp_loop_rounds 1 ?_; rw [rounds_succ]
  go_wp2
  refine wp_region_ext (by kernel_rfl) (by kernel_rfl) ?_
  repeat (go_big_quiet_step (fail))
  refine wpQuiet_nil ?_
  intro _ hw'
  obtain ⟨xx, rfl⟩ := hw'
  go_wp2
  go_ret2
  exact ⟨rfl, HB.out.trans (xx.h.mono HB.out.size)⟩
def InsPost (w : World) (e : Ending) (w' : World) : Prop := ∃ a c, e = .returned (.slice a 1 c) ∧ 1 ≤ c ∧ Below w.heap.size w w'
theorem insert_nil (b : Nat) (m h l : Int) (w : World) (hb : w.heap[b]? = some (.cells #[.int .u64 m, .int .u64 h, .int .u64 l] 101 (0, 0))) :
    Calls Tryd.prog 73 #[.slice none 0 0, .int .i64 0, .slice (some ⟨b, 0, none⟩) 1 1] w (InsPost w) := by
  have hc0 := (cell_of_row _ _ 0 _ _ _ hb).trans rfl
  have hc1 := (cell_of_row _ _ 1 _ _ _ hb).trans rfl
  have hc2 := (cell_of_row _ _ 2 _ _ _ hb).trans rfl
  go_enter Tryd.func73, Tryd.ntmps73
  go_wp2_with fail
  go_ret
  exact ⟨_, _, rfl, Nat.le_add_right _ _, ((Below.refl _ _).alloc (Nat.le_refl _) _).drew⟩
def InPost (w : World) (e : Ending) (w' : World) : Prop := ∃ a c, e = .returned (.tuple #[.slice a 1 c, .int .i64 0]) ∧ 1 ≤ c ∧ Below w.heap.size w w'
theorem in_nil (m h l : Int) (w : World) : Calls Tryd.prog 57 #[.slice none 0 0, .agg #[.int .u64 m, .int .u64 h, .int .u64 l], .func (.func 58) #[] #[]] w (InPost w) := by
  have HB := Lib.hid ((Below.refl w.heap.size w).alloc (Nat.le_refl _) (.cells #[.int .u64 m, .int .u64 h, .int .u64 l] 101))
  have HG := Lib.hid (blk_new w (.cells #[.int .u64 m, .int .u64 h, .int .u64 l] 101))
  have HZ := Lib.hid (show w.heap.size < (w.alloc (.cells #[.int .u64 m, .int .u64 h, .int .u64 l] 101)).heap.size by simp)
  go_enter Tryd.func57, Tryd.ntmps57
  go_wp2_with fail
  refine (search_nil none 0 _ _ _ _ _).mono ?_
  rintro e w1 ⟨rfl, hb⟩
  have hg := blk_below HG.out hb
  have hc0 := (cell_of_row _ _ 0 _ _ _ hg).trans rfl
  have hc1 := (cell_of_row _ _ 1 _ _ _ hg).trans rfl
  have hc2 := (cell_of_row _ _ 2 _ _ _ hg).trans rfl
  have HB1 := Lib.hid (HB.out.trans (hb.mono HB.out.size))
  clear hg hb
  go_wp2_with fail
  refine (insert_nil _ m h l _ (blk_new _ _)).mono ?_
  rintro e w2 ⟨a, c, rfl, hc, hb⟩
  have HC := Lib.hid hc
  have HB2 := Lib.hid ((below_alloc HB1.out (.cells #[.int .u64 m, .int .u64 h, .int .u64 l] 101)).trans (hb.mono (below_alloc HB1.out (.cells #[.int .u64 m, .int .u64 h, .int .u64 l] 101)).size))
  clear hb hc
  go_wp2_with fail
  go_ret2
  exact ⟨a, c, rfl, HC.out, HB2.out⟩
def PutPost (w0 w : World) (g : Nat) (e : Ending) (w' : World) : Prop := e = .returned (.bool true) ∧ (∃ a c, 1 ≤ c ∧ w'.heap[g]? = some (.cells #[.int .i64 2, .slice a 1 c] 96 (0, 0)) ∧ Below w0.heap.size w0 w') ∧ ∀ k, k ≠ g → k < w.heap.size → w'.heap[k]? = w.heap[k]?
set_option maxHeartbeats 2000000 in
theorem put_nil2 (g : Nat) (h l mx : Int) (w0 w : World) (hB : Below w0.heap.size w0 w) (hg : w0.heap.size ≤ g) (hG : w.heap[g]? = some (.cells #[.int .i64 2, .slice none 0 0] 96 (0, 0))) (hm : sample_Mix.f h l = some mx) :
    Calls Tryd.prog 30 #[.pointer (some ⟨g, 0, none⟩), .agg #[.int .u64 h, .int .u64 l]] w (PutPost w0 w g) := by
  have HX := Lib.hid (fun W => sample_Mix.calls h l mx W hm)
  have HB := Lib.hid (below_alloc hB (.cells #[.int .u64 h, .int .u64 l] 26))
  have HG := Lib.hid (blk_alloc hG (.cells #[.int .u64 h, .int .u64 l] 26))
  have HT := Lib.hid (blk_new w (.cells #[.int .u64 h, .int .u64 l] 26))
  have HGE := Lib.hid hg
  have HLT := Lib.hid (blk_lt hG)
  clear hB hg hG hm
  have HS : Hid (∀ W, Below (w.alloc (.cells #[.int .u64 h, .int .u64 l] 26)).heap.size (w.alloc (.cells #[.int .u64 h, .int .u64 l] 26)) W → W.cell? ⟨g, 0, none⟩ = some (.int .i64 2) ∧ W.cell? ⟨g, 1, none⟩ = some (.slice none 0 0) ∧ W.cell? ⟨w.heap.size, 0, none⟩ = some (.int .u64 h) ∧ W.cell? ⟨w.heap.size, 1, none⟩ = some (.int .u64 l)) := fun W hW => by
    have a := blk_below HG.out hW
    have b := blk_below HT.out hW
    exact ⟨(cell_of_row _ _ 0 _ _ _ a).trans rfl, (cell_of_row _ _ 1 _ _ _ a).trans rfl, (cell_of_row _ _ 0 _ _ _ b).trans rfl, (cell_of_row _ _ 1 _ _ _ b).trans rfl⟩
  go_enter Tryd.func30, Tryd.ntmps30
  go_wp2_with fail
  have hq0 := HS.out _ (below_drew (Below.refl _ _))
  go_region_held3 (fun W => W.cell? ⟨g, 0, none⟩ = some (.int .i64 2) ∧ W.cell? ⟨g, 1, none⟩ = some (.slice none 0 0) ∧ W.cell? ⟨w.heap.size, 0, none⟩ = some (.int .u64 h) ∧ W.cell? ⟨w.heap.size, 1, none⟩ = some (.int .u64 l)) (assumption) (first | (go_at_call 12; refine (HX.out _).mono ?_; rintro e w1 ⟨rfl, hb⟩; have HB1 := Lib.hid ((below_drew (Below.refl _ _)).trans hb); have hq1 := HS.out _ HB1.out; clear hb) | (go_at_call 57; refine (in_nil mx h l _).mono ?_; rintro e w2 ⟨a, c, rfl, hc, hb⟩; have HCC := Lib.hid hc; have HB2 := Lib.hid (HB1.out.trans (hb.mono HB1.out.size)); have hq2 := HS.out _ HB2.out; clear hb hc))
  have hg := blk_below HG.out HB2.out
  have hc0 := (cell_of_row _ _ 0 _ _ _ hg).trans rfl
  have hc1 := (cell_of_row _ _ 1 _ _ _ hg).trans rfl
  have hf := fun j => blk_frozen hg j
  have H2 := Lib.hid hg
  have hc := HCC.out
  have hc' : (1 : Int) ≤ (c : Int) := by omega
  have HBW := Lib.hid (HB.out.trans (HB2.out.mono HB.out.size))
  clear hg hq0 hq1 hq2
  go_wp2_with fail
  go_ret
  exact ⟨rfl, ⟨a, c, hc, blk_put H2.out 1 _ rfl, below_set HBW.out HGE.out⟩, fun k hk hlt => (Below.heap_setCell _ _ _ k hk).trans ((HB2.out.block k (by simp; omega)).trans (Below.heap_alloc w _ k hlt))⟩
end Go.Proofs.YtdlnfmakfnggpaaDoor.Pr
