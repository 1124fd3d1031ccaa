/- The contract of sketch.rank, in the print's form. -/
import Derived.Test.YtlnhpccapadpmaaXAd
import Derived.Test.YtlnhpccapadpmaaPr0a
import Derived.Test.YtlnhpccapadpmaaPr0b
import Derived.Lib.Hide
namespace Go.Proofs.Ytlnhpccapadpmaa.Pr
open Go.RowKit Go.Proofs.YtlnhpccapadpmaaW.PrintWords Go.Proofs.YtlnhpccapadpmaaW.PrintLast Go.Proofs.YtlnhpccapadpmaaW.PrintMore
set_option linter.unusedVariables false
set_option linter.unusedSimpArgs false

def sketch_rank.f (k : Nat) (a0_0 : Int) (a0_1 : Int) (a1 : Int) (a2 : Int) : Option (Int × Int) := (bits_Mul64.f a0_1 a1).bind fun p1 => (bits_Mul64.f a0_0 a1).bind fun p2 => (bits_Add64.f p2.2 p1.1 0).bind fun p3 => (bits_Add64.f p1.2 (IntKind.u64.wrap (a2 - 1)) 0).bind fun p4 => (bits_Add64.f p3.1 0 p4.2).bind fun p5 => (bits_Div64.f k 0 (IntKind.u64.wrap ((IntKind.u64.wrap (p2.1 + p3.2)) + p5.2)) a2).bind fun p6 => (bits_Div64.f k p6.2 p5.1 a2).bind fun p7 => (bits_Div64.f k p7.2 p4.1 a2).bind fun p8 => some (if p7.1 = 0 ∧ p8.1 = 0 then (0, 1) else (p7.1, p8.1))
theorem sketch_rank.mono : ∀ a0 a1 a2 a3 k, LeO (sketch_rank.f k a0 a1 a2 a3) (sketch_rank.f (k + 1) a0 a1 a2 a3) := by
  intro a0 a1 a2 a3 k
  unfold sketch_rank.f
  repeat' first
      | (with_reducible exact bits_Div64.mono _ _ _ _)
      | (with_reducible exact LeO.refl _)
      | (with_reducible refine LeO.bind ?_ (fun _ => ?_))
theorem wrap_u64' (x : Int) (h0 : 0 ≤ x) (h1 : x ≤ 18446744073709551615) : IntKind.u64.wrap x = x := by
  have e : IntKind.u64.wrap x = x % 18446744073709551616 := by
    simp [IntKind.wrap, IntKind.bits, IntKind.signed]
  rw [e]; omega

theorem heap2 (w : World) (A B : Obj) (n : Nat) : (((w.alloc A).alloc B).drewN n).heap[w.heap.size + 1]? = some B := heap_alloc2_new w A B
theorem heap3 (w : World) (A B C : Obj) (n : Nat) : ((((w.alloc A).alloc B).drewN n).alloc C).heap[w.heap.size + 2]? = some C := by
  have := heap_alloc_new (((w.alloc A).alloc B).drewN n) C
  have e : (((w.alloc A).alloc B).drewN n).heap.size = w.heap.size + 2 := by
    show ((w.alloc A).alloc B).heap.size = _
    simp
  rw [e] at this
  exact this
theorem calls_world {P : Program} {f : FuncId} {args : Array Value} {w : World} {R : Ending → World → Prop} (Q : World → Prop) (hq : Q w) (h : ∀ w', Q w' → Calls P f args w' R) : Calls P f args w R := h w hq
set_option maxHeartbeats 2000000 in
set_option maxRecDepth 100000 in
theorem sketch_rank.calls (k : Nat) (a0_0 : Int) (a0_1 : Int) (a1 : Int) (a2 : Int) (r1 : Int) (r2 : Int) (w : World) (h : sketch_rank.f k a0_0 a0_1 a1 a2 = some (r1, r2)) :
    Calls Try.prog 33 #[.agg #[.int .u64 a0_0, .int .u64 a0_1], .int .u64 a1, .int .u64 a2] w fun e w' => e = .returned (.agg #[.int .u64 r1, .int .u64 r2]) ∧ Below w.heap.size w w' := by
  unfold sketch_rank.f at h
  obtain ⟨⟨h1, lo⟩, A1, h⟩ := Option.bind_eq_some_iff.1 h
  obtain ⟨⟨h2, mid⟩, A2, h⟩ := Option.bind_eq_some_iff.1 h
  obtain ⟨⟨mid2, c1⟩, A3, h⟩ := Option.bind_eq_some_iff.1 h
  obtain ⟨⟨lo2, c2⟩, A4, h⟩ := Option.bind_eq_some_iff.1 h
  obtain ⟨⟨mid3, c3⟩, A5, h⟩ := Option.bind_eq_some_iff.1 h
  obtain ⟨⟨q0, rest0⟩, A6, h⟩ := Option.bind_eq_some_iff.1 h
  obtain ⟨⟨q1, rest1⟩, A7, h⟩ := Option.bind_eq_some_iff.1 h
  obtain ⟨⟨q2, rest2⟩, A8, h⟩ := Option.bind_eq_some_iff.1 h
  have H := Lib.hid h
  simp only at A3 A4 A5 A6 A7 A8
  have C1 := fun w' => Lib.hid (bits_Mul64.calls _ _ _ _ w' A1)
  have C2 := fun w' => Lib.hid (bits_Mul64.calls _ _ _ _ w' A2)
  have B3 := fun w' => bits_Add64.run _ _ _ _ _ w' A3
  have B4 := fun w' => bits_Add64.run _ _ _ _ _ w' A4
  have B5 := fun w' => bits_Add64.run _ _ _ _ _ w' A5
  have C6 := fun w' => Lib.hid (bits_Div64.calls k _ _ _ _ _ w' A6)
  have C7 := fun w' => Lib.hid (bits_Div64.calls k _ _ _ _ _ w' A7)
  have C8 := fun w' => Lib.hid (bits_Div64.calls k _ _ _ _ _ w' A8)
  clear h A1 A2 A3 A4 A5 A6 A7 A8
  go_enter Try.func33, Try.ntmps33
  go_wp2_with fail
  refine (C1 _).out.mono ?_
  rintro e w' ⟨rfl, n1, rfl⟩
  go_wp2_with fail
  refine (C2 _).out.mono ?_
  rintro e w' ⟨rfl, n2, rfl⟩
  go_wp2_with fail
  refine (C6 _).out.mono ?_
  rintro e w' ⟨rfl, n3, rfl⟩
  go_wp2_with fail
  refine calls_world (fun w' => w'.heap[w.heap.size + 1]? = some (.cells #[.int .u64 0, .int .u64 0] 35 (0, 0)) ∧ w'.heap[w.heap.size + 2]? = some (.cells #[.int .u64 0, .int .u64 0] 35 (0, 0)) ∧ Below w.heap.size w w') ?_ ?_
  · refine ⟨?_, ?_, ?_⟩
    · exact blk_alloc (heap2 w _ _ _) _
    · exact heap3 w _ _ _ _
    · exact Below.alloc (pw_below_drewN (((Below.refl _ _).alloc (Nat.le_refl _) _).alloc (by simp) _) _) (by simp; omega) _
  intro w7 hq
  obtain ⟨hq1, hq2, hq3⟩ := hq
  have HB := Lib.hid hq3
  have HG6 := Lib.hid hq1
  have HG15 := Lib.hid hq2
  have hc0 := blk_cell hq2 0
  have hc1 := blk_cell hq2 1
  have hf0 := blk_frozen hq2 0
  have hf1 := blk_frozen hq2 1
  have hd0 := blk_cell hq1 0
  have hd1 := blk_cell hq1 1
  have he0 := blk_frozen hq1 0
  have he1 := blk_frozen hq1 1
  simp only [List.getElem?_toArray, List.getElem?_cons_zero, List.getElem?_cons_succ] at hc0 hc1 hd0 hd1
  clear hq1 hq2 hq3 C1 C2 B3 B4 B5 C6
  refine (C7 _).out.mono ?_
  rintro e w' ⟨rfl, n4, rfl⟩
  go_wp2_with fail
  refine calls_world (fun w' => w'.heap[w.heap.size + 1]? = some (.cells #[.int .u64 0, .int .u64 0] 35 (0, 0)) ∧ w'.heap[w.heap.size + 2]? = some (.cells #[.int .u64 q1, .int .u64 0] 35 (0, 0)) ∧ Below w.heap.size w w') ?_ ?_
  · refine ⟨?_, ?_, ?_⟩
    · exact blk_far (blk_drewN HG6.out _) (show w.heap.size + 1 ≠ w.heap.size + 2 by omega) _
    · exact blk_set (blk_drewN HG15.out _) 0 _
    · exact (pw_below_drewN HB.out _).setCell (show w.heap.size ≤ w.heap.size + 2 by omega) _
  clear HB HG6 HG15 hc0 hc1 hf0 hf1 hd0 hd1 he0 he1 C7
  intro w8 hq
  obtain ⟨hq1, hq2, hq3⟩ := hq
  have HB := Lib.hid hq3
  have HG6 := Lib.hid hq1
  have HG15 := Lib.hid hq2
  have hc0 := blk_cell hq2 0
  have hc1 := blk_cell hq2 1
  have hf0 := blk_frozen hq2 0
  have hf1 := blk_frozen hq2 1
  have hd0 := blk_cell hq1 0
  have hd1 := blk_cell hq1 1
  have he0 := blk_frozen hq1 0
  have he1 := blk_frozen hq1 1
  simp only [List.getElem?_toArray, List.getElem?_cons_zero, List.getElem?_cons_succ] at hc0 hc1 hd0 hd1
  clear hq1 hq2 hq3
  refine (C8 _).out.mono ?_
  rintro e w' ⟨rfl, n5, rfl⟩
  have HR := fun (W : World) (x y : Int) (h1 : W.heap[w.heap.size + 1]? = some (.cells #[.int .u64 x, .int .u64 y] 35 (0, 0))) => Lib.hid h1
  clear C8
  by_cases hz : q1 = 0
  · by_cases hz2 : q2 = 0
    · have HH := H.out
      rw [if_pos ⟨hz, hz2⟩] at HH
      obtain ⟨rfl, rfl⟩ := Prod.mk.inj (Option.some.inj HH)
      subst hz hz2
      have hs1 : ((w8.drewN n5).setCell ⟨w.heap.size + 2, 1, none⟩ (.int .u64 0)).cell? ⟨w.heap.size + 2, 1, none⟩ = some (.int .u64 0) := World.cell?_setCell_same _ _ _ (show (w8.drewN n5).cell? _ = some _ from hc1)
      clear H HH
      go_wp2_with fail
      refine bodyPost_ret (results_cell_row rfl _ _ (w.heap.size + 1) 35 _ (0, 0) _ rfl ?_ Try.underlying35 rfl rfl) rfl ⟨rfl, ?_⟩
      · exact blk_set (blk_set (blk_far (blk_far (blk_drewN HG6.out _) (show w.heap.size + 1 ≠ w.heap.size + 1 + 1 by omega) _) (show w.heap.size + 1 ≠ w.heap.size + 1 + 1 by omega) _) 0 _) 1 _
      · exact (((((pw_below_drewN HB.out _).setCell (show w.heap.size ≤ w.heap.size + 1 + 1 by omega) _).setCell (show w.heap.size ≤ w.heap.size + 1 + 1 by omega) _).setCell (show w.heap.size ≤ w.heap.size + 1 by omega) _).setCell (show w.heap.size ≤ w.heap.size + 1 by omega) _)
    · have hz' : (q2 == 0) = false := by simp [hz2]
      have HH := H.out
      rw [if_neg (fun h => hz2 h.2)] at HH
      obtain ⟨rfl, rfl⟩ := Prod.mk.inj (Option.some.inj HH)
      have HZ := Lib.hid hz
      subst hz
      clear H HH
      go_wp2_with fail
      refine bodyPost_ret (results_cell_row rfl _ _ (w.heap.size + 1) 35 _ (0, 0) _ rfl ?_ Try.underlying35 rfl rfl) rfl ⟨rfl, ?_⟩
      · exact blk_set (blk_set (blk_far (blk_drewN HG6.out _) (show w.heap.size + 1 ≠ w.heap.size + 1 + 1 by omega) _) 0 _) 1 _
      · exact ((((pw_below_drewN HB.out _).setCell (show w.heap.size ≤ w.heap.size + 1 + 1 by omega) _).setCell (show w.heap.size ≤ w.heap.size + 1 by omega) _).setCell (show w.heap.size ≤ w.heap.size + 1 by omega) _)
  · have hz' : (q1 == 0) = false := by simp [hz]
    have HH := H.out
    rw [if_neg (fun h => hz h.1)] at HH
    obtain ⟨rfl, rfl⟩ := Prod.mk.inj (Option.some.inj HH)
    clear H HH
    go_wp2_with fail
    refine bodyPost_ret (results_cell_row rfl _ _ (w.heap.size + 1) 35 _ (0, 0) _ rfl ?_ Try.underlying35 rfl rfl) rfl ⟨rfl, ?_⟩
    · exact blk_set (blk_set (blk_far (blk_drewN HG6.out _) (show w.heap.size + 1 ≠ w.heap.size + 1 + 1 by omega) _) 0 _) 1 _
    · exact ((((pw_below_drewN HB.out _).setCell (show w.heap.size ≤ w.heap.size + 1 + 1 by omega) _).setCell (show w.heap.size ≤ w.heap.size + 1 by omega) _).setCell (show w.heap.size ≤ w.heap.size + 1 by omega) _)
end Go.Proofs.Ytlnhpccapadpmaa.Pr
