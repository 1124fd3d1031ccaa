/- span.of, the order of names, span.Compare. -/
import Derived.Test.YthdkgilpnkabmaaGreatDoorSe
import Derived.Outline
namespace Go.Proofs.YthdkgilpnkabmaaGreatDoor.Pr
open Go Go.RowKit Go.Proofs.YthdkgilpnkabmaaGreatDoorW.PrintWords Go.Proofs.YthdkgilpnkabmaaGreatDoorW.PrintMore
set_option linter.unusedVariables false
set_option linter.unusedSimpArgs false
theorem row16 {w : World} {g t : Nat} {a0 a1 a2 a3 a4 a5 a6 a7 a8 a9 a10 a11 a12 a13 a14 a15 : Value} (h : w.heap[g]? = some (.cells #[a0, a1, a2, a3, a4, a5, a6, a7, a8, a9, a10, a11, a12, a13, a14, a15] t (0, 0))) (u0 u1 u2 u3 u4 u5 u6 u7 u8 u9 u10 u11 u12 u13 u14 u15 : Value) :
    ((((((((((((((((w.setCell ⟨g, 0, none⟩ u0).setCell ⟨g, 1, none⟩ u1).setCell ⟨g, 2, none⟩ u2).setCell ⟨g, 3, none⟩ u3).setCell ⟨g, 4, none⟩ u4).setCell ⟨g, 5, none⟩ u5).setCell ⟨g, 6, none⟩ u6).setCell ⟨g, 7, none⟩ u7).setCell ⟨g, 8, none⟩ u8).setCell ⟨g, 9, none⟩ u9).setCell ⟨g, 10, none⟩ u10).setCell ⟨g, 11, none⟩ u11).setCell ⟨g, 12, none⟩ u12).setCell ⟨g, 13, none⟩ u13).setCell ⟨g, 14, none⟩ u14).setCell ⟨g, 15, none⟩ u15).heap[g]? = some (.cells #[u0, u1, u2, u3, u4, u5, u6, u7, u8, u9, u10, u11, u12, u13, u14, u15] t (0, 0)) ∧ Below g w ((((((((((((((((w.setCell ⟨g, 0, none⟩ u0).setCell ⟨g, 1, none⟩ u1).setCell ⟨g, 2, none⟩ u2).setCell ⟨g, 3, none⟩ u3).setCell ⟨g, 4, none⟩ u4).setCell ⟨g, 5, none⟩ u5).setCell ⟨g, 6, none⟩ u6).setCell ⟨g, 7, none⟩ u7).setCell ⟨g, 8, none⟩ u8).setCell ⟨g, 9, none⟩ u9).setCell ⟨g, 10, none⟩ u10).setCell ⟨g, 11, none⟩ u11).setCell ⟨g, 12, none⟩ u12).setCell ⟨g, 13, none⟩ u13).setCell ⟨g, 14, none⟩ u14).setCell ⟨g, 15, none⟩ u15) ∧ ∀ k, k ≠ g → ((((((((((((((((w.setCell ⟨g, 0, none⟩ u0).setCell ⟨g, 1, none⟩ u1).setCell ⟨g, 2, none⟩ u2).setCell ⟨g, 3, none⟩ u3).setCell ⟨g, 4, none⟩ u4).setCell ⟨g, 5, none⟩ u5).setCell ⟨g, 6, none⟩ u6).setCell ⟨g, 7, none⟩ u7).setCell ⟨g, 8, none⟩ u8).setCell ⟨g, 9, none⟩ u9).setCell ⟨g, 10, none⟩ u10).setCell ⟨g, 11, none⟩ u11).setCell ⟨g, 12, none⟩ u12).setCell ⟨g, 13, none⟩ u13).setCell ⟨g, 14, none⟩ u14).setCell ⟨g, 15, none⟩ u15).heap[k]? = w.heap[k]? := by
  refine ⟨?_, ?_, fun k hk => ?_⟩
  · have h0 := h
    have h1 := blk_set h0 0 u0
    have h2 := blk_set h1 1 u1
    have h3 := blk_set h2 2 u2
    have h4 := blk_set h3 3 u3
    have h5 := blk_set h4 4 u4
    have h6 := blk_set h5 5 u5
    have h7 := blk_set h6 6 u6
    have h8 := blk_set h7 7 u7
    have h9 := blk_set h8 8 u8
    have h10 := blk_set h9 9 u9
    have h11 := blk_set h10 10 u10
    have h12 := blk_set h11 11 u11
    have h13 := blk_set h12 12 u12
    have h14 := blk_set h13 13 u13
    have h15 := blk_set h14 14 u14
    have h16 := blk_set h15 15 u15
    simpa using h16
  · refine Below.setCell ?_ (p := ⟨g, 15, none⟩) (Nat.le_refl _) _
    refine Below.setCell ?_ (p := ⟨g, 14, none⟩) (Nat.le_refl _) _
    refine Below.setCell ?_ (p := ⟨g, 13, none⟩) (Nat.le_refl _) _
    refine Below.setCell ?_ (p := ⟨g, 12, none⟩) (Nat.le_refl _) _
    refine Below.setCell ?_ (p := ⟨g, 11, none⟩) (Nat.le_refl _) _
    refine Below.setCell ?_ (p := ⟨g, 10, none⟩) (Nat.le_refl _) _
    refine Below.setCell ?_ (p := ⟨g, 9, none⟩) (Nat.le_refl _) _
    refine Below.setCell ?_ (p := ⟨g, 8, none⟩) (Nat.le_refl _) _
    refine Below.setCell ?_ (p := ⟨g, 7, none⟩) (Nat.le_refl _) _
    refine Below.setCell ?_ (p := ⟨g, 6, none⟩) (Nat.le_refl _) _
    refine Below.setCell ?_ (p := ⟨g, 5, none⟩) (Nat.le_refl _) _
    refine Below.setCell ?_ (p := ⟨g, 4, none⟩) (Nat.le_refl _) _
    refine Below.setCell ?_ (p := ⟨g, 3, none⟩) (Nat.le_refl _) _
    refine Below.setCell ?_ (p := ⟨g, 2, none⟩) (Nat.le_refl _) _
    refine Below.setCell ?_ (p := ⟨g, 1, none⟩) (Nat.le_refl _) _
    refine Below.setCell ?_ (p := ⟨g, 0, none⟩) (Nat.le_refl _) _
    exact Below.refl _ _
  · rw [Below.heap_setCell _ ⟨g, 15, none⟩ _ k hk]
    rw [Below.heap_setCell _ ⟨g, 14, none⟩ _ k hk]
    rw [Below.heap_setCell _ ⟨g, 13, none⟩ _ k hk]
    rw [Below.heap_setCell _ ⟨g, 12, none⟩ _ k hk]
    rw [Below.heap_setCell _ ⟨g, 11, none⟩ _ k hk]
    rw [Below.heap_setCell _ ⟨g, 10, none⟩ _ k hk]
    rw [Below.heap_setCell _ ⟨g, 9, none⟩ _ k hk]
    rw [Below.heap_setCell _ ⟨g, 8, none⟩ _ k hk]
    rw [Below.heap_setCell _ ⟨g, 7, none⟩ _ k hk]
    rw [Below.heap_setCell _ ⟨g, 6, none⟩ _ k hk]
    rw [Below.heap_setCell _ ⟨g, 5, none⟩ _ k hk]
    rw [Below.heap_setCell _ ⟨g, 4, none⟩ _ k hk]
    rw [Below.heap_setCell _ ⟨g, 3, none⟩ _ k hk]
    rw [Below.heap_setCell _ ⟨g, 2, none⟩ _ k hk]
    rw [Below.heap_setCell _ ⟨g, 1, none⟩ _ k hk]
    rw [Below.heap_setCell _ ⟨g, 0, none⟩ _ k hk]
set_option maxHeartbeats 4000000 in
set_option maxRecDepth 100000 in
theorem of_run (x : Sp) (A4 A11 A12 : Option Addr) (c4 c11 c12 : Nat) (W : World) :
    Calls Tryz.prog 81 #[.agg #[.int .u64 x.f0.f0, .int .u64 x.f0.f1, .int .u64 x.f1, .int .u64 x.f2, .slice A4 x.f3.length c4, .string x.f4, .string x.f5, .int .i64 x.f6, .int .i64 x.f7, .int .i64 x.f8, .int .i64 x.f9, .slice A11 x.f10.length c11, .slice A12 x.f11.length c12]] W fun e w' => e = .returned (.agg #[.int .u64 x.f0.f0, .int .u64 x.f0.f1, .int .u64 x.f1, .int .u64 x.f0.f0, .int .u64 x.f0.f1, .int .u64 x.f1, .int .u64 x.f2, .slice A4 x.f3.length c4, .string x.f4, .string x.f5, .int .i64 x.f6, .int .i64 x.f7, .int .i64 x.f8, .int .i64 x.f9, .slice A11 x.f10.length c11, .slice A12 x.f11.length c12]) ∧ Below W.heap.size W w' := by
  go_enter Tryz.func81, Tryz.ntmps81
  go_upto_region 1 with (fail)
  have HB := Lib.hid (below_alloc (below_alloc (Below.refl W.heap.size W) (.cells #[.int .u64 x.f0.f0, .int .u64 x.f0.f1, .int .u64 x.f1, .int .u64 x.f2, .slice A4 x.f3.length c4, .string x.f4, .string x.f5, .int .i64 x.f6, .int .i64 x.f7, .int .i64 x.f8, .int .i64 x.f9, .slice A11 x.f10.length c11, .slice A12 x.f11.length c12] 41)) (.cells #[.int .u64 0, .int .u64 0, .int .u64 0, .int .u64 0, .int .u64 0, .int .u64 0, .int .u64 0, .slice none 0 0, .string ⟨#[]⟩, .string ⟨#[]⟩, .int .i64 0, .int .i64 0, .int .i64 0, .int .i64 0, .slice none 0 0, .slice none 0 0] 133))
  have g1 := blk_alloc (blk_new W (.cells #[.int .u64 x.f0.f0, .int .u64 x.f0.f1, .int .u64 x.f1, .int .u64 x.f2, .slice A4 x.f3.length c4, .string x.f4, .string x.f5, .int .i64 x.f6, .int .i64 x.f7, .int .i64 x.f8, .int .i64 x.f9, .slice A11 x.f10.length c11, .slice A12 x.f11.length c12] 41)) (.cells #[.int .u64 0, .int .u64 0, .int .u64 0, .int .u64 0, .int .u64 0, .int .u64 0, .int .u64 0, .slice none 0 0, .string ⟨#[]⟩, .string ⟨#[]⟩, .int .i64 0, .int .i64 0, .int .i64 0, .int .i64 0, .slice none 0 0, .slice none 0 0] 133)
  have g2 := blk_new (W.alloc (.cells #[.int .u64 x.f0.f0, .int .u64 x.f0.f1, .int .u64 x.f1, .int .u64 x.f2, .slice A4 x.f3.length c4, .string x.f4, .string x.f5, .int .i64 x.f6, .int .i64 x.f7, .int .i64 x.f8, .int .i64 x.f9, .slice A11 x.f10.length c11, .slice A12 x.f11.length c12] 41)) (.cells #[.int .u64 0, .int .u64 0, .int .u64 0, .int .u64 0, .int .u64 0, .int .u64 0, .int .u64 0, .slice none 0 0, .string ⟨#[]⟩, .string ⟨#[]⟩, .int .i64 0, .int .i64 0, .int .i64 0, .int .i64 0, .slice none 0 0, .slice none 0 0] 133)
  rw [World.size_alloc] at g2
  generalize (W.alloc (.cells #[.int .u64 x.f0.f0, .int .u64 x.f0.f1, .int .u64 x.f1, .int .u64 x.f2, .slice A4 x.f3.length c4, .string x.f4, .string x.f5, .int .i64 x.f6, .int .i64 x.f7, .int .i64 x.f8, .int .i64 x.f9, .slice A11 x.f10.length c11, .slice A12 x.f11.length c12] 41)).alloc (.cells #[.int .u64 0, .int .u64 0, .int .u64 0, .int .u64 0, .int .u64 0, .int .u64 0, .int .u64 0, .slice none 0 0, .string ⟨#[]⟩, .string ⟨#[]⟩, .int .i64 0, .int .i64 0, .int .i64 0, .int .i64 0, .slice none 0 0, .slice none 0 0] 133) = w2 at *
  have p0 := (cell_of_row _ _ 0 _ _ _ g1).trans rfl
  have p1 := (cell_of_row _ _ 1 _ _ _ g1).trans rfl
  have p2 := (cell_of_row _ _ 2 _ _ _ g1).trans rfl
  have p3 := (cell_of_row _ _ 3 _ _ _ g1).trans rfl
  have p4 := (cell_of_row _ _ 4 _ _ _ g1).trans rfl
  have p5 := (cell_of_row _ _ 5 _ _ _ g1).trans rfl
  have p6 := (cell_of_row _ _ 6 _ _ _ g1).trans rfl
  have p7 := (cell_of_row _ _ 7 _ _ _ g1).trans rfl
  have p8 := (cell_of_row _ _ 8 _ _ _ g1).trans rfl
  have p9 := (cell_of_row _ _ 9 _ _ _ g1).trans rfl
  have p10 := (cell_of_row _ _ 10 _ _ _ g1).trans rfl
  have p11 := (cell_of_row _ _ 11 _ _ _ g1).trans rfl
  have p12 := (cell_of_row _ _ 12 _ _ _ g1).trans rfl
  have q0 := (cell_of_row _ _ 0 _ _ _ g2).trans rfl
  have f0 := blk_frozen g2 0
  have q1 := (cell_of_row _ _ 1 _ _ _ g2).trans rfl
  have f1 := blk_frozen g2 1
  have q2 := (cell_of_row _ _ 2 _ _ _ g2).trans rfl
  have f2 := blk_frozen g2 2
  have q3 := (cell_of_row _ _ 3 _ _ _ g2).trans rfl
  have f3 := blk_frozen g2 3
  have q4 := (cell_of_row _ _ 4 _ _ _ g2).trans rfl
  have f4 := blk_frozen g2 4
  have q5 := (cell_of_row _ _ 5 _ _ _ g2).trans rfl
  have f5 := blk_frozen g2 5
  have q6 := (cell_of_row _ _ 6 _ _ _ g2).trans rfl
  have f6 := blk_frozen g2 6
  have q7 := (cell_of_row _ _ 7 _ _ _ g2).trans rfl
  have f7 := blk_frozen g2 7
  have q8 := (cell_of_row _ _ 8 _ _ _ g2).trans rfl
  have f8 := blk_frozen g2 8
  have q9 := (cell_of_row _ _ 9 _ _ _ g2).trans rfl
  have f9 := blk_frozen g2 9
  have q10 := (cell_of_row _ _ 10 _ _ _ g2).trans rfl
  have f10 := blk_frozen g2 10
  have q11 := (cell_of_row _ _ 11 _ _ _ g2).trans rfl
  have f11 := blk_frozen g2 11
  have q12 := (cell_of_row _ _ 12 _ _ _ g2).trans rfl
  have f12 := blk_frozen g2 12
  have q13 := (cell_of_row _ _ 13 _ _ _ g2).trans rfl
  have f13 := blk_frozen g2 13
  have q14 := (cell_of_row _ _ 14 _ _ _ g2).trans rfl
  have f14 := blk_frozen g2 14
  have q15 := (cell_of_row _ _ 15 _ _ _ g2).trans rfl
  have f15 := blk_frozen g2 15
  have G2 := Lib.hid g2
  clear g1 g2
  go_wp2_with fail
  obtain ⟨k1, k2, _⟩ := row16 G2.out (.int .u64 x.f0.f0) (.int .u64 x.f0.f1) (.int .u64 x.f1) (.int .u64 x.f0.f0) (.int .u64 x.f0.f1) (.int .u64 x.f1) (.int .u64 x.f2) (.slice A4 x.f3.length c4) (.string x.f4) (.string x.f5) (.int .i64 x.f6) (.int .i64 x.f7) (.int .i64 x.f8) (.int .i64 x.f9) (.slice A11 x.f10.length c11) (.slice A12 x.f11.length c12)
  refine bodyPost_ret (results_cell_row rfl _ _ (W.heap.size + 1) 133 #[.int .u64 x.f0.f0, .int .u64 x.f0.f1, .int .u64 x.f1, .int .u64 x.f0.f0, .int .u64 x.f0.f1, .int .u64 x.f1, .int .u64 x.f2, .slice A4 x.f3.length c4, .string x.f4, .string x.f5, .int .i64 x.f6, .int .i64 x.f7, .int .i64 x.f8, .int .i64 x.f9, .slice A11 x.f10.length c11, .slice A12 x.f11.length c12] (0, 0) _ rfl k1 Tryz.underlying133 rfl (by kernel_rfl)) rfl ?_
  exact ⟨rfl, HB.out.trans (k2.mono (by omega))⟩
/-- The order of names. -/
def ordN (x y : Sp) : Int := firstF [ordI x.f0.f0 y.f0.f0, ordI x.f0.f1 y.f0.f1, ordI x.f1 y.f1]
theorem ordI_zero {a b : Int} : ordI a b = 0 ↔ a = b := by unfold ordI; split <;> (try split) <;> omega
theorem ordN_zero {x y : Sp} : ordN x y = 0 ↔ (x.f0.f0 = y.f0.f0 ∧ x.f0.f1 = y.f0.f1) ∧ x.f1 = y.f1 := by
  unfold ordN
  simp only [firstF]
  by_cases h1 : ordI x.f0.f0 y.f0.f0 = 0
  · rw [if_pos h1]
    by_cases h2 : ordI x.f0.f1 y.f0.f1 = 0
    · rw [if_pos h2]
      by_cases h3 : ordI x.f1 y.f1 = 0
      · rw [if_pos h3]; exact ⟨fun _ => ⟨⟨ordI_zero.1 h1, ordI_zero.1 h2⟩, ordI_zero.1 h3⟩, fun _ => rfl⟩
      · rw [if_neg h3]; exact ⟨fun h => absurd h h3, fun h => absurd (ordI_zero.2 h.2) h3⟩
    · rw [if_neg h2]; exact ⟨fun h => absurd h h2, fun h => absurd (ordI_zero.2 h.1.2) h2⟩
  · rw [if_neg h1]; exact ⟨fun h => absurd h h1, fun h => absurd (ordI_zero.2 h.1.1) h1⟩
theorem ordS_N (x y : Sp) : ordS x y = if ordN x y = 0 then firstF [ordI x.f9 y.f9, ordI y.f8 x.f8, ordI x.f7 y.f7, ordI x.f2 y.f2, ordT x.f4 y.f4, ordT x.f5 y.f5, ordI x.f6 y.f6, lexF ordI x.f3 y.f3, lexF ordA x.f10 y.f10, lexF ordE x.f11 y.f11] else ordN x y := by
  unfold ordS ordN
  generalize ordI x.f0.f0 y.f0.f0 = a
  generalize ordI x.f0.f1 y.f0.f1 = b
  generalize ordI x.f1 y.f1 = c
  simp only [firstF]
  by_cases h1 : a = 0 <;> by_cases h2 : b = 0 <;> by_cases h3 : c = 0 <;> simp [h1, h2, h3]
section
attribute [local go_sem high] eqA131
set_option maxHeartbeats 4000000 in
set_option maxRecDepth 100000 in
theorem against_ne (x y : Sp) (A4 A11 A12 : Option Addr) (c4 c11 c12 : Nat) (B4 B11 B12 : Option Addr) (d4 d11 d12 : Nat) (W : World) (hne : ordN x y ≠ 0) :
    Calls Tryz.prog 82 #[.agg #[.int .u64 x.f0.f0, .int .u64 x.f0.f1, .int .u64 x.f1, .int .u64 x.f0.f0, .int .u64 x.f0.f1, .int .u64 x.f1, .int .u64 x.f2, .slice A4 x.f3.length c4, .string x.f4, .string x.f5, .int .i64 x.f6, .int .i64 x.f7, .int .i64 x.f8, .int .i64 x.f9, .slice A11 x.f10.length c11, .slice A12 x.f11.length c12], .agg #[.int .u64 y.f0.f0, .int .u64 y.f0.f1, .int .u64 y.f1, .int .u64 y.f0.f0, .int .u64 y.f0.f1, .int .u64 y.f1, .int .u64 y.f2, .slice B4 y.f3.length d4, .string y.f4, .string y.f5, .int .i64 y.f6, .int .i64 y.f7, .int .i64 y.f8, .int .i64 y.f9, .slice B11 y.f10.length d11, .slice B12 y.f11.length d12]] W fun e w' => e = .returned (.int .i64 (ordN x y)) ∧ Below W.heap.size W w' := by
  have hq : ((x.f0.f0 == y.f0.f0 && (x.f0.f1 == y.f0.f1)) && (x.f1 == y.f1)) = false := by
    rw [Bool.eq_false_iff]
    intro h
    simp only [Bool.and_eq_true, beq_iff_eq] at h
    exact hne (ordN_zero.2 h)
  go_enter Tryz.func82, Tryz.ntmps82
  go_wp2_with fail
  have HB := Lib.hid (below_alloc (below_alloc (Below.refl W.heap.size W) (.cells #[.int .u64 x.f0.f0, .int .u64 x.f0.f1, .int .u64 x.f1, .int .u64 x.f0.f0, .int .u64 x.f0.f1, .int .u64 x.f1, .int .u64 x.f2, .slice A4 x.f3.length c4, .string x.f4, .string x.f5, .int .i64 x.f6, .int .i64 x.f7, .int .i64 x.f8, .int .i64 x.f9, .slice A11 x.f10.length c11, .slice A12 x.f11.length c12] 133)) (.cells #[.int .u64 y.f0.f0, .int .u64 y.f0.f1, .int .u64 y.f1, .int .u64 y.f0.f0, .int .u64 y.f0.f1, .int .u64 y.f1, .int .u64 y.f2, .slice B4 y.f3.length d4, .string y.f4, .string y.f5, .int .i64 y.f6, .int .i64 y.f7, .int .i64 y.f8, .int .i64 y.f9, .slice B11 y.f10.length d11, .slice B12 y.f11.length d12] 133))
  have g1 := blk_alloc (blk_new W (.cells #[.int .u64 x.f0.f0, .int .u64 x.f0.f1, .int .u64 x.f1, .int .u64 x.f0.f0, .int .u64 x.f0.f1, .int .u64 x.f1, .int .u64 x.f2, .slice A4 x.f3.length c4, .string x.f4, .string x.f5, .int .i64 x.f6, .int .i64 x.f7, .int .i64 x.f8, .int .i64 x.f9, .slice A11 x.f10.length c11, .slice A12 x.f11.length c12] 133)) (.cells #[.int .u64 y.f0.f0, .int .u64 y.f0.f1, .int .u64 y.f1, .int .u64 y.f0.f0, .int .u64 y.f0.f1, .int .u64 y.f1, .int .u64 y.f2, .slice B4 y.f3.length d4, .string y.f4, .string y.f5, .int .i64 y.f6, .int .i64 y.f7, .int .i64 y.f8, .int .i64 y.f9, .slice B11 y.f10.length d11, .slice B12 y.f11.length d12] 133)
  have g2 := blk_new (W.alloc (.cells #[.int .u64 x.f0.f0, .int .u64 x.f0.f1, .int .u64 x.f1, .int .u64 x.f0.f0, .int .u64 x.f0.f1, .int .u64 x.f1, .int .u64 x.f2, .slice A4 x.f3.length c4, .string x.f4, .string x.f5, .int .i64 x.f6, .int .i64 x.f7, .int .i64 x.f8, .int .i64 x.f9, .slice A11 x.f10.length c11, .slice A12 x.f11.length c12] 133)) (.cells #[.int .u64 y.f0.f0, .int .u64 y.f0.f1, .int .u64 y.f1, .int .u64 y.f0.f0, .int .u64 y.f0.f1, .int .u64 y.f1, .int .u64 y.f2, .slice B4 y.f3.length d4, .string y.f4, .string y.f5, .int .i64 y.f6, .int .i64 y.f7, .int .i64 y.f8, .int .i64 y.f9, .slice B11 y.f10.length d11, .slice B12 y.f11.length d12] 133)
  rw [World.size_alloc] at g2
  generalize (W.alloc (.cells #[.int .u64 x.f0.f0, .int .u64 x.f0.f1, .int .u64 x.f1, .int .u64 x.f0.f0, .int .u64 x.f0.f1, .int .u64 x.f1, .int .u64 x.f2, .slice A4 x.f3.length c4, .string x.f4, .string x.f5, .int .i64 x.f6, .int .i64 x.f7, .int .i64 x.f8, .int .i64 x.f9, .slice A11 x.f10.length c11, .slice A12 x.f11.length c12] 133)).alloc (.cells #[.int .u64 y.f0.f0, .int .u64 y.f0.f1, .int .u64 y.f1, .int .u64 y.f0.f0, .int .u64 y.f0.f1, .int .u64 y.f1, .int .u64 y.f2, .slice B4 y.f3.length d4, .string y.f4, .string y.f5, .int .i64 y.f6, .int .i64 y.f7, .int .i64 y.f8, .int .i64 y.f9, .slice B11 y.f10.length d11, .slice B12 y.f11.length d12] 133) = w2 at *
  have p0 := fun z : Wx w2 => z.cell ((cell_of_row _ _ 0 _ _ _ g1).trans rfl)
  have q0 := fun z : Wx w2 => z.cell ((cell_of_row _ _ 0 _ _ _ g2).trans rfl)
  have p1 := fun z : Wx w2 => z.cell ((cell_of_row _ _ 1 _ _ _ g1).trans rfl)
  have q1 := fun z : Wx w2 => z.cell ((cell_of_row _ _ 1 _ _ _ g2).trans rfl)
  have p2 := fun z : Wx w2 => z.cell ((cell_of_row _ _ 2 _ _ _ g1).trans rfl)
  have q2 := fun z : Wx w2 => z.cell ((cell_of_row _ _ 2 _ _ _ g2).trans rfl)
  have p3 := fun z : Wx w2 => z.cell ((cell_of_row _ _ 3 _ _ _ g1).trans rfl)
  have q3 := fun z : Wx w2 => z.cell ((cell_of_row _ _ 3 _ _ _ g2).trans rfl)
  have p4 := fun z : Wx w2 => z.cell ((cell_of_row _ _ 4 _ _ _ g1).trans rfl)
  have q4 := fun z : Wx w2 => z.cell ((cell_of_row _ _ 4 _ _ _ g2).trans rfl)
  have p5 := fun z : Wx w2 => z.cell ((cell_of_row _ _ 5 _ _ _ g1).trans rfl)
  have q5 := fun z : Wx w2 => z.cell ((cell_of_row _ _ 5 _ _ _ g2).trans rfl)
  have p6 := fun z : Wx w2 => z.cell ((cell_of_row _ _ 6 _ _ _ g1).trans rfl)
  have q6 := fun z : Wx w2 => z.cell ((cell_of_row _ _ 6 _ _ _ g2).trans rfl)
  have p7 := fun z : Wx w2 => z.cell ((cell_of_row _ _ 7 _ _ _ g1).trans rfl)
  have q7 := fun z : Wx w2 => z.cell ((cell_of_row _ _ 7 _ _ _ g2).trans rfl)
  have p8 := fun z : Wx w2 => z.cell ((cell_of_row _ _ 8 _ _ _ g1).trans rfl)
  have q8 := fun z : Wx w2 => z.cell ((cell_of_row _ _ 8 _ _ _ g2).trans rfl)
  have p9 := fun z : Wx w2 => z.cell ((cell_of_row _ _ 9 _ _ _ g1).trans rfl)
  have q9 := fun z : Wx w2 => z.cell ((cell_of_row _ _ 9 _ _ _ g2).trans rfl)
  have p10 := fun z : Wx w2 => z.cell ((cell_of_row _ _ 10 _ _ _ g1).trans rfl)
  have q10 := fun z : Wx w2 => z.cell ((cell_of_row _ _ 10 _ _ _ g2).trans rfl)
  have p11 := fun z : Wx w2 => z.cell ((cell_of_row _ _ 11 _ _ _ g1).trans rfl)
  have q11 := fun z : Wx w2 => z.cell ((cell_of_row _ _ 11 _ _ _ g2).trans rfl)
  have p12 := fun z : Wx w2 => z.cell ((cell_of_row _ _ 12 _ _ _ g1).trans rfl)
  have q12 := fun z : Wx w2 => z.cell ((cell_of_row _ _ 12 _ _ _ g2).trans rfl)
  have p13 := fun z : Wx w2 => z.cell ((cell_of_row _ _ 13 _ _ _ g1).trans rfl)
  have q13 := fun z : Wx w2 => z.cell ((cell_of_row _ _ 13 _ _ _ g2).trans rfl)
  have p14 := fun z : Wx w2 => z.cell ((cell_of_row _ _ 14 _ _ _ g1).trans rfl)
  have q14 := fun z : Wx w2 => z.cell ((cell_of_row _ _ 14 _ _ _ g2).trans rfl)
  have p15 := fun z : Wx w2 => z.cell ((cell_of_row _ _ 15 _ _ _ g1).trans rfl)
  have q15 := fun z : Wx w2 => z.cell ((cell_of_row _ _ 15 _ _ _ g2).trans rfl)
  clear g1 g2
  refine wp_region_ext_tail 25 (by kernel_rfl) (by kernel_rfl) ?_
  simp only [List.take_succ_cons, List.take_zero, List.drop_succ_cons, List.drop_zero]
  repeat (go_big_quiet_step (first | (go_at_call 80; with_reducible exact Calls.ext_of (cmp_u64 _ _ _)) | (go_at_call 74; with_reducible exact Calls.ext_of (cmp_sid _ _ _))))
  refine wpQuiet_nil ?_
  intro _ hw'
  obtain ⟨xx, rfl⟩ := hw'
  clear p0 q0 p1 q1 p2 q2 p3 q3 p4 q4 p5 q5 p6 q6 p7 q7 p8 q8 p9 q9 p10 q10 p11 q11 p12 q12 p13 q13 p14 q14 p15 q15
  go_wp2_with fail
  refine (or_new [ordI x.f0.f0 y.f0.f0, ordI x.f0.f1 y.f0.f1, ordI x.f1 y.f1] (ordN x y) rfl (by simp) _ _ _ _ rfl rfl).mono ?_
  rintro e w3 ⟨rfl, hb⟩
  have b1 := HB.out.trans (xx.h.mono HB.out.size)
  have b2 := b1.trans (hb.mono b1.size)
  clear b1 hb
  go_wp2_with fail
  go_ret
  exact ⟨rfl, b2⟩
set_option maxHeartbeats 4000000 in
set_option maxRecDepth 100000 in
theorem against_eq (x y : Sp) (A4 A11 A12 : Option Addr) (c4 c11 c12 : Nat) (B4 B11 B12 : Option Addr) (d4 d11 d12 : Nat) (W : World) (he : ordN x y = 0) :
    Calls Tryz.prog 82 #[.agg #[.int .u64 x.f0.f0, .int .u64 x.f0.f1, .int .u64 x.f1, .int .u64 x.f0.f0, .int .u64 x.f0.f1, .int .u64 x.f1, .int .u64 x.f2, .slice A4 x.f3.length c4, .string x.f4, .string x.f5, .int .i64 x.f6, .int .i64 x.f7, .int .i64 x.f8, .int .i64 x.f9, .slice A11 x.f10.length c11, .slice A12 x.f11.length c12], .agg #[.int .u64 y.f0.f0, .int .u64 y.f0.f1, .int .u64 y.f1, .int .u64 y.f0.f0, .int .u64 y.f0.f1, .int .u64 y.f1, .int .u64 y.f2, .slice B4 y.f3.length d4, .string y.f4, .string y.f5, .int .i64 y.f6, .int .i64 y.f7, .int .i64 y.f8, .int .i64 y.f9, .slice B11 y.f10.length d11, .slice B12 y.f11.length d12]] W fun e w' => e = .returned (.int .i64 0) ∧ Below W.heap.size W w' := by
  have hq : ((x.f0.f0 == y.f0.f0 && (x.f0.f1 == y.f0.f1)) && (x.f1 == y.f1)) = true := by
    have := ordN_zero.1 he
    simp only [Bool.and_eq_true, beq_iff_eq]
    exact this
  go_enter Tryz.func82, Tryz.ntmps82
  go_wp2_with fail
  go_ret
  exact ⟨rfl, below_alloc (below_alloc (Below.refl _ _) _) _⟩
end
end Go.Proofs.YthdkgilpnkabmaaGreatDoor.Pr
