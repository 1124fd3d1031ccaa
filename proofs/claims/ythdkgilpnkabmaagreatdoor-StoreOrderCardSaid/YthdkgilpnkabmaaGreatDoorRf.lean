/- spoorref04.Compare, by hand. -/
import Derived.Test.YthdkgilpnkabmaaGreatDoorRe
import Derived.Outline
namespace Go.Proofs.YthdkgilpnkabmaaGreatDoor.Pr
open Go.RowKit Go.Proofs.YthdkgilpnkabmaaGreatDoorW.PrintWords Go.Proofs.YthdkgilpnkabmaaGreatDoorW.PrintMore
set_option linter.unusedVariables false
set_option linter.unusedSimpArgs false
set_option maxHeartbeats 4000000 in
set_option maxRecDepth 100000 in
theorem compare_run (x y : S41) (W : World) (A4 : Option Addr) (c4 : Nat) (A11 : Option Addr) (c11 : Nat) (A12 : Option Addr) (c12 : Nat) (B4 : Option Addr) (d4 : Nat) (B11 : Option Addr) (d11 : Nat) (B12 : Option Addr) (d12 : Nat)
    (r4 : Kd.C (Kd.int .u64) W A4 x.f3.length x.f3) (l4 : x.f3.length ≤ c4) (r11 : Kd.C k108 W A11 x.f10.length x.f10) (l11 : x.f10.length ≤ c11) (r12 : Kd.C k111 W A12 x.f11.length x.f11) (l12 : x.f11.length ≤ c12)
    (s4 : Kd.C (Kd.int .u64) W B4 y.f3.length y.f3) (m4 : y.f3.length ≤ d4) (s11 : Kd.C k108 W B11 y.f10.length y.f10) (m11 : y.f10.length ≤ d11) (s12 : Kd.C k111 W B12 y.f11.length y.f11) (m12 : y.f11.length ≤ d12)
    (hx4 : x.f3.length ≤ 140737488351232) (hx11 : x.f10.length ≤ 140737488351232) (hx12 : x.f11.length ≤ 140737488351232) (hy4 : y.f3.length ≤ 140737488351232) (hy11 : y.f10.length ≤ 140737488351232) (hy12 : y.f11.length ≤ 140737488351232) :
    Calls Tryz.prog 14 #[.agg #[.int .u64 x.f0.f0, .int .u64 x.f0.f1, .int .u64 x.f1, .int .u64 x.f2, .slice A4 x.f3.length c4, .string x.f4, .string x.f5, .int .i64 x.f6, .int .i64 x.f7, .int .i64 x.f8, .int .i64 x.f9, .slice A11 x.f10.length c11, .slice A12 x.f11.length c12],
      .agg #[.int .u64 y.f0.f0, .int .u64 y.f0.f1, .int .u64 y.f1, .int .u64 y.f2, .slice B4 y.f3.length d4, .string y.f4, .string y.f5, .int .i64 y.f6, .int .i64 y.f7, .int .i64 y.f8, .int .i64 y.f9, .slice B11 y.f10.length d11, .slice B12 y.f11.length d12]] W
      fun e w' => e = .returned (.int .i64 (ordS x y)) ∧ Below W.heap.size W w' := by
  have h1 := Lib.hid r4
  have h2 := Lib.hid r11
  have h3 := Lib.hid r12
  have h4 := Lib.hid s4
  have h5 := Lib.hid s11
  have h6 := Lib.hid s12
  clear r4 r11 r12 s4 s11 s12
  go_enter Tryz.func14, Tryz.ntmps14
  go_wp2_with fail
  have HB := Lib.hid (below_alloc (below_alloc (Below.refl W.heap.size W) (.cells #[.int .u64 x.f0.f0, .int .u64 x.f0.f1, .int .u64 x.f1, .int .u64 x.f2, .slice A4 x.f3.length c4, .string x.f4, .string x.f5, .int .i64 x.f6, .int .i64 x.f7, .int .i64 x.f8, .int .i64 x.f9, .slice A11 x.f10.length c11, .slice A12 x.f11.length c12] 41)) (.cells #[.int .u64 y.f0.f0, .int .u64 y.f0.f1, .int .u64 y.f1, .int .u64 y.f2, .slice B4 y.f3.length d4, .string y.f4, .string y.f5, .int .i64 y.f6, .int .i64 y.f7, .int .i64 y.f8, .int .i64 y.f9, .slice B11 y.f10.length d11, .slice B12 y.f11.length d12] 41))
  have g1 := blk_alloc (blk_new W (.cells #[.int .u64 x.f0.f0, .int .u64 x.f0.f1, .int .u64 x.f1, .int .u64 x.f2, .slice A4 x.f3.length c4, .string x.f4, .string x.f5, .int .i64 x.f6, .int .i64 x.f7, .int .i64 x.f8, .int .i64 x.f9, .slice A11 x.f10.length c11, .slice A12 x.f11.length c12] 41)) (.cells #[.int .u64 y.f0.f0, .int .u64 y.f0.f1, .int .u64 y.f1, .int .u64 y.f2, .slice B4 y.f3.length d4, .string y.f4, .string y.f5, .int .i64 y.f6, .int .i64 y.f7, .int .i64 y.f8, .int .i64 y.f9, .slice B11 y.f10.length d11, .slice B12 y.f11.length d12] 41)
  have g2 := blk_new (W.alloc (.cells #[.int .u64 x.f0.f0, .int .u64 x.f0.f1, .int .u64 x.f1, .int .u64 x.f2, .slice A4 x.f3.length c4, .string x.f4, .string x.f5, .int .i64 x.f6, .int .i64 x.f7, .int .i64 x.f8, .int .i64 x.f9, .slice A11 x.f10.length c11, .slice A12 x.f11.length c12] 41)) (.cells #[.int .u64 y.f0.f0, .int .u64 y.f0.f1, .int .u64 y.f1, .int .u64 y.f2, .slice B4 y.f3.length d4, .string y.f4, .string y.f5, .int .i64 y.f6, .int .i64 y.f7, .int .i64 y.f8, .int .i64 y.f9, .slice B11 y.f10.length d11, .slice B12 y.f11.length d12] 41)
  rw [World.size_alloc] at g2
  generalize (W.alloc (.cells #[.int .u64 x.f0.f0, .int .u64 x.f0.f1, .int .u64 x.f1, .int .u64 x.f2, .slice A4 x.f3.length c4, .string x.f4, .string x.f5, .int .i64 x.f6, .int .i64 x.f7, .int .i64 x.f8, .int .i64 x.f9, .slice A11 x.f10.length c11, .slice A12 x.f11.length c12] 41)).alloc (.cells #[.int .u64 y.f0.f0, .int .u64 y.f0.f1, .int .u64 y.f1, .int .u64 y.f2, .slice B4 y.f3.length d4, .string y.f4, .string y.f5, .int .i64 y.f6, .int .i64 y.f7, .int .i64 y.f8, .int .i64 y.f9, .slice B11 y.f10.length d11, .slice B12 y.f11.length d12] 41) = w2 at *
  have p0 := fun z : Wx w2 => z.cell ((cell_of_row _ _ 0 _ _ _ g1).trans rfl)
  have q0 := fun z : Wx w2 => z.cell ((cell_of_row _ _ 0 _ _ _ g2).trans rfl)
  have p1 := fun z : Wx w2 => z.cell ((cell_of_row _ _ 1 _ _ _ g1).trans rfl)
  have q1 := fun z : Wx w2 => z.cell ((cell_of_row _ _ 1 _ _ _ g2).trans rfl)
  have p2 := fun z : Wx w2 => z.cell ((cell_of_row _ _ 2 _ _ _ g1).trans rfl)
  have q2 := fun z : Wx w2 => z.cell ((cell_of_row _ _ 2 _ _ _ g2).trans rfl)
  have p3 := fun z : Wx w2 => z.cell ((cell_of_row _ _ 3 _ _ _ g1).trans rfl)
  have q3 := fun z : Wx w2 => z.cell ((cell_of_row _ _ 3 _ _ _ g2).trans rfl)
  have p4 := fun z : Wx w2 => z.cell ((cell_of_row _ _ 4 _ _ _ g1).trans rfl)
  have q4 := fun z : Wx w2 => z.cell ((cell_of_row _ _ 4 _ _ _ g2).trans rfl)
  have p5 := fun z : Wx w2 => z.cell ((cell_of_row _ _ 5 _ _ _ g1).trans rfl)
  have q5 := fun z : Wx w2 => z.cell ((cell_of_row _ _ 5 _ _ _ g2).trans rfl)
  have p6 := fun z : Wx w2 => z.cell ((cell_of_row _ _ 6 _ _ _ g1).trans rfl)
  have q6 := fun z : Wx w2 => z.cell ((cell_of_row _ _ 6 _ _ _ g2).trans rfl)
  have p7 := fun z : Wx w2 => z.cell ((cell_of_row _ _ 7 _ _ _ g1).trans rfl)
  have q7 := fun z : Wx w2 => z.cell ((cell_of_row _ _ 7 _ _ _ g2).trans rfl)
  have p8 := fun z : Wx w2 => z.cell ((cell_of_row _ _ 8 _ _ _ g1).trans rfl)
  have q8 := fun z : Wx w2 => z.cell ((cell_of_row _ _ 8 _ _ _ g2).trans rfl)
  have p9 := fun z : Wx w2 => z.cell ((cell_of_row _ _ 9 _ _ _ g1).trans rfl)
  have q9 := fun z : Wx w2 => z.cell ((cell_of_row _ _ 9 _ _ _ g2).trans rfl)
  have p10 := fun z : Wx w2 => z.cell ((cell_of_row _ _ 10 _ _ _ g1).trans rfl)
  have q10 := fun z : Wx w2 => z.cell ((cell_of_row _ _ 10 _ _ _ g2).trans rfl)
  have p11 := fun z : Wx w2 => z.cell ((cell_of_row _ _ 11 _ _ _ g1).trans rfl)
  have q11 := fun z : Wx w2 => z.cell ((cell_of_row _ _ 11 _ _ _ g2).trans rfl)
  have p12 := fun z : Wx w2 => z.cell ((cell_of_row _ _ 12 _ _ _ g1).trans rfl)
  have q12 := fun z : Wx w2 => z.cell ((cell_of_row _ _ 12 _ _ _ g2).trans rfl)
  clear g1 g2
  have C1 := Lib.hid (fun z : Wx w2 => linksOf_run A4 B4 c4 d4 x.f3 y.f3 z.W (Kd.C_below h1.out (HB.out.trans (z.h.mono HB.out.size))) l4 (Kd.C_below h4.out (HB.out.trans (z.h.mono HB.out.size))) m4 hx4 hy4)
  have C2 := Lib.hid (fun z : Wx w2 => attrsOf_run A11 B11 c11 d11 x.f10 y.f10 z.W (Kd.C_below h2.out (HB.out.trans (z.h.mono HB.out.size))) l11 (Kd.C_below h5.out (HB.out.trans (z.h.mono HB.out.size))) m11 hx11 hy11)
  have C3 := Lib.hid (fun z : Wx w2 => eventsOf_run A12 B12 c12 d12 x.f11 y.f11 z.W (Kd.C_below h3.out (HB.out.trans (z.h.mono HB.out.size))) l12 (Kd.C_below h6.out (HB.out.trans (z.h.mono HB.out.size))) m12 hx12 hy12)
  simp only [List.append_eq, List.cons_append, List.nil_append]
  refine wp_region_ext_tail 69 (by kernel_rfl) (by kernel_rfl) ?_
  simp only [List.take_succ_cons, List.take_zero, List.drop_succ_cons, List.drop_zero]
  repeat (go_big_quiet_step (first | (go_at_call 34; with_reducible exact Calls.ext_of (texts_run _ _ _)) | (go_at_call 33; with_reducible exact Calls.ext_of (numbers_run _ _ _)) | (go_at_call 32; with_reducible exact Calls.ext_of (words_run _ _ _)) | (go_at_call 35; with_reducible exact Calls.ext_of (C1.out _)) | (go_at_call 36; with_reducible exact Calls.ext_of (C2.out _)) | (go_at_call 37; with_reducible exact Calls.ext_of (C3.out _))))
  refine wpQuiet_nil ?_
  intro _ hw'
  obtain ⟨xx, rfl⟩ := hw'
  clear p0 q0 p1 q1 p2 q2 p3 q3 p4 q4 p5 q5 p6 q6 p7 q7 p8 q8 p9 q9 p10 q10 p11 q11 p12 q12
  go_wp2_with fail
  refine (first_new [ordI x.f0.f0 y.f0.f0, ordI x.f0.f1 y.f0.f1, ordI x.f1 y.f1, ordI x.f9 y.f9, ordI y.f8 x.f8, ordI x.f7 y.f7, ordI x.f2 y.f2, ordT x.f4 y.f4, ordT x.f5 y.f5, ordI x.f6 y.f6, lexF ordI x.f3 y.f3, lexF ordA x.f10 y.f10, lexF ordE x.f11 y.f11] (ordS x y) rfl (by simp) _ _ _ _ rfl rfl).mono ?_
  rintro e w3 ⟨rfl, hb⟩
  have b1 := HB.out.trans (xx.h.mono HB.out.size)
  have b2 := b1.trans (hb.mono b1.size)
  clear b1 hb
  go_wp2_with fail
  go_ret
  exact ⟨rfl, b2⟩
end Go.Proofs.YthdkgilpnkabmaaGreatDoor.Pr
