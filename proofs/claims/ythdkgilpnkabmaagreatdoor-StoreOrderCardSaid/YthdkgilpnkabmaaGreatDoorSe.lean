/- span.Compare. -/
import Derived.Test.YthdkgilpnkabmaaGreatDoorSd
import Derived.Test.YthdkgilpnkabmaaGreatDoorCl
import Derived.Test.YthdkgilpnkabmaaGreatDoorK0
import Derived.Outline
namespace Go.Proofs.YthdkgilpnkabmaaGreatDoor.Pr
open Go Go.RowKit Go.Proofs.YthdkgilpnkabmaaGreatDoorW.PrintWords Go.Proofs.YthdkgilpnkabmaaGreatDoorW.PrintMore
set_option linter.unusedVariables false
set_option linter.unusedSimpArgs false
set_option maxHeartbeats 4000000 in
set_option maxRecDepth 100000 in
theorem attrs_run (x y : At) (W : World) :
    Calls Tryz.prog 89 #[.agg #[.string x.f0, .int .i64 x.f1.f0, .string x.f1.f1, .int .i64 x.f1.f2], .agg #[.string y.f0, .int .i64 y.f1.f0, .string y.f1.f1, .int .i64 y.f1.f2]] W fun e w' => e = .returned (.int .i64 (ordA x y)) ∧ Below W.heap.size W w' := by
  go_enter Tryz.func89, Tryz.ntmps89
  go_wp2_with fail
  have HB := Lib.hid (below_alloc (below_alloc (Below.refl W.heap.size W) (.cells #[.string x.f0, .int .i64 x.f1.f0, .string x.f1.f1, .int .i64 x.f1.f2] 108)) (.cells #[.string y.f0, .int .i64 y.f1.f0, .string y.f1.f1, .int .i64 y.f1.f2] 108))
  have g1 := blk_alloc (blk_new W (.cells #[.string x.f0, .int .i64 x.f1.f0, .string x.f1.f1, .int .i64 x.f1.f2] 108)) (.cells #[.string y.f0, .int .i64 y.f1.f0, .string y.f1.f1, .int .i64 y.f1.f2] 108)
  have g2 := blk_new (W.alloc (.cells #[.string x.f0, .int .i64 x.f1.f0, .string x.f1.f1, .int .i64 x.f1.f2] 108)) (.cells #[.string y.f0, .int .i64 y.f1.f0, .string y.f1.f1, .int .i64 y.f1.f2] 108)
  rw [World.size_alloc] at g2
  generalize (W.alloc (.cells #[.string x.f0, .int .i64 x.f1.f0, .string x.f1.f1, .int .i64 x.f1.f2] 108)).alloc (.cells #[.string y.f0, .int .i64 y.f1.f0, .string y.f1.f1, .int .i64 y.f1.f2] 108) = w2 at *
  have p0 := fun z : Wx w2 => z.cell ((cell_of_row _ _ 0 _ _ _ g1).trans rfl)
  have q0 := fun z : Wx w2 => z.cell ((cell_of_row _ _ 0 _ _ _ g2).trans rfl)
  have p1 := fun z : Wx w2 => z.cell ((cell_of_row _ _ 1 _ _ _ g1).trans rfl)
  have q1 := fun z : Wx w2 => z.cell ((cell_of_row _ _ 1 _ _ _ g2).trans rfl)
  have p2 := fun z : Wx w2 => z.cell ((cell_of_row _ _ 2 _ _ _ g1).trans rfl)
  have q2 := fun z : Wx w2 => z.cell ((cell_of_row _ _ 2 _ _ _ g2).trans rfl)
  have p3 := fun z : Wx w2 => z.cell ((cell_of_row _ _ 3 _ _ _ g1).trans rfl)
  have q3 := fun z : Wx w2 => z.cell ((cell_of_row _ _ 3 _ _ _ g2).trans rfl)
  clear g1 g2
  refine wp_region_ext_tail 26 (by kernel_rfl) (by kernel_rfl) ?_
  simp only [List.take_succ_cons, List.take_zero, List.drop_succ_cons, List.drop_zero]
  repeat (go_big_quiet_step (first | (go_at_call 85; with_reducible exact Calls.ext_of (strs_run _ _ _)) | (go_at_call 119; with_reducible exact Calls.ext_of (cmp_vk _ _ _)) | (go_at_call 83; with_reducible exact Calls.ext_of (cmp_i64 _ _ _))))
  refine wpQuiet_nil ?_
  intro _ hw'
  obtain ⟨xx, rfl⟩ := hw'
  clear p0 q0 p1 q1 p2 q2 p3 q3
  go_wp2_with fail
  refine (or_new [ordT x.f0 y.f0, ordI x.f1.f0 y.f1.f0, ordT x.f1.f1 y.f1.f1, ordI x.f1.f2 y.f1.f2] (ordA x y) rfl (by simp) _ _ _ _ rfl rfl).mono ?_
  rintro e w3 ⟨rfl, hb⟩
  have b1 := HB.out.trans (xx.h.mono HB.out.size)
  have b2 := b1.trans (hb.mono b1.size)
  clear b1 hb
  go_wp2_with fail
  go_ret
  exact ⟨rfl, b2⟩
set_option maxHeartbeats 4000000 in
set_option maxRecDepth 100000 in
theorem events_run (x y : Ev) (W : World) :
    Calls Tryz.prog 91 #[.agg #[.int .i64 x.f0, .string x.f1], .agg #[.int .i64 y.f0, .string y.f1]] W fun e w' => e = .returned (.int .i64 (ordE x y)) ∧ Below W.heap.size W w' := by
  go_enter Tryz.func91, Tryz.ntmps91
  go_wp2_with fail
  have HB := Lib.hid (below_alloc (below_alloc (Below.refl W.heap.size W) (.cells #[.int .i64 x.f0, .string x.f1] 111)) (.cells #[.int .i64 y.f0, .string y.f1] 111))
  have g1 := blk_alloc (blk_new W (.cells #[.int .i64 x.f0, .string x.f1] 111)) (.cells #[.int .i64 y.f0, .string y.f1] 111)
  have g2 := blk_new (W.alloc (.cells #[.int .i64 x.f0, .string x.f1] 111)) (.cells #[.int .i64 y.f0, .string y.f1] 111)
  rw [World.size_alloc] at g2
  generalize (W.alloc (.cells #[.int .i64 x.f0, .string x.f1] 111)).alloc (.cells #[.int .i64 y.f0, .string y.f1] 111) = w2 at *
  have p0 := fun z : Wx w2 => z.cell ((cell_of_row _ _ 0 _ _ _ g1).trans rfl)
  have q0 := fun z : Wx w2 => z.cell ((cell_of_row _ _ 0 _ _ _ g2).trans rfl)
  have p1 := fun z : Wx w2 => z.cell ((cell_of_row _ _ 1 _ _ _ g1).trans rfl)
  have q1 := fun z : Wx w2 => z.cell ((cell_of_row _ _ 1 _ _ _ g2).trans rfl)
  clear g1 g2
  refine wp_region_ext_tail 10 (by kernel_rfl) (by kernel_rfl) ?_
  simp only [List.take_succ_cons, List.take_zero, List.drop_succ_cons, List.drop_zero]
  repeat (go_big_quiet_step (first | (go_at_call 85; with_reducible exact Calls.ext_of (strs_run _ _ _)) | (go_at_call 83; with_reducible exact Calls.ext_of (cmp_i64 _ _ _))))
  refine wpQuiet_nil ?_
  intro _ hw'
  obtain ⟨xx, rfl⟩ := hw'
  clear p0 q0 p1 q1
  go_wp2_with fail
  refine (or_new [ordI x.f0 y.f0, ordT x.f1 y.f1] (ordE x y) rfl (by simp) _ _ _ _ rfl rfl).mono ?_
  rintro e w3 ⟨rfl, hb⟩
  have b1 := HB.out.trans (xx.h.mono HB.out.size)
  have b2 := b1.trans (hb.mono b1.size)
  clear b1 hb
  go_wp2_with fail
  go_ret
  exact ⟨rfl, b2⟩
set_option maxHeartbeats 8000000 in
theorem acmp_run (A B : Option Addr) (c d : Nat) (l m : List At) (w : World) (hr : Kd.C kAt w A l.length l) (hc : l.length ≤ c) (hs : Kd.C kAt w B m.length m) (hd : m.length ≤ d) (hl : l.length ≤ 140737488351232) (hm : m.length ≤ 140737488351232) :
    Calls Tryz.prog 88 #[.slice A l.length c, .slice B m.length d, .func (.func 89) #[] #[]] w fun e w' => e = .returned (.int .i64 (lexF ordA l m)) ∧ Below w.heap.size w w' := by
  have HR := Lib.hid hr
  have HS := Lib.hid hs
  clear hr hs
  go_enter Tryz.func88, Tryz.ntmps88
  go_wp2_with fail
  go_loopw [13] (fun v5 wr => ∃ k : Nat, v5 = .int .i64 k ∧ k ≤ l.length ∧ k ≤ m.length ∧ Hid (lexF ordA l m = lexF ordA (l.drop k) (m.drop k)) ∧ Hid (Below w.heap.size w wr)) (fun v5 _ => l.length - (intOf v5).toNat)
  case atStart => exact ⟨0, rfl, Nat.zero_le _, Nat.zero_le _, Lib.hid rfl, Lib.hid (Below.refl _ _)⟩
  case round =>
    obtain ⟨k, rfl, hk, hk', HF, HW⟩ := hrel
    by_cases h1 : k < l.length
    · have b1 : (k : Int) < (l.length : Int) := by omega
      obtain ⟨ab, ao, rfl, x0, x1, x2, x3⟩ := t108_at HR.out k h1
      have X0 := pw_cell_below HW.out x0
      have X1 := pw_cell_below HW.out x1
      have X2 := pw_cell_below HW.out x2
      have X3 := pw_cell_below HW.out x3
      clear x0 x1 x2 x3
      by_cases h2 : k < m.length
      · have b2 : (k : Int) < (m.length : Int) := by omega
        have b2' : ¬ ((m.length : Int) ≤ (k : Int)) := by omega
        obtain ⟨eb, eo, rfl, y0, y1, y2, y3⟩ := t108_at HS.out k h2
        have Y0 := pw_cell_below HW.out y0
        have Y1 := pw_cell_below HW.out y1
        have Y2 := pw_cell_below HW.out y2
        have Y3 := pw_cell_below HW.out y3
        clear y0 y1 y2 y3
        have hD := lex_drop ordA l m k h1 h2
        rw [show l[k] = rd_T108 l (k : Int) by simp [rd_T108, List.getD, h1], show m[k] = rd_T108 m (k : Int) by simp [rd_T108, List.getD, h2]] at hD
        have HD := Lib.hid hD
        clear hD
        generalize rd_T108 l (k : Int) = x at *
        generalize rd_T108 m (k : Int) = y at *
        have hbx := World.block_lt_of_cell? wr _ X0
        have hby := World.block_lt_of_cell? wr _ Y0
        go_wp2_with fail
        refine (attrs_run x y _).mono ?_
        rintro e w1 ⟨rfl, hb⟩
        have hb0 := (below_alloc (below_alloc (Below.refl wr.heap.size wr) (.cells #[.string x.f0, .int .i64 x.f1.f0, .string x.f1.f1, .int .i64 x.f1.f2] 108)) (.cells #[.string y.f0, .int .i64 y.f1.f0, .string y.f1.f1, .int .i64 y.f1.f2] 108))
        have HW1 := Lib.hid (HW.out.trans ((hb0.trans (hb.mono hb0.size)).mono HW.out.size))
        clear hb hb0
        by_cases h0 : ordA x y = 0
        · have h0' : (ordA x y != 0) = false := by rw [h0]; rfl
          go_wp2_with fail
          go_roundw
          case rel => exact ⟨k + 1, by go_num, by omega, by omega, Lib.hid (by rw [HF.out, HD.out, if_pos h0]), HW1⟩
          case measure => simp [intOf]; omega
        · have h0' : (ordA x y != 0) = true := by simpa using h0
          go_wp2_with fail
          go_ret
          exact ⟨by rw [HF.out, HD.out, if_neg h0]; rfl, HW1.out⟩
      · have HE := Lib.hid (HF.out.trans ((lex_end ordA l m k hk hk' (by omega)).trans (ord_gt (by omega))))
        have b2 : (m.length : Int) ≤ (k : Int) := by omega
        go_wp2_with fail
        go_ret
        exact ⟨by rw [HE.out]; rfl, HW.out.alloc HW.out.size _⟩
    · have b1 : ¬ (k : Int) < (l.length : Int) := by omega
      obtain rfl : k = l.length := by omega
      by_cases h2 : l.length < m.length
      · have HE := Lib.hid (HF.out.trans ((lex_end ordA l m _ hk hk' (by omega)).trans (ord_lt h2)))
        have b2 : (l.length : Int) < (m.length : Int) := by omega
        go_wp2_with fail
        go_ret
        exact ⟨by rw [HE.out]; rfl, HW.out⟩
      · have HE := Lib.hid (HF.out.trans ((lex_end ordA l m _ hk hk' (by omega)).trans (by rw [show m.length = l.length by omega, ord_eq])))
        have b2 : ¬ (l.length : Int) < (m.length : Int) := by omega
        go_wp2_with fail
        go_ret
        exact ⟨by rw [HE.out]; rfl, HW.out⟩
set_option maxHeartbeats 8000000 in
theorem ecmp_run (A B : Option Addr) (c d : Nat) (l m : List Ev) (w : World) (hr : Kd.C kEv w A l.length l) (hc : l.length ≤ c) (hs : Kd.C kEv w B m.length m) (hd : m.length ≤ d) (hl : l.length ≤ 140737488351232) (hm : m.length ≤ 140737488351232) :
    Calls Tryz.prog 90 #[.slice A l.length c, .slice B m.length d, .func (.func 91) #[] #[]] w fun e w' => e = .returned (.int .i64 (lexF ordE l m)) ∧ Below w.heap.size w w' := by
  have HR := Lib.hid hr
  have HS := Lib.hid hs
  clear hr hs
  go_enter Tryz.func90, Tryz.ntmps90
  go_wp2_with fail
  go_loopw [13] (fun v5 wr => ∃ k : Nat, v5 = .int .i64 k ∧ k ≤ l.length ∧ k ≤ m.length ∧ Hid (lexF ordE l m = lexF ordE (l.drop k) (m.drop k)) ∧ Hid (Below w.heap.size w wr)) (fun v5 _ => l.length - (intOf v5).toNat)
  case atStart => exact ⟨0, rfl, Nat.zero_le _, Nat.zero_le _, Lib.hid rfl, Lib.hid (Below.refl _ _)⟩
  case round =>
    obtain ⟨k, rfl, hk, hk', HF, HW⟩ := hrel
    by_cases h1 : k < l.length
    · have b1 : (k : Int) < (l.length : Int) := by omega
      obtain ⟨ab, ao, rfl, x0, x1⟩ := t111_at HR.out k h1
      have X0 := pw_cell_below HW.out x0
      have X1 := pw_cell_below HW.out x1
      clear x0 x1
      by_cases h2 : k < m.length
      · have b2 : (k : Int) < (m.length : Int) := by omega
        have b2' : ¬ ((m.length : Int) ≤ (k : Int)) := by omega
        obtain ⟨eb, eo, rfl, y0, y1⟩ := t111_at HS.out k h2
        have Y0 := pw_cell_below HW.out y0
        have Y1 := pw_cell_below HW.out y1
        clear y0 y1
        have hD := lex_drop ordE l m k h1 h2
        rw [show l[k] = rd_T111 l (k : Int) by simp [rd_T111, List.getD, h1], show m[k] = rd_T111 m (k : Int) by simp [rd_T111, List.getD, h2]] at hD
        have HD := Lib.hid hD
        clear hD
        generalize rd_T111 l (k : Int) = x at *
        generalize rd_T111 m (k : Int) = y at *
        have hbx := World.block_lt_of_cell? wr _ X0
        have hby := World.block_lt_of_cell? wr _ Y0
        go_wp2_with fail
        refine (events_run x y _).mono ?_
        rintro e w1 ⟨rfl, hb⟩
        have hb0 := (below_alloc (below_alloc (Below.refl wr.heap.size wr) (.cells #[.int .i64 x.f0, .string x.f1] 111)) (.cells #[.int .i64 y.f0, .string y.f1] 111))
        have HW1 := Lib.hid (HW.out.trans ((hb0.trans (hb.mono hb0.size)).mono HW.out.size))
        clear hb hb0
        by_cases h0 : ordE x y = 0
        · have h0' : (ordE x y != 0) = false := by rw [h0]; rfl
          go_wp2_with fail
          go_roundw
          case rel => exact ⟨k + 1, by go_num, by omega, by omega, Lib.hid (by rw [HF.out, HD.out, if_pos h0]), HW1⟩
          case measure => simp [intOf]; omega
        · have h0' : (ordE x y != 0) = true := by simpa using h0
          go_wp2_with fail
          go_ret
          exact ⟨by rw [HF.out, HD.out, if_neg h0]; rfl, HW1.out⟩
      · have HE := Lib.hid (HF.out.trans ((lex_end ordE l m k hk hk' (by omega)).trans (ord_gt (by omega))))
        have b2 : (m.length : Int) ≤ (k : Int) := by omega
        go_wp2_with fail
        go_ret
        exact ⟨by rw [HE.out]; rfl, HW.out.alloc HW.out.size _⟩
    · have b1 : ¬ (k : Int) < (l.length : Int) := by omega
      obtain rfl : k = l.length := by omega
      by_cases h2 : l.length < m.length
      · have HE := Lib.hid (HF.out.trans ((lex_end ordE l m _ hk hk' (by omega)).trans (ord_lt h2)))
        have b2 : (l.length : Int) < (m.length : Int) := by omega
        go_wp2_with fail
        go_ret
        exact ⟨by rw [HE.out]; rfl, HW.out⟩
      · have HE := Lib.hid (HF.out.trans ((lex_end ordE l m _ hk hk' (by omega)).trans (by rw [show m.length = l.length by omega, ord_eq])))
        have b2 : ¬ (l.length : Int) < (m.length : Int) := by omega
        go_wp2_with fail
        go_ret
        exact ⟨by rw [HE.out]; rfl, HW.out⟩
end Go.Proofs.YthdkgilpnkabmaaGreatDoor.Pr
