/- spoorref04's attrsOf, eventsOf, Compare, by hand. -/
import Derived.Test.YthdkgilpnkabmaaGreatDoorRc
import Derived.Outline
namespace Go.Proofs.YthdkgilpnkabmaaGreatDoor.Pr
open Go.RowKit Go.Proofs.YthdkgilpnkabmaaGreatDoorW.PrintWords Go.Proofs.YthdkgilpnkabmaaGreatDoorW.PrintMore
set_option linter.unusedVariables false
set_option linter.unusedSimpArgs false
/-- The first of answers that were just laid into a row. -/
theorem first_new (l : List Int) (r : Int) (hr : firstF l = r) (hl : l.length ≤ 100) (W : World) (t : Nat) (cs : Array Value) (n : Nat) (hc : cs = (l.map (Value.int .i64)).toArray) (hn : l.length = n) :
    Calls Tryz.prog 31 #[.slice (some ⟨W.heap.size, 0, none⟩) n n] (W.alloc (.cells cs t)) fun e w' => e = .returned (.int .i64 r) ∧ Below W.heap.size W w' := by
  subst hn
  refine (first_run _ _ l _ (C_ints l (blk_new W _) hc (by omega)) (Nat.le_refl _) (by omega)).mono ?_
  rintro e w' ⟨rfl, hb⟩
  have h1 := below_alloc (Below.refl W.heap.size W) (.cells cs t)
  exact ⟨by rw [hr], h1.trans (hb.mono h1.size)⟩
set_option maxHeartbeats 4000000 in
theorem attrsOf_run (A B : Option Addr) (c d : Nat) (l m : List S108) (w : World) (hr : Kd.C k108 w A l.length l) (hc : l.length ≤ c) (hs : Kd.C k108 w B m.length m) (hd : m.length ≤ d) (hl : l.length ≤ 140737488351232) (hm : m.length ≤ 140737488351232) :
    Calls Tryz.prog 36 #[.slice A l.length c, .slice B m.length d] w fun e w' => e = .returned (.int .i64 (lexF ordA l m)) ∧ Below w.heap.size w w' := by
  have HR := Lib.hid hr
  have HS := Lib.hid hs
  clear hr hs
  go_enter Tryz.func36, Tryz.ntmps36
  go_wp2_with fail
  go_loopw [5] (fun v5 wr => ∃ k : Nat, v5 = .int .i64 k ∧ k ≤ l.length ∧ k ≤ m.length ∧ Hid (lexF ordA l m = lexF ordA (l.drop k) (m.drop k)) ∧ Hid (Below w.heap.size w wr)) (fun v5 _ => l.length - (intOf v5).toNat)
  case atStart => exact ⟨0, rfl, Nat.zero_le _, Nat.zero_le _, Lib.hid rfl, Lib.hid (Below.refl _ _)⟩
  case round =>
    obtain ⟨k, rfl, hk, hk', HF, HW⟩ := hrel
    by_cases hlt : k < l.length ∧ k < m.length
    · obtain ⟨h1, h2⟩ := hlt
      have b1 : (k : Int) < (l.length : Int) := by omega
      have b2 : (k : Int) < (m.length : Int) := by omega
      obtain ⟨ab, ao, rfl, x0, x1, x2, x3⟩ := t108_at HR.out k h1
      obtain ⟨eb, eo, rfl, y0, y1, y2, y3⟩ := t108_at HS.out k h2
      have hD := lex_drop ordA l m k h1 h2
      rw [show l[k] = rd_T108 l (k : Int) by simp [rd_T108, List.getD, h1], show m[k] = rd_T108 m (k : Int) by simp [rd_T108, List.getD, h2]] at hD
      have HD := Lib.hid hD
      clear hD
      generalize rd_T108 l (k : Int) = x at *
      generalize rd_T108 m (k : Int) = y at *
      have z1 := pw_cell_below HW.out x1
      have z2 := pw_cell_below HW.out x2
      have z3 := pw_cell_below HW.out x3
      have u1 := pw_cell_below HW.out y1
      have u2 := pw_cell_below HW.out y2
      have u3 := pw_cell_below HW.out y3
      have X0 := Lib.hid (pw_cell_below HW.out x0)
      have Y0 := Lib.hid (pw_cell_below HW.out y0)
      clear x0 x1 x2 x3 y0 y1 y2 y3
      have hlt : (decide ((k : Int) < (l.length : Int)) && decide ((k : Int) < (m.length : Int))) = true := by simp [h1, h2]
      have H1 := Lib.hid (below_alloc (Below.refl wr.heap.size wr) (.cells #[.int .i64 x.f1.f0, .string x.f1.f1, .int .i64 x.f1.f2] 106))
      have v1 := pw_cell_below H1.out u1
      have v2 := pw_cell_below H1.out u2
      have v3 := pw_cell_below H1.out u3
      clear u1 u2 u3
      go_wp2_with fail
      have HB := Lib.hid (below_alloc H1.out (.cells #[.int .i64 y.f1.f0, .string y.f1.f1, .int .i64 y.f1.f2] 106))
      have g1 := blk_alloc (blk_new wr (.cells #[.int .i64 x.f1.f0, .string x.f1.f1, .int .i64 x.f1.f2] 106)) (.cells #[.int .i64 y.f1.f0, .string y.f1.f1, .int .i64 y.f1.f2] 106)
      have g2 := blk_new (wr.alloc (.cells #[.int .i64 x.f1.f0, .string x.f1.f1, .int .i64 x.f1.f2] 106)) (.cells #[.int .i64 y.f1.f0, .string y.f1.f1, .int .i64 y.f1.f2] 106)
      rw [World.size_alloc] at g2
      generalize (wr.alloc (.cells #[.int .i64 x.f1.f0, .string x.f1.f1, .int .i64 x.f1.f2] 106)).alloc (.cells #[.int .i64 y.f1.f0, .string y.f1.f1, .int .i64 y.f1.f2] 106) = w2 at *
      have X := fun z : Wx w2 => z.cell (pw_cell_below HB.out X0.out)
      have Y := fun z : Wx w2 => z.cell (pw_cell_below HB.out Y0.out)
      have p0 := fun z : Wx w2 => z.cell ((cell_of_row _ _ 0 _ _ _ g1).trans rfl)
      have p1 := fun z : Wx w2 => z.cell ((cell_of_row _ _ 1 _ _ _ g1).trans rfl)
      have p2 := fun z : Wx w2 => z.cell ((cell_of_row _ _ 2 _ _ _ g1).trans rfl)
      have q0 := fun z : Wx w2 => z.cell ((cell_of_row _ _ 0 _ _ _ g2).trans rfl)
      have q1 := fun z : Wx w2 => z.cell ((cell_of_row _ _ 1 _ _ _ g2).trans rfl)
      have q2 := fun z : Wx w2 => z.cell ((cell_of_row _ _ 2 _ _ _ g2).trans rfl)
      clear g1 g2 z1 z2 z3 v1 v2 v3
      refine wp_region_ext_tail 26 (by kernel_rfl) (by kernel_rfl) ?_
      simp only [List.take_succ_cons, List.take_zero, List.drop_succ_cons, List.drop_zero]
      repeat (go_big_quiet_step (first | (go_at_call 34; with_reducible exact Calls.ext_of (texts_run _ _ _)) | (go_at_call 33; with_reducible exact Calls.ext_of (numbers_run _ _ _))))
      refine wpQuiet_nil ?_
      intro _ hw'
      obtain ⟨xx, rfl⟩ := hw'
      clear X Y p0 p1 p2 q0 q1 q2
      go_wp2_with fail
      refine (first_new [ordT x.f0 y.f0, ordI x.f1.f0 y.f1.f0, ordT x.f1.f1 y.f1.f1, ordI x.f1.f2 y.f1.f2] (ordA x y) rfl (by simp) _ _ _ _ rfl rfl).mono ?_
      rintro e w3 ⟨rfl, hb⟩
      have b1 := HB.out.trans (xx.h.mono HB.out.size)
      have b2 := b1.trans (hb.mono b1.size)
      have HE := Lib.hid (HW.out.trans (b2.mono HW.out.size))
      clear b1 b2 hb
      by_cases h0 : ordA x y = 0
      · have h0' : (ordA x y != 0) = false := by rw [h0]; rfl
        go_wp2_with fail
        go_roundw
        case rel => exact ⟨k + 1, by go_num, by omega, by omega, Lib.hid (by rw [HF.out, HD.out, if_pos h0]), HE⟩
        case measure => simp [intOf]; omega
      · have h0' : (ordA x y != 0) = true := by simpa using h0
        go_wp2_with fail
        go_ret
        exact ⟨by rw [HF.out, HD.out, if_neg h0]; rfl, HE.out⟩
    · have HE := Lib.hid (HF.out.trans (lex_end ordA l m k hk hk' (by omega)))
      by_cases b1 : (k : Int) < (l.length : Int)
      · have b2 : ¬ (k : Int) < (m.length : Int) := by omega
        go_wp2_with fail
        refine (numbers_run _ _ _).mono ?_
        rintro e w1 ⟨rfl, hb⟩
        go_wp2_with fail
        go_ret
        exact ⟨by rw [HE.out]; rfl, HW.out.trans (hb.mono HW.out.size)⟩
      · go_wp2_with fail
        refine (numbers_run _ _ _).mono ?_
        rintro e w1 ⟨rfl, hb⟩
        go_wp2_with fail
        go_ret
        exact ⟨by rw [HE.out]; rfl, HW.out.trans (hb.mono HW.out.size)⟩
set_option maxHeartbeats 4000000 in
theorem eventsOf_run (A B : Option Addr) (c d : Nat) (l m : List S111) (w : World) (hr : Kd.C k111 w A l.length l) (hc : l.length ≤ c) (hs : Kd.C k111 w B m.length m) (hd : m.length ≤ d) (hl : l.length ≤ 140737488351232) (hm : m.length ≤ 140737488351232) :
    Calls Tryz.prog 37 #[.slice A l.length c, .slice B m.length d] w fun e w' => e = .returned (.int .i64 (lexF ordE l m)) ∧ Below w.heap.size w w' := by
  have HR := Lib.hid hr
  have HS := Lib.hid hs
  clear hr hs
  go_enter Tryz.func37, Tryz.ntmps37
  go_wp2_with fail
  go_loopw [5] (fun v5 wr => ∃ k : Nat, v5 = .int .i64 k ∧ k ≤ l.length ∧ k ≤ m.length ∧ Hid (lexF ordE l m = lexF ordE (l.drop k) (m.drop k)) ∧ Hid (Below w.heap.size w wr)) (fun v5 _ => l.length - (intOf v5).toNat)
  case atStart => exact ⟨0, rfl, Nat.zero_le _, Nat.zero_le _, Lib.hid rfl, Lib.hid (Below.refl _ _)⟩
  case round =>
    obtain ⟨k, rfl, hk, hk', HF, HW⟩ := hrel
    by_cases hlt : k < l.length ∧ k < m.length
    · obtain ⟨h1, h2⟩ := hlt
      have b1 : (k : Int) < (l.length : Int) := by omega
      have b2 : (k : Int) < (m.length : Int) := by omega
      obtain ⟨ab, ao, rfl, x0, x1⟩ := t111_at HR.out k h1
      obtain ⟨eb, eo, rfl, y0, y1⟩ := t111_at HS.out k h2
      have hD := lex_drop ordE l m k h1 h2
      rw [show l[k] = rd_T111 l (k : Int) by simp [rd_T111, List.getD, h1], show m[k] = rd_T111 m (k : Int) by simp [rd_T111, List.getD, h2]] at hD
      have HD := Lib.hid hD
      clear hD
      generalize rd_T111 l (k : Int) = x at *
      generalize rd_T111 m (k : Int) = y at *
      have X0 := fun z : Wx wr => z.cell (pw_cell_below HW.out x0)
      have X1 := fun z : Wx wr => z.cell (pw_cell_below HW.out x1)
      have Y0 := fun z : Wx wr => z.cell (pw_cell_below HW.out y0)
      have Y1 := fun z : Wx wr => z.cell (pw_cell_below HW.out y1)
      clear x0 x1 y0 y1
      have hlt : (decide ((k : Int) < (l.length : Int)) && decide ((k : Int) < (m.length : Int))) = true := by simp [h1, h2]
      go_wp2_with fail
      refine wp_region_ext_tail 22 (by kernel_rfl) (by kernel_rfl) ?_
      simp only [List.take_succ_cons, List.take_zero, List.drop_succ_cons, List.drop_zero]
      repeat (go_big_quiet_step (first | (go_at_call 34; with_reducible exact Calls.ext_of (texts_run _ _ _)) | (go_at_call 33; with_reducible exact Calls.ext_of (numbers_run _ _ _))))
      refine wpQuiet_nil ?_
      intro _ hw'
      obtain ⟨xx, rfl⟩ := hw'
      clear X0 X1 Y0 Y1
      go_wp2_with fail
      refine (first_new [ordI x.f0 y.f0, ordT x.f1 y.f1] (ordE x y) rfl (by simp) _ _ _ _ rfl rfl).mono ?_
      rintro e w3 ⟨rfl, hb⟩
      have b2 := xx.h.trans (hb.mono xx.h.size)
      have HE := Lib.hid (HW.out.trans (b2.mono HW.out.size))
      clear b2 hb
      by_cases h0 : ordE x y = 0
      · have h0' : (ordE x y != 0) = false := by rw [h0]; rfl
        go_wp2_with fail
        go_roundw
        case rel => exact ⟨k + 1, by go_num, by omega, by omega, Lib.hid (by rw [HF.out, HD.out, if_pos h0]), HE⟩
        case measure => simp [intOf]; omega
      · have h0' : (ordE x y != 0) = true := by simpa using h0
        go_wp2_with fail
        go_ret
        exact ⟨by rw [HF.out, HD.out, if_neg h0]; rfl, HE.out⟩
    · have HE := Lib.hid (HF.out.trans (lex_end ordE l m k hk hk' (by omega)))
      by_cases b1 : (k : Int) < (l.length : Int)
      · have b2 : ¬ (k : Int) < (m.length : Int) := by omega
        go_wp2_with fail
        refine (numbers_run _ _ _).mono ?_
        rintro e w1 ⟨rfl, hb⟩
        go_wp2_with fail
        go_ret
        exact ⟨by rw [HE.out]; rfl, HW.out.trans (hb.mono HW.out.size)⟩
      · go_wp2_with fail
        refine (numbers_run _ _ _).mono ?_
        rintro e w1 ⟨rfl, hb⟩
        go_wp2_with fail
        go_ret
        exact ⟨by rw [HE.out]; rfl, HW.out.trans (hb.mono HW.out.size)⟩
end Go.Proofs.YthdkgilpnkabmaaGreatDoor.Pr
