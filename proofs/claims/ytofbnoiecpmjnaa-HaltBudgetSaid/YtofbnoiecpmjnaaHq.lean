/- HaltBudget's walk: it answers true. -/
import Derived.Test.YtofbnoiecpmjnaaHr
import Derived.Deep.QuietTactic
import Derived.BigQuiet
namespace Go.Proofs.Ytofbnoiecpmjnaa.Pr
open Go.RowKit Go.Proofs.YtofbnoiecpmjnaaW.PrintWords Go.Proofs.YtofbnoiecpmjnaaW.PrintLast Go.Proofs.YtofbnoiecpmjnaaW.PrintMore Go.MuLone
open Go.Lib
set_option linter.unusedVariables false
set_option linter.unusedSimpArgs false
def encS : Option Nat → Int
  | none => -1
  | some j => j
def BudgetPost (W : World) (e : Ending) (w' : World) : Prop := e = .returned (.bool true) ∧ Below W.heap.size W w'
set_option maxHeartbeats 4000000 in
set_option maxRecDepth 100000 in
theorem budget_run (B S T : List Int) (A0 A1 A2 : Option Addr) (n0 n1 n2 c0 c1 c2 : Nat) (w : World) (h0 : Kd.C kI w A0 n0 B) (h1 : Kd.C kI w A1 n1 S) (h2 : Kd.C kI w A2 n2 T)
    (r0 : ∀ v ∈ B, v ≤ 9223372036854775807) (r1 : ∀ v ∈ S, v ≤ 9223372036854775807) (r2 : ∀ v ∈ T, -9223372036854775808 ≤ v ∧ v ≤ 9223372036854775807) (hz : B.length * 8 ≤ reachBytes) :
    Calls Try.prog 4 #[.slice A0 n0 c0, .slice A1 n1 c1, .slice A2 n2 c2] w fun e w' => BudgetPost w e w' := by
  have hn0 := h0.1
  have hn0' := h0.2.1
  have hn1 := h1.2.1
  have hn2 := h2.2.1
  have H0 := Lib.hid h0
  have H1 := Lib.hid h1
  have H2 := Lib.hid h2
  have R0 := Lib.hid r0
  have R1 := Lib.hid r1
  have R2 := Lib.hid r2
  have HZ := Lib.hid hz
  have HL0 := Lib.hid hn0
  clear h0 h1 h2 r0 r1 r2 hz hn0
  go_enter Try.func4, Try.ntmps4
  go_wp2_with fail
  refine (alive_run w).mono ?_
  rintro e w1 ⟨rfl, hb⟩
  have HB := Lib.hid hb
  clear hb
  go_wp2_with fail
  go_loopw [8, 9, 10, 11, 12, 13] (fun v8 v9 v10 v11 v12 v13 wr => ∃ (i m : Nat) (st : List PL) (L : List Int), v10 = .int .i64 i ∧ i ≤ n0 ∧ Hid (Grown w wr m st L i v8 v9)) (fun _ _ v10 _ _ _ _ => n0 - (intOf v10).toNat)
  case atStart => exact ⟨0, 0, [], [], rfl, Nat.zero_le _, Lib.hid ((Grown.start w).more HB.out HB.out)⟩
  case round =>
    obtain ⟨i, m, st, L, rfl, hin, HG⟩ := hrel
    by_cases hlt : i < n0
    · obtain ⟨a0, rfl, hx⟩ := at_I (Kd.C_below H0.out HG.out.below) (i : Int) (by omega) (by omega)
      simp only [Int.toNat_natCast] at hx
      have hbB : B.getD i 0 ≤ 9223372036854775807 := R0.out _ (by
        have : i < B.length := by have := HL0.out; omega
        simp [List.getD, this])
      generalize hbb : B.getD i 0 = b at *
      have HBB := Lib.hid hbb
      clear hbb
      obtain ⟨bb, hmax⟩ : ∃ bb : Int, (if b < 1 then (1 : Int) else b) = bb := ⟨_, rfl⟩
      have hbb : 1 ≤ bb ∧ bb ≤ 9223372036854775807 := by rw [← hmax]; split <;> omega
      go_wp2_with fail
      clear hmax
      refine (new_run bb wr (by omega)).mono ?_
      rintro e w2 ⟨rfl, hw2⟩
      subst hw2
      rcases i with _ | i
      · obtain ⟨m', st', HMX⟩ := HG.out.first bb ⟨by omega, by omega⟩
        obtain ⟨gs, hgs⟩ : ∃ gs : List Nat, gs = [] := ⟨_, rfl⟩
        rw [← hgs] at HMX
        have HM := Lib.hid HMX
        clear HMX hgs
        generalize hw2 : ((wr.alloc muObj).alloc (chObj false)).alloc (.cells ((newSR bb (wr.heap.size + 1)).cells wr.heap.size) 70) = w2 at *
        clear hw2
        generalize wr.heap.size + 2 = g' at *
        have hgl : gs.length = 0 := by have h1 := HM.out.len; have h2 := congrArg List.length HM.out.mapg; simp at h2; omega
        have HLEN := Lib.hid (show (gs.length + 1) * 8 ≤ 140737488355328 from by rw [hgl]; have h3 := HZ.out; have h4 := HL0.out; unfold reachBytes at h3; omega)
        have hll := HM.out.lenL
        have HLEN2 := Lib.hid (show (L.length + 1) * 8 ≤ 140737488355328 from by rw [hll]; have h3 := HZ.out; have h4 := HL0.out; unfold reachBytes at h3; omega)
        obtain ⟨A8, k8, e8⟩ := Kd.R_slice HM.out.rowP
        rw [hgl] at e8
        subst e8
        obtain ⟨A9, k9, e9⟩ := Kd.R_slice HM.out.rowI
        rw [hll] at e9
        subst e9
        clear hgl hll
        go_wp2_with (at_builtin; first | (refine Kd.R_append kP (w0 := w) w.heap.size rfl (.tmp 58) (.tmp 60) 24 25 (.pointer none) 8 rfl Try.underlying24 infoP25 rfl (by decide) (by omega) (.slice A8 (0) k8) gs g' [.pointer (some ⟨g', 0, none⟩)] (fun _ => True) (fun _ => False) rfl rfl ?aP (fun _ hk => hk.elim) ?aF ?aO ?aB ?aS ?aL ?_; (case aP => rfl); (case aF => exact fun _ _ => trivial); (case aO => exact HM.out.rowP); (case aB => exact HM.out.inv.below); (case aS => exact HM.out.inv.below.size); (case aL => exact HLEN.out); intro v1 w3 ho hb hg hat; have HM2 := Lib.hid (HM.out.step ho hb hg hat); clear ho hb hg hat HM) | (refine Kd.R_append kI (w0 := w) w.heap.size rfl (.tmp 62) (.tmp 64) 23 3 (.int .i64 0) 8 rfl Try.underlying23 infoI3 rfl (by decide) (by omega) (.slice A9 (0) k9) L bb [.int .i64 bb] (fun _ => True) (fun _ => False) rfl rfl ?aP (fun _ hk => hk.elim) ?aF ?aO ?aB ?aS ?aL ?_; (case aP => rfl); (case aF => exact fun _ _ => trivial); (case aO => exact HM2.out.rowI); (case aB => exact HM2.out.inv.below); (case aS => exact HM2.out.inv.below.size); (case aL => exact HLEN2.out); intro v2 w4 ho hb hg hat; have HM3 := Lib.hid (HM2.out.step ho hb hg); clear ho hb hg hat HM2))
        go_roundw
        case rel => exact ⟨0 + 1, m', st', L ++ [bb], by go_num, by omega, HM3⟩
        case measure => simp [intOf]; omega
      · have HG2 := Lib.hid (HG.out.more (new_below bb wr HG.out.below) (new_below bb wr (Below.refl _ _)))
        generalize hw2 : ((wr.alloc muObj).alloc (chObj false)).alloc (.cells ((newSR bb (wr.heap.size + 1)).cells wr.heap.size) 70) = w2 at *
        clear hw2
        have hlg : (st.map PL.g).length = i + 1 := by simpa using HG2.out.len
        obtain ⟨A8, k8, e8⟩ := Kd.R_slice HG2.out.rowP
        rw [hlg] at e8
        subst e8
        have hCP := (Kd.R_reads' HG2.out.rowP).2.2
        obtain ⟨a8, rfl, hx8⟩ := at_P hCP (i : Int) (by omega) (by omega)
        simp only [Int.toNat_natCast] at hx8
        have HU := Lib.hid (HG2.out.under bb ⟨by omega, by omega⟩)
        clear hCP hlg
        generalize (st.map PL.g).getD i 0 = gq at *
        go_wp2_with fail
        refine HU.out.mono ?_
        clear HU HG2 hx8 HG
        rintro e w5 ⟨st', g', rfl, hM⟩
        obtain ⟨m', hm'⟩ : ∃ m', m' = m := ⟨_, rfl⟩
        generalize st.map PL.g = gs at *
        have HM := Lib.hid hM
        rw [← hm'] at HM
        clear hM hm'
        have hgl : gs.length = i + 1 := by have h1 := HM.out.len; have h2 := congrArg List.length HM.out.mapg; simp at h2; omega
        have HLEN := Lib.hid (show (gs.length + 1) * 8 ≤ 140737488355328 from by rw [hgl]; have h3 := HZ.out; have h4 := HL0.out; unfold reachBytes at h3; omega)
        have hll := HM.out.lenL
        have HLEN2 := Lib.hid (show (L.length + 1) * 8 ≤ 140737488355328 from by rw [hll]; have h3 := HZ.out; have h4 := HL0.out; unfold reachBytes at h3; omega)
        obtain ⟨A8, hA8⟩ : ∃ A8, A8 = some a8 := ⟨_, rfl⟩
        rw [← hA8] at HM ⊢
        clear hA8
        obtain ⟨A9, k9, e9⟩ := Kd.R_slice HM.out.rowI
        rw [hll] at e9
        subst e9
        clear hgl hll
        go_wp2_with (at_builtin; first | (refine Kd.R_append kP (w0 := w) w.heap.size rfl (.tmp 58) (.tmp 60) 24 25 (.pointer none) 8 rfl Try.underlying24 infoP25 rfl (by decide) (by omega) (.slice A8 (i + 1) k8) gs g' [.pointer (some ⟨g', 0, none⟩)] (fun _ => True) (fun _ => False) rfl rfl ?aP (fun _ hk => hk.elim) ?aF ?aO ?aB ?aS ?aL ?_; (case aP => rfl); (case aF => exact fun _ _ => trivial); (case aO => exact HM.out.rowP); (case aB => exact HM.out.inv.below); (case aS => exact HM.out.inv.below.size); (case aL => exact HLEN.out); intro v1 w3 ho hb hg hat; have HM2 := Lib.hid (HM.out.step ho hb hg hat); clear ho hb hg hat HM) | (refine Kd.R_append kI (w0 := w) w.heap.size rfl (.tmp 62) (.tmp 64) 23 3 (.int .i64 0) 8 rfl Try.underlying23 infoI3 rfl (by decide) (by omega) (.slice A9 (i + 1) k9) L bb [.int .i64 bb] (fun _ => True) (fun _ => False) rfl rfl ?aP (fun _ hk => hk.elim) ?aF ?aO ?aB ?aS ?aL ?_; (case aP => rfl); (case aF => exact fun _ _ => trivial); (case aO => exact HM2.out.rowI); (case aB => exact HM2.out.inv.below); (case aS => exact HM2.out.inv.below.size); (case aL => exact HLEN2.out); intro v2 w4 ho hb hg hat; have HM3 := Lib.hid (HM2.out.step ho hb hg); clear ho hb hg hat HM2))
        go_roundw
        case rel => exact ⟨i + 1 + 1, m', st', L ++ [bb], by go_num, by omega, HM3⟩
        case measure => simp [intOf]; omega
    · obtain rfl : n0 = i := by omega
      by_cases hpos : 0 < n0
      · have HN0 := Lib.hid (HG.out.lane hpos)
        have hstl := HG.out.len
        have hLl := HG.out.lenL
        obtain ⟨g8, k8, e8, _⟩ := Kd.R_form HN0.out.rowP (by simpa [hstl] using hpos)
        obtain ⟨g9, k9, e9, _⟩ := Kd.R_form HN0.out.rowI (by rw [hLl]; exact hpos)
        rw [List.length_map, hstl] at e8
        rw [hLl] at e9
        subst e8; subst e9
        have HSL := Lib.hid hstl
        have HLL := Lib.hid hLl
        clear hstl hLl HG H0 R0 HZ HL0
        have hposz : (0 : Int) < (n0 : Int) := by omega
        go_wp2_with fail
        go_loopw [14, 15, 16, 17, 18, 19, 20, 21, 22] (fun v14 v15 v16 v17 v18 v19 v20 v21 v22 wr => ∃ (low q : Nat) (L : List Int), v14 = .int .i64 low ∧ v15 = .int .i64 q ∧ low ≤ n0 ∧ q ≤ n1 ∧ L.length = n0 ∧ Hid (Lane w wr m st L L low (.slice (some ⟨g8, 0, none⟩) n0 k8) (.slice (some ⟨g9, 0, none⟩) n0 k9))) (fun _ v15 _ _ _ _ _ _ _ _ => n1 - (intOf v15).toNat)
        case atStart => exact ⟨n0, 0, L, rfl, rfl, Nat.le_refl _, Nat.zero_le _, HLL.out, HN0⟩
        case round =>
          clear HN0 HLL
          obtain ⟨low, q, L, rfl, rfl, hlow, hqn, hLn, HN⟩ := hrel
          have HLL := Lib.hid hLn
          clear hLn
          by_cases hq1 : q < n1
          · by_cases hq2 : q < n2
            · obtain ⟨a1, rfl, hx1⟩ := at_I (Kd.C_below H1.out HN.out.inv.below) (q : Int) (by omega) (by omega)
              obtain ⟨a2, rfl, hx2⟩ := at_I (Kd.C_below H2.out HN.out.inv.below) (q : Int) (by omega) (by omega)
              simp only [Int.toNat_natCast] at hx1 hx2
              have hb1 : S.getD q 0 ≤ 9223372036854775807 := R1.out _ (by
                have : q < S.length := by have := H1.out.1; omega
                simp [List.getD, this])
              have hb2 := R2.out (T.getD q 0) (by
                have : q < T.length := by have := H2.out.1; omega
                simp [List.getD, this])
              generalize S.getD q 0 = s at *
              generalize T.getD q 0 = c at *
              go_wp2_with fail
              refine (pick_run c n0 wr hb2 ⟨by omega, by omega⟩).mono ?_
              rintro e w2 ⟨rfl, rfl⟩
              have hpk := pickF_in c n0 (by omega)
              obtain ⟨k, hk⟩ : ∃ k : Nat, pickF c n0 = k := ⟨(pickF c n0).toNat, (Int.toNat_of_nonneg hpk.1).symm⟩
              rw [hk] at hpk ⊢
              have hkn : k < n0 := by omega
              clear hk hpk
              obtain ⟨nn, hmax⟩ : ∃ nn : Int, (if s < 0 then (0 : Int) else s) = nn := ⟨_, rfl⟩
              have hnn : 0 ≤ nn ∧ nn ≤ 9223372036854775807 := by rw [← hmax]; split <;> omega
              have hkst : k < st.length := by rw [HSL.out]; exact hkn
              have HX8 := Lib.hid (read_P HN.out.rowP k hkn)
              by_cases hlk : low ≤ k
              · have HC := Lib.hid (HN.out.cut k hkst nn (by omega) hlk)
                have hx8 := HX8.out
                generalize (st.map PL.g).getD k 0 = gk at *
                go_wp2_with fail
                refine HC.out.mono ?_
                clear HC HX8 hx8
                rintro e w2 ⟨rfl, rfl⟩
                go_wp2_with fail
                go_loopw [19, 20] (fun v19 v20 wx => ∃ (x : Nat) (r : Option Nat), v20 = .int .i64 ((x : Int) - 1) ∧ v19 = .int .i64 (encS r) ∧ x ≤ k + 1 ∧ wx = w2 ∧ Hid ((r = none ∧ shortAt L nn (k + 1) = shortAt L nn x) ∨ (∃ j, r = some j ∧ shortAt L nn (k + 1) = some j))) (fun _ v20 _ => (intOf v20 + 1).toNat)
                case atStart => exact ⟨k + 1, none, by congr 1; omega, rfl, Nat.le_refl _, rfl, Lib.hid (.inl ⟨rfl, rfl⟩)⟩
                case round =>
                  obtain ⟨x, r, rfl, rfl, hxk, rfl, HRR⟩ := hrel
                  rcases r with _ | jr
                  · have HR2 := Lib.hid (show shortAt L nn (k + 1) = shortAt L nn x by rcases HRR.out with ⟨_, h⟩ | ⟨j, h, _⟩; exact h; cases h)
                    clear HRR
                    rcases x with _ | x
                    · simp only [encS]
                      have hd1 : (low : Int) ≤ (k : Int) := by omega
                      go_wp2_with fail
                      go_loopw [22] (fun v22 wx => ∃ y : Nat, v22 = .int .i64 y ∧ y ≤ n0 ∧ Hid (Lane w wx m st L L low (.slice (some ⟨g8, 0, none⟩) n0 k8) (.slice (some ⟨g9, 0, none⟩) n0 k9))) (fun v22 _ => n0 - (intOf v22).toNat)
                      case atStart => exact ⟨0, rfl, Nat.zero_le _, HN⟩
                      case round =>
                        obtain ⟨y, rfl, hy, HNy⟩ := hrel
                        by_cases hyn : y < n0
                        · have hyst : y < st.length := by rw [HSL.out]; exact hyn
                          have hx8 := read_P HNy.out.rowP y hyn
                          have hx9 := (read_I HNy.out.rowI y hyn).1
                          have HL5 := Lib.hid (fun q => (HNy.out.drewN q).left y hyst)
                          have HW5 : Hid (∀ q : Nat, Calls Try.prog 14 #[.pointer (some ⟨(st.map PL.g).getD y 0, 0, none⟩)] (wr.drewN q) fun e w' => e = .returned (.int .i64 (if y < low then 0 else 31)) ∧ w' = wr.drewN q) := Lib.hid (fun q => (HNy.out.drewN q).why y hyst)
                          have hwv : ((if y < low then (0 : Int) else 31) == 0) = decide (y < low) := by by_cases h : y < low <;> simp [h]
                          generalize (if y < low then (0 : Int) else 31) = wv at *
                          generalize hdv : decide (y < low) = dv at *
                          generalize (st.map PL.g).getD y 0 = gy at *
                          generalize L.getD y 0 = ly at *
                          have hly : (ly != ly) = false := by simp
                          go_wp2_with fail
                          go_quiet (first | (go_at_call 13; exact Calls.quiet_of_same (HL5.out _)) | (go_at_call 14; exact Calls.quiet_of_same (HW5.out _)))
                          clear HL5 HW5 hx8 hx9
                          go_wp2_with fail
                          go_roundw
                          case rel => exact ⟨y + 1, by go_num, by omega, Lib.hid (HNy.out.drewN _)⟩
                          case measure => simp [intOf]; omega
                        · go_wp2_with fail
                          go_roundw
                          case rel => exact ⟨low, q + 1, L, rfl, by go_num, by omega, by omega, HLL.out, HNy⟩
                          case measure => simp [intOf]; omega

                    · have hx9 := (read_I HN.out.rowI x (by omega)).1
                      have HS1 := Lib.hid (show shortAt L nn (x + 1) = if L.getD x 0 < nn then some x else shortAt L nn x from rfl)
                      generalize L.getD x 0 = lx at *
                      simp only [encS]
                      by_cases hlx : lx < nn
                      · go_wp2_with fail
                        go_roundw
                        case rel => exact ⟨x, some x, rfl, (by show Value.int .i64 _ = Value.int .i64 (x : Int); congr 1; omega), by omega, trivial, Lib.hid (.inr ⟨x, rfl, by rw [HR2.out, HS1.out, if_pos hlx]⟩)⟩
                        case measure => simp [intOf]; try omega
                      · go_wp2_with fail
                        go_roundw
                        case rel => exact ⟨x, none, rfl, rfl, by omega, trivial, Lib.hid (.inl ⟨rfl, by rw [HR2.out, HS1.out, if_neg hlx]⟩)⟩
                        case measure => simp [intOf]; try omega
                  · have HR2 := Lib.hid (show shortAt L nn (k + 1) = some jr by rcases HRR.out with ⟨h, _⟩ | ⟨j, h, h2⟩; cases h; cases h; exact h2)
                    clear HRR
                    skip
                    rcases x with _ | x
                    · simp only [encS]
                      have hd1 : (low : Int) ≤ (k : Int) := by omega
                      go_wp2_with fail
                      go_loopw [22] (fun v22 wx => ∃ y : Nat, v22 = .int .i64 y ∧ y ≤ n0 ∧ Hid (Lane w wx m st L L low (.slice (some ⟨g8, 0, none⟩) n0 k8) (.slice (some ⟨g9, 0, none⟩) n0 k9))) (fun v22 _ => n0 - (intOf v22).toNat)
                      case atStart => exact ⟨0, rfl, Nat.zero_le _, HN⟩
                      case round =>
                        obtain ⟨y, rfl, hy, HNy⟩ := hrel
                        by_cases hyn : y < n0
                        · have hyst : y < st.length := by rw [HSL.out]; exact hyn
                          have hx8 := read_P HNy.out.rowP y hyn
                          have hx9 := (read_I HNy.out.rowI y hyn).1
                          have HL5 := Lib.hid (fun q => (HNy.out.drewN q).left y hyst)
                          have HW5 : Hid (∀ q : Nat, Calls Try.prog 14 #[.pointer (some ⟨(st.map PL.g).getD y 0, 0, none⟩)] (wr.drewN q) fun e w' => e = .returned (.int .i64 (if y < low then 0 else 31)) ∧ w' = wr.drewN q) := Lib.hid (fun q => (HNy.out.drewN q).why y hyst)
                          have hwv : ((if y < low then (0 : Int) else 31) == 0) = decide (y < low) := by by_cases h : y < low <;> simp [h]
                          generalize (if y < low then (0 : Int) else 31) = wv at *
                          generalize hdv : decide (y < low) = dv at *
                          generalize (st.map PL.g).getD y 0 = gy at *
                          generalize L.getD y 0 = ly at *
                          have hly : (ly != ly) = false := by simp
                          go_wp2_with fail
                          go_quiet (first | (go_at_call 13; exact Calls.quiet_of_same (HL5.out _)) | (go_at_call 14; exact Calls.quiet_of_same (HW5.out _)))
                          clear HL5 HW5 hx8 hx9
                          go_wp2_with fail
                          go_roundw
                          case rel => exact ⟨y + 1, by go_num, by omega, Lib.hid (HNy.out.drewN _)⟩
                          case measure => simp [intOf]; omega
                        · go_wp2_with fail
                          go_roundw
                          case rel => exact ⟨low, q + 1, L, rfl, by go_num, by omega, by omega, HLL.out, HNy⟩
                          case measure => simp [intOf]; omega
                    · simp only [encS]
                      have hd1 : (low : Int) ≤ (k : Int) := by omega
                      go_wp2_with fail
                      go_loopw [22] (fun v22 wx => ∃ y : Nat, v22 = .int .i64 y ∧ y ≤ n0 ∧ Hid (Lane w wx m st L L low (.slice (some ⟨g8, 0, none⟩) n0 k8) (.slice (some ⟨g9, 0, none⟩) n0 k9))) (fun v22 _ => n0 - (intOf v22).toNat)
                      case atStart => exact ⟨0, rfl, Nat.zero_le _, HN⟩
                      case round =>
                        obtain ⟨y, rfl, hy, HNy⟩ := hrel
                        by_cases hyn : y < n0
                        · have hyst : y < st.length := by rw [HSL.out]; exact hyn
                          have hx8 := read_P HNy.out.rowP y hyn
                          have hx9 := (read_I HNy.out.rowI y hyn).1
                          have HL5 := Lib.hid (fun q => (HNy.out.drewN q).left y hyst)
                          have HW5 : Hid (∀ q : Nat, Calls Try.prog 14 #[.pointer (some ⟨(st.map PL.g).getD y 0, 0, none⟩)] (wr.drewN q) fun e w' => e = .returned (.int .i64 (if y < low then 0 else 31)) ∧ w' = wr.drewN q) := Lib.hid (fun q => (HNy.out.drewN q).why y hyst)
                          have hwv : ((if y < low then (0 : Int) else 31) == 0) = decide (y < low) := by by_cases h : y < low <;> simp [h]
                          generalize (if y < low then (0 : Int) else 31) = wv at *
                          generalize hdv : decide (y < low) = dv at *
                          generalize (st.map PL.g).getD y 0 = gy at *
                          generalize L.getD y 0 = ly at *
                          have hly : (ly != ly) = false := by simp
                          go_wp2_with fail
                          go_quiet (first | (go_at_call 13; exact Calls.quiet_of_same (HL5.out _)) | (go_at_call 14; exact Calls.quiet_of_same (HW5.out _)))
                          clear HL5 HW5 hx8 hx9
                          go_wp2_with fail
                          go_roundw
                          case rel => exact ⟨y + 1, by go_num, by omega, Lib.hid (HNy.out.drewN _)⟩
                          case measure => simp [intOf]; omega
                        · go_wp2_with fail
                          go_roundw
                          case rel => exact ⟨low, q + 1, L, rfl, by go_num, by omega, by omega, HLL.out, HNy⟩
                          case measure => simp [intOf]; omega
              · have hkl : k < low := by omega
                cases hsa : shortAt L nn (k + 1) with
                | some j =>
                  have HC := Lib.hid (HN.out.short k nn (by omega) hkl j hsa)
                  have HSA := Lib.hid hsa
                  clear hsa
                  have hx8 := HX8.out
                  generalize (st.map PL.g).getD k 0 = gk at *
                  go_wp2_with fail
                  refine HC.out.mono ?_
                  clear HC HX8 hx8 HN
                  rintro e w2 ⟨rfl, hn⟩
                  have HN := Lib.hid hn
                  clear hn
                  go_wp2_with fail
                  go_loopw [19, 20] (fun v19 v20 wx => ∃ (x : Nat) (r : Option Nat), v20 = .int .i64 ((x : Int) - 1) ∧ v19 = .int .i64 (encS r) ∧ x ≤ k + 1 ∧ wx = w2 ∧ Hid ((r = none ∧ shortAt L nn (k + 1) = shortAt L nn x) ∨ (∃ j, r = some j ∧ shortAt L nn (k + 1) = some j))) (fun _ v20 _ => (intOf v20 + 1).toNat)
                  case atStart => exact ⟨k + 1, none, by congr 1; omega, rfl, Nat.le_refl _, rfl, Lib.hid (.inl ⟨rfl, rfl⟩)⟩
                  case round =>
                    obtain ⟨x, r, rfl, rfl, hxk, rfl, HRR⟩ := hrel
                    rcases r with _ | jr
                    · have HR2 := Lib.hid (show shortAt L nn (k + 1) = shortAt L nn x by rcases HRR.out with ⟨_, h⟩ | ⟨j, h, _⟩; exact h; cases h)
                      clear HRR
                      rcases x with _ | x
                      · exact absurd (HSA.out.symm.trans HR2.out) (by simp [shortAt])
                      · have hx9 := (read_I HN.out.rowI x (by omega)).1
                        have HS1 := Lib.hid (show shortAt L nn (x + 1) = if L.getD x 0 < nn then some x else shortAt L nn x from rfl)
                        generalize L.getD x 0 = lx at *
                        simp only [encS]
                        by_cases hlx : lx < nn
                        · go_wp2_with fail
                          go_roundw
                          case rel => exact ⟨x, some x, rfl, (by show Value.int .i64 _ = Value.int .i64 (x : Int); congr 1; omega), by omega, trivial, Lib.hid (.inr ⟨x, rfl, by rw [HR2.out, HS1.out, if_pos hlx]⟩)⟩
                          case measure => simp [intOf]; try omega
                        · go_wp2_with fail
                          go_roundw
                          case rel => exact ⟨x, none, rfl, rfl, by omega, trivial, Lib.hid (.inl ⟨rfl, by rw [HR2.out, HS1.out, if_neg hlx]⟩)⟩
                          case measure => simp [intOf]; try omega
                    · have HR2 := Lib.hid (show shortAt L nn (k + 1) = some jr by rcases HRR.out with ⟨h, _⟩ | ⟨j, h, h2⟩; cases h; cases h; exact h2)
                      clear HRR
                      obtain rfl : j = jr := by have h := HSA.out.symm.trans HR2.out; cases h; rfl
                      rcases x with _ | x
                      · simp only [encS]
                        have hd1 : (k : Int) < (low : Int) := by omega
                        have hjk := (shortAt_some HSA.out).1
                        have hd2 : (j : Int) ≤ (k : Int) := by omega
                        go_wp2_with fail
                        go_loopw [22] (fun v22 wx => ∃ y : Nat, v22 = .int .i64 y ∧ y ≤ n0 ∧ Hid (Lane w wx m st L L j (.slice (some ⟨g8, 0, none⟩) n0 k8) (.slice (some ⟨g9, 0, none⟩) n0 k9))) (fun v22 _ => n0 - (intOf v22).toNat)
                        case atStart => exact ⟨0, rfl, Nat.zero_le _, HN⟩
                        case round =>
                          obtain ⟨y, rfl, hy, HNy⟩ := hrel
                          by_cases hyn : y < n0
                          · have hyst : y < st.length := by rw [HSL.out]; exact hyn
                            have hx8 := read_P HNy.out.rowP y hyn
                            have hx9 := (read_I HNy.out.rowI y hyn).1
                            have HL5 := Lib.hid (fun q => (HNy.out.drewN q).left y hyst)
                            have HW5 : Hid (∀ q : Nat, Calls Try.prog 14 #[.pointer (some ⟨(st.map PL.g).getD y 0, 0, none⟩)] (wr.drewN q) fun e w' => e = .returned (.int .i64 (if y < j then 0 else 31)) ∧ w' = wr.drewN q) := Lib.hid (fun q => (HNy.out.drewN q).why y hyst)
                            have hwv : ((if y < j then (0 : Int) else 31) == 0) = decide (y < j) := by by_cases h : y < j <;> simp [h]
                            generalize (if y < j then (0 : Int) else 31) = wv at *
                            generalize hdv : decide (y < j) = dv at *
                            generalize (st.map PL.g).getD y 0 = gy at *
                            generalize L.getD y 0 = ly at *
                            have hly : (ly != ly) = false := by simp
                            go_wp2_with fail
                            go_quiet (first | (go_at_call 13; exact Calls.quiet_of_same (HL5.out _)) | (go_at_call 14; exact Calls.quiet_of_same (HW5.out _)))
                            clear HL5 HW5 hx8 hx9
                            go_wp2_with fail
                            go_roundw
                            case rel => exact ⟨y + 1, by go_num, by omega, Lib.hid (HNy.out.drewN _)⟩
                            case measure => simp [intOf]; omega
                          · go_wp2_with fail
                            go_roundw
                            case rel => exact ⟨j, q + 1, L, rfl, by go_num, by omega, by omega, HLL.out, HNy⟩
                            case measure => simp [intOf]; omega
                      · simp only [encS]
                        have hd1 : (k : Int) < (low : Int) := by omega
                        have hjk := (shortAt_some HSA.out).1
                        have hd2 : (j : Int) ≤ (k : Int) := by omega
                        go_wp2_with fail
                        go_loopw [22] (fun v22 wx => ∃ y : Nat, v22 = .int .i64 y ∧ y ≤ n0 ∧ Hid (Lane w wx m st L L j (.slice (some ⟨g8, 0, none⟩) n0 k8) (.slice (some ⟨g9, 0, none⟩) n0 k9))) (fun v22 _ => n0 - (intOf v22).toNat)
                        case atStart => exact ⟨0, rfl, Nat.zero_le _, HN⟩
                        case round =>
                          obtain ⟨y, rfl, hy, HNy⟩ := hrel
                          by_cases hyn : y < n0
                          · have hyst : y < st.length := by rw [HSL.out]; exact hyn
                            have hx8 := read_P HNy.out.rowP y hyn
                            have hx9 := (read_I HNy.out.rowI y hyn).1
                            have HL5 := Lib.hid (fun q => (HNy.out.drewN q).left y hyst)
                            have HW5 : Hid (∀ q : Nat, Calls Try.prog 14 #[.pointer (some ⟨(st.map PL.g).getD y 0, 0, none⟩)] (wr.drewN q) fun e w' => e = .returned (.int .i64 (if y < j then 0 else 31)) ∧ w' = wr.drewN q) := Lib.hid (fun q => (HNy.out.drewN q).why y hyst)
                            have hwv : ((if y < j then (0 : Int) else 31) == 0) = decide (y < j) := by by_cases h : y < j <;> simp [h]
                            generalize (if y < j then (0 : Int) else 31) = wv at *
                            generalize hdv : decide (y < j) = dv at *
                            generalize (st.map PL.g).getD y 0 = gy at *
                            generalize L.getD y 0 = ly at *
                            have hly : (ly != ly) = false := by simp
                            go_wp2_with fail
                            go_quiet (first | (go_at_call 13; exact Calls.quiet_of_same (HL5.out _)) | (go_at_call 14; exact Calls.quiet_of_same (HW5.out _)))
                            clear HL5 HW5 hx8 hx9
                            go_wp2_with fail
                            go_roundw
                            case rel => exact ⟨y + 1, by go_num, by omega, Lib.hid (HNy.out.drewN _)⟩
                            case measure => simp [intOf]; omega
                          · go_wp2_with fail
                            go_roundw
                            case rel => exact ⟨j, q + 1, L, rfl, by go_num, by omega, by omega, HLL.out, HNy⟩
                            case measure => simp [intOf]; omega
                | none =>
                  have HC := Lib.hid (HN.out.ok k nn (by omega) hkl hsa)
                  have HSA := Lib.hid hsa
                  clear hsa
                  have hx8 := HX8.out
                  generalize (st.map PL.g).getD k 0 = gk at *
                  go_wp2_with fail
                  refine HC.out.mono ?_
                  clear HC HX8 hx8 HN
                  rintro e w2 ⟨rfl, hn⟩
                  have HN := Lib.hid hn
                  clear hn
                  go_wp2_with fail
                  go_loopw [19, 20] (fun v19 v20 wx => ∃ (x : Nat) (r : Option Nat), v20 = .int .i64 ((x : Int) - 1) ∧ v19 = .int .i64 (encS r) ∧ x ≤ k + 1 ∧ wx = w2 ∧ Hid ((r = none ∧ shortAt L nn (k + 1) = shortAt L nn x) ∨ (∃ j, r = some j ∧ shortAt L nn (k + 1) = some j))) (fun _ v20 _ => (intOf v20 + 1).toNat)
                  case atStart => exact ⟨k + 1, none, by congr 1; omega, rfl, Nat.le_refl _, rfl, Lib.hid (.inl ⟨rfl, rfl⟩)⟩
                  case round =>
                    obtain ⟨x, r, rfl, rfl, hxk, rfl, HRR⟩ := hrel
                    rcases r with _ | jr
                    · have HR2 := Lib.hid (show shortAt L nn (k + 1) = shortAt L nn x by rcases HRR.out with ⟨_, h⟩ | ⟨j, h, _⟩; exact h; cases h)
                      clear HRR
                      rcases x with _ | x
                      · simp only [encS]
                        have hd1 : (k : Int) < (low : Int) := by omega
                        go_wp2_with fail
                        have HN4 := HN
                        clear HN
                        go_loopw [21] (fun v21 wx => ∃ y : Nat, v21 = .int .i64 y ∧ y ≤ k + 1 ∧ Hid (Lane w wx m st (subTo L nn (k + 1)) (subTo L nn y) low (.slice (some ⟨g8, 0, none⟩) n0 k8) (.slice (some ⟨g9, 0, none⟩) n0 k9))) (fun v21 _ => k + 1 - (intOf v21).toNat)
                        case atStart => exact ⟨0, rfl, Nat.zero_le _, Lib.hid (by rw [subTo_zero]; exact HN4.out)⟩
                        case round =>
                          obtain ⟨y, rfl, hy, HNy⟩ := hrel
                          by_cases hyk : y ≤ k
                          · obtain ⟨hx9, hf9⟩ := read_I HNy.out.rowI y (by omega)
                            rw [subTo_get L nn y y (by have := HLL.out; omega), if_neg (Nat.lt_irrefl y)] at hx9
                            have hsub := HNy.out.rng ((subTo L nn (k + 1)).getD y 0) (by
                              have : y < (subTo L nn (k + 1)).length := by rw [subTo_len]; have := HLL.out; omega
                              simp [List.getD, this])
                            rw [subTo_get L nn (k + 1) y (by have := HLL.out; omega), if_pos (show y < k + 1 by omega)] at hsub
                            have HST := Lib.hid (show Lane w (wr.setCell ⟨g9, y, none⟩ (.int .i64 (L.getD y 0 - nn))) m st (subTo L nn (k + 1)) (subTo L nn (y + 1)) low (.slice (some ⟨g8, 0, none⟩) n0 k8) (.slice (some ⟨g9, 0, none⟩) n0 k9) by
                              rw [← subTo_step L nn y (by have := HLL.out; omega)]
                              exact HNy.out.store y (by omega) (L.getD y 0 - nn))
                            generalize L.getD y 0 = lv at *
                            have hyk' : (y : Int) ≤ (k : Int) := by omega
                            go_wp2_with fail
                            go_roundw
                            case rel => exact ⟨y + 1, by go_num, by omega, HST⟩
                            case measure => simp [intOf]; omega
                          · obtain rfl : y = k + 1 := by omega
                            have hyk' : ¬ (((k + 1 : Nat) : Int) ≤ (k : Int)) := by omega
                            have HN := HNy
                            clear HNy
                            go_wp2_with fail
                            go_loopw [22] (fun v22 wx => ∃ y : Nat, v22 = .int .i64 y ∧ y ≤ n0 ∧ Hid (Lane w wx m st (subTo L nn (k + 1)) (subTo L nn (k + 1)) low (.slice (some ⟨g8, 0, none⟩) n0 k8) (.slice (some ⟨g9, 0, none⟩) n0 k9))) (fun v22 _ => n0 - (intOf v22).toNat)
                            case atStart => exact ⟨0, rfl, Nat.zero_le _, HN⟩
                            case round =>
                              obtain ⟨y, rfl, hy, HNy⟩ := hrel
                              by_cases hyn : y < n0
                              · have hyst : y < st.length := by rw [HSL.out]; exact hyn
                                have hx8 := read_P HNy.out.rowP y hyn
                                have hx9 := (read_I HNy.out.rowI y hyn).1
                                have HL5 := Lib.hid (fun q => (HNy.out.drewN q).left y hyst)
                                have HW5 : Hid (∀ q : Nat, Calls Try.prog 14 #[.pointer (some ⟨(st.map PL.g).getD y 0, 0, none⟩)] (wr.drewN q) fun e w' => e = .returned (.int .i64 (if y < low then 0 else 31)) ∧ w' = wr.drewN q) := Lib.hid (fun q => (HNy.out.drewN q).why y hyst)
                                have hwv : ((if y < low then (0 : Int) else 31) == 0) = decide (y < low) := by by_cases h : y < low <;> simp [h]
                                generalize (if y < low then (0 : Int) else 31) = wv at *
                                generalize hdv : decide (y < low) = dv at *
                                generalize (st.map PL.g).getD y 0 = gy at *
                                generalize (subTo L nn (k + 1)).getD y 0 = ly at *
                                have hly : (ly != ly) = false := by simp
                                go_wp2_with fail
                                go_quiet (first | (go_at_call 13; exact Calls.quiet_of_same (HL5.out _)) | (go_at_call 14; exact Calls.quiet_of_same (HW5.out _)))
                                clear HL5 HW5 hx8 hx9
                                go_wp2_with fail
                                go_roundw
                                case rel => exact ⟨y + 1, by go_num, by omega, Lib.hid (HNy.out.drewN _)⟩
                                case measure => simp [intOf]; omega
                              · go_wp2_with fail
                                go_roundw
                                case rel => exact ⟨low, q + 1, (subTo L nn (k + 1)), rfl, by go_num, by omega, by omega, by rw [subTo_len]; exact HLL.out, HNy⟩
                                case measure => simp [intOf]; omega

                      · have hx9 := (read_I HN.out.rowI x (by omega)).1
                        have HS1 := Lib.hid (show shortAt L nn (x + 1) = if L.getD x 0 < nn then some x else shortAt L nn x from rfl)
                        generalize L.getD x 0 = lx at *
                        simp only [encS]
                        by_cases hlx : lx < nn
                        · go_wp2_with fail
                          go_roundw
                          case rel => exact ⟨x, some x, rfl, (by show Value.int .i64 _ = Value.int .i64 (x : Int); congr 1; omega), by omega, trivial, Lib.hid (.inr ⟨x, rfl, by rw [HR2.out, HS1.out, if_pos hlx]⟩)⟩
                          case measure => simp [intOf]; try omega
                        · go_wp2_with fail
                          go_roundw
                          case rel => exact ⟨x, none, rfl, rfl, by omega, trivial, Lib.hid (.inl ⟨rfl, by rw [HR2.out, HS1.out, if_neg hlx]⟩)⟩
                          case measure => simp [intOf]; try omega
                    · have HR2 := Lib.hid (show shortAt L nn (k + 1) = some jr by rcases HRR.out with ⟨h, _⟩ | ⟨j, h, h2⟩; cases h; cases h; exact h2)
                      clear HRR
                      exact absurd (HSA.out.symm.trans HR2.out) (by simp)
            · go_wp2_with fail
              go_ret
              exact ⟨rfl, HN.out.inv.below⟩
          · go_wp2_with fail
            go_ret
            exact ⟨rfl, HN.out.inv.below⟩
      · have hlen := HG.out.len
        have hlenL := HG.out.lenL
        have HB9 := Lib.hid HG.out.below
        obtain ⟨A8, k8, e8⟩ := Kd.R_slice HG.out.rowP
        rw [List.length_map, hlen] at e8
        subst e8
        clear hlen hlenL HG
        have hposz : ¬ (0 : Int) < (n0 : Int) := by omega
        obtain ⟨w9, hw9⟩ : ∃ w9, w9 = wr := ⟨_, rfl⟩
        rw [← hw9] at HB9 ⊢
        clear hw9
        go_wp2_with fail
        go_loopw [14, 15, 16, 17, 18, 19, 20, 21, 22] (fun v14 v15 v16 v17 v18 v19 v20 v21 v22 wx => ∃ q : Nat, v15 = .int .i64 q ∧ wx = w9) (fun _ v15 _ _ _ _ _ _ _ _ => n1 - (intOf v15).toNat)
        case atStart => exact ⟨0, rfl, rfl⟩
        case round =>
          obtain ⟨q, rfl, rfl⟩ := hrel
          by_cases hq1 : q < n1
          · by_cases hq2 : q < n2
            · go_wp2_with fail
              go_ret
              exact ⟨rfl, HB9.out⟩
            · go_wp2_with fail
              go_ret
              exact ⟨rfl, HB9.out⟩
          · go_wp2_with fail
            go_ret
            exact ⟨rfl, HB9.out⟩
end Go.Proofs.Ytofbnoiecpmjnaa.Pr
