/- HaltTree's walk: it answers true. -/
import Derived.Test.YtofbnoiecpmjnaaJi
import Derived.Deep.QuietTactic
import Derived.BigQuiet
import Derived.StillTailTactics
namespace Go.Proofs.Ytofbnoiecpmjnaa.Pr
open Go.RowKit Go.Proofs.YtofbnoiecpmjnaaW.PrintWords Go.Proofs.YtofbnoiecpmjnaaW.PrintLast Go.Proofs.YtofbnoiecpmjnaaW.PrintMore Go.MuLone
open Go.Lib
set_option linter.unusedVariables false
set_option linter.unusedSimpArgs false
def TreePost (W : World) (e : Ending) (w' : World) : Prop := e = .returned (.bool true) ∧ Below W.heap.size W w'
set_option maxHeartbeats 4000000 in
set_option maxRecDepth 100000 in
theorem tree_run (B S T : List Int) (A0 A1 A2 : Option Addr) (n0 n1 n2 c0 c1 c2 : Nat) (w : World) (h0 : Kd.C kI w A0 n0 B) (h1 : Kd.C kI w A1 n1 S) (h2 : Kd.C kI w A2 n2 T)
    (r0 : ∀ v ∈ B, -9223372036854775808 ≤ v ∧ v ≤ 9223372036854775807) (r1 : ∀ v ∈ S, -9223372036854775808 ≤ v ∧ v ≤ 9223372036854775807) (hz : B.length * 8 ≤ reachBytes) :
    Calls Try.prog 5 #[.slice A0 n0 c0, .slice A1 n1 c1, .slice A2 n2 c2] w fun e w' => TreePost w e w' := by
  have hn0 := h0.1
  have hnb : n0 + 1 ≤ 17592186044000 := by unfold reachBytes at hz; omega
  have hn1 := h1.2.1
  have hn2 := h2.2.1
  have H0 := Lib.hid h0
  have H1 := Lib.hid h1
  have H2 := Lib.hid h2
  have R0 := Lib.hid r0
  have R1 := Lib.hid r1
  have HZ := Lib.hid hz
  clear h0 h1 h2 r0 r1 hz hn0
  go_enter Try.func5, Try.ntmps5
  go_wp2_with fail
  refine (alive_run w).mono ?_
  rintro e w1 ⟨rfl, hb⟩
  have HB := Lib.hid hb
  clear hb
  go_wp2_with fail
  refine (grown_run w1 B A0 n0 c0 (Kd.C_below H0.out HB.out) R0.out HZ.out).mono ?_
  rintro e w2 ⟨m, st, up, v8, v9, rfl, hG⟩
  have HG := Lib.hid (hG.lower HB.out)
  clear hG HB H0 R0 HZ
  obtain ⟨N, hN⟩ : ∃ N, N = n0 + 1 := ⟨_, rfl⟩
  rw [← hN] at HG hnb
  have hN0 : 0 < N := by omega
  clear hN
  have hcn := HG.out.cnt
  obtain ⟨g8, k8, e8, _⟩ := Kd.R_form HG.out.rowP (by rw [List.length_map, hcn]; exact hN0)
  rw [List.length_map, hcn] at e8
  subst e8
  have hul : (upI up).length = N := by rw [upI_len up (by rw [HG.out.th.len, hcn]; exact hN0), HG.out.th.len, hcn]
  obtain ⟨g9, k9, e9, _⟩ := Kd.R_form HG.out.rowI (by rw [hul]; exact hN0)
  rw [hul] at e9
  subst e9
  clear hcn hul
  go_wp2_with (refine Kd.R_make kI (w0 := w) w.heap.size 26 rfl rfl 34 (.tmp 33) (.tmp 33) rfl (N : Int) rfl rfl Try.underlying34 (.int .i64 0) 8 infoI26 rfl (by decide) (by omega) (0 : Int) (ok := fun _ => True) (okp := fun _ => False) ?mZ (fun _ hk => hk.elim) trivial (by omega) ?mL ?mB ?mS ?_; (case mZ => rfl); (case mL => simp only [Int.toNat_natCast]; omega); (case mB => exact HG.out.th.below); (case mS => exact HG.out.th.below.size); intro v11 w3 hr hb hg hfr; rw [Int.toNat_natCast] at hr; have HL := Lib.hid (HG.out.withRow hg hb hr); clear hr hb hg hfr HG)
  have hNl : (List.replicate N (0 : Int)).length = N := List.length_replicate
  obtain ⟨g11, k11, e11, _⟩ := Kd.R_form HL.out.rowR (by rw [hNl]; exact hN0)
  rw [hNl] at e11
  subst e11
  clear hNl
  go_loopw [12, 13, 14, 15] (fun v12 v13 v14 v15 wr => ∃ (i : Nat) (Y : List Int), v12 = .int .i64 i ∧ i ≤ n1 ∧ Hid (LT w wr m st up Y Y N (.slice (some ⟨g8, 0, none⟩) N k8) (.slice (some ⟨g9, 0, none⟩) N k9) (.slice (some ⟨g11, 0, none⟩) N k11))) (fun v12 _ _ _ _ => n1 - (intOf v12).toNat)
  case atStart => exact ⟨0, _, rfl, Nat.zero_le _, HL⟩
  case round =>
    clear HL
    obtain ⟨i, Y, rfl, hin, HLi⟩ := hrel
    by_cases hi1 : i < n1
    · by_cases hi2 : i < n2
      · obtain ⟨a1, rfl, hx1⟩ := at_I (Kd.C_below H1.out HLi.out.th.below) (i : Int) (by omega) (by omega)
        obtain ⟨a2, rfl, hx2⟩ := at_I (Kd.C_below H2.out HLi.out.th.below) (i : Int) (by omega) (by omega)
        simp only [Int.toNat_natCast] at hx1 hx2
        have hb1 := R1.out (S.getD i 0) (by
          have : i < S.length := by have := H1.out.1; omega
          simp [List.getD, this])
        generalize S.getD i 0 = c at *
        obtain ⟨y, hyy⟩ : ∃ y, T.getD i 0 = y := ⟨_, rfl⟩
        rw [hyy] at hx2
        have HYY := Lib.hid hyy
        clear hyy
        go_wp2_with fail
        refine (pick_run c N wr hb1 ⟨by omega, by omega⟩).mono ?_
        rintro e w4 ⟨rfl, hw4⟩
        subst hw4
        have hpk := pickF_in c N (by omega)
        obtain ⟨k, hk⟩ : ∃ k : Nat, pickF c N = k := ⟨(pickF c N).toNat, (Int.toNat_of_nonneg hpk.1).symm⟩
        rw [hk] at hpk ⊢
        have hkN : k < N := by omega
        clear hk hpk
        have hx8 := read_P HLi.out.rowP k hkN
        by_cases hy0 : y = 0
        · subst hy0
          generalize (st.map PL.g).getD k 0 = gk at *
          have HLd := Lib.hid HLi.out.drew
          go_wp2_with fail
          go_still_tail 8, (by kernel_rfl)
          change wpList _ _ _ _ _ w4.drew
          generalize w4.drew = w5 at *
          go_wp2_with fail
          refine (cancel_ok gk w5).mono ?_
          clear hx8 hx1 hx2 HLi
          rintro e w6 ⟨rfl, hw6⟩
          subst hw6
          obtain ⟨a2', ha2', hx2⟩ := at_I (Kd.C_below H2.out HLd.out.th.below) (i : Int) (by omega) (by omega)
          cases ha2'
          simp only [Int.toNat_natCast] at hx2
          rw [HYY.out] at hx2
          go_wp2_with fail
          go_roundw
          case rel => exact ⟨i + 1, Y, by go_num, by omega, HLd⟩
          case measure => simp [intOf]; omega
        · by_cases hY0 : Y.getD k 0 = 0
          · have HY0 := Lib.hid hY0
            clear hY0
            have HCP := Lib.hid (cancel_pass up N k y hy0 HLi.out.upl HLi.out.ups hkN Y (Y.set k y) HLi.out.yl HLi.out.closed (by rw [if_pos HY0.out]))
            have HC : Hid (Calls Try.prog 16 #[.pointer (some ⟨(st.map PL.g).getD k 0, 0, none⟩), .int .i64 y] w4.drew fun e w' => e = .returned (.int .i64 y) ∧ LT w w' m st up (cancelF up y N Y k) Y N (.slice (some ⟨g8, 0, none⟩) N k8) (.slice (some ⟨g9, 0, none⟩) N k9) (.slice (some ⟨g11, 0, none⟩) N k11)) :=
              Lib.hid (by have h := HLi.out.drew.cancel k hkN y hy0; rw [if_neg (fun h => h HY0.out)] at h; exact h)
            have hyb : (y == 0) = false := beq_eq_false_iff_ne.mpr hy0
            skip
            generalize (st.map PL.g).getD k 0 = gk at *
            go_wp2_with fail
            go_still_tail 8, (by kernel_rfl)
            change wpList _ _ _ _ _ w4.drew
            generalize w4.drew = w5 at *
            go_wp2_with fail
            refine HC.out.mono ?_
            clear HC hx8 hx1 hx2
            rintro e w6 ⟨rfl, hl6⟩
            have HL6 := Lib.hid hl6
            clear hl6 HLi
            obtain ⟨a2', ha2', hx2⟩ := at_I (Kd.C_below H2.out HL6.out.th.below) (i : Int) (by omega) (by omega)
            cases ha2'
            simp only [Int.toNat_natCast] at hx2
            rw [HYY.out] at hx2
            obtain ⟨hrk6, hfk6⟩ := read_J HL6.out.rowR k hkN
            rw [HY0.out] at hrk6
            have HST6 := Lib.hid (HL6.out.store k hkN y)
            have HL3 := Lib.hid (show LT w (w6.setCell ⟨g11, k, none⟩ (.int .i64 y)) m st up (cancelF up y N Y k) (passTo up (Y.set k y) 1) N (.slice (some ⟨g8, 0, none⟩) N k8) (.slice (some ⟨g9, 0, none⟩) N k9) (.slice (some ⟨g11, 0, none⟩) N k11) from HST6.out)
            clear HST6 HL6
            go_wp2_with fail
            go_loopw [15] (fun v15 wx => ∃ n : Nat, v15 = .int .i64 n ∧ 1 ≤ n ∧ n ≤ N ∧ Hid (LT w wx m st up (cancelF up y N Y k) (passTo up (Y.set k y) n) N (.slice (some ⟨g8, 0, none⟩) N k8) (.slice (some ⟨g9, 0, none⟩) N k9) (.slice (some ⟨g11, 0, none⟩) N k11))) (fun v15 _ => N - (intOf v15).toNat)
            case atStart => exact ⟨1, rfl, Nat.le_refl _, hN0, HL3⟩
            case round =>
              obtain ⟨n, rfl, hn1', hnN, HLn⟩ := hrel
              by_cases hlt : n < N
              · obtain ⟨hrn, hfn⟩ := read_J HLn.out.rowR n hlt
                have hunlt : up.getD n 0 < n := HLn.out.ups n (by omega) hlt
                have hui := (read_J HLn.out.rowI n hlt).1
                rw [upI_get up n (by omega) (by rw [HLn.out.upl]; exact hlt)] at hui
                have hru := (read_J HLn.out.rowR (up.getD n 0) (by omega)).1
                have HST := Lib.hid (HLn.out.store n hlt ((passTo up (Y.set k y) n).getD (up.getD n 0) 0))
                have HPS := Lib.hid (show passTo up (Y.set k y) (n + 1) = if (passTo up (Y.set k y) n).getD n 0 = 0 then (passTo up (Y.set k y) n).set n ((passTo up (Y.set k y) n).getD (up.getD n 0) 0) else passTo up (Y.set k y) n by rw [passTo, if_neg (show ¬ n = 0 by omega)])
                generalize (passTo up (Y.set k y) n).getD (up.getD n 0) 0 = ru at *
                generalize (passTo up (Y.set k y) n).getD n 0 = rn at *
                generalize up.getD n 0 = un at *
                by_cases hz0 : rn = 0
                · subst hz0
                  go_wp2_with fail
                  go_roundw
                  case rel => exact ⟨n + 1, by go_num, by omega, by omega, Lib.hid (by rw [HPS.out, if_pos rfl]; exact HST.out)⟩
                  case measure => simp [intOf]; omega
                · have hzb : (rn == 0) = false := beq_eq_false_iff_ne.mpr hz0
                  go_wp2_with fail
                  go_roundw
                  case rel => exact ⟨n + 1, by go_num, by omega, by omega, Lib.hid (by rw [HPS.out, if_neg hz0]; exact HLn.out)⟩
                  case measure => simp [intOf]; omega
              · obtain rfl : N = n := by omega
                have HPN := Lib.hid (HCP.out.1)
                have HLY := Lib.hid (show LT w wr m st up (cancelF up y N Y k) (cancelF up y N Y k) N (.slice (some ⟨g8, 0, none⟩) N k8) (.slice (some ⟨g9, 0, none⟩) N k9) (.slice (some ⟨g11, 0, none⟩) N k11) by rw [show cancelF up y N Y k = passTo up (Y.set k y) N from HPN.out]; rw [← HPN.out]; have h := HLn.out; rw [← HPN.out] at h; exact h)
                have hrk := (read_J HLY.out.rowR k hkN).1
                rw [HCP.out.2.2.2] at hrk
                rw [if_neg (fun h => h HY0.out)] at hrk
                have hself : (y != y) = false := by simp
                go_wp2_with fail
                go_roundw
                case rel => exact ⟨i + 1, cancelF up y N Y k, by go_num, by omega, HLY⟩
                case measure => simp [intOf]; omega
          · have HY0 := Lib.hid hY0
            clear hY0
            obtain ⟨yk, hyk⟩ : ∃ yk, Y.getD k 0 = yk := ⟨_, rfl⟩
            have HYN : Hid (yk ≠ 0) := Lib.hid (by rw [← hyk]; exact HY0.out)
            have HYK := Lib.hid hyk
            clear hyk
            have HCP := Lib.hid (cancel_pass up N k y hy0 HLi.out.upl HLi.out.ups hkN Y Y HLi.out.yl HLi.out.closed (by rw [if_neg HY0.out]))
            have HC : Hid (Calls Try.prog 16 #[.pointer (some ⟨(st.map PL.g).getD k 0, 0, none⟩), .int .i64 y] w4.drew fun e w' => e = .returned (.int .i64 yk) ∧ LT w w' m st up (cancelF up y N Y k) Y N (.slice (some ⟨g8, 0, none⟩) N k8) (.slice (some ⟨g9, 0, none⟩) N k9) (.slice (some ⟨g11, 0, none⟩) N k11)) :=
              Lib.hid (by have h := HLi.out.drew.cancel k hkN y hy0; rw [if_pos HY0.out, HYK.out] at h; exact h)
            have hyb : (y == 0) = false := beq_eq_false_iff_ne.mpr hy0
            have hkb : (yk == 0) = false := beq_eq_false_iff_ne.mpr HYN.out
            generalize (st.map PL.g).getD k 0 = gk at *
            go_wp2_with fail
            go_still_tail 8, (by kernel_rfl)
            change wpList _ _ _ _ _ w4.drew
            generalize w4.drew = w5 at *
            go_wp2_with fail
            refine HC.out.mono ?_
            clear HC hx8 hx1 hx2
            rintro e w6 ⟨rfl, hl6⟩
            have HL6 := Lib.hid hl6
            clear hl6 HLi
            obtain ⟨a2', ha2', hx2⟩ := at_I (Kd.C_below H2.out HL6.out.th.below) (i : Int) (by omega) (by omega)
            cases ha2'
            simp only [Int.toNat_natCast] at hx2
            rw [HYY.out] at hx2
            obtain ⟨hrk6, hfk6⟩ := read_J HL6.out.rowR k hkN
            rw [HYK.out] at hrk6
            have HL3 := Lib.hid (show LT w w6 m st up (cancelF up y N Y k) (passTo up Y 1) N (.slice (some ⟨g8, 0, none⟩) N k8) (.slice (some ⟨g9, 0, none⟩) N k9) (.slice (some ⟨g11, 0, none⟩) N k11) from HL6.out)
            clear HL6
            go_wp2_with fail
            go_loopw [15] (fun v15 wx => ∃ n : Nat, v15 = .int .i64 n ∧ 1 ≤ n ∧ n ≤ N ∧ Hid (LT w wx m st up (cancelF up y N Y k) (passTo up Y n) N (.slice (some ⟨g8, 0, none⟩) N k8) (.slice (some ⟨g9, 0, none⟩) N k9) (.slice (some ⟨g11, 0, none⟩) N k11))) (fun v15 _ => N - (intOf v15).toNat)
            case atStart => exact ⟨1, rfl, Nat.le_refl _, hN0, HL3⟩
            case round =>
              obtain ⟨n, rfl, hn1', hnN, HLn⟩ := hrel
              by_cases hlt : n < N
              · obtain ⟨hrn, hfn⟩ := read_J HLn.out.rowR n hlt
                have hunlt : up.getD n 0 < n := HLn.out.ups n (by omega) hlt
                have hui := (read_J HLn.out.rowI n hlt).1
                rw [upI_get up n (by omega) (by rw [HLn.out.upl]; exact hlt)] at hui
                have hru := (read_J HLn.out.rowR (up.getD n 0) (by omega)).1
                have HST := Lib.hid (HLn.out.store n hlt ((passTo up Y n).getD (up.getD n 0) 0))
                have HPS := Lib.hid (show passTo up Y (n + 1) = if (passTo up Y n).getD n 0 = 0 then (passTo up Y n).set n ((passTo up Y n).getD (up.getD n 0) 0) else passTo up Y n by rw [passTo, if_neg (show ¬ n = 0 by omega)])
                generalize (passTo up Y n).getD (up.getD n 0) 0 = ru at *
                generalize (passTo up Y n).getD n 0 = rn at *
                generalize up.getD n 0 = un at *
                by_cases hz0 : rn = 0
                · subst hz0
                  go_wp2_with fail
                  go_roundw
                  case rel => exact ⟨n + 1, by go_num, by omega, by omega, Lib.hid (by rw [HPS.out, if_pos rfl]; exact HST.out)⟩
                  case measure => simp [intOf]; omega
                · have hzb : (rn == 0) = false := beq_eq_false_iff_ne.mpr hz0
                  go_wp2_with fail
                  go_roundw
                  case rel => exact ⟨n + 1, by go_num, by omega, by omega, Lib.hid (by rw [HPS.out, if_neg hz0]; exact HLn.out)⟩
                  case measure => simp [intOf]; omega
              · obtain rfl : N = n := by omega
                have HPN := Lib.hid (HCP.out.1)
                have HLY := Lib.hid (show LT w wr m st up (cancelF up y N Y k) (cancelF up y N Y k) N (.slice (some ⟨g8, 0, none⟩) N k8) (.slice (some ⟨g9, 0, none⟩) N k9) (.slice (some ⟨g11, 0, none⟩) N k11) by rw [show cancelF up y N Y k = passTo up Y N from HPN.out]; rw [← HPN.out]; have h := HLn.out; rw [← HPN.out] at h; exact h)
                have hrk := (read_J HLY.out.rowR k hkN).1
                rw [HCP.out.2.2.2] at hrk
                rw [if_pos HY0.out, HYK.out] at hrk
                have hself : (yk != yk) = false := by simp
                go_wp2_with fail
                go_roundw
                case rel => exact ⟨i + 1, cancelF up y N Y k, by go_num, by omega, HLY⟩
                case measure => simp [intOf]; omega
      · have HF0 := Lib.hid HLi.out.last
        clear HLi
        go_wp2_with fail
        go_loopw [16, 17, 18] (fun v16 v17 v18 wx => ∃ n : Nat, v16 = .int .i64 n ∧ n ≤ N ∧ Hid (FT w wx m st up Y N n (.slice (some ⟨g8, 0, none⟩) N k8) (.slice (some ⟨g11, 0, none⟩) N k11))) (fun v16 _ _ _ => N - (intOf v16).toNat)
        case atStart => exact ⟨0, rfl, Nat.zero_le _, HF0⟩
        case round =>
          clear HF0
          obtain ⟨n, rfl, hnN, HFn⟩ := hrel
          by_cases hlt : n < N
          · have hx8 := read_P HFn.out.rowP n hlt
            have HU := Lib.hid (HFn.out.under hlt (by omega))
            obtain ⟨gq, hgq⟩ : ∃ gq, (st.map PL.g).getD n 0 = gq := ⟨_, rfl⟩
            rw [hgq] at hx8 HU
            have HGQ := Lib.hid hgq
            clear hgq
            go_wp2_with fail
            refine HU.out.mono ?_
            clear HU hx8
            rintro e w5 ⟨g, rfl, hK⟩
            have HK := Lib.hid hK
            clear hK HFn
            have hx8 := read_P HK.out.ft.rowP n hlt
            rw [HGQ.out] at hx8
            have hx11 := (read_J HK.out.ft.rowR n hlt).1
            obtain ⟨yn, hyn⟩ : ∃ yn, Y.getD n 0 = yn := ⟨_, rfl⟩
            rw [hyn] at hx11
            have HYN := Lib.hid hyn
            clear hyn
            have HWP : Hid (∀ q : Nat, Calls Try.prog 14 #[.pointer (some ⟨gq, 0, none⟩)] (w5.drewN q) fun e w2 => e = .returned (.int .i64 yn) ∧ w2 = w5.drewN q) := Lib.hid (fun q => by have h := (HK.out.drewN q).whyP; rw [HGQ.out, HYN.out] at h; exact h)
            have HLP : Hid (∀ q : Nat, Calls Try.prog 13 #[.pointer (some ⟨gq, 0, none⟩)] (w5.drewN q) fun e w2 => e = .returned (.int .i64 (-1)) ∧ w2 = w5.drewN q) := Lib.hid (fun q => by have h := (HK.out.drewN q).leftP; rw [HGQ.out] at h; exact h)
            have hself : (yn != yn) = false := by simp
            go_wp2_with fail
            go_quiet (first | (go_at_call 14; exact Calls.quiet_of_same (HWP.out _)) | (go_at_call 13; exact Calls.quiet_of_same (HLP.out _)))
            clear HWP HLP hx8 hx11
            have HK2 := Lib.hid (HK.out.drewN nq)
            generalize w5.drewN nq = w6 at *
            clear HK
            have hx11 := (read_J HK2.out.ft.rowR n hlt).1
            rw [HYN.out] at hx11
            have HWC : Hid (∀ q : Nat, Calls Try.prog 14 #[.pointer (some ⟨g, 0, none⟩)] (w6.drewN q) fun e w2 => e = .returned (.int .i64 yn) ∧ w2 = w6.drewN q) := Lib.hid (fun q => by have h := (HK2.out.drewN q).whyC; rw [HYN.out] at h; exact h)
            have HLC : Hid (∀ q : Nat, Calls Try.prog 13 #[.pointer (some ⟨g, 0, none⟩)] (w6.drewN q) fun e w2 => e = .returned (.int .i64 7) ∧ w2 = w6.drewN q) := Lib.hid (fun q => (HK2.out.drewN q).leftC)
            go_wp2_with fail
            by_cases hyz : yn = 0
            · have hyb : (yn != 0) = false := by subst hyz; rfl
              subst hyz
              go_quiet (first | (go_at_call 14; exact Calls.quiet_of_same (HWC.out _)) | (go_at_call 13; exact Calls.quiet_of_same (HLC.out _)))
              clear HWC HLC hx11
              go_wp2_with fail
              go_roundw
              case rel => exact ⟨n + 1, by go_num, by omega, Lib.hid (HK2.out.drewN _).ft⟩
              case measure => simp [intOf]; omega
            · have hyb : (yn != 0) = true := bne_iff_ne.mpr hyz
              have HSC : Hid (∀ q : Nat, Calls Try.prog 12 #[.pointer (some ⟨g, 0, none⟩), .int .i64 1] (w6.drewN q) fun e w2 => e = .returned (.int .i64 yn) ∧ w2 = w6.drewN q) := Lib.hid (fun q => by have h := (HK2.out.drewN q).spendC (by rw [HYN.out]; exact hyz); rw [HYN.out] at h; exact h)
              go_quiet (first | (go_at_call 14; exact Calls.quiet_of_same (HWC.out _)) | (go_at_call 13; exact Calls.quiet_of_same (HLC.out _)) | (go_at_call 12; exact Calls.quiet_of_same (HSC.out _)))
              clear HWC HLC hx11
              go_wp2_with fail
              go_roundw
              case rel => exact ⟨n + 1, by go_num, by omega, Lib.hid (HK2.out.drewN _).ft⟩
              case measure => simp [intOf]; omega
          · go_wp2_with fail
            go_ret
            exact ⟨rfl, HFn.out.below⟩
    · have HF0 := Lib.hid HLi.out.last
      clear HLi
      go_wp2_with fail
      go_loopw [16, 17, 18] (fun v16 v17 v18 wx => ∃ n : Nat, v16 = .int .i64 n ∧ n ≤ N ∧ Hid (FT w wx m st up Y N n (.slice (some ⟨g8, 0, none⟩) N k8) (.slice (some ⟨g11, 0, none⟩) N k11))) (fun v16 _ _ _ => N - (intOf v16).toNat)
      case atStart => exact ⟨0, rfl, Nat.zero_le _, HF0⟩
      case round =>
        clear HF0
        obtain ⟨n, rfl, hnN, HFn⟩ := hrel
        by_cases hlt : n < N
        · have hx8 := read_P HFn.out.rowP n hlt
          have HU := Lib.hid (HFn.out.under hlt (by omega))
          obtain ⟨gq, hgq⟩ : ∃ gq, (st.map PL.g).getD n 0 = gq := ⟨_, rfl⟩
          rw [hgq] at hx8 HU
          have HGQ := Lib.hid hgq
          clear hgq
          go_wp2_with fail
          refine HU.out.mono ?_
          clear HU hx8
          rintro e w5 ⟨g, rfl, hK⟩
          have HK := Lib.hid hK
          clear hK HFn
          have hx8 := read_P HK.out.ft.rowP n hlt
          rw [HGQ.out] at hx8
          have hx11 := (read_J HK.out.ft.rowR n hlt).1
          obtain ⟨yn, hyn⟩ : ∃ yn, Y.getD n 0 = yn := ⟨_, rfl⟩
          rw [hyn] at hx11
          have HYN := Lib.hid hyn
          clear hyn
          have HWP : Hid (∀ q : Nat, Calls Try.prog 14 #[.pointer (some ⟨gq, 0, none⟩)] (w5.drewN q) fun e w2 => e = .returned (.int .i64 yn) ∧ w2 = w5.drewN q) := Lib.hid (fun q => by have h := (HK.out.drewN q).whyP; rw [HGQ.out, HYN.out] at h; exact h)
          have HLP : Hid (∀ q : Nat, Calls Try.prog 13 #[.pointer (some ⟨gq, 0, none⟩)] (w5.drewN q) fun e w2 => e = .returned (.int .i64 (-1)) ∧ w2 = w5.drewN q) := Lib.hid (fun q => by have h := (HK.out.drewN q).leftP; rw [HGQ.out] at h; exact h)
          have hself : (yn != yn) = false := by simp
          go_wp2_with fail
          go_quiet (first | (go_at_call 14; exact Calls.quiet_of_same (HWP.out _)) | (go_at_call 13; exact Calls.quiet_of_same (HLP.out _)))
          clear HWP HLP hx8 hx11
          have HK2 := Lib.hid (HK.out.drewN nq)
          generalize w5.drewN nq = w6 at *
          clear HK
          have hx11 := (read_J HK2.out.ft.rowR n hlt).1
          rw [HYN.out] at hx11
          have HWC : Hid (∀ q : Nat, Calls Try.prog 14 #[.pointer (some ⟨g, 0, none⟩)] (w6.drewN q) fun e w2 => e = .returned (.int .i64 yn) ∧ w2 = w6.drewN q) := Lib.hid (fun q => by have h := (HK2.out.drewN q).whyC; rw [HYN.out] at h; exact h)
          have HLC : Hid (∀ q : Nat, Calls Try.prog 13 #[.pointer (some ⟨g, 0, none⟩)] (w6.drewN q) fun e w2 => e = .returned (.int .i64 7) ∧ w2 = w6.drewN q) := Lib.hid (fun q => (HK2.out.drewN q).leftC)
          go_wp2_with fail
          by_cases hyz : yn = 0
          · have hyb : (yn != 0) = false := by subst hyz; rfl
            subst hyz
            go_quiet (first | (go_at_call 14; exact Calls.quiet_of_same (HWC.out _)) | (go_at_call 13; exact Calls.quiet_of_same (HLC.out _)))
            clear HWC HLC hx11
            go_wp2_with fail
            go_roundw
            case rel => exact ⟨n + 1, by go_num, by omega, Lib.hid (HK2.out.drewN _).ft⟩
            case measure => simp [intOf]; omega
          · have hyb : (yn != 0) = true := bne_iff_ne.mpr hyz
            have HSC : Hid (∀ q : Nat, Calls Try.prog 12 #[.pointer (some ⟨g, 0, none⟩), .int .i64 1] (w6.drewN q) fun e w2 => e = .returned (.int .i64 yn) ∧ w2 = w6.drewN q) := Lib.hid (fun q => by have h := (HK2.out.drewN q).spendC (by rw [HYN.out]; exact hyz); rw [HYN.out] at h; exact h)
            go_quiet (first | (go_at_call 14; exact Calls.quiet_of_same (HWC.out _)) | (go_at_call 13; exact Calls.quiet_of_same (HLC.out _)) | (go_at_call 12; exact Calls.quiet_of_same (HSC.out _)))
            clear HWC HLC hx11
            go_wp2_with fail
            go_roundw
            case rel => exact ⟨n + 1, by go_num, by omega, Lib.hid (HK2.out.drewN _).ft⟩
            case measure => simp [intOf]; omega
        · go_wp2_with fail
          go_ret
          exact ⟨rfl, HFn.out.below⟩
end Go.Proofs.Ytofbnoiecpmjnaa.Pr
