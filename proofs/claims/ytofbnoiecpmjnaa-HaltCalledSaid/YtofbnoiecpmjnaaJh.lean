/- What the law's own maker of trees does. -/
import Derived.Test.YtofbnoiecpmjnaaJg
namespace Go.Proofs.Ytofbnoiecpmjnaa.Pr
open Go.RowKit Go.Proofs.YtofbnoiecpmjnaaW.PrintWords Go.Proofs.YtofbnoiecpmjnaaW.PrintLast Go.Proofs.YtofbnoiecpmjnaaW.PrintMore Go.MuLone
open Go.Lib
set_option linter.unusedVariables false
set_option linter.unusedSimpArgs false
def GrownPost (w0 : World) (n : Nat) (e : Ending) (w' : World) : Prop :=
  ∃ (m : Nat) (st : List PL) (up : List Nat) (v7 v8 : Value), e = .returned (.tuple #[v7, v8, .bool true]) ∧ GT w0 w' m st up (n + 1) v7 v8
theorem TH.lower {b : Int} {w1 w0 W : World} {m : Nat} {st : List PL} {up : List Nat} {Y : List Int} (h : TH b w1 W m st up Y) (hB : Below w0.heap.size w0 w1) : TH b w0 W m st up Y := by
  have hz := hB.size
  refine ⟨h.len, h.lenY, h.mu, Nat.le_trans hz h.mb, hB.trans (h.below.mono hz), fun i x hx => ?_, h.apart, h.rows, h.ups⟩
  obtain ⟨q1, q2, q3, q4, q5⟩ := h.at_ i x hx
  exact ⟨q1, q2, Nat.le_trans hz q3, Nat.le_trans hz q4, Kd.R_lower q5 hz⟩
theorem GT.lower {w1 w0 W : World} {m : Nat} {st : List PL} {up : List Nat} {n : Nat} {v7 v8 : Value} (h : GT w1 W m st up n v7 v8) (hB : Below w0.heap.size w0 w1) : GT w0 W m st up n v7 v8 :=
  ⟨h.cnt, h.th.lower hB, Kd.R_lower h.rowP hB.size, Kd.R_lower h.rowI hB.size, h.off⟩
set_option maxHeartbeats 2000000 in
set_option maxRecDepth 100000 in
theorem grown_run (W : World) (B : List Int) (A0 : Option Addr) (n0 c0 : Nat) (h0 : Kd.C kI W A0 n0 B)
    (r0 : ∀ v ∈ B, -9223372036854775808 ≤ v ∧ v ≤ 9223372036854775807) (hz : B.length * 8 ≤ reachBytes) :
    Calls Try.prog 15 #[.slice A0 n0 c0] W fun e w' => GrownPost W n0 e w' := by
  have hn0 := h0.1
  have hn0' : n0 ≤ 17592186044000 := by unfold reachBytes at hz; omega
  have H0 := Lib.hid h0
  have R0 := Lib.hid r0
  have HL0 := Lib.hid hn0
  clear h0 r0 hz hn0
  go_enter Try.func15, Try.ntmps15
  go_wp2_with fail
  refine (new_run 0 W (by omega)).mono ?_
  rintro e w2 ⟨rfl, hw2⟩
  have HT := Lib.hid (TH.first (w0 := W) W (Below.refl _ _))
  subst hw2
  generalize hst : ([⟨W.heap.size + 2, W.heap.size + 1, .slice none 0 0⟩] : List PL) = st at *
  have HG := Lib.hid (show st.length = 1 ∧ st.map PL.g = [W.heap.size + 2] ∧ ∀ x ∈ st, x.u.ownBlock = none by
    subst hst; exact ⟨rfl, rfl, fun x hx => by simp at hx; subst hx; rfl⟩)
  clear hst
  generalize hw2 : ((W.alloc muObj).alloc (chObj false)).alloc (.cells ((newSR 0 (W.heap.size + 1)).cells W.heap.size) 70) = w2 at *
  clear hw2
  generalize W.heap.size + 2 = g at *
  go_wp2_with fail
  go_loopw [7, 8, 9, 10, 11, 12] (fun v7 v8 v9 v10 v11 v12 wr => ∃ (i m : Nat) (st : List PL) (up : List Nat), v9 = .int .i64 i ∧ i ≤ n0 ∧ Hid (GT W wr m st up (i + 1) v7 v8)) (fun _ _ v9 _ _ _ _ => n0 - (intOf v9).toNat)
  case atStart => exact ⟨0, _, st, [0], rfl, Nat.zero_le _, Lib.hid (GT.start HT.out HG.out.1 HG.out.2.1 HG.out.2.2)⟩
  case round =>
    clear HT HG
    obtain ⟨i, m, st, up, rfl, hin, HG⟩ := hrel
    have hcn := HG.out.cnt
    obtain ⟨g7, k7, e7, _⟩ := Kd.R_form HG.out.rowP (by rw [List.length_map, hcn]; omega)
    rw [List.length_map, hcn] at e7
    subst e7
    obtain ⟨A8, k8, e8⟩ := Kd.R_slice HG.out.rowI
    have hul : (upI up).length = i + 1 := by rw [upI_len up (by rw [HG.out.th.len, hcn]; omega), HG.out.th.len, hcn]
    rw [hul] at e8
    subst e8
    have HUL := Lib.hid hul
    have HCN := Lib.hid hcn
    clear hul hcn
    by_cases hlt : i < n0
    · obtain ⟨a0, rfl, hx⟩ := at_I (Kd.C_below H0.out HG.out.th.below) (i : Int) (by omega) (by omega)
      simp only [Int.toNat_natCast] at hx
      have hc := R0.out (B.getD i 0) (by
        have : i < B.length := by have := HL0.out; omega
        simp [List.getD, this])
      generalize B.getD i 0 = c at *
      go_wp2_with fail
      refine (pick_run c ((i + 1 : Nat) : Int) wr hc ⟨by omega, by omega⟩).mono ?_
      rintro e w2 ⟨rfl, rfl⟩
      have hpk := pickF_in c ((i + 1 : Nat) : Int) (by omega)
      obtain ⟨k, hk⟩ : ∃ k : Nat, pickF c ((i + 1 : Nat) : Int) = k := ⟨(pickF c ((i + 1 : Nat) : Int)).toNat, (Int.toNat_of_nonneg hpk.1).symm⟩
      rw [hk] at hpk ⊢
      have hkn : k < i + 1 := by omega
      clear hk hpk
      have hx8 := read_P HG.out.rowP k hkn
      have HU := Lib.hid (HG.out.under k hkn (by omega))
      generalize (st.map PL.g).getD k 0 = gk at *
      have hlenP : ((st.map PL.g).length + 1) * 8 ≤ 140737488355328 := by rw [List.length_map, HCN.out]; omega
      have hlenI : ((upI up).length + 1) * 8 ≤ 140737488355328 := by rw [HUL.out]; omega
      have HLP := Lib.hid hlenP
      have HLI := Lib.hid hlenI
      clear hlenP hlenI
      go_wp2_with fail
      refine HU.out.mono ?_
      clear HU hx8 hx
      rintro e w5 ⟨st', g, rfl, hM⟩
      have HM := Lib.hid hM
      clear hM HG
      generalize st.map PL.g = gs at *
      obtain ⟨A7, hA7⟩ : ∃ A7 : Option Addr, A7 = some ⟨g7, 0, none⟩ := ⟨_, rfl⟩
      rw [← hA7] at HM ⊢
      clear hA7
      go_wp2_with (at_builtin; first | (refine Kd.R_append kP (w0 := W) W.heap.size rfl (.tmp 53) (.tmp 55) 24 25 (.pointer none) 8 rfl Try.underlying24 infoP25 rfl (by decide) (by omega) (.slice A7 (i + 1) k7) gs g [.pointer (some ⟨g, 0, none⟩)] (fun _ => True) (fun _ => False) rfl rfl ?aP (fun _ hk => hk.elim) ?aF ?aO ?aB ?aS ?aL ?_; (case aP => rfl); (case aF => exact fun _ _ => trivial); (case aO => exact HM.out.rowP); (case aB => exact HM.out.th.below); (case aS => exact HM.out.th.below.size); (case aL => exact HLP.out); intro v1 w3 ho hb hg hat; have HM2 := Lib.hid (HM.out.step ho hb hg hat); clear ho hb hg hat HM) | (refine Kd.R_append kI (w0 := W) W.heap.size rfl (.tmp 57) (.tmp 59) 23 3 (.int .i64 0) 8 rfl Try.underlying23 infoI3 rfl (by decide) (by omega) (.slice A8 (i + 1) k8) (upI up) (k : Int) [.int .i64 k] (fun _ => True) (fun _ => False) rfl rfl ?aP (fun _ hk => hk.elim) ?aF ?aO ?aB ?aS ?aL ?_; (case aP => rfl); (case aF => exact fun _ _ => trivial); (case aO => exact HM2.out.rowI); (case aB => exact HM2.out.th.below); (case aS => exact HM2.out.th.below.size); (case aL => exact HLI.out); intro v2 w4 ho hb hg hat; have HM3 := Lib.hid (HM2.out.step (Nat.succ_pos _) ho hb hg); clear ho hb hg hat HM2))
      go_roundw
      case rel => exact ⟨i + 1, m, st', up ++ [k], by go_num, by omega, HM3⟩
      case measure => simp [intOf]; omega
    · obtain rfl : n0 = i := by omega
      go_wp2_with fail
      go_ret3
      exact ⟨m, st, up, _, _, rfl, HG.out⟩
end Go.Proofs.Ytofbnoiecpmjnaa.Pr
