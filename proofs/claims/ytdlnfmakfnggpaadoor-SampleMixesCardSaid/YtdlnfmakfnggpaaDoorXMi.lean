/- SampleMixes' walk. -/
import Derived.Test.YtdlnfmakfnggpaaDoorMw
import Derived.Test.YtdlnfmakfnggpaaDoorMy
import Derived.Test.YtdlnfmakfnggpaaDoorXAm
import Derived.Test.YtdlnfmakfnggpaaDoorPr0e
namespace Go.Proofs.YtdlnfmakfnggpaaDoor.Pr
open Go.RowKit Go.Lib Go.Proofs.YtdlnfmakfnggpaaDoorW.PrintWords
set_option linter.unusedVariables false
set_option linter.unusedSimpArgs false
theorem nat_of' {a : Int} (h : (Lit.int .u64 a).wf = true) : ∃ n : Nat, a = n ∧ n < 2 ^ 64 := by
  have h' : 0 ≤ a ∧ a ≤ 18446744073709551615 := by simpa [Lit.wf, IntKind.min, IntKind.max, IntKind.signed, IntKind.bits] using h
  exact ⟨a.toNat, by omega, by omega⟩
theorem info30' : (Tryd.prog.info? 30).map (fun i => (i.zero, i.size, i.bytes)) = some (some (.agg #[.int .i64 0, .int .u64 0, .string ByteArray.empty, .int .i64 0]), 4, 40) := by kernel_rfl
theorem k30_KM (w : World) (base : Nat) (x : S30) (cs : List Value) (h : k30.K w x cs) : k30.M w base (fun _ => False) x cs := by
  obtain rfl := k30_open h
  exact k30_mkM _ _ _ x
def spare : S30 := ⟨0, 0, ⟨#[115, 112, 97, 114, 101]⟩, 0⟩
set_option maxHeartbeats 4000000 in
set_option maxRecDepth 100000 in
theorem mixes_run (hi lo : Int) (A : Option Addr) (c : Nat) (l : List S30) (w : World) (hr : Kd.C k30 w A l.length l) (hc : l.length ≤ c) (hl : l.length * 40 ≤ 140737488351232) (ho : ∀ x ∈ l, x.f2.size ≤ 140737488351232) (hT : Tabs w)
    (mx : Int) (hm : sample_Mix.f hi lo = some mx) : Calls Tryd.prog 4 #[.agg #[.int .u64 hi, .int .u64 lo], .slice A l.length c] w (BoolPost w true) := by
  have hm2 : spoorref21_Mix.f hi lo = some mx := hm
  have hB0 := (Below.refl w.heap.size w).alloc (Nat.le_refl _) (.cells #[.int .u64 hi, .int .u64 lo] 26)
  have HB0 := Lib.hid hB0
  have HT0 := Lib.hid (blk_new w (.cells #[.int .u64 hi, .int .u64 lo] 26))
  have HR := Lib.hid hr
  have HRC := Lib.hid (refcheck_eq l (by omega) ho)
  have HPO := Lib.hid (show ∀ W, Below w.heap.size w W → polOK l W from fun W hW x hx => ⟨Nat.le_trans (ho x hx) (by decide), valid_tabs (Nat.le_trans (ho x hx) (by decide)) (hT.below hW)⟩)
  have HM1 := Lib.hid hm
  have HM2 := Lib.hid hm2
  have hlen : l.length ≤ 9223372036854775807 := by omega
  clear hr ho hT hm hm2 hB0
  go_enter Tryd.func4, Tryd.ntmps4
  go_wp2_with fail
  refine (alive_run _).mono ?_
  rintro e w1 ⟨rfl, hb⟩
  have HB1 := Lib.hid (HB0.out.trans (hb.mono HB0.out.size))
  have HT1 := Lib.hid (blk_below HT0.out hb)
  clear hb
  go_wp2_with (first
    | (at_builtin; refine Kd.R_append_rows k30 (Rr := k30.K w1) (w0 := w) w.heap.size rfl (.tmp 10) (.tmp 11) 27 30 (.agg #[.int .i64 0, .int .u64 0, .string ByteArray.empty, .int .i64 0]) 40 rfl Tryd.underlying27 info30' rfl (by decide) (by decide) (.slice none 0 0) ([] : List S30) l A l.length c (fun _ => True) (fun _ => False) rfl rfl (Kd.R_nil _ _ _ _ _) (Kd.C_below HR.out HB1.out) (fun x cs h => k30_KM w1 _ x cs h) (fun _ hk => hk.elim) (fun _ _ => trivial) HB1.out HB1.out.size (by simp; omega) ?_; intro v1 w2 ho hb hg hat; have HO1 := Lib.hid ho; have HB2 := Lib.hid hb; have HG1 := Lib.hid (show w1.grownBy w2 none from hg); clear ho hb hg hat)
    | (at_builtin; go_loud (refine Kd.R_append k30 (w0 := w) w.heap.size rfl (.tmp 13) (.tmp 15) 27 30 (.agg #[.int .i64 0, .int .u64 0, .string ByteArray.empty, .int .i64 0]) 40 rfl Tryd.underlying27 info30' rfl (by decide) (by decide) v1 ([] ++ l) spare [.int .i64 0, .int .u64 0, .string ⟨#[115, 112, 97, 114, 101]⟩, .int .i64 0] (fun _ => True) (fun _ => False) rfl rfl (k30_mkM _ _ _ spare) (fun _ hk => hk.elim) (fun _ _ => trivial) HO1.out HB2.out HB2.out.size (by simp; omega) ?_; intro v2 w3 ho hb hg hat; obtain ⟨g2, cap2, he2, hbg, _, _⟩ := Kd.R_form ho (by simp); have he3 : v2 = .slice (some ⟨g2, 0, none⟩) (l.length + 1) cap2 := (he2.trans (by simp)); clear he2; subst he3; have hcp : l.length + 1 ≤ cap2 := (Kd.R_reads' ho).2.1; have hcp2 : (l.length : Int) ≤ (cap2 : Int) := (by omega); have HO2 := Lib.hid ho; have HB3 := Lib.hid hb; have HG2 := Lib.hid hg; clear ho hb hg hat)))
  have elen : (([] : List S30) ++ l ++ [spare]).length = l.length + 1 := by simp
  have hown := (Kd.R_reads' HO2.out).2.2
  rw [elen] at hown
  have htk := Kd.R_take HO2.out (m := l.length) (by simp)
  have etk : (([] : List S30) ++ l ++ [spare]).take l.length = l := by simp
  rw [etk] at htk
  have HCK := Lib.hid (polcheck_run (some ⟨g2, 0, none⟩) cap2 l w3 (Kd.R_reads' htk).2.2 (HPO.out w3 HB3.out))
  have hT2 : w2.heap[w.heap.size]? = some (.cells #[.int .u64 hi, .int .u64 lo] 26 (0, 0)) := (HG1.out.block _ (blk_lt HT1.out) (by simp)).trans HT1.out
  have HT3 : Hid (w3.heap[w.heap.size]? = some (.cells #[.int .u64 hi, .int .u64 lo] 26 (0, 0))) := (HG2.out.block _ (blk_lt hT2) (Kd.R_ne HO1.out hT2 (by decide))).trans hT2
  have HOW := Lib.hid hown
  clear hown htk hT2 elen etk
  go_wp2_with fail
  refine HCK.out.mono ?_
  rintro e w4 ⟨rfl, hb⟩
  have HB34 := Lib.hid hb
  have HB4 := Lib.hid (HB3.out.trans (hb.mono HB3.out.size))
  clear hb
  go_wp2_with fail
  have HEX := Lib.hid (fun (k : Nat) (hk : k < l.length) => at_T30 HOW.out (k : Int) (by omega) (by omega))
  have HEL := Lib.hid (at_T30 HOW.out (l.length : Int) (by omega) (by omega))
  have HRE : Hid (∀ k : Nat, k < l.length → rd_T30 (([] : List S30) ++ l ++ [spare]) (k : Int) = rd_T30 l (k : Int)) := fun k hk => by
    simp [rd_T30, List.getD, List.getElem?_append_left hk]
  have HRL : Hid (rd_T30 (([] : List S30) ++ l ++ [spare]) (l.length : Int) = spare) := by
    show rd_T30 (([] : List S30) ++ l ++ [spare]) (l.length : Int) = spare
    simp [rd_T30, List.getD]
  have HBW3 := Lib.hid HB34.out.size
  generalize polF l = pe at *
  go_loopw [8] (fun v8 wr => ∃ k : Nat, v8 = .int .i64 k ∧ k ≤ l.length ∧ Hid (Below w4.heap.size w4 wr)) (fun v8 _ => l.length - (intOf v8).toNat)
  case atStart => exact ⟨0, rfl, Nat.zero_le _, Lib.hid (Below.refl _ _)⟩
  case round =>
    obtain ⟨k, rfl, hk, HW⟩ := hrel
    have hb3 : Below w3.heap.size w3 wr := HB34.out.trans (HW.out.mono HB34.out.size)
    have hbw : Below w.heap.size w wr := HB3.out.trans (hb3.mono HB3.out.size)
    by_cases hlt : k < l.length
    · obtain ⟨ad, hA, o0, o1, o2, o3⟩ := HEX.out k hlt
      cases hA
      rw [HRE.out k hlt] at o0 o1 o2 o3
      rw [Int.toNat_natCast, Addr.add_lit, Nat.zero_add] at o0 o1 o2 o3
      obtain ⟨ad, hA, y0, _⟩ := at_T30 HR.out 0 (by omega) (by omega)
      obtain ⟨ab, ao, sp⟩ := ad
      obtain rfl : sp = none := Go.Proofs.cell_spot y0
      obtain ⟨ad, hA', x0, x1, x2, x3⟩ := at_T30 HR.out (k : Int) (by omega) (by omega)
      rw [hA] at hA'
      cases hA'
      subst hA
      rw [Int.toNat_natCast, Addr.add_lit] at x0 x1 x2 x3
      simp only [] at x0 x1 x2 x3 o0 o1 o2 o3
      generalize rd_T30 l (k : Int) = p at *
      obtain ⟨kd, na, nm, pt⟩ := p
      have P0 := fun x : Wx wr => x.cell (pw_cell_below hb3 o0)
      have P1 := fun x : Wx wr => x.cell (pw_cell_below hb3 o1)
      have P2 := fun x : Wx wr => x.cell (pw_cell_below hb3 o2)
      have P3 := fun x : Wx wr => x.cell (pw_cell_below hb3 o3)
      have Q0 := fun x : Wx wr => x.cell (pw_cell_below hbw x0)
      have Q1 := fun x : Wx wr => x.cell (pw_cell_below hbw x1)
      have Q2 := fun x : Wx wr => x.cell (pw_cell_below hbw x2)
      have Q3 := fun x : Wx wr => x.cell (pw_cell_below hbw x3)
      have hlk : (k : Int) < (l.length : Int) := by omega
      have hlk2 : (k : Int) < (l.length : Int) + 1 := by omega
      clear o0 o1 o2 o3 x0 x1 x2 x3 y0 hb3 hbw
      dsimp only at *
      go_wp2_with fail
      refine wp_region_ext (by kernel_rfl) (by kernel_rfl) ?_
      repeat (go_big_quiet_step (fail))
      refine wpQuiet_nil ?_
      intro _ hw'
      obtain ⟨xx, rfl⟩ := hw'
      clear P0 P1 P2 P3 Q0 Q1 Q2 Q3
      go_wp2_with fail
      go_roundw
      case rel => exact ⟨k + 1, by go_num, by omega, Lib.hid (HW.out.trans (xx.h.mono HW.out.size))⟩
      case measure => simp [intOf]; omega
    · obtain rfl : k = l.length := by omega
      obtain ⟨ad, hA, o0, o1, o2, o3⟩ := HEL.out
      cases hA
      rw [HRL.out] at o2
      rw [Int.toNat_natCast, Addr.add_lit, Nat.zero_add] at o2
      simp only [] at o2
      have hT4 := blk_below HT3.out hb3
      have P2 : ∀ x : Wx wr, x.W.cell? ⟨g2, l.length * 4 + 2, none⟩ = some (.string ⟨#[115, 112, 97, 114, 101]⟩) := fun x => x.cell (pw_cell_below hb3 o2)
      have T0 := fun x : Wx wr => x.cell ((cell_of_row _ _ 0 _ _ _ hT4).trans rfl)
      have T1 := fun x : Wx wr => x.cell ((cell_of_row _ _ 1 _ _ _ hT4).trans rfl)
      have C1 : Hid (∀ x : Wx wr, Calls Tryd.prog 12 #[.agg #[.int .u64 hi, .int .u64 lo]] x.W fun e w' => e = .returned (.int .u64 mx) ∧ Below x.W.heap.size x.W w') := fun x => sample_Mix.calls hi lo mx x.W HM1.out
      have C2 : Hid (∀ x : Wx wr, Calls Tryd.prog 14 #[.agg #[.int .u64 hi, .int .u64 lo]] x.W fun e w' => e = .returned (.int .u64 mx) ∧ Below x.W.heap.size x.W w') := fun x => spoorref21_Mix.calls hi lo mx x.W HM2.out
      have C3 : Hid (∀ x : Wx wr, Calls Tryd.prog 15 #[.slice A l.length c] x.W fun e w' => e = .returned (.int .i64 pe) ∧ Below x.W.heap.size x.W w') := fun x => spoorref21_Check.calls (l.length + 140737488351247) A c l pe x.W (Kd.C_below HR.out (hbw.trans (x.h.mono hbw.size))) hc HRC.out
      have HBW := Lib.hid hbw
      have hlk2 : (l.length : Int) < (l.length : Int) + 1 := by omega
      clear o0 o1 o2 o3 hb3 hbw hT4
      go_wp2_with fail
      refine wp_region_ext (by kernel_rfl) (by kernel_rfl) ?_
      repeat (go_big_quiet_step (first | (go_at_call 12; exact Calls.ext_of (C1.out _)) | (go_at_call 14; exact Calls.ext_of (C2.out _)) | (go_at_call 15; exact Calls.ext_of (C3.out _))))
      refine wpQuiet_nil ?_
      intro _ hw'
      obtain ⟨xx, rfl⟩ := hw'
      clear P2 T0 T1
      go_wp2_with fail
      go_ret
      exact ⟨rfl, HBW.out.trans (xx.h.mono HBW.out.size)⟩
end Go.Proofs.YtdlnfmakfnggpaaDoor.Pr
