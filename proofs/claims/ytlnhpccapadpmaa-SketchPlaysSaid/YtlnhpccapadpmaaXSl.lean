/- Contracts of package sketch: Less, in the print's form. -/
import Derived.Test.YtlnhpccapadpmaaXSn
namespace Go.Proofs.Ytlnhpccapadpmaa.Pr
open Go.RowKit Go.Proofs.YtlnhpccapadpmaaW.PrintWords Go.Proofs.YtlnhpccapadpmaaW.PrintLast Go.Proofs.YtlnhpccapadpmaaW.PrintMore
set_option linter.unusedVariables false
set_option linter.unusedSimpArgs false

theorem wrap_u64 (x : Int) (h0 : 0 ≤ x) (h1 : x ≤ 18446744073709551615) : IntKind.u64.wrap x = x := by
  have e : IntKind.u64.wrap x = x % 18446744073709551616 := by
    simp [IntKind.wrap, IntKind.bits, IntKind.signed]
  rw [e]; omega
def lessRow : List Int → List S61 → Option (List Int)
  | r, [] => some r
  | r, x :: t => if r.getD x.f0.toNat 0 < x.f1 then none else lessRow (r.set x.f0.toNat (r.getD x.f0.toNat 0 - x.f1)) t
def lessEnd : Option (List Int) → Option (List S61 × Int)
  | none => some ([], 134)
  | some r => some (barsFrom 0 r, 0)
def sketch_Less.f (a b : List S61) : Option (List S61 × Int) :=
  if (short a && short b && a.all okB && b.all okB) = true then (if barsOK (-1) a = true then (if barsOK (-1) b = true then lessEnd (lessRow (laidRow zrow a) b) else some ([], 131)) else some ([], 131)) else none

set_option maxHeartbeats 1000000 in
set_option maxRecDepth 100000 in
theorem sketch_Less.calls (A0 : Option Addr) (c0 : Nat) (l0 : List S61) (A1 : Option Addr) (c1 : Nat) (l1 : List S61) (r1 : List S61) (r2 : Int) (w : World) (hr0 : Kd.C k61 w A0 l0.length l0) (hc0 : l0.length ≤ c0) (hr1 : Kd.C k61 w A1 l1.length l1) (hc1 : l1.length ≤ c1) (h : sketch_Less.f l0 l1 = some (r1, r2)) :
    Calls Try.prog 27 #[.slice A0 l0.length c0, .slice A1 l1.length c1] w fun e w' => ∃ v0_ : Value, e = .returned (.tuple #[v0_, .int .i64 r2]) ∧ Kd.R k61 61 w' w.heap.size (fun _ => True) v0_ r1 ∧ Below w.heap.size w w' := by
  show Calls Try.prog 27 _ w fun e w' => ListPost w r1 r2 e w'
  unfold sketch_Less.f at h
  by_cases hs : (short l0 && short l1 && l0.all okB && l1.all okB) = true
  · rw [if_pos hs] at h
    simp only [Bool.and_eq_true] at hs
    have hs0 : l0.length ≤ 140737488355328 := by simpa [short] using hs.1.1.1
    have hs1 : l1.length ≤ 140737488355328 := by simpa [short] using hs.1.1.2
    have HL := Lib.hid (laid_any A0 c0 l0 w hr0 hc0 hs0)
    have HR1 := Lib.hid hr1
    have HOK := Lib.hid (okRow_laid l0 zrow okRow_zrow hs.1.2)
    have HB1 := Lib.hid (fun x (hx : x ∈ l1) => okB_of hs.2 hx)
    have H := Lib.hid h
    clear hr0 hc0 hr1 hs h hs0
    go_enter Try.func27, Try.ntmps27
    go_wp2_with fail
    refine HL.out.mono ?_
    rintro e w1 ⟨hbel, h1⟩
    have HB := Lib.hid hbel
    have HM := Lib.hid (laid_any A1 c1 l1 w1 (Kd.C_below HR1.out hbel) hc1 hs1)
    have HC := Lib.hid hc1
    clear hbel HL hc1
    rcases h1 with ⟨hb0, rfl⟩ | ⟨hb0, g, rfl, hgB, hg⟩
    · have e1 := H.out
      rw [hb0] at e1
      simp only [Bool.false_eq_true, if_false, Option.some.injEq, Prod.mk.injEq] at e1
      obtain ⟨rfl, rfl⟩ := e1
      clear hb0 H
      go_wp2_with fail
      refine HM.out.mono ?_
      rintro e w2 ⟨hbel, h2⟩
      have HB' := Lib.hid (below_trans' HB.out hbel)
      clear hbel
      rcases h2 with ⟨_, rfl⟩ | ⟨_, g, rfl, _, _⟩
      · go_wp2
        go_ret2
        exact ListPost.no _ HB'.out
      · go_wp2
        go_ret2
        exact ListPost.no _ HB'.out
    · have e1 := H.out
      rw [hb0] at e1
      simp only [if_true] at e1
      have H1 := Lib.hid e1
      have HG := Lib.hid hg
      have HGB := Lib.hid hgB
      clear hb0 H e1 hg hgB
      go_wp2_with fail
      refine HM.out.mono ?_
      rintro e w2 ⟨hbel, h2⟩
      have HB' := Lib.hid (below_trans' HB.out hbel)
      have HG' := Lib.hid (blk_below HG.out hbel)
      clear hbel HB HG HM
      rcases h2 with ⟨hb1, rfl⟩ | ⟨hb1, g2, rfl, _, _⟩
      · have e1 := H1.out
        rw [hb1] at e1
        simp only [Bool.false_eq_true, if_false, Option.some.injEq, Prod.mk.injEq] at e1
        obtain ⟨rfl, rfl⟩ := e1
        clear hb1 H1
        go_wp2
        go_ret2
        exact ListPost.no _ HB'.out
      · have e1 := H1.out
        rw [hb1] at e1
        simp only [if_true] at e1
        have HF := Lib.hid e1
        have HX := Lib.hid (fun x (hx : x ∈ l1) => barsOK_mem l1 (-1) hb1 x hx)
        clear hb1 H1 e1
        have HGB' := HGB
        go_wp2_with fail
        go_loopw [30] (fun v30 wr => ∃ (k : Nat) (row : List Int), v30 = .int .i64 k ∧ k ≤ l1.length ∧ Hid (okRow row = true) ∧
          Hid (lessEnd (lessRow row (l1.drop k)) = some (r1, r2)) ∧ Hid (wr.heap[g]? = some (.cells (rowCells row) 76 (0, 0))) ∧ Hid (Below w.heap.size w wr)) (fun v30 _ => l1.length - (intOf v30).toNat)
        case atStart => exact ⟨0, laidRow zrow l0, rfl, Nat.zero_le _, HOK, Lib.hid (by simpa using HF.out), HG', HB'⟩
        case round =>
          obtain ⟨k, row, rfl, hk, HOr, HL, HG, HB⟩ := hrel
          by_cases hlt : k < l1.length
          · obtain ⟨ad, rfl, hx0, hx1⟩ := at_T61 (Kd.C_below HR1.out HB.out) k (by omega) (by omega)
            have HD := Lib.hid (drop_cons61 l1 k hlt)
            have HQ := Lib.hid (HX.out _ (rd_mem l1 k hlt))
            have HW := Lib.hid (HB1.out _ (rd_mem l1 k hlt))
            simp only [Int.toNat_natCast] at hx0 hx1
            generalize rd_T61 l1 k = b at hx0 hx1 HD HQ HW
            have hgs : g < wr.heap.size := blk_lt HG.out
            have hb0 : 0 ≤ b.f0 := by have := HQ.out; omega
            have hb1 : b.f0 < 1920 := HQ.out.2.1
            have hc := (cell_of_row wr g b.f0.toNat _ _ _ HG.out).trans (rowCells_get row b.f0.toNat (by have := okRow_len HOr.out; omega))
            have hf := blk_frozen HG.out b.f0.toNat
            have HV := Lib.hid (okRow_get HOr.out b.f0.toNat (by omega))
            have HL2 := HL.out
            rw [HD.out] at HL2
            simp only [lessRow] at HL2
            generalize hx : row.getD b.f0.toNat 0 = x at *
            have HXX := Lib.hid hx
            clear hx
            by_cases hless : x < b.f1
            · rw [if_pos hless] at HL2
              simp only [lessEnd, Option.some.injEq, Prod.mk.injEq] at HL2
              obtain ⟨rfl, rfl⟩ := HL2
              clear HL
              go_wp2_with fail
              go_quiet (fail)
              go_wp2
              go_ret2
              refine ListPost.no _ ?_
              exact pw_below_drewN (HB.out.alloc HB.out.size _) _
            · rw [if_neg hless] at HL2
              have HL3 := Lib.hid HL2
              clear HL2
              go_wp2_with fail
              go_quiet (fail)
              go_wp2_with fail
              have hwr : IntKind.u64.wrap (x - b.f1) = x - b.f1 := by
                have h1 := HV.out
                have h2 := HW.out
                unfold M64 at h1 h2
                exact wrap_u64 _ (by omega) (by omega)
              go_region
              all_goals go_wp2
              all_goals go_roundw
              case rel =>
                have HA := heap_setCell_same ((wr.alloc (.cells #[.int .i64 b.f0, .int .u64 b.f1] 61)).drewN (nq + 1)) g b.f0.toNat _ 76 (.int .u64 (x - b.f1)) (blk_drewN (blk_alloc HG.out _) _)
                rw [rowCells_set] at HA
                refine ⟨k + 1, row.set b.f0.toNat (x - b.f1), by go_num, by omega, Lib.hid (okRow_set HOr.out _ _ ?_), ?_, Lib.hid HA, Lib.hid ?_⟩
                · have h1 := HV.out
                  have h2 := HW.out
                  omega
                · exact HL3
                · exact (pw_below_drewN (HB.out.alloc HB.out.size _) _).setCell (p := ⟨g, b.f0.toNat, none⟩) HGB'.out _
              case measure => simp [intOf]; omega
          · have hkl : k = l1.length := by omega
            subst hkl
            have e1 : l1.drop l1.length = [] := by simp
            have e2 := HL.out
            rw [e1] at e2
            simp only [lessRow, lessEnd, Option.some.injEq, Prod.mk.injEq] at e2
            obtain ⟨rfl, rfl⟩ := e2
            clear e1
            go_wp2_with fail
            refine (bars_any g row wr (okRow_len HOr.out) HG.out).mono ?_
            rintro e w4 ⟨v, rfl, hR, hB4⟩
            have HR := Lib.hid hR
            have HB4 := Lib.hid hB4
            clear hR hB4
            go_wp2
            go_ret2
            exact ListPost.yes HB.out HR.out HB4.out
  · rw [if_neg hs] at h; exact absurd h (by simp)
end Go.Proofs.Ytlnhpccapadpmaa.Pr
