/- Contracts of package sketch: Merge, Less, in the print's form. -/
import Derived.Test.YtlnhpccapadpmaaXSm
namespace Go.Proofs.Ytlnhpccapadpmaa.Pr
open Go.RowKit Go.Proofs.YtlnhpccapadpmaaW.PrintWords Go.Proofs.YtlnhpccapadpmaaW.PrintLast Go.Proofs.YtlnhpccapadpmaaW.PrintMore
set_option linter.unusedVariables false
set_option linter.unusedSimpArgs false

theorem barsOK_mem : ∀ (l : List S61) (last : Int), barsOK last l = true → ∀ x ∈ l, last < x.f0 ∧ x.f0 < 1920 ∧ x.f1 ≠ 0
  | [], _, _, x, hx => by cases hx
  | b :: t, last, h, x, hx => by
    simp only [barsOK, Bool.and_eq_true, Bool.not_eq_true', decide_eq_false_iff_not, beq_eq_false_iff_ne] at h
    rcases List.mem_cons.1 hx with rfl | hx
    · exact ⟨by omega, by omega, h.1.2⟩
    · have := barsOK_mem t b.f0 h.2 x hx
      exact ⟨by omega, this.2⟩
theorem rd_mem (l : List S61) (k : Nat) (h : k < l.length) : rd_T61 l k ∈ l := by
  simp [rd_T61, List.getD, h]
theorem okB_of {l : List S61} (h : l.all okB = true) {x : S61} (hx : x ∈ l) : 0 ≤ x.f1 ∧ x.f1 ≤ M64 := by
  have := List.all_eq_true.1 h x hx
  simpa [okB] using this
def mergeRow : List Int → List S61 → List Int
  | r, [] => r
  | r, x :: t => mergeRow (putRow r x.f0 x.f1) t
theorem okRow_put {r : List Int} (h : okRow r = true) (i n : Int) (hi : 0 ≤ i ∧ i < 1920) (hn : 0 ≤ n) : okRow (putRow r i n) = true :=
  okRow_set h _ _ (satAdd_ok (okRow_get h _ (by omega)).1 hn)

def sketch_Merge.f (a b : List S61) : Option (List S61 × Int) :=
  if (short a && short b && a.all okB && b.all okB) = true then (if barsOK (-1) a = true then (if barsOK (-1) b = true then some (barsFrom 0 (mergeRow (laidRow zrow a) b), 0) else some ([], 131)) else some ([], 131)) else none

set_option maxHeartbeats 1000000 in
set_option maxRecDepth 100000 in
theorem sketch_Merge.calls (A0 : Option Addr) (c0 : Nat) (l0 : List S61) (A1 : Option Addr) (c1 : Nat) (l1 : List S61) (r1 : List S61) (r2 : Int) (w : World) (hr0 : Kd.C k61 w A0 l0.length l0) (hc0 : l0.length ≤ c0) (hr1 : Kd.C k61 w A1 l1.length l1) (hc1 : l1.length ≤ c1) (h : sketch_Merge.f l0 l1 = some (r1, r2)) :
    Calls Try.prog 19 #[.slice A0 l0.length c0, .slice A1 l1.length c1] w fun e w' => ∃ v0_ : Value, e = .returned (.tuple #[v0_, .int .i64 r2]) ∧ Kd.R k61 61 w' w.heap.size (fun _ => True) v0_ r1 ∧ Below w.heap.size w w' := by
  show Calls Try.prog 19 _ w fun e w' => ListPost w r1 r2 e w'
  unfold sketch_Merge.f at h
  by_cases hs : (short l0 && short l1 && l0.all okB && l1.all okB) = true
  · rw [if_pos hs] at h
    simp only [Bool.and_eq_true] at hs
    have hs0 : l0.length ≤ 140737488355328 := by simpa [short] using hs.1.1.1
    have hs1 : l1.length ≤ 140737488355328 := by simpa [short] using hs.1.1.2
    have HL := Lib.hid (laid_any A0 c0 l0 w hr0 hc0 hs0)
    have HR1 := Lib.hid hr1
    have HOK := Lib.hid (okRow_laid l0 zrow okRow_zrow hs.1.2)
    have HB1 := Lib.hid (fun x (hx : x ∈ l1) => okB_of hs.2 hx)
    have H := Lib.hid h
    clear hr0 hc0 hr1 hs h hs0
    go_enter Try.func19, Try.ntmps19
    go_wp2_with fail
    refine HL.out.mono ?_
    rintro e w1 ⟨hbel, h1⟩
    have HB := Lib.hid hbel
    have HM := Lib.hid (laid_any A1 c1 l1 w1 (Kd.C_below HR1.out hbel) hc1 hs1)
    have HC := Lib.hid hc1
    clear hbel HL hc1
    rcases h1 with ⟨hb0, rfl⟩ | ⟨hb0, g, rfl, hgB, hg⟩
    · have e1 := H.out
      rw [hb0] at e1
      simp only [Bool.false_eq_true, if_false, Option.some.injEq, Prod.mk.injEq] at e1
      obtain ⟨rfl, rfl⟩ := e1
      clear hb0 H
      go_wp2_with fail
      refine HM.out.mono ?_
      rintro e w2 ⟨hbel, h2⟩
      have HB' := Lib.hid (below_trans' HB.out hbel)
      clear hbel
      rcases h2 with ⟨_, rfl⟩ | ⟨_, g, rfl, _, _⟩
      · go_wp2
        go_ret2
        exact ListPost.no _ HB'.out
      · go_wp2
        go_ret2
        exact ListPost.no _ HB'.out
    · have e1 := H.out
      rw [hb0] at e1
      simp only [if_true] at e1
      have H1 := Lib.hid e1
      have HG := Lib.hid hg
      have HGB := Lib.hid hgB
      clear hb0 H e1 hg hgB
      go_wp2_with fail
      refine HM.out.mono ?_
      rintro e w2 ⟨hbel, h2⟩
      have HB' := Lib.hid (below_trans' HB.out hbel)
      have HG' := Lib.hid (blk_below HG.out hbel)
      clear hbel HB HG HM
      rcases h2 with ⟨hb1, rfl⟩ | ⟨hb1, g2, rfl, _, _⟩
      · have e1 := H1.out
        rw [hb1] at e1
        simp only [Bool.false_eq_true, if_false, Option.some.injEq, Prod.mk.injEq] at e1
        obtain ⟨rfl, rfl⟩ := e1
        clear hb1 H1
        go_wp2
        go_ret2
        exact ListPost.no _ HB'.out
      · have e1 := H1.out
        rw [hb1] at e1
        simp only [if_true, Option.some.injEq, Prod.mk.injEq] at e1
        obtain ⟨rfl, rfl⟩ := e1
        have HX := Lib.hid (fun x (hx : x ∈ l1) => barsOK_mem l1 (-1) hb1 x hx)
        clear hb1 H1
        have HGB' := HGB
        go_wp2_with fail
        go_loopw [30] (fun v30 wr => ∃ (k : Nat) (row : List Int), v30 = .int .i64 k ∧ k ≤ l1.length ∧ Hid (okRow row = true) ∧
          Hid (mergeRow (laidRow zrow l0) l1 = mergeRow row (l1.drop k)) ∧ Hid (wr.heap[g]? = some (.cells (rowCells row) 76 (0, 0))) ∧ Hid (Below w.heap.size w wr)) (fun v30 _ => l1.length - (intOf v30).toNat)
        case atStart => exact ⟨0, laidRow zrow l0, rfl, Nat.zero_le _, HOK, Lib.hid (by simp), HG', HB'⟩
        case round =>
          obtain ⟨k, row, rfl, hk, HOr, HL, HG, HB⟩ := hrel
          by_cases hlt : k < l1.length
          · obtain ⟨ad, rfl, hx0, hx1⟩ := at_T61 (Kd.C_below HR1.out HB.out) k (by omega) (by omega)
            have HD := Lib.hid (drop_cons61 l1 k hlt)
            have HQ := Lib.hid (HX.out _ (rd_mem l1 k hlt))
            have HW := Lib.hid (HB1.out _ (rd_mem l1 k hlt))
            simp only [Int.toNat_natCast] at hx0 hx1
            generalize rd_T61 l1 k = b at hx0 hx1 HD HQ HW
            have hgs : g < wr.heap.size := blk_lt HG.out
            go_wp2_with fail
            have HGa := Lib.hid (blk_alloc HG.out (.cells #[.int .i64 b.f0, .int .u64 b.f1] 61))
            have HBa := Lib.hid (HB.out.alloc HB.out.size (.cells #[.int .i64 b.f0, .int .u64 b.f1] 61))
            generalize wr.alloc (.cells #[.int .i64 b.f0, .int .u64 b.f1] 61) = wa at *
            refine (rowput_any g row b.f0 b.f1 wa (okRow_len HOr.out) ⟨by have := HQ.out; omega, HQ.out.2.1⟩ (okRow_get HOr.out _ (by have := HQ.out; omega)) HW.out HGa.out).mono ?_
            rintro e w3 ⟨rfl, HWr⟩
            have HG3 := Lib.hid (heap_setCell_same wa g b.f0.toNat _ 76 (.int .u64 (satAdd (row.getD b.f0.toNat 0) b.f1)) HGa.out)
            have HB3 := Lib.hid (HBa.out.setCell (p := ⟨g, b.f0.toNat, none⟩) HGB'.out (.int .u64 (satAdd (row.getD b.f0.toNat 0) b.f1)))
            rw [← HWr.out] at HG3 HB3
            clear HWr
            rw [rowCells_set] at HG3
            go_wp2
            go_roundw
            case rel =>
              exact ⟨k + 1, putRow row b.f0 b.f1, by go_num, by omega, Lib.hid (okRow_put HOr.out _ _ ⟨by have := HQ.out; omega, HQ.out.2.1⟩ HW.out.1), Lib.hid (by rw [HL.out, HD.out]; rfl), HG3, HB3⟩
            case measure => simp [intOf]; omega
          · have hkl : k = l1.length := by omega
            subst hkl
            have e1 : l1.drop l1.length = [] := by simp
            have e2 := HL.out
            rw [e1] at e2
            have HE := Lib.hid e2
            clear e1 e2
            go_wp2_with fail
            refine (bars_any g row wr (okRow_len HOr.out) HG.out).mono ?_
            rintro e w4 ⟨v, rfl, hR, hB4⟩
            have HR := Lib.hid hR
            have HB4 := Lib.hid hB4
            clear hR hB4
            go_wp2
            go_ret2
            rw [HE.out]
            exact ListPost.yes HB.out HR.out HB4.out
  · rw [if_neg hs] at h; exact absurd h (by simp)
end Go.Proofs.Ytlnhpccapadpmaa.Pr
