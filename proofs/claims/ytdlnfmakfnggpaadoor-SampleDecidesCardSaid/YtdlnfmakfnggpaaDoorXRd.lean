/- spoorref21.Decide, by hand. -/
import Derived.Test.YtdlnfmakfnggpaaDoorXDe
import Derived.Test.YtdlnfmakfnggpaaDoorPrea
namespace Go.Proofs.YtdlnfmakfnggpaaDoor.Pr
open Go.RowKit Go.Lib Go.Shelf Go.Proofs.YtdlnfmakfnggpaaDoorW.PrintWords
set_option linter.unusedVariables false
set_option linter.unusedSimpArgs false
set_option maxHeartbeats 1000000 in
theorem rdec_a (v1 v2 : Value) (w : World) (r : Int) (hr : r ≠ 0) (h1 : ∀ W, Below w.heap.size w W → Calls Tryd.prog 15 #[v1] W fun e w' => e = .returned (.int .i64 r) ∧ Below W.heap.size W w') :
    Calls Tryd.prog 19 #[v1, v2] w (DecPost w false 0 0 r) := by
  have hr' : (r != 0) = true := by simpa using hr
  have H1 := Lib.hid (h1 (B0 w) (B0_below w))
  clear h1 hr
  unfold B0 at H1
  go_enter Tryd.func19, Tryd.ntmps19
  go_wp2_with fail
  refine H1.out.mono ?_
  rintro e w1 ⟨rfl, hb⟩
  have HB := Lib.hid hb
  have hblk := B0_blk hb
  have hc0 := (cell_of_row _ _ 0 _ _ _ hblk).trans rfl
  have hc1 := (cell_of_row _ _ 1 _ _ _ hblk).trans rfl
  have hc2 := (cell_of_row _ _ 2 _ _ _ hblk).trans rfl
  have hc3 := (cell_of_row _ _ 3 _ _ _ hblk).trans rfl
  have hf := fun j => blk_frozen hblk j
  clear hb hblk
  go_wp2_with fail
  refine bodyPost_ret (results_ct rfl _ _ w.heap.size 47 #[.bool false, .int .i64 0, .int .u64 0, .int .u64 0] (0, 0) _ rfl (set4 _ _ _ _ (B0_blk HB.out)) Tryd.underlying47 rfl (by kernel_rfl)) rfl ?_
  exact ⟨rfl, below4 _ _ _ _ ((B0_below w).trans (HB.out.mono (B0_below w).size)) (Nat.le_refl _)⟩
set_option maxHeartbeats 1000000 in
theorem rdec_b (v1 v2 : Value) (w : World) (h1 : ∀ W, Below w.heap.size w W → Calls Tryd.prog 15 #[v1] W fun e w' => e = .returned (.int .i64 0) ∧ Below W.heap.size W w')
    (h2 : ∀ W, Below w.heap.size w W → Calls Tryd.prog 44 #[v2] W (BoolPost W false)) : Calls Tryd.prog 19 #[v1, v2] w (DecPost w false 0 0 101) := by
  have H1 := Lib.hid (h1 (B0 w) (B0_below w))
  have H2 := Lib.hid h2
  clear h1 h2
  unfold B0 at H1
  go_enter Tryd.func19, Tryd.ntmps19
  go_wp2_with fail
  refine H1.out.mono ?_
  rintro e w1 ⟨rfl, hb⟩
  have HB := Lib.hid hb
  clear hb
  go_wp2_with fail
  refine (H2.out w1 ((B0_below w).trans (HB.out.mono (B0_below w).size))).mono ?_
  rintro e w2 ⟨rfl, hb⟩
  have HB2 := Lib.hid (show Below (B0 w).heap.size (B0 w) w2 from HB.out.trans (hb.mono HB.out.size))
  have hblk := B0_blk HB2.out
  have hc0 := (cell_of_row _ _ 0 _ _ _ hblk).trans rfl
  have hc1 := (cell_of_row _ _ 1 _ _ _ hblk).trans rfl
  have hc2 := (cell_of_row _ _ 2 _ _ _ hblk).trans rfl
  have hc3 := (cell_of_row _ _ 3 _ _ _ hblk).trans rfl
  have hf := fun j => blk_frozen hblk j
  clear hb hblk
  go_wp2_with fail
  refine bodyPost_ret (results_ct rfl _ _ w.heap.size 47 #[.bool false, .int .i64 0, .int .u64 0, .int .u64 0] (0, 0) _ rfl (set4 _ _ _ _ (B0_blk HB2.out)) Tryd.underlying47 rfl (by kernel_rfl)) rfl ?_
  exact ⟨rfl, below4 _ _ _ _ ((B0_below w).trans (HB2.out.mono (B0_below w).size)) (Nat.le_refl _)⟩
attribute [local go_sem] Go.Proofs.YtdlnfmakfnggpaaDoorW.PrintMore.max2_int Go.Proofs.YtdlnfmakfnggpaaDoorW.PrintMore.max_two
set_option maxHeartbeats 4000000 in
set_option maxRecDepth 100000 in
theorem rdec_d (A0 : Option Addr) (c0 : Nat) (l : List S30) (B : Option Addr) (n c : Nat) (w : World) (hr : Kd.C k30 w A0 l.length l) (h1 : ∀ W, Below w.heap.size w W → Calls Tryd.prog 15 #[.slice A0 l.length c0] W fun e w' => e = .returned (.int .i64 0) ∧ Below W.heap.size W w')
    (h2 : ∀ W, Below w.heap.size w W → Calls Tryd.prog 44 #[.slice B n c] W (BoolPost W true)) (hn : 0 < n) (hf : S30 → Bool) (hmay : ∀ p ∈ l, (p.f0 = 4 → 0 ≤ p.f3) ∧ (p.f0 ≠ 4 → p.f3 = 0))
    (h3 : ∀ p ∈ l, ∀ W, Below w.heap.size w W → Calls Tryd.prog 45 #[.agg #[.int .i64 p.f0, .int .u64 p.f1, .string p.f2, .int .i64 p.f3], .slice B n c] W (BoolPost W (hf p)))
    (hdiv : (dst hf l l.length).2.1 = false → (dst hf l l.length).2.2.1 = true → IntKind.u64.wrap (dst hf l l.length).1 ≠ 0) :
    Calls Tryd.prog 19 #[.slice A0 l.length c0, .slice B n c] w (DecPost w (dst hf l l.length).2.2.1 (dst hf l l.length).2.2.2 (wtF (dst hf l l.length)) 0) := by
  have H1 := Lib.hid (h1 (B0 w) (B0_below w))
  have H2 := Lib.hid h2
  have H3 := Lib.hid h3
  have HMY := Lib.hid hmay
  have HR := Lib.hid hr
  have HD := Lib.hid hdiv
  have hm := hr.2.1
  have hn' : (0 : Int) < (n : Int) := by omega
  clear h1 h2 h3 hr hdiv hn hmay
  unfold B0 at H1
  go_enter Tryd.func19, Tryd.ntmps19
  go_wp2_with fail
  refine H1.out.mono ?_
  rintro e w1 ⟨rfl, hb⟩
  have HB := Lib.hid hb
  clear hb
  go_wp2_with fail
  refine (H2.out w1 ((B0_below w).trans (HB.out.mono (B0_below w).size))).mono ?_
  rintro e w2 ⟨rfl, hb⟩
  have HB2 := Lib.hid (show Below (B0 w).heap.size (B0 w) w2 from HB.out.trans (hb.mono HB.out.size))
  have hlt : w.heap.size < w2.heap.size := by have := HB2.out.size; rw [B0_size] at this; omega
  have HWW := Lib.hid ((B0_below w).trans (HB2.out.mono (B0_below w).size))
  clear hb
  go_wp2_with fail
  go_loopw [8, 9, 10] (fun v8 v9 v10 wr => ∃ (k : Nat) (part pol : Int) (sure keep : Bool), v8 = .bool sure ∧ v9 = .int .i64 part ∧ v10 = .int .i64 k ∧ k ≤ l.length ∧ Hid (dst hf l k = (part, sure, keep, pol)) ∧ 0 ≤ part ∧ Hid (wr.heap[w2.heap.size]? = some (.cells #[.bool keep, .int .i64 pol, .int .u64 0, .int .u64 0] 47 (0, 0))) ∧ Hid (Below w2.heap.size w2 wr))
    (fun _ _ v10 _ => l.length - (intOf v10).toNat)
  case atStart => exact ⟨0, 0, -1, false, false, rfl, rfl, rfl, Nat.zero_le _, Lib.hid rfl, Int.le_refl _, Lib.hid (blk_new _ _), Lib.hid (below_alloc (Below.refl _ _) _)⟩
  case round =>
    obtain ⟨k, part, pol, sure, keep, rfl, rfl, rfl, hk, HS, hp0, HG, HBr⟩ := hrel
    have hbase : Below w.heap.size w wr := HWW.out.trans (HBr.out.mono HWW.out.size)
    have HGE := Lib.hid (Nat.le_refl w2.heap.size)
    have hgg : w.heap.size ≠ w2.heap.size := by omega
    by_cases hlt2 : k < l.length
    · obtain ⟨ad, hA, y0, _⟩ := at_T30 HR.out 0 (by omega) (by omega)
      obtain ⟨ab, ao, sp⟩ := ad
      obtain rfl : sp = none := Go.Proofs.cell_spot y0
      obtain ⟨ad, hA', x0, x1, x2, x3⟩ := at_T30 HR.out (k : Int) (by omega) (by omega)
      rw [hA] at hA'
      cases hA'
      subst hA
      rw [Int.toNat_natCast, Addr.add_lit] at x0 x1 x2 x3
      simp only [] at x0 x1 x2 x3
      have hab : ab < w.heap.size := World.block_lt_of_cell? w _ x0
      have hab1 : ab ≠ w2.heap.size := by omega
      have hab2 : w2.heap.size ≠ ab := by omega
      have hlk : (k : Int) < (l.length : Int) := by omega
      have HC := Lib.hid (H3.out (rd_T30 l k) (by simp [rd_T30, List.getD, hlt2]))
      have hmy := Lib.hid (HMY.out (rd_T30 l k) (by simp [rd_T30, List.getD, hlt2]))
      have HN := Lib.hid (dst_succ hf l k)
      clear y0
      generalize rd_T30 l (k : Int) = p at *
      obtain ⟨kd, na, nm, pt⟩ := p
      dsimp only at *
      obtain ⟨b, HHF⟩ : ∃ b, Hid (hf ⟨kd, na, nm, pt⟩ = b) := ⟨_, rfl⟩
      rw [HHF.out] at HC
      have X0 := Lib.hid x0
      have y0 := pw_cell_below hbase x0
      have y1 := pw_cell_below hbase x1
      have y2 := pw_cell_below hbase x2
      have y3 := pw_cell_below hbase x3
      clear x0 x1 x2 x3
      by_cases c4 : kd = 4
      · subst c4
        have hpp : (if part < pt then pt else part) = max part pt := by split <;> omega
        have hp1 := Lib.hid (show 0 ≤ max part pt by omega)
        have hp9 := Lib.hid hp0
        clear hp0
        cases b with
        | false =>
          go_wp2_with fail
          refine (HC.out _ hbase).mono ?_
          rintro e w3 ⟨rfl, hb3⟩
          have HB3 := Lib.hid (HBr.out.trans (hb3.mono HBr.out.size))
          have h7 := Lib.hid (blk_below HG.out hb3)
          clear hb3 y0 y1 y2 y3
          go_wp2_with fail
          go_roundw
          case rel => exact ⟨k + 1, max part pt, pol, sure, keep, rfl, rfl, by go_num, by omega, Lib.hid (by rw [HN.out, HS.out]; simp [dstep, HHF.out]), hp1.out, Lib.hid h7.out, Lib.hid HB3.out⟩
          case measure => simp [intOf]; omega
        | true =>
          cases keep with
          | false =>
            cases sure with
            | false =>
              go_wp2_with fail
              refine (HC.out _ hbase).mono ?_
              rintro e w3 ⟨rfl, hb3⟩
              have HB3 := Lib.hid (HBr.out.trans (hb3.mono HBr.out.size))
              have h7 := Lib.hid (blk_below HG.out hb3)
              have hb4 := hbase.trans (hb3.mono hbase.size)
              have d0 := (cell_of_row _ _ 0 _ _ _ h7.out).trans rfl
              have d1 := (cell_of_row _ _ 1 _ _ _ h7.out).trans rfl
              have e0 := pw_cell_below hb4 X0.out
              have df := fun j => blk_frozen h7.out j
              clear hb3 hb4 y0 y1 y2 y3
              go_wp2_with fail
              go_roundw
              case rel => exact ⟨k + 1, max part pt, (k : Int), false, true, rfl, rfl, by go_num, by omega, Lib.hid (by rw [HN.out, HS.out]; simp [dstep, HHF.out]), hp1.out, Lib.hid (blk_put (blk_put h7.out 0 (.bool true) rfl) 1 (.int .i64 k) rfl), Lib.hid (below_set (below_set HB3.out HGE.out) HGE.out)⟩
              case measure => simp [intOf]; omega
            | true =>
              go_wp2_with fail
              refine (HC.out _ hbase).mono ?_
              rintro e w3 ⟨rfl, hb3⟩
              have HB3 := Lib.hid (HBr.out.trans (hb3.mono HBr.out.size))
              have h7 := Lib.hid (blk_below HG.out hb3)
              have hb4 := hbase.trans (hb3.mono hbase.size)
              have d0 := (cell_of_row _ _ 0 _ _ _ h7.out).trans rfl
              have d1 := (cell_of_row _ _ 1 _ _ _ h7.out).trans rfl
              have e0 := pw_cell_below hb4 X0.out
              have df := fun j => blk_frozen h7.out j
              clear hb3 hb4 y0 y1 y2 y3
              go_wp2_with fail
              go_roundw
              case rel => exact ⟨k + 1, max part pt, (k : Int), true, true, rfl, rfl, by go_num, by omega, Lib.hid (by rw [HN.out, HS.out]; simp [dstep, HHF.out]), hp1.out, Lib.hid (blk_put (blk_put h7.out 0 (.bool true) rfl) 1 (.int .i64 k) rfl), Lib.hid (below_set (below_set HB3.out HGE.out) HGE.out)⟩
              case measure => simp [intOf]; omega
          | true =>
            cases sure with
            | false =>
              go_wp2_with fail
              refine (HC.out _ hbase).mono ?_
              rintro e w3 ⟨rfl, hb3⟩
              have HB3 := Lib.hid (HBr.out.trans (hb3.mono HBr.out.size))
              have h7 := Lib.hid (blk_below HG.out hb3)
              have hb4 := hbase.trans (hb3.mono hbase.size)
              have d0 := (cell_of_row _ _ 0 _ _ _ h7.out).trans rfl
              have d1 := (cell_of_row _ _ 1 _ _ _ h7.out).trans rfl
              have e0 := pw_cell_below hb4 X0.out
              have df := fun j => blk_frozen h7.out j
              clear hb3 hb4 y0 y1 y2 y3
              go_wp2_with fail
              go_roundw
              case rel => exact ⟨k + 1, max part pt, pol, false, true, rfl, rfl, by go_num, by omega, Lib.hid (by rw [HN.out, HS.out]; simp [dstep, HHF.out]), hp1.out, Lib.hid h7.out, Lib.hid HB3.out⟩
              case measure => simp [intOf]; omega
            | true =>
              go_wp2_with fail
              refine (HC.out _ hbase).mono ?_
              rintro e w3 ⟨rfl, hb3⟩
              have HB3 := Lib.hid (HBr.out.trans (hb3.mono HBr.out.size))
              have h7 := Lib.hid (blk_below HG.out hb3)
              have hb4 := hbase.trans (hb3.mono hbase.size)
              have d0 := (cell_of_row _ _ 0 _ _ _ h7.out).trans rfl
              have d1 := (cell_of_row _ _ 1 _ _ _ h7.out).trans rfl
              have e0 := pw_cell_below hb4 X0.out
              have df := fun j => blk_frozen h7.out j
              clear hb3 hb4 y0 y1 y2 y3
              go_wp2_with fail
              go_roundw
              case rel => exact ⟨k + 1, max part pt, pol, true, true, rfl, rfl, by go_num, by omega, Lib.hid (by rw [HN.out, HS.out]; simp [dstep, HHF.out]), hp1.out, Lib.hid h7.out, Lib.hid HB3.out⟩
              case measure => simp [intOf]; omega
      · have c4' : (kd == 4) = false := beq_eq_false_iff_ne.2 c4
        have c4n : (kd != 4) = true := by simpa using c4
        have hpp := Lib.hid (show part = max part pt by have := hmy.out.2 c4; omega)
        have hp1 := Lib.hid (show 0 ≤ max part pt by omega)
        have hp9 := Lib.hid hp0
        clear hp0
        cases b with
        | false =>
          go_wp2_with fail
          refine (HC.out _ hbase).mono ?_
          rintro e w3 ⟨rfl, hb3⟩
          have HB3 := Lib.hid (HBr.out.trans (hb3.mono HBr.out.size))
          have h7 := Lib.hid (blk_below HG.out hb3)
          clear hb3 y0 y1 y2 y3
          go_wp2_with fail
          go_roundw
          case rel => exact ⟨k + 1, max part pt, pol, sure, keep, rfl, by rw [← hpp.out], by go_num, by omega, Lib.hid (by rw [HN.out, HS.out]; simp [dstep, HHF.out, c4]), hp1.out, Lib.hid h7.out, Lib.hid HB3.out⟩
          case measure => simp [intOf]; omega
        | true =>
          cases keep with
          | false =>
            cases sure with
            | false =>
              go_wp2_with fail
              refine (HC.out _ hbase).mono ?_
              rintro e w3 ⟨rfl, hb3⟩
              have HB3 := Lib.hid (HBr.out.trans (hb3.mono HBr.out.size))
              have h7 := Lib.hid (blk_below HG.out hb3)
              have hb4 := hbase.trans (hb3.mono hbase.size)
              have d0 := (cell_of_row _ _ 0 _ _ _ h7.out).trans rfl
              have d1 := (cell_of_row _ _ 1 _ _ _ h7.out).trans rfl
              have e0 := pw_cell_below hb4 X0.out
              have df := fun j => blk_frozen h7.out j
              clear hb3 hb4 y0 y1 y2 y3
              go_wp2_with fail
              go_roundw
              case rel => exact ⟨k + 1, max part pt, (k : Int), true, true, rfl, by rw [← hpp.out], by go_num, by omega, Lib.hid (by rw [HN.out, HS.out]; simp [dstep, HHF.out, c4]), hp1.out, Lib.hid (blk_put (blk_put h7.out 0 (.bool true) rfl) 1 (.int .i64 k) rfl), Lib.hid (below_set (below_set HB3.out HGE.out) HGE.out)⟩
              case measure => simp [intOf]; omega
            | true =>
              go_wp2_with fail
              refine (HC.out _ hbase).mono ?_
              rintro e w3 ⟨rfl, hb3⟩
              have HB3 := Lib.hid (HBr.out.trans (hb3.mono HBr.out.size))
              have h7 := Lib.hid (blk_below HG.out hb3)
              have hb4 := hbase.trans (hb3.mono hbase.size)
              have d0 := (cell_of_row _ _ 0 _ _ _ h7.out).trans rfl
              have d1 := (cell_of_row _ _ 1 _ _ _ h7.out).trans rfl
              have e0 := pw_cell_below hb4 X0.out
              have df := fun j => blk_frozen h7.out j
              clear hb3 hb4 y0 y1 y2 y3
              go_wp2_with fail
              go_roundw
              case rel => exact ⟨k + 1, max part pt, (k : Int), true, true, rfl, by rw [← hpp.out], by go_num, by omega, Lib.hid (by rw [HN.out, HS.out]; simp [dstep, HHF.out, c4]), hp1.out, Lib.hid (blk_put (blk_put h7.out 0 (.bool true) rfl) 1 (.int .i64 k) rfl), Lib.hid (below_set (below_set HB3.out HGE.out) HGE.out)⟩
              case measure => simp [intOf]; omega
          | true =>
            cases sure with
            | false =>
              go_wp2_with fail
              refine (HC.out _ hbase).mono ?_
              rintro e w3 ⟨rfl, hb3⟩
              have HB3 := Lib.hid (HBr.out.trans (hb3.mono HBr.out.size))
              have h7 := Lib.hid (blk_below HG.out hb3)
              have hb4 := hbase.trans (hb3.mono hbase.size)
              have d0 := (cell_of_row _ _ 0 _ _ _ h7.out).trans rfl
              have d1 := (cell_of_row _ _ 1 _ _ _ h7.out).trans rfl
              have e0 := pw_cell_below hb4 X0.out
              have df := fun j => blk_frozen h7.out j
              clear hb3 hb4 y0 y1 y2 y3
              go_wp2_with fail
              go_roundw
              case rel => exact ⟨k + 1, max part pt, pol, true, true, rfl, by rw [← hpp.out], by go_num, by omega, Lib.hid (by rw [HN.out, HS.out]; simp [dstep, HHF.out, c4]), hp1.out, Lib.hid h7.out, Lib.hid HB3.out⟩
              case measure => simp [intOf]; omega
            | true =>
              go_wp2_with fail
              refine (HC.out _ hbase).mono ?_
              rintro e w3 ⟨rfl, hb3⟩
              have HB3 := Lib.hid (HBr.out.trans (hb3.mono HBr.out.size))
              have h7 := Lib.hid (blk_below HG.out hb3)
              have hb4 := hbase.trans (hb3.mono hbase.size)
              have d0 := (cell_of_row _ _ 0 _ _ _ h7.out).trans rfl
              have d1 := (cell_of_row _ _ 1 _ _ _ h7.out).trans rfl
              have e0 := pw_cell_below hb4 X0.out
              have df := fun j => blk_frozen h7.out j
              clear hb3 hb4 y0 y1 y2 y3
              go_wp2_with fail
              go_roundw
              case rel => exact ⟨k + 1, max part pt, pol, true, true, rfl, by rw [← hpp.out], by go_num, by omega, Lib.hid (by rw [HN.out, HS.out]; simp [dstep, HHF.out, c4]), hp1.out, Lib.hid h7.out, Lib.hid HB3.out⟩
              case measure => simp [intOf]; omega
    · obtain rfl : k = l.length := by omega
      have HSS := HS.out
      have hG := HG.out
      have hblk := B0_blk (HB2.out.trans (HBr.out.mono HB2.out.size))
      have d0 := (cell_of_row _ _ 0 _ _ _ hG).trans rfl
      have d1 := (cell_of_row _ _ 1 _ _ _ hG).trans rfl
      have d2 := (cell_of_row _ _ 2 _ _ _ hG).trans rfl
      have d3 := (cell_of_row _ _ 3 _ _ _ hG).trans rfl
      have df := fun j => blk_frozen hG j
      have hc0 := (cell_of_row _ _ 0 _ _ _ hblk).trans rfl
      have hc1 := (cell_of_row _ _ 1 _ _ _ hblk).trans rfl
      have hc2 := (cell_of_row _ _ 2 _ _ _ hblk).trans rfl
      have hc3 := (cell_of_row _ _ 3 _ _ _ hblk).trans rfl
      have hff := fun j => blk_frozen hblk j
      have HBB := Lib.hid hbase
      have HBK := Lib.hid hblk
      have HDV : Hid (sure = false → keep = true → IntKind.u64.wrap part ≠ 0) := by have := HD.out; rw [HSS] at this; exact this
      have HW : Hid (wtF (dst hf l l.length) = wtF (part, sure, keep, pol) ∧ (dst hf l l.length).2.2.1 = keep ∧ (dst hf l l.length).2.2.2 = pol) := by rw [HSS]; exact ⟨rfl, rfl, rfl⟩
      clear hG hblk hbase HSS HD
      cases sure with
      | true =>
        go_wp2_with fail
        refine bodyPost_ret (results_ct rfl _ _ w.heap.size 47 #[.bool keep, .int .i64 pol, .int .u64 0, .int .u64 65536] (0, 0) _ rfl (set4 _ _ _ _ ((Below.heap_setCell _ _ _ _ hgg).trans HBK.out)) Tryd.underlying47 rfl (by kernel_rfl)) rfl ?_
        exact ⟨by rw [HW.out.1, HW.out.2.1, HW.out.2.2]; rfl, below4 _ _ _ _ (below_set HBB.out (Nat.le_of_lt hlt)) (Nat.le_refl _)⟩
      | false =>
        cases keep with
        | false =>
          go_wp2_with fail
          refine bodyPost_ret (results_ct rfl _ _ w.heap.size 47 #[.bool false, .int .i64 pol, .int .u64 0, .int .u64 0] (0, 0) _ rfl (set4 _ _ _ _ HBK.out) Tryd.underlying47 rfl (by kernel_rfl)) rfl ?_
          exact ⟨by rw [HW.out.1, HW.out.2.1, HW.out.2.2]; rfl, below4 _ _ _ _ HBB.out (Nat.le_refl _)⟩
        | true =>
          have hne := HDV.out rfl rfl
          have hz : (IntKind.u64.wrap part == 0) = false := by simpa using hne
          go_wp2_with fail
          refine bodyPost_ret (results_ct rfl _ _ w.heap.size 47 #[.bool true, .int .i64 pol, .int .u64 0, .int .u64 (IntKind.u64.wrap (Int.tdiv 4294967296 (IntKind.u64.wrap part)))] (0, 0) _ rfl (set4 _ _ _ _ ((Below.heap_setCell _ _ _ _ hgg).trans HBK.out)) Tryd.underlying47 rfl (by kernel_rfl)) rfl ?_
          exact ⟨by rw [HW.out.1, HW.out.2.1, HW.out.2.2]; rfl, below4 _ _ _ _ (below_set HBB.out (Nat.le_of_lt hlt)) (Nat.le_refl _)⟩
end Go.Proofs.YtdlnfmakfnggpaaDoor.Pr
