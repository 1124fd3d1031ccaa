/- sample.Decide: the verdict on a trace's spans. -/
import Derived.Test.YtdlnfmakfnggpaaDoorXTk
namespace Go.Proofs.YtdlnfmakfnggpaaDoor.Pr
open Go.RowKit Go.Lib Go.Shelf Go.Proofs.YtdlnfmakfnggpaaDoorW.PrintWords
set_option linter.unusedVariables false
set_option linter.unusedSimpArgs false
def DecPost (w : World) (keep : Bool) (pol wt err : Int) (e : Ending) (w' : World) : Prop := e = .returned (.tuple #[.agg #[.bool keep, .int .i64 pol, .int .u64 0, .int .u64 wt], .int .i64 err]) ∧ Below w.heap.size w w'
def B0 (w : World) : World := w.alloc (.cells #[.bool false, .int .i64 0, .int .u64 0, .int .u64 0] 47)
theorem B0_below (w : World) : Below w.heap.size w (B0 w) := (Below.refl _ _).alloc (Nat.le_refl _) _
theorem B0_size (w : World) : (B0 w).heap.size = w.heap.size + 1 := by unfold B0; simp
theorem B0_blk {w w1 : World} (h : Below (B0 w).heap.size (B0 w) w1) : w1.heap[w.heap.size]? = some (.cells #[.bool false, .int .i64 0, .int .u64 0, .int .u64 0] 47 (0, 0)) :=
  blk_below (blk_new w _) h
theorem set4 {w : World} {g t : Nat} {a b c d : Value} (a' b' c' d' : Value) (h : w.heap[g]? = some (.cells #[a, b, c, d] t (0, 0))) :
    ((((w.setCell ⟨g, 0, none⟩ a').setCell ⟨g, 1, none⟩ b').setCell ⟨g, 2, none⟩ c').setCell ⟨g, 3, none⟩ d').heap[g]? = some (.cells #[a', b', c', d'] t (0, 0)) :=
  blk_put (blk_put (blk_put (blk_put h 0 _ rfl) 1 _ rfl) 2 _ rfl) 3 _ rfl
theorem below4 {w0 w : World} {g : Nat} (a' b' c' d' : Value) (h : Below w0.heap.size w0 w) (hg : w0.heap.size ≤ g) :
    Below w0.heap.size w0 ((((w.setCell ⟨g, 0, none⟩ a').setCell ⟨g, 1, none⟩ b').setCell ⟨g, 2, none⟩ c').setCell ⟨g, 3, none⟩ d') :=
  below_set (below_set (below_set (below_set h hg) hg) hg) hg
set_option maxHeartbeats 1000000 in
theorem dec_a (v1 v2 : Value) (w : World) (r : Int) (hr : r ≠ 0) (h1 : ∀ W, Below w.heap.size w W → Calls Tryd.prog 13 #[v1] W fun e w' => e = .returned (.int .i64 r) ∧ Below W.heap.size W w') :
    Calls Tryd.prog 18 #[v1, v2] w (DecPost w false 0 0 r) := by
  have hr' : (r != 0) = true := by simpa using hr
  have H1 := Lib.hid (h1 (B0 w) (B0_below w))
  clear h1 hr
  unfold B0 at H1
  go_enter Tryd.func18, Tryd.ntmps18
  go_wp2_with fail
  refine H1.out.mono ?_
  rintro e w1 ⟨rfl, hb⟩
  have HB := Lib.hid hb
  have hblk := B0_blk hb
  have hc0 := (cell_of_row _ _ 0 _ _ _ hblk).trans rfl
  have hc1 := (cell_of_row _ _ 1 _ _ _ hblk).trans rfl
  have hc2 := (cell_of_row _ _ 2 _ _ _ hblk).trans rfl
  have hc3 := (cell_of_row _ _ 3 _ _ _ hblk).trans rfl
  have hf := fun j => blk_frozen hblk j
  clear hb hblk
  go_wp2_with fail
  refine bodyPost_ret (results_ct rfl _ _ w.heap.size 47 #[.bool false, .int .i64 0, .int .u64 0, .int .u64 0] (0, 0) _ rfl (set4 _ _ _ _ (B0_blk HB.out)) Tryd.underlying47 rfl (by kernel_rfl)) rfl ?_
  exact ⟨rfl, below4 _ _ _ _ ((B0_below w).trans (HB.out.mono (B0_below w).size)) (Nat.le_refl _)⟩
set_option maxHeartbeats 1000000 in
theorem dec_b (v1 v2 : Value) (w : World) (h1 : ∀ W, Below w.heap.size w W → Calls Tryd.prog 13 #[v1] W fun e w' => e = .returned (.int .i64 0) ∧ Below W.heap.size W w')
    (h2 : ∀ W, Below w.heap.size w W → Calls Tryd.prog 42 #[v2] W (BoolPost W false)) : Calls Tryd.prog 18 #[v1, v2] w (DecPost w false 0 0 101) := by
  have H1 := Lib.hid (h1 (B0 w) (B0_below w))
  have H2 := Lib.hid h2
  clear h1 h2
  unfold B0 at H1
  go_enter Tryd.func18, Tryd.ntmps18
  go_wp2_with fail
  refine H1.out.mono ?_
  rintro e w1 ⟨rfl, hb⟩
  have HB := Lib.hid hb
  clear hb
  go_wp2_with fail
  refine (H2.out w1 ((B0_below w).trans (HB.out.mono (B0_below w).size))).mono ?_
  rintro e w2 ⟨rfl, hb⟩
  have HB2 := Lib.hid (show Below (B0 w).heap.size (B0 w) w2 from HB.out.trans (hb.mono HB.out.size))
  have hblk := B0_blk HB2.out
  have hc0 := (cell_of_row _ _ 0 _ _ _ hblk).trans rfl
  have hc1 := (cell_of_row _ _ 1 _ _ _ hblk).trans rfl
  have hc2 := (cell_of_row _ _ 2 _ _ _ hblk).trans rfl
  have hc3 := (cell_of_row _ _ 3 _ _ _ hblk).trans rfl
  have hf := fun j => blk_frozen hblk j
  clear hb hblk
  go_wp2_with fail
  refine bodyPost_ret (results_ct rfl _ _ w.heap.size 47 #[.bool false, .int .i64 0, .int .u64 0, .int .u64 0] (0, 0) _ rfl (set4 _ _ _ _ (B0_blk HB2.out)) Tryd.underlying47 rfl (by kernel_rfl)) rfl ?_
  exact ⟨rfl, below4 _ _ _ _ ((B0_below w).trans (HB2.out.mono (B0_below w).size)) (Nat.le_refl _)⟩
set_option maxHeartbeats 1000000 in
theorem dec_c (v1 : Value) (a : Option Addr) (c : Nat) (w : World) (h1 : ∀ W, Below w.heap.size w W → Calls Tryd.prog 13 #[v1] W fun e w' => e = .returned (.int .i64 0) ∧ Below W.heap.size W w')
    (h2 : ∀ W, Below w.heap.size w W → Calls Tryd.prog 42 #[.slice a 0 c] W (BoolPost W true)) : Calls Tryd.prog 18 #[v1, .slice a 0 c] w (DecPost w false (-1) 0 0) := by
  have H1 := Lib.hid (h1 (B0 w) (B0_below w))
  have H2 := Lib.hid h2
  clear h1 h2
  unfold B0 at H1
  go_enter Tryd.func18, Tryd.ntmps18
  go_wp2_with fail
  refine H1.out.mono ?_
  rintro e w1 ⟨rfl, hb⟩
  have HB := Lib.hid hb
  clear hb
  go_wp2_with fail
  refine (H2.out w1 ((B0_below w).trans (HB.out.mono (B0_below w).size))).mono ?_
  rintro e w2 ⟨rfl, hb⟩
  have HB2 := Lib.hid (show Below (B0 w).heap.size (B0 w) w2 from HB.out.trans (hb.mono HB.out.size))
  have hlt : w.heap.size < w2.heap.size := by have := HB2.out.size; rw [B0_size] at this; omega
  have hblk := B0_blk HB2.out
  have hc0 := (cell_of_row _ _ 0 _ _ _ hblk).trans rfl
  have hc1 := (cell_of_row _ _ 1 _ _ _ hblk).trans rfl
  have hc2 := (cell_of_row _ _ 2 _ _ _ hblk).trans rfl
  have hc3 := (cell_of_row _ _ 3 _ _ _ hblk).trans rfl
  have hf := fun j => blk_frozen hblk j
  clear hb hblk
  go_wp2_with fail
  refine bodyPost_ret (results_ct rfl _ _ w.heap.size 47 #[.bool false, .int .i64 (-1), .int .u64 0, .int .u64 0] (0, 0) _ rfl (blk_alloc (set4 _ _ _ _ (B0_blk HB2.out)) _) Tryd.underlying47 rfl (by kernel_rfl)) rfl ?_
  have hz := below4 (.bool false) (.int .i64 (-1)) (.int .u64 0) (.int .u64 0) ((B0_below w).trans (HB2.out.mono (B0_below w).size)) (Nat.le_refl _)
  exact ⟨rfl, hz.alloc hz.size _⟩
def dstep (hf : S30 → Bool) (s : Int × Bool × Bool × Int) (i : Nat) (p : S30) : Int × Bool × Bool × Int :=
  (max s.1 p.f3, if hf p then s.2.1 || (p.f0 != 4) else s.2.1, if hf p then true else s.2.2.1, if hf p then (if s.2.2.1 then s.2.2.2 else (i : Int)) else s.2.2.2)
def dst (hf : S30 → Bool) (l : List S30) : Nat → Int × Bool × Bool × Int
  | 0 => (0, false, false, -1)
  | k + 1 => dstep hf (dst hf l k) k (rd_T30 l k)
theorem dst_succ (hf : S30 → Bool) (l : List S30) (k : Nat) : dst hf l (k + 1) = dstep hf (dst hf l k) k (rd_T30 l k) := rfl
def wtF (s : Int × Bool × Bool × Int) : Int := if s.2.1 then 65536 else if s.2.2.1 then IntKind.u64.wrap (Int.tdiv 4294967296 (IntKind.u64.wrap s.1)) else 0
set_option maxHeartbeats 2000000 in
set_option maxRecDepth 100000 in
theorem dec_d (A0 : Option Addr) (c0 : Nat) (l : List S30) (B : Option Addr) (n c : Nat) (w : World) (hr : Kd.C k30 w A0 l.length l) (h1 : ∀ W, Below w.heap.size w W → Calls Tryd.prog 13 #[.slice A0 l.length c0] W fun e w' => e = .returned (.int .i64 0) ∧ Below W.heap.size W w')
    (h2 : ∀ W, Below w.heap.size w W → Calls Tryd.prog 42 #[.slice B n c] W (BoolPost W true)) (hn : 0 < n) (hf : S30 → Bool)
    (h3 : ∀ p ∈ l, ∀ W, Below w.heap.size w W → Calls Tryd.prog 43 #[.agg #[.int .i64 p.f0, .int .u64 p.f1, .string p.f2, .int .i64 p.f3], .slice B n c] W (BoolPost W (hf p)))
    (hdiv : (dst hf l l.length).2.1 = false → (dst hf l l.length).2.2.1 = true → IntKind.u64.wrap (dst hf l l.length).1 ≠ 0) :
    Calls Tryd.prog 18 #[.slice A0 l.length c0, .slice B n c] w (DecPost w (dst hf l l.length).2.2.1 (dst hf l l.length).2.2.2 (wtF (dst hf l l.length)) 0) := by
  have H1 := Lib.hid (h1 (B0 w) (B0_below w))
  have H2 := Lib.hid h2
  have H3 := Lib.hid h3
  have HR := Lib.hid hr
  have HD := Lib.hid hdiv
  have hm := hr.2.1
  have hn' : ((n : Int) == 0) = false := by have : ¬ (n : Int) = 0 := by omega
                                            simpa using this
  clear h1 h2 h3 hr hdiv hn
  unfold B0 at H1
  go_enter Tryd.func18, Tryd.ntmps18
  go_wp2_with fail
  refine H1.out.mono ?_
  rintro e w1 ⟨rfl, hb⟩
  have HB := Lib.hid hb
  clear hb
  go_wp2_with fail
  refine (H2.out w1 ((B0_below w).trans (HB.out.mono (B0_below w).size))).mono ?_
  rintro e w2 ⟨rfl, hb⟩
  have HB2 := Lib.hid (show Below (B0 w).heap.size (B0 w) w2 from HB.out.trans (hb.mono HB.out.size))
  have hlt : w.heap.size < w2.heap.size := by have := HB2.out.size; rw [B0_size] at this; omega
  clear hb
  go_wp2_with fail
  go_loopw [8, 9, 29] (fun v8 v9 v29 wr => ∃ (k : Nat) (part pol : Int) (sure keep : Bool), v29 = .int .i64 k ∧ v8 = .int .i64 part ∧ v9 = .bool sure ∧ k ≤ l.length ∧ Hid (dst hf l k = (part, sure, keep, pol)) ∧ Hid (wr.heap[w2.heap.size]? = some (.cells #[.bool keep, .int .i64 pol, .int .u64 0, .int .u64 0] 47 (0, 0))) ∧ Hid (Below (B0 w).heap.size (B0 w) wr))
    (fun _ _ v29 _ => l.length - (intOf v29).toNat)
  case atStart => exact ⟨0, 0, -1, false, false, rfl, rfl, rfl, Nat.zero_le _, Lib.hid rfl, Lib.hid (blk_new _ _), Lib.hid (below_alloc HB2.out _)⟩
  case round =>
    obtain ⟨k, part, pol, sure, keep, rfl, rfl, rfl, hk, HS, HG, HBr⟩ := hrel
    have hbase : Below w.heap.size w wr := (B0_below w).trans (HBr.out.mono (B0_below w).size)
    have hgg : w.heap.size ≠ w2.heap.size := by omega
    by_cases hlt2 : k < l.length
    · obtain ⟨ad, hA, y0, _⟩ := at_T30 HR.out 0 (by omega) (by omega)
      obtain ⟨ab, ao, sp⟩ := ad
      obtain rfl : sp = none := Go.Proofs.cell_spot y0
      obtain ⟨ad, hA', x0, x1, x2, x3⟩ := at_T30 (Kd.C_below HR.out hbase) (k : Int) (by omega) (by omega)
      rw [hA] at hA'
      cases hA'
      subst hA
      rw [Int.toNat_natCast, Addr.add_lit] at x0 x1 x2 x3
      simp only [] at x0 x1 x2 x3
      have hlk : (k : Int) < (l.length : Int) := by omega
      have HC := Lib.hid (H3.out (rd_T30 l k) (by simp [rd_T30, List.getD, hlt2]))
      have HN := Lib.hid (dst_succ hf l k)
      have HSS := Lib.hid HS.out
      have hG := HG.out
      generalize rd_T30 l (k : Int) = p at *
      obtain ⟨kd, na, nm, pt⟩ := p
      dsimp only at *
      obtain ⟨b, HHF⟩ : ∃ b, Hid (hf ⟨kd, na, nm, pt⟩ = b) := ⟨_, rfl⟩
      rw [HHF.out] at HC
      have HBX := Lib.hid (below_alloc hbase (.cells #[.int .i64 kd, .int .u64 na, .string nm, .int .i64 pt] 30))
      have HBY := Lib.hid (below_alloc HBr.out (.cells #[.int .i64 kd, .int .u64 na, .string nm, .int .i64 pt] 30))
      have HGX := Lib.hid (blk_alloc hG (.cells #[.int .i64 kd, .int .u64 na, .string nm, .int .i64 pt] 30))
      have HGE := Lib.hid HB2.out.size
      have HSB := Lib.hid (show wr.heap.size < (wr.alloc (.cells #[.int .i64 kd, .int .u64 na, .string nm, .int .i64 pt] 30)).heap.size by simp)
      have HBK0 := Lib.hid (blk_new wr (.cells #[.int .i64 kd, .int .u64 na, .string nm, .int .i64 pt] 30))
      clear hG hbase
      cases b with
      | false =>
        go_wp2_with fail
        refine (HC.out _ HBX.out).mono ?_
        rintro e w3 ⟨rfl, hb3⟩
        have HB3 := Lib.hid hb3
        clear hb3
        go_wp2_with fail
        go_roundw
        case rel => exact ⟨k + 1, max part pt, pol, sure, keep, by go_num, rfl, rfl, by omega, Lib.hid (by rw [HN.out, HSS.out]; simp [dstep, HHF.out]), Lib.hid (blk_below HGX.out HB3.out), Lib.hid (HBY.out.trans (HB3.out.mono HBY.out.size))⟩
        case measure => simp [intOf]; omega
      | true =>
        cases keep with
        | false =>
          cases sure with
          | false =>
            go_wp2_with fail
            refine (HC.out _ HBX.out).mono ?_
            rintro e w3 ⟨rfl, hb3⟩
            have HB3 := Lib.hid hb3
            have h7 := blk_below HGX.out hb3
            have h8 := blk_below HBK0.out hb3
            have d0 := (cell_of_row _ _ 0 _ _ _ h7).trans rfl
            have d1 := (cell_of_row _ _ 1 _ _ _ h7).trans rfl
            have e0 := (cell_of_row _ _ 0 _ _ _ h8).trans rfl
            have df := fun j => blk_frozen h7 j
            have H7 := Lib.hid h7
            have hge : w2.heap.size ≠ wr.heap.size := by have := World.block_lt_of_cell? wr _ ((cell_of_row _ _ 0 _ _ _ HG.out).trans rfl); intro h; simp only at this; omega
            have hge' := hge.symm
            clear hb3 h7 h8
            go_wp2_with fail
            go_roundw
            case rel => exact ⟨k + 1, max part pt, (k : Int), (kd != 4), true, by go_num, rfl, rfl, by omega, Lib.hid (by rw [HN.out, HSS.out]; simp [dstep, HHF.out]), Lib.hid (blk_put (blk_put H7.out 0 (.bool true) rfl) 1 (.int .i64 k) rfl), Lib.hid (below_set (below_set (HBY.out.trans (HB3.out.mono HBY.out.size)) HGE.out) HGE.out)⟩
            case measure => simp [intOf]; omega
          | true =>
            go_wp2_with fail
            refine (HC.out _ HBX.out).mono ?_
            rintro e w3 ⟨rfl, hb3⟩
            have HB3 := Lib.hid hb3
            have h7 := blk_below HGX.out hb3
            have h8 := blk_below HBK0.out hb3
            have d0 := (cell_of_row _ _ 0 _ _ _ h7).trans rfl
            have d1 := (cell_of_row _ _ 1 _ _ _ h7).trans rfl
            have e0 := (cell_of_row _ _ 0 _ _ _ h8).trans rfl
            have df := fun j => blk_frozen h7 j
            have H7 := Lib.hid h7
            have hge : w2.heap.size ≠ wr.heap.size := by have := World.block_lt_of_cell? wr _ ((cell_of_row _ _ 0 _ _ _ HG.out).trans rfl); intro h; simp only at this; omega
            have hge' := hge.symm
            clear hb3 h7 h8
            go_wp2_with fail
            go_roundw
            case rel => exact ⟨k + 1, max part pt, (k : Int), true, true, by go_num, rfl, rfl, by omega, Lib.hid (by rw [HN.out, HSS.out]; simp [dstep, HHF.out]), Lib.hid (blk_put (blk_put H7.out 0 (.bool true) rfl) 1 (.int .i64 k) rfl), Lib.hid (below_set (below_set (HBY.out.trans (HB3.out.mono HBY.out.size)) HGE.out) HGE.out)⟩
            case measure => simp [intOf]; omega
        | true =>
          cases sure with
          | false =>
            go_wp2_with fail
            refine (HC.out _ HBX.out).mono ?_
            rintro e w3 ⟨rfl, hb3⟩
            have HB3 := Lib.hid hb3
            have h7 := blk_below HGX.out hb3
            have h8 := blk_below HBK0.out hb3
            have d0 := (cell_of_row _ _ 0 _ _ _ h7).trans rfl
            have d1 := (cell_of_row _ _ 1 _ _ _ h7).trans rfl
            have e0 := (cell_of_row _ _ 0 _ _ _ h8).trans rfl
            have df := fun j => blk_frozen h7 j
            have H7 := Lib.hid h7
            have hge : w2.heap.size ≠ wr.heap.size := by have := World.block_lt_of_cell? wr _ ((cell_of_row _ _ 0 _ _ _ HG.out).trans rfl); intro h; simp only at this; omega
            have hge' := hge.symm
            clear hb3 h7 h8
            go_wp2_with fail
            go_roundw
            case rel => exact ⟨k + 1, max part pt, pol, (kd != 4), true, by go_num, rfl, rfl, by omega, Lib.hid (by rw [HN.out, HSS.out]; simp [dstep, HHF.out]), Lib.hid (H7.out), Lib.hid (HBY.out.trans (HB3.out.mono HBY.out.size))⟩
            case measure => simp [intOf]; omega
          | true =>
            go_wp2_with fail
            refine (HC.out _ HBX.out).mono ?_
            rintro e w3 ⟨rfl, hb3⟩
            have HB3 := Lib.hid hb3
            have h7 := blk_below HGX.out hb3
            have h8 := blk_below HBK0.out hb3
            have d0 := (cell_of_row _ _ 0 _ _ _ h7).trans rfl
            have d1 := (cell_of_row _ _ 1 _ _ _ h7).trans rfl
            have e0 := (cell_of_row _ _ 0 _ _ _ h8).trans rfl
            have df := fun j => blk_frozen h7 j
            have H7 := Lib.hid h7
            have hge : w2.heap.size ≠ wr.heap.size := by have := World.block_lt_of_cell? wr _ ((cell_of_row _ _ 0 _ _ _ HG.out).trans rfl); intro h; simp only at this; omega
            have hge' := hge.symm
            clear hb3 h7 h8
            go_wp2_with fail
            go_roundw
            case rel => exact ⟨k + 1, max part pt, pol, true, true, by go_num, rfl, rfl, by omega, Lib.hid (by rw [HN.out, HSS.out]; simp [dstep, HHF.out]), Lib.hid (H7.out), Lib.hid (HBY.out.trans (HB3.out.mono HBY.out.size))⟩
            case measure => simp [intOf]; omega
    · obtain rfl : k = l.length := by omega
      have HSS := HS.out
      have hG := HG.out
      have hblk := B0_blk HBr.out
      have d0 := (cell_of_row _ _ 0 _ _ _ hG).trans rfl
      have d1 := (cell_of_row _ _ 1 _ _ _ hG).trans rfl
      have d2 := (cell_of_row _ _ 2 _ _ _ hG).trans rfl
      have d3 := (cell_of_row _ _ 3 _ _ _ hG).trans rfl
      have df := fun j => blk_frozen hG j
      have hc0 := (cell_of_row _ _ 0 _ _ _ hblk).trans rfl
      have hc1 := (cell_of_row _ _ 1 _ _ _ hblk).trans rfl
      have hc2 := (cell_of_row _ _ 2 _ _ _ hblk).trans rfl
      have hc3 := (cell_of_row _ _ 3 _ _ _ hblk).trans rfl
      have hff := fun j => blk_frozen hblk j
      have HBB := Lib.hid hbase
      have HBK := Lib.hid hblk
      have HDV : Hid (sure = false → keep = true → IntKind.u64.wrap part ≠ 0) := by have := HD.out; rw [HSS] at this; exact this
      have HW : Hid (wtF (dst hf l l.length) = wtF (part, sure, keep, pol) ∧ (dst hf l l.length).2.2.1 = keep ∧ (dst hf l l.length).2.2.2 = pol) := by rw [HSS]; exact ⟨rfl, rfl, rfl⟩
      clear hG hblk hbase HSS HD
      cases sure with
      | true =>
        go_wp2_with fail
        refine bodyPost_ret (results_ct rfl _ _ w.heap.size 47 #[.bool keep, .int .i64 pol, .int .u64 0, .int .u64 65536] (0, 0) _ rfl (set4 _ _ _ _ ((Below.heap_setCell _ _ _ _ hgg).trans HBK.out)) Tryd.underlying47 rfl (by kernel_rfl)) rfl ?_
        exact ⟨by rw [HW.out.1, HW.out.2.1, HW.out.2.2]; rfl, below4 _ _ _ _ (below_set HBB.out (Nat.le_of_lt hlt)) (Nat.le_refl _)⟩
      | false =>
        cases keep with
        | false =>
          go_wp2_with fail
          refine bodyPost_ret (results_ct rfl _ _ w.heap.size 47 #[.bool false, .int .i64 pol, .int .u64 0, .int .u64 0] (0, 0) _ rfl (set4 _ _ _ _ HBK.out) Tryd.underlying47 rfl (by kernel_rfl)) rfl ?_
          exact ⟨by rw [HW.out.1, HW.out.2.1, HW.out.2.2]; rfl, below4 _ _ _ _ HBB.out (Nat.le_refl _)⟩
        | true =>
          have hne := HDV.out rfl rfl
          have hz : (IntKind.u64.wrap part == 0) = false := by simpa using hne
          go_wp2_with fail
          refine bodyPost_ret (results_ct rfl _ _ w.heap.size 47 #[.bool true, .int .i64 pol, .int .u64 0, .int .u64 (IntKind.u64.wrap (Int.tdiv 4294967296 (IntKind.u64.wrap part)))] (0, 0) _ rfl (set4 _ _ _ _ ((Below.heap_setCell _ _ _ _ hgg).trans HBK.out)) Tryd.underlying47 rfl (by kernel_rfl)) rfl ?_
          exact ⟨by rw [HW.out.1, HW.out.2.1, HW.out.2.2]; rfl, below4 _ _ _ _ (below_set HBB.out (Nat.le_of_lt hlt)) (Nat.le_refl _)⟩
end Go.Proofs.YtdlnfmakfnggpaaDoor.Pr
