/- The reference's few: NewFew, Put. -/
import Derived.Test.YtdlnfmakfnggpaaDoorXFs
import Derived.Test.YtdlnfmakfnggpaaDoorXTr
namespace Go.Proofs.YtdlnfmakfnggpaaDoor.Pr
open Go.RowKit Go.Lib Go.Proofs.YtdlnfmakfnggpaaDoorW.PrintWords
attribute [local go_sem high] eqA26
set_option linter.unusedVariables false
set_option linter.unusedSimpArgs false
theorem lt_pos : ∀ (l : List C3) (x : C3), Srt l → ∀ i, i < l.length → (lt3 l[i]! x ↔ i < pos l x)
  | [], x, _, i, h => by simp at h
  | a :: r, x, hs, i, hi => by
    have hs' := srt_cons.1 hs
    by_cases h : lt3 a x
    · have hp : pos (a :: r) x = pos r x + 1 := by unfold pos; rw [List.countP_cons_of_pos (by simpa using h)]
      match i, hi with
      | 0, hi => rw [hp]; simp [h]
      | i + 1, hi =>
        have := lt_pos r x hs'.2 i (by simpa using hi)
        rw [hp]
        simp only [List.getElem!_cons_succ]
        rw [this]; omega
    · have hp : pos (a :: r) x = 0 := pos_zero (fun b hb hbx => by
        rcases List.mem_cons.1 hb with rfl | hb
        · exact h hbx
        · exact h (lt3_trans (hs'.1 b hb) hbx))
      rw [hp]
      match i, hi with
      | 0, hi => simp [h]
      | i + 1, hi =>
        simp only [List.getElem!_cons_succ]
        constructor
        · intro hb
          have hir : i < r.length := by simpa using hi
          rw [getElem!_pos r i hir] at hb
          exact (h (lt3_trans (hs'.1 _ (List.getElem_mem hir)) hb)).elim
        · intro hb; omega
/-- The reference's few in memory: its block, its row. -/
structure RefAt (w : World) (base B : Nat) (v : Value) (most : Nat) (xs : List S26) : Prop where
  blk : w.heap[B]? = some (.cells #[.int .i64 most, v] 98 (0, 0))
  own : Kd.R k26 26 w base (fun _ => True) v xs
theorem RefAt.kept {w W : World} {base B : Nat} {v : Value} {most : Nat} {xs : List S26} {S : Nat → Prop} (h : RefAt w base B v most xs) (k : Kx w W S) (h1 : ¬ S B) (h2 : ∀ g, v.ownBlock = some g → ¬ S g) : RefAt W base B v most xs := by
  refine ⟨(k.block B (blk_lt h.blk) h1).trans h.blk, ?_⟩
  refine Kd.R_mono (ok := fun g => v.ownBlock = some g) (Kd.R_step (ok := fun g => v.ownBlock = some g) ⟨fun _ hk => hk, ?_⟩ (fun g hg hlt => k.block g hlt (h2 g hg))) (fun _ _ => trivial)
  obtain ⟨_, inner, ho, hr⟩ := h.own
  exact ⟨inner, ho, hr⟩
theorem ids_length (l : List C3) : (ids l).length = l.length := by unfold ids; rw [List.length_map]
theorem rd_ids (l : List C3) (i : Nat) (h : i < l.length) : rd_T26 (ids l) (i : Int) = idOf l[i]! := by
  rw [getElem!_pos l i h]
  simp [rd_T26, ids, List.getD, h]
theorem refnew_bad (most : Int) (h : most < 2 ∨ 1000 < most) (w : World) : Calls Tryd.prog 24 #[.int .i64 most] w fun e w' => e = .returned (.tuple #[.pointer none, .int .i64 1]) ∧ Below w.heap.size w w' := by
  by_cases h2 : most < 2
  · go_enter Tryd.func24, Tryd.ntmps24
    go_wp2
    go_ret2
    exact ⟨rfl, Below.refl _ _⟩
  · have h3 : 1000 < most := by omega
    go_enter Tryd.func24, Tryd.ntmps24
    go_wp2
    go_ret2
    exact ⟨rfl, Below.refl _ _⟩
def RefNew (w : World) (most : Nat) (e : Ending) (w' : World) : Prop := ∃ B, e = .returned (.tuple #[.pointer (some ⟨B, 0, none⟩), .int .i64 0]) ∧ w.heap.size ≤ B ∧ w'.heap[B]? = some (.cells #[.int .i64 most, .slice none 0 0] 98 (0, 0)) ∧ Below w.heap.size w w'
theorem refnew_ok (most : Nat) (h0 : 2 ≤ most) (h1 : most ≤ 1000) (w : World) : Calls Tryd.prog 24 #[.int .i64 most] w (RefNew w most) := by
  have h2 : ¬ (most : Int) < 2 := by omega
  have h3 : ¬ 1000 < (most : Int) := by omega
  have h4 : ¬ most < 2 := by omega
  have h5 : ¬ 1000 < most := by omega
  go_enter Tryd.func24, Tryd.ntmps24
  go_wp2
  go_ret2
  exact ⟨w.heap.size, rfl, Nat.le_refl _, blk_new w _, below_alloc (Below.refl _ _) _⟩
theorem less_c3 (a b : C3) (ha : sample_Mix.f a.2.1 a.2.2 = some a.1) (hb : sample_Mix.f b.2.1 b.2.2 = some b.1) : spoorref21_Less.f a.2.1 a.2.2 b.2.1 b.2.2 = some (decide (lt3 a b)) := by
  unfold spoorref21_Less.f
  rw [show spoorref21_Mix.f a.2.1 a.2.2 = sample_Mix.f a.2.1 a.2.2 from rfl, show spoorref21_Mix.f b.2.1 b.2.2 = sample_Mix.f b.2.1 b.2.2 from rfl, ha, hb, Option.bind_some, Option.bind_some]
  split
  · split
    · rw [Option.some.injEq, decide_eq_decide]; unfold lt3; omega
    · rw [Option.some.injEq, decide_eq_decide]; unfold lt3; omega
  · rw [Option.some.injEq, decide_eq_decide]; unfold lt3; omega
def RefPut (w : World) (base B : Nat) (most : Nat) (l : List C3) (x : C3) (e : Ending) (w' : World) : Prop :=
  ∃ v', e = .returned (.bool (decide (pos l x < most))) ∧ RefAt w' base B v' most (ids ((insL l x).take most)) ∧ Kx w w' (fun k => k = B)
theorem ids_insL {l : List C3} {x : C3} (hf : HAt l x (pos l x) = false) : ids (insL l x) = (ids l).take (pos l x) ++ [idOf x] ++ (ids l).drop (pos l x) := by
  rw [insL_new hf]
  simp [ids]
theorem take_min {α : Type} (l : List α) (n : Nat) : l.take (min l.length n) = l.take n := by
  by_cases h : l.length ≤ n
  · rw [Nat.min_eq_left h, List.take_length, List.take_of_length_le h]
  · rw [Nat.min_eq_right (by omega)]
theorem ref_put_end (base B most : Nat) (l : List C3) (x : C3) (i : Nat) (hi : i = pos l x) (hil : i ≤ l.length) (hf : HAt l x (pos l x) = false) (w W0 w3 : World) (A : Option Addr) (c : Nat) (A3 : Option Addr) (c3 : Nat) (HB0 : Below w.heap.size w W0)
    (HG0 : W0.heap[B]? = some (.cells #[.int .i64 most, .slice A l.length c] 98 (0, 0))) (S6 : Below W0.heap.size W0 w3)
    (R3 : Kd.R k26 26 w3 W0.heap.size (fun _ => True) (.slice A3 (l.length + 1) c3) ((ids l).take i ++ [idOf x] ++ (ids l).drop i)) (hb : base ≤ w.heap.size) :
    RefPut w base B most l x (.returned (.bool (decide ((i : Int) < max (min ((l.length : Int) + 1) (most : Int)) 0)))) (w3.setCell ⟨B, 1, none⟩ (.slice A3 (min ((l.length : Int) + 1) (most : Int)).toNat c3)) := by
  have a := blk_below HG0 S6
  have e1 : decide ((i : Int) < max (min ((l.length : Int) + 1) (most : Int)) 0) = decide (pos l x < most) := by rw [decide_eq_decide]; omega
  have e2 : (min ((l.length : Int) + 1) (most : Int)).toNat = min (l.length + 1) most := by omega
  have hbw : Below w.heap.size w w3 := HB0.trans (S6.mono HB0.size)
  rw [e2]
  refine ⟨_, by rw [e1], ⟨blk_put a 1 _ rfl, ?_⟩, (Kx.of_below hbw _).then_ (Kx.setCell w3 _ _) (fun k hk => .inl hk)⟩
  have R4 := Kd.R_take (m := min (l.length + 1) most) R3 (by simp only [List.length_append, List.length_take, List.length_drop, ids_length, List.length_cons, List.length_nil]; omega)
  have e3 : ids ((insL l x).take most) = ((ids l).take i ++ [idOf x] ++ (ids l).drop i).take (min (l.length + 1) most) := by
    have hl : ((ids l).take i ++ [idOf x] ++ (ids l).drop i).length = l.length + 1 := by simp only [List.length_append, List.length_take, List.length_drop, ids_length, List.length_cons, List.length_nil]; omega
    rw [← hl, take_min, hi, ← ids_insL hf]
    unfold ids
    rw [List.map_take]
  rw [e3]
  exact Kd.R_lower (Kd.R_set R4 a (by decide) 1 _) (by have := HB0.size; omega)
set_option maxHeartbeats 4000000 in
set_option maxRecDepth 100000 in
theorem ref_put (base B : Nat) (v : Value) (most : Nat) (l : List C3) (hs : Srt l) (hmx : MixOk l) (h lo mx : Int) (w : World) (hF : RefAt w base B v most (ids l)) (hl : l.length ≤ most) (hm0 : 1 ≤ most) (hm1 : most ≤ 1000) (hbase : base ≤ w.heap.size) (hm : sample_Mix.f h lo = some mx) :
    Calls Tryd.prog 54 #[.pointer (some ⟨B, 0, none⟩), .agg #[.int .u64 h, .int .u64 lo]] w (RefPut w base B most l (mx, h, lo)) := by
  obtain ⟨A, c, rfl, hnc, hC⟩ := Kd.R_reads hF.own
  rw [ids_length] at hnc hC
  obtain ⟨W0, hW0⟩ : ∃ W0, W0 = w.alloc (.cells #[.int .u64 h, .int .u64 lo] 26) := ⟨_, rfl⟩
  have HB0 : Aside (Below w.heap.size w W0) := by rw [hW0]; exact below_alloc (Below.refl _ w) _
  have HT0 : Aside (W0.heap[w.heap.size]? = some (.cells #[.int .u64 h, .int .u64 lo] 26 (0, 0))) := by rw [hW0]; exact blk_new w _
  have HG0 : Aside (W0.heap[B]? = some (.cells #[.int .i64 most, .slice A l.length c] 98 (0, 0))) := by rw [hW0, ← ids_length]; exact blk_alloc hF.blk _
  have HC0 : Aside (Kd.C k26 W0 A l.length (ids l)) := Kd.C_below hC HB0.out
  have HF : Aside (RefAt w base B (.slice A (ids l).length c) most (ids l)) := hF
  have HLESS : Aside (∀ (i : Nat) (W : World), i < l.length → Calls Tryd.prog 59 #[.agg #[.int .u64 (l[i]!).2.1, .int .u64 (l[i]!).2.2], .agg #[.int .u64 h, .int .u64 lo]] W fun e w' => e = .returned (.bool (decide (i < pos l (mx, h, lo)))) ∧ Below W.heap.size W w') := fun i W hi => by
    refine spoorref21_Less.calls _ _ _ _ _ W ?_
    rw [less_c3 (l[i]!) (mx, h, lo) (by rw [getElem!_pos l i hi]; exact hmx _ (List.getElem_mem hi)) hm]
    congr 1
    rw [decide_eq_decide]
    exact lt_pos l (mx, h, lo) hs i hi
  have HRD : Aside (∀ (i : Nat) (W : World), Below W0.heap.size W0 W → i < l.length → ∃ ad, A = some ad ∧ W.cell? (ad.add (i * 2)) = some (.int .u64 (l[i]!).2.1) ∧ W.cell? ⟨(ad.add (i * 2)).block, (ad.add (i * 2)).off + 1, none⟩ = some (.int .u64 (l[i]!).2.2)) := fun i W hW hi => by
    obtain ⟨ad, e, e0, e1⟩ := at_T26 (Kd.C_below HC0.out hW) (i : Int) (by omega) (by omega)
    rw [rd_ids l i hi] at e0 e1
    exact ⟨ad, e, e0, e1⟩
  have HCL : Aside (∀ (W : World), Below W0.heap.size W0 W → W.cell? ⟨B, 0, none⟩ = some (.int .i64 most) ∧ W.cell? ⟨B, 1, none⟩ = some (.slice A l.length c) ∧ W.cell? ⟨w.heap.size, 0, none⟩ = some (.int .u64 h) ∧ W.cell? ⟨w.heap.size, 1, none⟩ = some (.int .u64 lo)) := fun W hW => by
    have a := blk_below HG0.out hW
    have b := blk_below HT0.out hW
    exact ⟨(cell_of_row _ _ 0 _ _ _ a).trans rfl, (cell_of_row _ _ 1 _ _ _ a).trans rfl, (cell_of_row _ _ 0 _ _ _ b).trans rfl, (cell_of_row _ _ 1 _ _ _ b).trans rfl⟩
  have HPL : Aside (pos l (mx, h, lo) ≤ l.length) := pos_le _ _
  have HBS : Aside (base ≤ w.heap.size) := hbase
  have HS0 : Aside (Below W0.heap.size W0 W0) := Below.refl _ _
  have HNC : Aside (l.length ≤ c) := hnc
  clear hF hC hbase
  go_enter Tryd.func54, Tryd.ntmps54
  go_wp2
  rw [← hW0]
  clear hW0
  go_loopg [5] l.length (fun kx s5 wr => ∃ i : Nat, s5 = .int .i64 i ∧ i ≤ pos l (mx, h, lo) ∧ pos l (mx, h, lo) - i ≤ kx ∧ Aside (Below W0.heap.size W0 wr))
  case atStart => exact ⟨0, rfl, Nat.zero_le _, by have := HPL.out; omega, HS0⟩
  case round =>
    clear HS0
    obtain ⟨i, rfl, hip, hg, S1⟩ := hrel
    have cB : ∀ z : Wx wr, z.W.cell? ⟨B, 1, none⟩ = some (.slice A l.length c) := fun z => (HCL.out z.W (S1.out.trans (z.h.mono S1.out.size))).2.1
    have cT0 : ∀ z : Wx wr, z.W.cell? ⟨w.heap.size, 0, none⟩ = some (.int .u64 h) := fun z => (HCL.out z.W (S1.out.trans (z.h.mono S1.out.size))).2.2.1
    have cT1 : ∀ z : Wx wr, z.W.cell? ⟨w.heap.size, 1, none⟩ = some (.int .u64 lo) := fun z => (HCL.out z.W (S1.out.trans (z.h.mono S1.out.size))).2.2.2
    by_cases hin : i < l.length
    · have hd1 : decide ((i : Int) < (l.length : Int)) = true := by simpa using hin
      obtain ⟨ad, hA, _⟩ := HRD.out i wr S1.out hin
      subst hA
      have cL : ∀ z : Wx wr, z.W.cell? (ad.add (i * 2)) = some (.int .u64 (l[i]!).2.1) ∧ z.W.cell? ⟨(ad.add (i * 2)).block, (ad.add (i * 2)).off + 1, none⟩ = some (.int .u64 (l[i]!).2.2) := fun z => by
        obtain ⟨ad', e, e0, e1⟩ := HRD.out i z.W (S1.out.trans (z.h.mono S1.out.size)) hin
        cases e
        exact ⟨e0, e1⟩
      have cL0 := fun z => (cL z).1
      have cL1 := fun z => (cL z).2
      clear cL
      have HL1 := Lib.hid (fun W => HLESS.out i W hin)
      have HY : ∃ y, y = l[i]! := ⟨_, rfl⟩
      obtain ⟨y, hy⟩ := HY
      rw [← hy] at cL0 cL1 HL1
      have HYY := Lib.hid hy
      clear hy
      by_cases hlt : i < pos l (mx, h, lo)
      · have hdl : decide (i < pos l (mx, h, lo)) = true := by simpa using hlt
        rw [hdl] at HL1
        go_wp2
        refine wp_region_ext (by kernel_rfl) (by kernel_rfl) ?_
        repeat (go_big_quiet_step ((go_at_call 59; with_reducible exact Calls.ext_of (HL1.out _))))
        refine wpQuiet_nil ?_
        intro _ hw'
        obtain ⟨zz, rfl⟩ := hw'
        have S2 : Aside (Below W0.heap.size W0 zz.W) := S1.out.trans (zz.h.mono S1.out.size)
        clear cB cT0 cT1 cL0 cL1 HL1
        go_wp2
        go_roundg (pos l (mx, h, lo) - (i + 1))
        case measure => omega
        case rel => exact ⟨i + 1, by rfl, by omega, Nat.le_refl _, S2⟩
      · have hdl : decide (i < pos l (mx, h, lo)) = false := by simpa using hlt
        rw [hdl] at HL1
        have HIP := Lib.hid (show i = pos l (mx, h, lo) by omega)
        go_wp2
        refine wp_region_ext (by kernel_rfl) (by kernel_rfl) ?_
        repeat (go_big_quiet_step ((go_at_call 59; with_reducible exact Calls.ext_of (HL1.out _))))
        refine wpQuiet_nil ?_
        intro _ hw'
        obtain ⟨zz, rfl⟩ := hw'
        have S2 : Aside (Below W0.heap.size W0 zz.W) := S1.out.trans (zz.h.mono S1.out.size)
        have dB : ∀ z : Wx zz.W, z.W.cell? ⟨B, 1, none⟩ = some (.slice (some ad) l.length c) := fun z => z.cell (cB zz)
        have dT0 : ∀ z : Wx zz.W, z.W.cell? ⟨w.heap.size, 0, none⟩ = some (.int .u64 h) := fun z => z.cell (cT0 zz)
        have dT1 : ∀ z : Wx zz.W, z.W.cell? ⟨w.heap.size, 1, none⟩ = some (.int .u64 lo) := fun z => z.cell (cT1 zz)
        have dL0 : ∀ z : Wx zz.W, z.W.cell? (ad.add (i * 2)) = some (.int .u64 y.2.1) := fun z => pw_cell_below z.h (cL0 zz)
        have dL1 : ∀ z : Wx zz.W, z.W.cell? ⟨(ad.add (i * 2)).block, (ad.add (i * 2)).off + 1, none⟩ = some (.int .u64 y.2.2) := fun z => pw_cell_below z.h (cL1 zz)
        clear cB cT0 cT1 cL0 cL1 HL1
        obtain ⟨fin, hfin⟩ : ∃ fin, fin = (y.2.1 == h && (y.2.2 == lo)) := ⟨_, rfl⟩
        have HFN : Hid (HAt l (mx, h, lo) (pos l (mx, h, lo)) = fin) := by
          rw [← HIP.out, hfin]
          have hym : sample_Mix.f y.2.1 y.2.2 = some y.1 := by rw [HYY.out, getElem!_pos l i hin]; exact hmx _ (List.getElem_mem hin)
          unfold HAt
          rw [decide_eq_true hin, Bool.true_and, ← HYY.out]
          obtain ⟨y1, y2, y3⟩ := y
          rw [Bool.eq_iff_iff]
          simp only [decide_eq_true_eq, Bool.and_eq_true, beq_iff_eq, Prod.mk.injEq]
          constructor
          · rintro ⟨_, a, b⟩; exact ⟨a, b⟩
          · rintro ⟨a, b⟩
            refine ⟨?_, a, b⟩
            simp only at hym
            rw [a, b, hm] at hym
            injection hym with hym
            exact hym.symm
        have hfin' := hfin.symm
        clear hfin
        generalize zz.W = W2 at *
        go_wp2
        refine wp_region_ext (by kernel_rfl) (by kernel_rfl) ?_
        repeat (go_big_quiet_step (fail))
        refine wpQuiet_nil ?_
        intro _ hw'
        obtain ⟨zz, rfl⟩ := hw'
        have S3 : Aside (Below W0.heap.size W0 zz.W) := S2.out.trans (zz.h.mono S2.out.size)
        clear dB dT0 dT1 dL0 dL1
        generalize zz.W = W3 at *
        cases fin with
        | true =>
          go_wp2
          go_ret
          have hp : pos l (mx, h, lo) < most := by have := HIP.out; omega
          have hbw : Below w.heap.size w W3 := HB0.out.trans (S3.out.mono HB0.out.size)
          exact ⟨_, by simp [hp], by rw [insL_old HFN.out, List.take_of_length_le hl]; exact HF.out.kept (Kx.of_below hbw (fun _ => False)) (fun h => h) (fun _ _ h => h), Kx.of_below hbw _⟩
        | false =>
          obtain ⟨A, hAA⟩ : ∃ A, A = some ad := ⟨_, rfl⟩
          rw [← hAA] at HC0 HF HCL HRD HG0
          clear hAA
          have hil : i ≤ l.length := by omega
          obtain ⟨i0, hi0, hzz⟩ := Option.map_eq_some_iff.1 info26
          simp only [Prod.mk.injEq] at hzz
          have hcutT := cut_to (P := Tryd.prog) 71 26 .i64 Tryd.underlying71 hi0 A l.length c (i : Int) (by omega) (by omega) HNC.out
          have hcutF := cut_from (P := Tryd.prog) 71 26 .i64 Tryd.underlying71 hi0 2 hzz.2.1 A l.length c (i : Int) (by omega) (by omega)
          rw [Int.toNat_natCast] at hcutT hcutF
          have HCF : Hid (∀ W : World, Below W0.heap.size W0 W → Kd.C k26 W (if c = i then A else A.map (·.add (i * 2))) (l.length - i) ((ids l).drop i)) := fun W hW => by
            have h := Kd.C_drop (c := c) (m := i) (by rw [ids_length]; exact Kd.C_below HC0.out hW : Kd.C k26 W A (ids l).length (ids l)) (by rw [ids_length]; omega) (by rw [ids_length]; exact HNC.out)
            rw [show ((ids l).drop i).length = l.length - i by rw [List.length_drop, ids_length]] at h
            exact h
          generalize (if c = i then A else A.map (·.add (i * 2))) = A2 at hcutF HCF
          have HCT : Hid (∀ W : World, Below W0.heap.size W0 W → Kd.C k26 W A i ((ids l).take i)) := fun W hW => by
            have h := Kd.C_take (m := i) (by rw [ids_length]; exact Kd.C_below HC0.out hW : Kd.C k26 W A (ids l).length (ids l)) (by rw [ids_length]; omega)
            rw [show ((ids l).take i).length = i by rw [List.length_take, ids_length]; omega] at h
            exact h
          have HKM : Hid (∀ (W : World) x cs, k26.K W x cs → k26.M W W0.heap.size (fun _ => False) x cs) := fun W x cs h => by rw [k26_open h]; exact k26_mkM _ _ _ x
          have e1 := (HCL.out _ S3.out).2.1
          have hlm : l.length ≤ 1000 := by omega
          go_wp2_with (first
            | ((with_reducible refine gate_builtin (b := .append) (xs := #[.tmp 45, .tmp 51]) rfl ?_); at_builtin; refine Kd.R_append_rows k26 (w0 := W0) W0.heap.size rfl (.tmp 45) (.tmp 51) 71 26 (.agg #[(.int .u64 0), (.int .u64 0)]) 16 rfl Tryd.underlying71 info26 rfl (by decide) (by omega) (.slice none 0 0) [] ((ids l).take i) A i c (fun _ => True) (fun _ => False) rfl (by first | (go_simp; done) | (go_simp; rfl)) (Kd.R_nil _ _ _ _ _) (HCT.out _ S3.out) (HKM.out _) (fun _ h => h.elim) (fun _ _ => trivial) S3.out S3.out.size (by simp only [List.length_nil]; omega) ?_
               intro v1 w1 ho hb hg hat
               have R1 : Hid (Kd.R k26 26 w1 W0.heap.size (fun _ => True) v1 ((ids l).take i)) := ho
               have S4 : Aside (Below W0.heap.size W0 w1) := hb
               have t0 := (HCL.out _ hb).2.2.1
               have t1 := (HCL.out _ hb).2.2.2
               clear ho hb hg hat e1)
            | ((with_reducible refine gate_builtin (b := .append) (xs := #[.tmp 53, .tmp 55]) rfl ?_); at_builtin; refine Kd.R_append k26 (w0 := W0) W0.heap.size rfl (.tmp 53) (.tmp 55) 71 26 (.agg #[(.int .u64 0), (.int .u64 0)]) 16 rfl Tryd.underlying71 info26 rfl (by decide) (by omega) v1 ((ids l).take i) (⟨h, lo⟩ : S26) [.int .u64 h, .int .u64 lo] (fun _ => True) (fun _ => False) rfl (by first | (go_simp; done) | (go_simp; rfl)) (k26_mkM _ _ _ (⟨h, lo⟩ : S26)) (fun _ h => h.elim) (fun _ _ => trivial) R1.out S4.out S4.out.size (by rw [List.length_take, ids_length]; omega) ?_
               intro v2 w2 ho hb hg hat
               have R2 : Hid (Kd.R k26 26 w2 W0.heap.size (fun _ => True) v2 ((ids l).take i ++ [(⟨h, lo⟩ : S26)])) := ho
               have S5 : Aside (Below W0.heap.size W0 w2) := hb
               have e2 := (HCL.out _ hb).2.1
               clear ho hb hg hat t0 t1)
            | ((with_reducible refine gate_builtin (b := .append) (xs := #[.tmp 57, .tmp 63]) rfl ?_); at_builtin; refine Kd.R_append_rows k26 (w0 := W0) W0.heap.size rfl (.tmp 57) (.tmp 63) 71 26 (.agg #[(.int .u64 0), (.int .u64 0)]) 16 rfl Tryd.underlying71 info26 rfl (by decide) (by omega) v2 ((ids l).take i ++ [(⟨h, lo⟩ : S26)]) ((ids l).drop i) A2 (l.length - i) (c - i) (fun _ => True) (fun _ => False) rfl (by first | (go_simp; done) | (go_simp; rfl)) R2.out (HCF.out _ S5.out) (HKM.out _) (fun _ h => h.elim) (fun _ _ => trivial) S5.out S5.out.size (by simp only [List.length_append, List.length_take, List.length_drop, ids_length, List.length_cons, List.length_nil]; omega) ?_
               intro v3 w3 ho hb hg hat
               obtain ⟨A3, c3, hv3⟩ := Kd.R_slice ho
               have HLN : ((ids l).take i ++ [(⟨h, lo⟩ : S26)] ++ (ids l).drop i).length = l.length + 1 := by simp only [List.length_append, List.length_take, List.length_drop, ids_length, List.length_cons, List.length_nil]; omega
               rw [HLN] at hv3
               clear HLN
               subst hv3
               have R3 : Hid (Kd.R k26 26 w3 W0.heap.size (fun _ => True) (.slice A3 (l.length + 1) c3) ((ids l).take i ++ [(⟨h, lo⟩ : S26)] ++ (ids l).drop i)) := ho
               have S6 : Aside (Below W0.heap.size W0 w3) := hb
               have e3 := (HCL.out _ hb).2.1
               have e4 := (HCL.out _ hb).1
               have hf := fun j => blk_frozen (blk_below HG0.out hb) j
               have hc3 := (Kd.R_reads' ho).2.1
               clear ho hb hg hat e2))
          have HE : RefPut w base B most l (mx, h, lo) (.returned (.bool (decide ((i : Int) < max (min ((l.length : Int) + 1) (most : Int)) 0)))) (w3.setCell ⟨B, 1, none⟩ (.slice A3 (min ((l.length : Int) + 1) (most : Int)).toNat c3)) :=
            ref_put_end base B most l (mx, h, lo) i HIP.out hil HFN.out w W0 w3 A c A3 c3 HB0.out HG0.out S6.out R3.out HBS.out
          have HE' := Lib.hid HE
          clear HE
          go_ret
          exact HE'.out
    · have hd1 : decide ((i : Int) < (l.length : Int)) = false := by simpa using hin
      have HIP := Lib.hid (show i = pos l (mx, h, lo) by have := HPL.out; omega)
      have HFN := Lib.hid (show HAt l (mx, h, lo) (pos l (mx, h, lo)) = false by rw [← HIP.out]; unfold HAt; rw [decide_eq_false hin, Bool.false_and])
      have hil : i ≤ l.length := by have := HPL.out; omega
      go_wp2
      refine wp_region_ext (by kernel_rfl) (by kernel_rfl) ?_
      repeat (go_big_quiet_step (fail))
      refine wpQuiet_nil ?_
      intro _ hw'
      obtain ⟨zz, rfl⟩ := hw'
      have S2 : Aside (Below W0.heap.size W0 zz.W) := S1.out.trans (zz.h.mono S1.out.size)
      have dB : ∀ z : Wx zz.W, z.W.cell? ⟨B, 1, none⟩ = some (.slice A l.length c) := fun z => z.cell (cB zz)
      clear cB cT0 cT1
      generalize zz.W = W2 at *
      go_wp2
      refine wp_region_ext (by kernel_rfl) (by kernel_rfl) ?_
      repeat (go_big_quiet_step (fail))
      refine wpQuiet_nil ?_
      intro _ hw'
      obtain ⟨zz, rfl⟩ := hw'
      have S3 : Aside (Below W0.heap.size W0 zz.W) := S2.out.trans (zz.h.mono S2.out.size)
      clear dB
      generalize zz.W = W3 at *
      obtain ⟨i0, hi0, hzz⟩ := Option.map_eq_some_iff.1 info26
      simp only [Prod.mk.injEq] at hzz
      have hcutT := cut_to (P := Tryd.prog) 71 26 .i64 Tryd.underlying71 hi0 A l.length c (i : Int) (by omega) (by omega) HNC.out
      have hcutF := cut_from (P := Tryd.prog) 71 26 .i64 Tryd.underlying71 hi0 2 hzz.2.1 A l.length c (i : Int) (by omega) (by omega)
      rw [Int.toNat_natCast] at hcutT hcutF
      have HCF : Hid (∀ W : World, Below W0.heap.size W0 W → Kd.C k26 W (if c = i then A else A.map (·.add (i * 2))) (l.length - i) ((ids l).drop i)) := fun W hW => by
        have h := Kd.C_drop (c := c) (m := i) (by rw [ids_length]; exact Kd.C_below HC0.out hW : Kd.C k26 W A (ids l).length (ids l)) (by rw [ids_length]; omega) (by rw [ids_length]; exact HNC.out)
        rw [show ((ids l).drop i).length = l.length - i by rw [List.length_drop, ids_length]] at h
        exact h
      generalize (if c = i then A else A.map (·.add (i * 2))) = A2 at hcutF HCF
      have HCT : Hid (∀ W : World, Below W0.heap.size W0 W → Kd.C k26 W A i ((ids l).take i)) := fun W hW => by
        have h := Kd.C_take (m := i) (by rw [ids_length]; exact Kd.C_below HC0.out hW : Kd.C k26 W A (ids l).length (ids l)) (by rw [ids_length]; omega)
        rw [show ((ids l).take i).length = i by rw [List.length_take, ids_length]; omega] at h
        exact h
      have HKM : Hid (∀ (W : World) x cs, k26.K W x cs → k26.M W W0.heap.size (fun _ => False) x cs) := fun W x cs h => by rw [k26_open h]; exact k26_mkM _ _ _ x
      have e1 := (HCL.out _ S3.out).2.1
      have hlm : l.length ≤ 1000 := by omega
      go_wp2_with (first
        | ((with_reducible refine gate_builtin (b := .append) (xs := #[.tmp 45, .tmp 51]) rfl ?_); at_builtin; refine Kd.R_append_rows k26 (w0 := W0) W0.heap.size rfl (.tmp 45) (.tmp 51) 71 26 (.agg #[(.int .u64 0), (.int .u64 0)]) 16 rfl Tryd.underlying71 info26 rfl (by decide) (by omega) (.slice none 0 0) [] ((ids l).take i) A i c (fun _ => True) (fun _ => False) rfl (by first | (go_simp; done) | (go_simp; rfl)) (Kd.R_nil _ _ _ _ _) (HCT.out _ S3.out) (HKM.out _) (fun _ h => h.elim) (fun _ _ => trivial) S3.out S3.out.size (by simp only [List.length_nil]; omega) ?_
           intro v1 w1 ho hb hg hat
           have R1 : Hid (Kd.R k26 26 w1 W0.heap.size (fun _ => True) v1 ((ids l).take i)) := ho
           have S4 : Aside (Below W0.heap.size W0 w1) := hb
           have t0 := (HCL.out _ hb).2.2.1
           have t1 := (HCL.out _ hb).2.2.2
           clear ho hb hg hat e1)
        | ((with_reducible refine gate_builtin (b := .append) (xs := #[.tmp 53, .tmp 55]) rfl ?_); at_builtin; refine Kd.R_append k26 (w0 := W0) W0.heap.size rfl (.tmp 53) (.tmp 55) 71 26 (.agg #[(.int .u64 0), (.int .u64 0)]) 16 rfl Tryd.underlying71 info26 rfl (by decide) (by omega) v1 ((ids l).take i) (⟨h, lo⟩ : S26) [.int .u64 h, .int .u64 lo] (fun _ => True) (fun _ => False) rfl (by first | (go_simp; done) | (go_simp; rfl)) (k26_mkM _ _ _ (⟨h, lo⟩ : S26)) (fun _ h => h.elim) (fun _ _ => trivial) R1.out S4.out S4.out.size (by rw [List.length_take, ids_length]; omega) ?_
           intro v2 w2 ho hb hg hat
           have R2 : Hid (Kd.R k26 26 w2 W0.heap.size (fun _ => True) v2 ((ids l).take i ++ [(⟨h, lo⟩ : S26)])) := ho
           have S5 : Aside (Below W0.heap.size W0 w2) := hb
           have e2 := (HCL.out _ hb).2.1
           clear ho hb hg hat t0 t1)
        | ((with_reducible refine gate_builtin (b := .append) (xs := #[.tmp 57, .tmp 63]) rfl ?_); at_builtin; refine Kd.R_append_rows k26 (w0 := W0) W0.heap.size rfl (.tmp 57) (.tmp 63) 71 26 (.agg #[(.int .u64 0), (.int .u64 0)]) 16 rfl Tryd.underlying71 info26 rfl (by decide) (by omega) v2 ((ids l).take i ++ [(⟨h, lo⟩ : S26)]) ((ids l).drop i) A2 (l.length - i) (c - i) (fun _ => True) (fun _ => False) rfl (by first | (go_simp; done) | (go_simp; rfl)) R2.out (HCF.out _ S5.out) (HKM.out _) (fun _ h => h.elim) (fun _ _ => trivial) S5.out S5.out.size (by simp only [List.length_append, List.length_take, List.length_drop, ids_length, List.length_cons, List.length_nil]; omega) ?_
           intro v3 w3 ho hb hg hat
           obtain ⟨A3, c3, hv3⟩ := Kd.R_slice ho
           have HLN : ((ids l).take i ++ [(⟨h, lo⟩ : S26)] ++ (ids l).drop i).length = l.length + 1 := by simp only [List.length_append, List.length_take, List.length_drop, ids_length, List.length_cons, List.length_nil]; omega
           rw [HLN] at hv3
           clear HLN
           subst hv3
           have R3 : Hid (Kd.R k26 26 w3 W0.heap.size (fun _ => True) (.slice A3 (l.length + 1) c3) ((ids l).take i ++ [(⟨h, lo⟩ : S26)] ++ (ids l).drop i)) := ho
           have S6 : Aside (Below W0.heap.size W0 w3) := hb
           have e3 := (HCL.out _ hb).2.1
           have e4 := (HCL.out _ hb).1
           have hf := fun j => blk_frozen (blk_below HG0.out hb) j
           have hc3 := (Kd.R_reads' ho).2.1
           clear ho hb hg hat e2))
      have HE : RefPut w base B most l (mx, h, lo) (.returned (.bool (decide ((i : Int) < max (min ((l.length : Int) + 1) (most : Int)) 0)))) (w3.setCell ⟨B, 1, none⟩ (.slice A3 (min ((l.length : Int) + 1) (most : Int)).toNat c3)) :=
        ref_put_end base B most l (mx, h, lo) i HIP.out hil HFN.out w W0 w3 A c A3 c3 HB0.out HG0.out S6.out R3.out HBS.out
      have HE' := Lib.hid HE
      clear HE
      go_ret
      exact HE'.out
end Go.Proofs.YtdlnfmakfnggpaaDoor.Pr
