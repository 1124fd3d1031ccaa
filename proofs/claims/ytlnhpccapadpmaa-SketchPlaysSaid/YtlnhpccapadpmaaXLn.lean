/- What is lent, kept, written over: rows of bars with two marks behind them. -/
import Derived.Test.YtlnhpccapadpmaaPr0b
import Derived.Test.YtlnhpccapadpmaaMc
import Derived.Test.YtlnhpccapadpmaaPreb
import Derived.OwnWalk
import Derived.Outline
namespace Go.Proofs.Ytlnhpccapadpmaa.Pr
open Go.RowKit Go.Proofs.YtlnhpccapadpmaaW.PrintWords Go.Proofs.YtlnhpccapadpmaaW.PrintLast Go.Proofs.YtlnhpccapadpmaaW.PrintMore
set_option linter.unusedVariables false
set_option linter.unusedSimpArgs false
attribute [local go_sem high] eqA61
def enc61 (b : S61) : List Value := [.int .i64 b.f0, .int .u64 b.f1]
def flat (l : List S61) : List Value := l.flatMap enc61
theorem flat_len (l : List S61) : (flat l).length = l.length * 2 := by
  induction l with
  | nil => rfl
  | cons a l ih => show (enc61 a ++ flat l).length = _; rw [List.length_append, ih, List.length_cons]; simp [enc61]; omega
theorem flat_app (a b : List S61) : flat (a ++ b) = flat a ++ flat b := List.flatMap_append
theorem flat_get (l : List S61) : ∀ (j i : Nat) (p : S61), l[j]? = some p → i < 2 → (flat l)[j * 2 + i]? = (enc61 p)[i]? := by
  induction l with
  | nil => intro j i p h; simp at h
  | cons a l ih =>
    intro j i p h hi
    show (enc61 a ++ flat l)[j * 2 + i]? = _
    rcases j with _ | j
    · obtain rfl : a = p := by simpa using h
      rw [Nat.zero_mul, Nat.zero_add, List.getElem?_append_left (by simpa [enc61] using hi)]
    · rw [List.getElem?_append_right (by simp [enc61]; omega)]
      have := ih j i p (by simpa using h) hi
      rw [← this]
      congr 1
      simp [enc61]
      omega
theorem flat_one (l : List S61) : ∀ u ∈ flat l, u.oneCell' = true := by
  intro u hu
  obtain ⟨b, _, hb⟩ := List.mem_flatMap.1 hu
  rcases List.mem_cons.1 hb with rfl | hb
  · rfl
  · rcases List.mem_cons.1 hb with rfl | hb
    · rfl
    · simp at hb
theorem flat_at {l : List S61} {q : Nat} {u : Value} (h : (flat l)[q]? = some u) : ∃ p, l[q / 2]? = some p ∧ (enc61 p)[q % 2]? = some u := by
  have hq : q < l.length * 2 := by rw [← flat_len]; exact (List.getElem?_eq_some_iff.1 h).1
  have hl : q / 2 < l.length := by omega
  refine ⟨l[q / 2], by simp [hl], ?_⟩
  rw [← flat_get l (q / 2) (q % 2) l[q / 2] (by simp [hl]) (by omega), show q / 2 * 2 + q % 2 = q by omega]
  exact h
/-- The cells of a row that is read. -/
theorem cells_of_C {w : World} {ad : Addr} {l : List S61} (h : Kd.C k61 w (some ad) l.length l) (hne : 0 < l.length) : ∀ (q : Nat) (u : Value), (flat l)[q]? = some u → w.cell? (ad.add q) = some u := by
  intro q u hu
  obtain ⟨p, hp, hv⟩ := flat_at hu
  obtain ⟨ad', e, hc⟩ := h.2.2 hne
  cases e
  obtain ⟨c, hcl, hK, hcell⟩ := hc _ p hp
  rw [k61_open hK] at hcell
  have := hcell (q % 2) u hv
  rw [show q / 2 * k61.sz + q % 2 = q by show q / 2 * 2 + q % 2 = q; omega] at this
  exact this
/-- A row out of a block that is known. -/
theorem C_blk {w : World} {g : Nat} {m l r : List S61} (hb : w.heap[g]? = some (.cells (flat m).toArray 61 (0, 0))) (e : m = l ++ r) (hl : l.length ≤ 9223372036854775807) : Kd.C k61 w (some ⟨g, 0, none⟩) l.length l := by
  refine ⟨rfl, hl, fun _ => ⟨_, rfl, fun j p hj => ⟨enc61 p, rfl, k61_mk w p, fun i u hu => ?_⟩⟩⟩
  have hi : i < 2 := (List.getElem?_eq_some_iff.1 hu).1
  show w.cell? (Addr.add ⟨g, 0, none⟩ (j * 2 + i)) = _
  rw [Addr.add_lit, blk_cell hb, Nat.zero_add, List.getElem?_toArray, e, flat_app, List.getElem?_append_left (by rw [flat_len]; have := (List.getElem?_eq_some_iff.1 hj).1; omega), flat_get l j i p hj hi]
  exact hu
def marks : List S61 := [⟨-71, 0⟩, ⟨-72, 0⟩]
theorem info61x : ∃ i, Try.prog.info? 61 = some i ∧ i.zero = some (.agg #[.int .i64 0, .int .u64 0]) ∧ i.size = 2 ∧ i.bytes = 16 := by
  obtain ⟨i, h, e⟩ := Option.map_eq_some_iff.1 (show (Try.prog.info? 61).map (fun i => (i.zero, i.size, i.bytes)) = some (some (.agg #[.int .i64 0, .int .u64 0]), 2, 16) by kernel_rfl)
  simp only [Prod.mk.injEq] at e
  exact ⟨i, h, e⟩
def LentPost (W : World) (l : List S61) (e : Ending) (w' : World) : Prop := e = .returned (.slice (some ⟨W.heap.size, 0, none⟩) l.length (l.length + 2)) ∧ w'.heap[W.heap.size]? = some (.cells (flat (l ++ marks)).toArray 61 (0, 0)) ∧ Below W.heap.size W w'
theorem lent_run (A : Option Addr) (c : Nat) (l : List S61) (W : World) (hr : Kd.C k61 W A l.length l) (hc : l.length ≤ c) (hl : l.length ≤ 2147483647) (hn : A = none → c = 0) :
    Calls Try.prog 22 #[.slice A l.length c] W (LentPost W l) := by
  have HR := Lib.hid hr
  have HN := Lib.hid hn
  obtain ⟨i0, hi, hz, hs, hb⟩ := info61x
  clear hr hn
  go_enter Try.func22, Try.ntmps22
  have hm := HR.out.2.1
  unfold maxLen at *
  go_wp2_with (refine wpList_make_own _ rfl _ _ 31 rfl W.heap.size 61 i0 (.agg #[.int .i64 0, .int .u64 0]) 2 Try.underlying31 hi hz hs .i64 .i64 _ (l.length + 2) rfl rfl ?c1 ?c2 ?c3 (Nat.le_refl _) ?_)
  case c1 => rfl
  case c2 => rw [hb]; omega
  case c3 => simp only [maxLen]; omega
  intro w1 ho1 hg1
  have hb1 := Lib.hid (pw_below_grown (Below.refl W.heap.size W) none (Nat.le_refl _) hg1 (by simp))
  have ho1' : w1.ownsRow W.heap.size 61 2 (.slice (some ⟨W.heap.size, 0, none⟩) 0 (l.length + 2)) 0 [] := ho1
  have hsrc : ∀ ad, A = some ad → ∀ j u, (flat l)[j]? = some u → w1.cell? (ad.add j) = some u := by
    rintro ad rfl j u hu
    have hne : 0 < l.length := by have := (List.getElem?_eq_some_iff.1 hu).1; rw [flat_len] at this; omega
    exact pw_cell_below hb1.out (cells_of_C HR.out hne j u hu)
  have hno : A = none → l.length = 0 ∧ c = 0 := fun e => ⟨by have := HN.out e; omega, HN.out e⟩
  have HS := Lib.hid hsrc
  have HO := Lib.hid hno
  clear hsrc hno hg1
  go_wp2_with (refine wpList_append_fits_any _ rfl (.tmp 8) (.tmp 9) 31 rfl W.heap.size 61 i0 2 Try.underlying31 hi hs W.heap.size 0 (l.length + 2) [] rfl ho1' A l.length c (flat l) rfl (flat_len l) HO.out HS.out (flat_one l) (by omega) ?_)
  intro w2 ho2 hg2
  have ho2' : w2.ownsRow W.heap.size 61 2 (.slice (some ⟨W.heap.size, 0, none⟩) l.length (l.length + 2)) l.length (flat l) := by simpa using ho2
  have hb2 := Lib.hid (pw_below_grown hb1.out (some W.heap.size) hb1.out.size hg2 (fun k e => by cases e; exact Nat.le_refl _))
  clear hg2 ho2 ho1 ho1'
  have hmk : ∀ ad, some (⟨w2.heap.size, 0, none⟩ : Addr) = some ad → ∀ j u, (flat marks)[j]? = some u → (w2.alloc (.cells #[.int .i64 (-71), .int .u64 0, .int .i64 (-72), .int .u64 0] 61)).cell? (ad.add j) = some u := by
    intro ad e j u hu
    cases e
    rw [Addr.add_lit, blk_cell (blk_new w2 _), Nat.zero_add]
    rw [← List.getElem?_toArray] at hu
    exact hu
  have HK := Lib.hid hmk
  have ho3 := ho2'.alloc (.cells #[.int .i64 (-71), .int .u64 0, .int .i64 (-72), .int .u64 0] 61)
  have hb3 := Lib.hid (below_alloc hb2.out (.cells #[.int .i64 (-71), .int .u64 0, .int .i64 (-72), .int .u64 0] 61))
  clear hmk ho2'
  go_wp2_with (refine wpList_append_fits_any _ rfl (.tmp 11) (.tmp 14) 31 rfl W.heap.size 61 i0 2 Try.underlying31 hi hs W.heap.size l.length (l.length + 2) (flat l) rfl ho3 (some ⟨w2.heap.size, 0, none⟩) 2 2 (flat marks) rfl rfl (by simp) HK.out (flat_one marks) (Nat.le_refl _) ?_)
  intro w3 ho4 hg3
  have ho5 := Lib.hid ho4
  have hb4 := Lib.hid (pw_below_grown hb3.out (some W.heap.size) hb3.out.size hg3 (fun k e => by cases e; exact Nat.le_refl _))
  have e1 : (l.length : Int) ≤ ((l.length + 2 : Nat) : Int) := by omega
  have e2 : (0 : Int) ≤ (l.length : Int) := by omega
  clear hg3 ho4 ho3
  go_wp2_with fail
  go_ret
  refine ⟨rfl, ?_, hb4.out⟩
  obtain ⟨_, h | ⟨g, cap, cur, e, _, hblk, _, _, hsz, htk⟩⟩ := ho5.out
  · cases h.1
  · cases e
    have hcur : cur = (flat (l ++ marks)).toArray := by
      rw [flat_app, ← htk, List.take_of_length_le (by rw [Array.length_toList, hsz]; exact Nat.le_refl _)]
    rw [hcur] at hblk
    exact hblk
/-! ### kept, over -/
def half (b : S61) : S61 := ⟨b.f0, b.f1 / 2 + 1⟩
def halfTo (l : List S61) (k : Nat) : List S61 := (l.take k).map half ++ l.drop k
theorem halfTo_len (l : List S61) (k : Nat) : (halfTo l k).length = l.length := by unfold halfTo; simp; omega
theorem flat_set (l : List S61) (k : Nat) (p : S61) (v : Int) (hk : l[k]? = some p) : (flat l).set (k * 2 + 1) (.int .u64 v) = flat (l.set k ⟨p.f0, v⟩) := by
  induction l generalizing k with
  | nil => simp at hk
  | cons a l ih =>
    rcases k with _ | k
    · obtain rfl : a = p := by simpa using hk
      rfl
    · have := ih k (by simpa using hk)
      rw [show (k + 1) * 2 + 1 = (k * 2 + 1) + 1 + 1 by omega]
      show Value.int .i64 a.f0 :: Value.int .u64 a.f1 :: (flat l).set (k * 2 + 1) _ = Value.int .i64 a.f0 :: Value.int .u64 a.f1 :: flat (l.set k _)
      rw [this]
theorem halfTo_get (l : List S61) (k : Nat) (h : k < l.length) : (halfTo l k)[k]? = some l[k] := by
  unfold halfTo
  rw [List.getElem?_append_right (by simp; omega)]
  simp [h]
  rw [show k - min k l.length = 0 by omega]
  simp [h]
theorem halfTo_set (l : List S61) (k : Nat) (h : k < l.length) : (halfTo l k).set k (half l[k]) = halfTo l (k + 1) := by
  unfold halfTo
  rw [List.set_append_right _ _ (by simp; omega), show k - ((l.take k).map half).length = 0 by simp; omega, List.drop_eq_getElem_cons h, List.set_cons_zero, List.take_succ_eq_append_getElem h, List.map_append]
  simp
/-- All but one block is as it was. -/
structure Far (g : Nat) (W w' : World) : Prop where
  low : Below 0 W w'
  far : ∀ k, k < W.heap.size → k ≠ g → w'.heap[k]? = W.heap[k]?
theorem Far.refl (g : Nat) (W : World) : Far g W W := ⟨Below.refl _ _, fun _ _ _ => rfl⟩
theorem Far.set {g : Nat} {W w' : World} (h : Far g W w') (j : Nat) (v : Value) : Far g W (w'.setCell ⟨g, j, none⟩ v) :=
  ⟨h.low.setCell (Nat.zero_le _) _, fun k h1 h2 => (Below.heap_setCell _ _ _ _ h2).trans (h.far k h1 h2)⟩
theorem Far.drew {g : Nat} {W w' : World} (n : Nat) (h : Far g (W.drewN n) w') : Far g W w' := ⟨⟨h.low.os, h.low.tape, h.low.output, h.low.size, fun k hk => absurd hk (Nat.not_lt_zero _)⟩, h.far⟩
theorem Far.below {g B : Nat} {W0 W w' : World} (h : Far g W w') (hb : Below B W0 W) (hB : B ≤ W.heap.size) (hg : B ≤ g) : Below B W0 w' :=
  ⟨h.low.os.trans hb.os, h.low.tape.trans hb.tape, h.low.output.trans hb.output, Nat.le_trans hb.size h.low.size, fun k hk => (h.far k (by omega) (by omega)).trans (hb.block k hk)⟩
def KeptPost (W : World) (g : Nat) (l : List S61) (e : Ending) (w' : World) : Prop := e = .returned (.bool true) ∧ w'.heap[g]? = some (.cells (flat (l.map half ++ marks)).toArray 61 (0, 0)) ∧ Far g W w'
set_option maxHeartbeats 4000000 in
theorem kept_run (A : Option Addr) (c g : Nat) (l : List S61) (W : World) (hr : Kd.C k61 W A l.length l) (hc : l.length ≤ c) (hl : l.length ≤ 2147483647) (hw : ∀ b ∈ l, 0 ≤ b.f1 ∧ b.f1 ≤ 18446744073709551615)
    (hg : W.heap[g]? = some (.cells (flat (l ++ marks)).toArray 61 (0, 0))) :
    Calls Try.prog 24 #[.slice (some ⟨g, 0, none⟩) l.length (l.length + 2), .slice A l.length c] W (KeptPost W g l) := by
  have HS := Lib.hid (spoorlaw13_sameBars.calls (l.length + 1) (some ⟨g, 0, none⟩) (l.length + 2) l A c l true W (C_blk hg rfl (by omega)) (by omega) hr hc (Pure.same_bars l (by omega) _ (Nat.lt_succ_self _)))
  have HG := Lib.hid hg
  have HW := Lib.hid hw
  have hcell : ∀ (j i : Nat) (p : S61), (l ++ marks)[j]? = some p → i < 2 → W.cell? ⟨g, j * 2 + i, none⟩ = (enc61 p)[i]? := fun j i p hj hi => by
    rw [blk_cell hg, List.getElem?_toArray, flat_get _ j i p hj hi]
  have m0 : W.cell? ⟨g, l.length * 2, none⟩ = some (.int .i64 (-71)) := hcell l.length 0 ⟨-71, 0⟩ (by simp [marks]) (by omega)
  have m1 : W.cell? ⟨g, l.length * 2 + 1, none⟩ = some (.int .u64 0) := hcell l.length 1 ⟨-71, 0⟩ (by simp [marks]) (by omega)
  have m2 : W.cell? ⟨g, (l.length + 1) * 2, none⟩ = some (.int .i64 (-72)) := hcell (l.length + 1) 0 ⟨-72, 0⟩ (by simp [marks]) (by omega)
  have m3 : W.cell? ⟨g, (l.length + 1) * 2 + 1, none⟩ = some (.int .u64 0) := hcell (l.length + 1) 1 ⟨-72, 0⟩ (by simp [marks]) (by omega)
  have e1 : ((l.length : Int) + 2) ≤ ((l.length + 2 : Nat) : Int) := by omega
  have e2 : (0 : Int) ≤ (l.length : Int) := by omega
  have e3 : (l.length : Int) < (l.length : Int) + 2 := by omega
  have e4 : (l.length : Int) + 1 < (l.length : Int) + 2 := by omega
  clear hr hg hw hcell
  go_enter Try.func24, Try.ntmps24
  go_wp2_with fail
  refine HS.out.mono ?_
  rintro e w1 ⟨rfl, ⟨nd, rfl⟩⟩
  go_wp2_with fail
  clear m0 m1 m2 m3 e1 e3 e4
  go_loopw [9] (fun v9 wr => ∃ k : Nat, v9 = .int .i64 k ∧ k ≤ l.length ∧ Hid (wr.heap[g]? = some (.cells (flat (halfTo l k ++ marks)).toArray 61 (0, 0))) ∧ Hid (Far g W wr)) (fun v9 _ => l.length - (intOf v9).toNat)
  case atStart => exact ⟨0, rfl, Nat.zero_le _, Lib.hid (by rw [show halfTo l 0 = l by simp [halfTo]]; exact HG.out), Lib.hid ⟨⟨rfl, rfl, rfl, Nat.le_refl _, fun k hk => absurd hk (Nat.not_lt_zero _)⟩, fun _ _ _ => rfl⟩⟩
  case round =>
    obtain ⟨k, rfl, hk, HB, HF⟩ := hrel
    by_cases hlt : k < l.length
    · have b1 : (k : Int) < (l.length : Int) := by omega
      have hb := HB.out
      have hgk : (halfTo l k ++ marks)[k]? = some l[k] := by rw [List.getElem?_append_left (by rw [halfTo_len]; exact hlt)]; exact halfTo_get l k hlt
      have x1 : wr.cell? ⟨g, k * 2 + 1, none⟩ = some (.int .u64 l[k].f1) := by
        rw [blk_cell hb, List.getElem?_toArray, flat_get _ k 1 _ hgk (by omega)]; rfl
      have xf := fun j => blk_frozen hb j
      have hwk := HW.out l[k] (List.getElem_mem hlt)
      have HS := Lib.hid (blk_put (cs' := (flat (halfTo l (k + 1) ++ marks)).toArray) hb (k * 2 + 1) (.int .u64 (l[k].f1 / 2 + 1)) (by
        rw [List.setIfInBounds_toArray, flat_set _ k _ _ hgk, List.set_append_left _ _ (by rw [halfTo_len]; exact hlt), ← halfTo_set l k hlt]; rfl))
      have hmid : (0 : Int) ≤ l[k].f1 / 2 + 1 ∧ l[k].f1 / 2 + 1 ≤ 18446744073709551615 := by omega
      clear hb hgk
      generalize hz : l[k].f1 = z at *
      clear hz
      obtain ⟨z0, z1⟩ := hwk
      obtain ⟨z2, z3⟩ := hmid
      go_wp2_with fail
      go_roundw
      case rel => exact ⟨k + 1, by go_num, by omega, HS, Lib.hid (HF.out.set _ _)⟩
      case measure => simp [intOf]; omega
    · obtain rfl : k = l.length := by omega
      go_wp2_with fail
      go_ret
      exact ⟨rfl, by have := HB.out; rwa [show halfTo l l.length = l.map half by simp [halfTo]] at this, HF.out⟩
def OverPost (W : World) (l : List S61) (e : Ending) (w' : World) : Prop := e = .returned (.slice (some ⟨W.heap.size, 0, none⟩) l.length (l.length + 2)) ∧ w'.heap[W.heap.size]? = some (.cells (flat (l.map half ++ marks)).toArray 61 (0, 0)) ∧ Below W.heap.size W w'
theorem over_run (A : Option Addr) (c : Nat) (l : List S61) (W : World) (hr : Kd.C k61 W A l.length l) (hc : l.length ≤ c) (hl : l.length ≤ 2147483647) (hn : A = none → c = 0) (hw : ∀ b ∈ l, 0 ≤ b.f1 ∧ b.f1 ≤ 18446744073709551615) :
    Calls Try.prog 25 #[.slice A l.length c] W (OverPost W l) := by
  have HL := Lib.hid (lent_run A c l W hr hc hl hn)
  have HR := Lib.hid hr
  have HW := Lib.hid hw
  clear hr hn hw
  go_enter Try.func25, Try.ntmps25
  go_wp2_with fail
  refine HL.out.mono ?_
  rintro e w1 ⟨rfl, hg, hb⟩
  have HG := Lib.hid hg
  have HB := Lib.hid hb
  clear hg hb
  go_wp2_with fail
  refine (kept_run A c W.heap.size l w1 (Kd.C_below HR.out HB.out) hc hl HW.out HG.out).mono ?_
  rintro e w2 ⟨rfl, h1, h2⟩
  have HF := Lib.hid (show OverPost W l (.returned (.slice (some ⟨W.heap.size, 0, none⟩) l.length (l.length + 2))) w2 from ⟨rfl, h1, h2.below HB.out HB.out.size (Nat.le_refl _)⟩)
  clear h1 h2
  go_wp2_with fail
  go_ret
  exact HF.out
end Go.Proofs.Ytlnhpccapadpmaa.Pr
