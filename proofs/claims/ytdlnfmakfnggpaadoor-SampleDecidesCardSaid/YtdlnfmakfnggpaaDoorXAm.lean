/- The walk of alive: it answers true in every world. -/
import Derived.Test.YtdlnfmakfnggpaaDoorXAl
namespace Go.Proofs.YtdlnfmakfnggpaaDoor.Pr
open Go.RowKit Go.Lib Go.Proofs.YtdlnfmakfnggpaaDoorW.PrintWords
set_option linter.unusedVariables false
set_option linter.unusedSimpArgs false
theorem polA_C {w : World} {b t : Nat} (h : w.heap[b]? = some (.cells #[.int .i64 3, .int .u64 0, .string ⟨#[97]⟩, .int .i64 0, .int .i64 1, .int .u64 0, .string ⟨#[]⟩, .int .i64 0] t (0, 0))) : Kd.C k30 w (some ⟨b, 0, none⟩) 2 polsA :=
  C_block (xs := polsA) h (by decide) (fun j p hj => by
    match j, hj with
    | 0, hj => cases hj; exact ⟨_, k30_mk w _, fun i u hi => by match i, hi with | 0, hi => exact hi | 1, hi => exact hi | 2, hi => exact hi | 3, hi => exact hi | i + 4, hi => cases hi⟩
    | 1, hj => cases hj; exact ⟨_, k30_mk w _, fun i u hi => by match i, hi with | 0, hi => exact hi | 1, hi => exact hi | 2, hi => exact hi | 3, hi => exact hi | i + 4, hi => cases hi⟩
    | j + 2, hj => cases hj)
theorem polB_C {w : World} {b t : Nat} (h : w.heap[b]? = some (.cells #[.int .i64 2, .int .u64 6, .string ⟨#[]⟩, .int .i64 0] t (0, 0))) : Kd.C k30 w (some ⟨b, 0, none⟩) 1 polsB :=
  C_block (xs := polsB) h (by decide) (fun j p hj => by
    match j, hj with
    | 0, hj => cases hj; exact ⟨_, k30_mk w _, fun i u hi => by match i, hi with | 0, hi => exact hi | 1, hi => exact hi | 2, hi => exact hi | 3, hi => exact hi | i + 4, hi => cases hi⟩
    | j + 1, hj => cases hj)
theorem polC_C {w : World} {b t : Nat} (h : w.heap[b]? = some (.cells #[.int .i64 4, .int .u64 0, .string ⟨#[]⟩, .int .i64 65537] t (0, 0))) : Kd.C k30 w (some ⟨b, 0, none⟩) 1 polsC :=
  C_block (xs := polsC) h (by decide) (fun j p hj => by
    match j, hj with
    | 0, hj => cases hj; exact ⟨_, k30_mk w _, fun i u hi => by match i, hi with | 0, hi => exact hi | 1, hi => exact hi | 2, hi => exact hi | 3, hi => exact hi | i + 4, hi => cases hi⟩
    | j + 1, hj => cases hj)
def oneS (id s0 s1 : Int) : S43 := ⟨⟨0, 1⟩, id, 0, [], ⟨#[98]⟩, ⟨#[111]⟩, 0, 2, s0, s1, [], []⟩
theorem one_K (w : World) (id s0 s1 : Int) : k43.K w (oneS id s0 s1) [.int .u64 0, .int .u64 1, .int .u64 id, .int .u64 0, .slice none 0 0, .string ⟨#[98]⟩, .string ⟨#[111]⟩, .int .i64 0, .int .i64 2, .int .i64 s0, .int .i64 s1, .slice none 0 0, .slice none 0 0] :=
  k43_mk w (oneS id s0 s1) (Nat.le_refl _) (Kd.C_nil _ _) (Nat.le_refl _) (Kd.C_nil _ _) (Nat.le_refl _) (Kd.C_nil _ _)
theorem spans_C {w : World} {b t : Nat} (h : w.heap[b]? = some (.cells #[.int .u64 0, .int .u64 1, .int .u64 1, .int .u64 0, .slice none 0 0, .string ⟨#[98]⟩, .string ⟨#[111]⟩, .int .i64 0, .int .i64 2, .int .i64 3, .int .i64 4, .slice none 0 0, .slice none 0 0, .int .u64 0, .int .u64 1, .int .u64 2, .int .u64 0, .slice none 0 0, .string ⟨#[98]⟩, .string ⟨#[111]⟩, .int .i64 0, .int .i64 2, .int .i64 7, .int .i64 8, .slice none 0 0, .slice none 0 0] t (0, 0))) : Kd.C k43 w (some ⟨b, 0, none⟩) 2 spansA :=
  C_block (xs := spansA) h (by decide) (fun j p hj => by
    have hz : ∀ (l : List Value) (n : Nat) (i : Nat) (u : Value), l[i]? = some u → l.length = n → i < n := fun l n i u h e => by have := (List.getElem?_eq_some_iff.1 h).1; omega
    match j, hj with
    | 0, hj => cases hj; exact ⟨_, one_K w 1 3 4, fun i u hi => by
        have := hz _ 13 i u hi rfl
        match i, hi with
        | 0, hi | 1, hi | 2, hi | 3, hi | 4, hi | 5, hi | 6, hi | 7, hi | 8, hi | 9, hi | 10, hi | 11, hi | 12, hi => exact hi
        | i + 13, hi => omega⟩
    | 1, hj => cases hj; exact ⟨_, one_K w 2 7 8, fun i u hi => by
        have := hz _ 13 i u hi rfl
        match i, hi with
        | 0, hi | 1, hi | 2, hi | 3, hi | 4, hi | 5, hi | 6, hi | 7, hi | 8, hi | 9, hi | 10, hi | 11, hi | 12, hi => exact hi
        | i + 13, hi => omega⟩
    | j + 2, hj => cases hj)
set_option maxHeartbeats 2000000 in
set_option maxRecDepth 100000 in
theorem alive_run (w : World) : Calls Tryd.prog 11 #[] w (BoolPost w true) := by
  have HB0 := Lib.hid ((Below.refl w.heap.size w).alloc (Nat.le_refl _) (.cells #[.int .i64 3, .int .u64 0, .string ⟨#[97]⟩, .int .i64 0, .int .i64 1, .int .u64 0, .string ⟨#[]⟩, .int .i64 0] 30))
  have HP0 := Lib.hid (blk_new w (.cells #[.int .i64 3, .int .u64 0, .string ⟨#[97]⟩, .int .i64 0, .int .i64 1, .int .u64 0, .string ⟨#[]⟩, .int .i64 0] 30))
  go_enter Tryd.func11, Tryd.ntmps11
  go_wp2_with fail
  refine (one35 1 1 3 4 _).mono ?_
  rintro e w1 ⟨rfl, hb⟩
  have HB1 := Lib.hid (HB0.out.trans (hb.mono HB0.out.size))
  have HP1 := Lib.hid (blk_below HP0.out hb)
  clear hb
  go_wp2_with fail
  refine (one35 1 2 7 8 _).mono ?_
  rintro e w2 ⟨rfl, hb⟩
  have HB2 := Lib.hid (HB1.out.trans (hb.mono HB1.out.size))
  have HP2 := Lib.hid (blk_below HP1.out hb)
  clear hb
  go_wp2_with fail
  have HS2 := Lib.hid (blk_new w2 (.cells #[.int .u64 0, .int .u64 1, .int .u64 1, .int .u64 0, .slice none 0 0, .string ⟨#[98]⟩, .string ⟨#[111]⟩, .int .i64 0, .int .i64 2, .int .i64 3, .int .i64 4, .slice none 0 0, .slice none 0 0, .int .u64 0, .int .u64 1, .int .u64 2, .int .u64 0, .slice none 0 0, .string ⟨#[98]⟩, .string ⟨#[111]⟩, .int .i64 0, .int .i64 2, .int .i64 7, .int .i64 8, .slice none 0 0, .slice none 0 0] 43))
  have HB2' := Lib.hid (below_alloc HB2.out (.cells #[.int .u64 0, .int .u64 1, .int .u64 1, .int .u64 0, .slice none 0 0, .string ⟨#[98]⟩, .string ⟨#[111]⟩, .int .i64 0, .int .i64 2, .int .i64 3, .int .i64 4, .slice none 0 0, .slice none 0 0, .int .u64 0, .int .u64 1, .int .u64 2, .int .u64 0, .slice none 0 0, .string ⟨#[98]⟩, .string ⟨#[111]⟩, .int .i64 0, .int .i64 2, .int .i64 7, .int .i64 8, .slice none 0 0, .slice none 0 0] 43))
  refine (decA _ _ _ _ _ (polA_C (blk_alloc HP2.out _)) (spans_C HS2.out) (Nat.le_refl _)).mono ?_
  rintro e w3 ⟨rfl, hb⟩
  have HB3 := Lib.hid (HB2'.out.trans (hb.mono HB2'.out.size))
  clear hb
  have HV3 := Lib.hid (blk_new w3 (.cells #[.bool true, .int .i64 1, .int .u64 0, .int .u64 65536] 47))
  have HB3v := Lib.hid (below_alloc HB3.out (.cells #[.bool true, .int .i64 1, .int .u64 0, .int .u64 65536] 47))
  have HB3p := Lib.hid (below_alloc HB3v.out (.cells #[.int .i64 2, .int .u64 6, .string ⟨#[]⟩, .int .i64 0] 30))
  have HV3p := Lib.hid (blk_alloc HV3.out (.cells #[.int .i64 2, .int .u64 6, .string ⟨#[]⟩, .int .i64 0] 30))
  have HP3 := Lib.hid (heap_alloc2_new w3 (.cells #[.bool true, .int .i64 1, .int .u64 0, .int .u64 65536] 47) (.cells #[.int .i64 2, .int .u64 6, .string ⟨#[]⟩, .int .i64 0] 30))
  go_wp2_with fail
  refine (one35 1 1 3 4 _).mono ?_
  rintro e w4 ⟨rfl, hb⟩
  have HB4 := Lib.hid (HB3p.out.trans (hb.mono HB3p.out.size))
  have HV4 := Lib.hid (blk_below HV3p.out hb)
  have HP4 := Lib.hid (blk_below HP3.out hb)
  clear hb
  go_wp2_with fail
  refine (one35 1 2 7 8 _).mono ?_
  rintro e w5 ⟨rfl, hb⟩
  have HB5 := Lib.hid (HB4.out.trans (hb.mono HB4.out.size))
  have HV5 := Lib.hid (blk_below HV4.out hb)
  have HP5 := Lib.hid (blk_below HP4.out hb)
  clear hb
  go_wp2_with fail
  have HS5 := Lib.hid (blk_new w5 (.cells #[.int .u64 0, .int .u64 1, .int .u64 1, .int .u64 0, .slice none 0 0, .string ⟨#[98]⟩, .string ⟨#[111]⟩, .int .i64 0, .int .i64 2, .int .i64 3, .int .i64 4, .slice none 0 0, .slice none 0 0, .int .u64 0, .int .u64 1, .int .u64 2, .int .u64 0, .slice none 0 0, .string ⟨#[98]⟩, .string ⟨#[111]⟩, .int .i64 0, .int .i64 2, .int .i64 7, .int .i64 8, .slice none 0 0, .slice none 0 0] 43))
  have HB5' := Lib.hid (below_alloc HB5.out (.cells #[.int .u64 0, .int .u64 1, .int .u64 1, .int .u64 0, .slice none 0 0, .string ⟨#[98]⟩, .string ⟨#[111]⟩, .int .i64 0, .int .i64 2, .int .i64 3, .int .i64 4, .slice none 0 0, .slice none 0 0, .int .u64 0, .int .u64 1, .int .u64 2, .int .u64 0, .slice none 0 0, .string ⟨#[98]⟩, .string ⟨#[111]⟩, .int .i64 0, .int .i64 2, .int .i64 7, .int .i64 8, .slice none 0 0, .slice none 0 0] 43))
  have HV5' := Lib.hid (blk_alloc HV5.out (.cells #[.int .u64 0, .int .u64 1, .int .u64 1, .int .u64 0, .slice none 0 0, .string ⟨#[98]⟩, .string ⟨#[111]⟩, .int .i64 0, .int .i64 2, .int .i64 3, .int .i64 4, .slice none 0 0, .slice none 0 0, .int .u64 0, .int .u64 1, .int .u64 2, .int .u64 0, .slice none 0 0, .string ⟨#[98]⟩, .string ⟨#[111]⟩, .int .i64 0, .int .i64 2, .int .i64 7, .int .i64 8, .slice none 0 0, .slice none 0 0] 43))
  refine (decB _ _ _ _ _ (polB_C (blk_alloc HP5.out _)) (spans_C HS5.out) (Nat.le_refl _)).mono ?_
  rintro e w6 ⟨rfl, hb⟩
  have HB6 := Lib.hid (HB5'.out.trans (hb.mono HB5'.out.size))
  have HV6 := Lib.hid (blk_below HV5'.out hb)
  clear hb
  have HX6 := Lib.hid (blk_new w6 (.cells #[.bool false, .int .i64 (-1), .int .u64 0, .int .u64 0] 47))
  have HV6v := Lib.hid (blk_alloc HV6.out (.cells #[.bool false, .int .i64 (-1), .int .u64 0, .int .u64 0] 47))
  have HB6v := Lib.hid (below_alloc HB6.out (.cells #[.bool false, .int .i64 (-1), .int .u64 0, .int .u64 0] 47))
  have HB6p := Lib.hid (below_alloc HB6v.out (.cells #[.int .i64 4, .int .u64 0, .string ⟨#[]⟩, .int .i64 65537] 30))
  have HV6p := Lib.hid (blk_alloc HV6v.out (.cells #[.int .i64 4, .int .u64 0, .string ⟨#[]⟩, .int .i64 65537] 30))
  have HX6p := Lib.hid (blk_alloc HX6.out (.cells #[.int .i64 4, .int .u64 0, .string ⟨#[]⟩, .int .i64 65537] 30))
  have HP6 := Lib.hid (heap_alloc2_new w6 (.cells #[.bool false, .int .i64 (-1), .int .u64 0, .int .u64 0] 47) (.cells #[.int .i64 4, .int .u64 0, .string ⟨#[]⟩, .int .i64 65537] 30))
  go_wp2_with fail
  refine (checkC _ _ _ (polC_C HP6.out)).mono ?_
  rintro e w7 ⟨rfl, hb⟩
  have HB7 := Lib.hid (HB6p.out.trans (hb.mono HB6p.out.size))
  have HV7 := Lib.hid (blk_below HV6p.out hb)
  have HX7 := Lib.hid (blk_below HX6p.out hb)
  clear hb
  go_wp2_with fail
  refine (newfew2 _).mono ?_
  rintro e w8 ⟨rfl, rfl⟩
  go_wp2_with fail
  refine (newfew1 _).mono ?_
  rintro e w8 ⟨rfl, rfl⟩
  go_wp2_with fail
  have HB8 := Lib.hid (below_alloc HB7.out (.cells #[.int .i64 2, .slice none 0 0] 96))
  have HV8 := Lib.hid (blk_alloc HV7.out (.cells #[.int .i64 2, .slice none 0 0] 96))
  have HX8 := Lib.hid (blk_alloc HX7.out (.cells #[.int .i64 2, .slice none 0 0] 96))
  have HN3 := Lib.hid (blk_lt HV7.out)
  have HN6 := Lib.hid (blk_lt HX7.out)
  refine (put_nil2 w7.heap.size 0 5 _ w _ HB8.out HB7.out.size (blk_new _ _) rfl).mono ?_
  rintro e w9 ⟨rfl, ⟨a, c, hc, hg, hb⟩, hk⟩
  have HV9 := (hk _ (Nat.ne_of_lt HN3.out) (blk_lt HV8.out)).trans HV8.out
  have HX9 := (hk _ (Nat.ne_of_lt HN6.out) (blk_lt HX8.out)).trans HX8.out
  have d0 := (cell_of_row _ _ 0 _ _ _ HV9).trans rfl
  have d1 := (cell_of_row _ _ 1 _ _ _ HV9).trans rfl
  have d2 := (cell_of_row _ _ 2 _ _ _ HV9).trans rfl
  have d3 := (cell_of_row _ _ 3 _ _ _ HV9).trans rfl
  have e0 := (cell_of_row _ _ 0 _ _ _ HX9).trans rfl
  have e1 := (cell_of_row _ _ 1 _ _ _ HX9).trans rfl
  have e2 := (cell_of_row _ _ 2 _ _ _ HX9).trans rfl
  have e3 := (cell_of_row _ _ 3 _ _ _ HX9).trans rfl
  have HB9 := Lib.hid hb
  have HG9 := Lib.hid hg
  clear hk HV9 HX9 hb hg hc
  go_wp2_with fail
  refine (guess1 _ _ _ _ HG9.out).mono ?_
  rintro e w10 ⟨rfl, hb⟩
  have HB10 := Lib.hid (HB9.out.trans (hb.mono HB9.out.size))
  clear hb
  go_wp2_with fail
  go_ret
  exact ⟨rfl, HB10.out⟩
def spoorlaw21_alive.f : Option Bool := some true
theorem spoorlaw21_alive.calls (r : Bool) (w : World) (h : spoorlaw21_alive.f = some r) : Calls Tryd.prog 11 #[] w fun e w' => e = .returned (.bool r) ∧ Below w.heap.size w w' := by
  cases h
  exact alive_run w
end Go.Proofs.YtdlnfmakfnggpaaDoor.Pr
