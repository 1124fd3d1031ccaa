/- The chapter's examples (alive): true. -/
import Derived.Test.YthdkgilpnkabmaaGreatDoorSq
import Derived.Test.YthdkgilpnkabmaaGreatDoorMa
namespace Go.Proofs.YthdkgilpnkabmaaGreatDoor.Pr
open Go Go.RowKit Go.Proofs.YthdkgilpnkabmaaGreatDoorW.PrintWords Go.Proofs.YthdkgilpnkabmaaGreatDoorW.PrintMore
open Go.Maps (Keyed)
open Rm Ps
set_option linter.unusedVariables false
set_option linter.unusedSimpArgs false
def oneS (lo id en : Int) : Sp := ⟨⟨0, lo⟩, id, 0, [], ⟨#[115]⟩, ⟨#[111]⟩, 0, 0, 0, en, [], []⟩
theorem one_run (lo id en : Int) (w : World) : Calls Tryz.prog 28 #[.int .u64 lo, .int .u64 id, .int .i64 en] w fun e w' => e = .returned (.agg #[.int .u64 0, .int .u64 lo, .int .u64 id, .int .u64 0, .slice none 0 0, .string ⟨#[115]⟩, .string ⟨#[111]⟩, .int .i64 0, .int .i64 0, .int .i64 0, .int .i64 en, .slice none 0 0, .slice none 0 0]) ∧ Below w.heap.size w w' := by
  go_enter Tryz.func28, Tryz.ntmps28
  go_wp2
  refine bodyPost_ret (results_cell_row rfl _ _ w.heap.size 41 #[.int .u64 0, .int .u64 lo, .int .u64 id, .int .u64 0, .slice none 0 0, .string ⟨#[115]⟩, .string ⟨#[111]⟩, .int .i64 0, .int .i64 0, .int .i64 0, .int .i64 en, .slice none 0 0, .slice none 0 0] (0, 0) _ rfl (blk_new w _) Tryz.underlying41 rfl (by kernel_rfl)) rfl ?_
  exact ⟨rfl, (Below.refl _ _).alloc (Nat.le_refl _) _⟩
/-- Spans without lists. -/
def bare (x : Sp) : Prop := x.f3 = [] ∧ x.f10 = [] ∧ x.f11 = []
def cs0 (x : Sp) : List Value := cSp x (.slice none 0 0) (.slice none 0 0) (.slice none 0 0)
theorem C_nil {α : Type} (d : Kd α) (w : World) : Kd.C d w none 0 [] := ⟨rfl, by omega, fun h => absurd h (by omega)⟩
theorem bare_K {x : Sp} (h : bare x) (w : World) : kSp.K w x (cs0 x) := by
  obtain ⟨⟨hi, lo⟩, id, par, lk, sv, op, kd, st, s0, s1, la, le⟩ := x
  obtain ⟨h1, h2, h3⟩ := h
  simp only at h1 h2 h3
  subst h1
  subst h2
  subst h3
  exact k41_mk w _ (Nat.le_refl _) (C_nil _ w) (Nat.le_refl _) (C_nil _ w) (Nat.le_refl _) (C_nil _ w)
theorem cs0_len (x : Sp) : (cs0 x).length = 13 := rfl
theorem flat_at : ∀ {l : List Sp} {k : Nat} (hk : k < l.length) {i : Nat} {u : Value}, (cs0 l[k])[i]? = some u → (l.flatMap cs0)[k * 13 + i]? = some u
  | [], k, hk, _, _, _ => by simp at hk
  | x :: r, 0, hk, i, u, h => by
    have h : (cs0 x)[i]? = some u := h
    rw [List.flatMap_cons, Nat.zero_mul, Nat.zero_add, List.getElem?_append_left (List.getElem?_eq_some_iff.1 h).1]
    exact h
  | x :: r, k + 1, hk, i, u, h => by
    rw [List.flatMap_cons, List.getElem?_append_right (by rw [cs0_len]; omega), cs0_len, show (k + 1) * 13 + i - 13 = k * 13 + i by omega]
    exact flat_at (l := r) (by simpa using hk) h
theorem steady_block {F : Nat → Prop} {w : World} {g : Nat} {l : List Sp} {cs : Array Value} (hb : w.heap[g]? = some (.cells cs 41 (0, 0))) (hc : cs.toList = l.flatMap cs0) (hF : ¬ F g) (hl : l.length ≤ 140737488351232) (hbare : ∀ x ∈ l, bare x) : Steady F w (some ⟨g, 0, none⟩) l :=
  ⟨hl, fun k hk => ⟨g, 0, cs0 (rdS l k), rfl, fun w' hcg => ⟨bare_K (hbare _ (rdS_mem hk)) w', fun i u hi => by
    rw [rdS_at hk] at hi
    rw [cell_of_row _ _ _ _ _ _ (hcg.blk hb hF), Nat.zero_add, ← Array.getElem?_toList, hc]
    exact flat_at hk hi⟩⟩⟩
/-- What span.Check says of a span without lists. -/
def chk0 (x : Sp) : Int := checkF x.f0.f0 x.f0.f1 x.f1 (plainF x.f4 60 33) (plainF x.f5 100 32) x.f6 x.f7 x.f8 x.f9 true true true
theorem ok_s (w : World) : ValidAt ⟨#[115]⟩ w := valid_one 115 (by decide) (by decide +kernel) w
theorem ok_o (w : World) : ValidAt ⟨#[111]⟩ w := valid_one 111 (by decide) (by decide +kernel) w
theorem one_checks (w : World) (l : List Sp) (h : ∀ x ∈ l, ∃ lo id en, x = oneS lo id en) : Checks w chk0 l := by
  intro x hx cs W hW hK
  obtain ⟨lo, id, en, rfl⟩ := h x hx
  obtain ⟨A4, c4, A11, c11, A12, c12, rfl, _⟩ := kSp_open' hK
  have hb := plain_ans (s := ⟨#[115]⟩) (w := W) 60 33 (by decide) (ok_s W)
  have ho := plain_ans (s := ⟨#[111]⟩) (w := W) 100 32 (by decide) (ok_o W)
  exact check_run 0 lo id 0 (.slice A4 0 c4) ⟨#[115]⟩ ⟨#[111]⟩ 0 0 0 en (.slice A11 0 c11) (.slice A12 0 c12) _ _ true true true W hb ho (linked_nil _ _ _ _ _ _ _ _ _ _ _ _ _ _ W) (carried_nil _ _ W) (told_nil _ _ W)
theorem one_ok (lo id en : Int) (h1 : wfI lo) (h2 : wfI id) : okSp (oneS lo id en) := ⟨by simp [oneS], by simp [oneS], by simp [oneS], (by decide : (Lit.int .u64 0).wf = true), h1, h2⟩
theorem one_bare (lo id en : Int) : bare (oneS lo id en) := ⟨rfl, rfl, rfl⟩
def BPost (w : World) (b : Bool) (e : Ending) (w' : World) : Prop := e = .returned (.bool b) ∧ Below w.heap.size w w'
def lA : List Sp := [oneS 1 1 5, oneS 1 2 5]
def lB : List Sp := [oneS 1 1 6, oneS 1 1 5]
def lC : List Sp := [oneS 0 1 5]
def LA : List Sp := putAll nmS ordS [] lA
def LB : List Sp := putAll nmS ordS LA lB
theorem fits_A : fitsF nmS chk0 [] lA = 0 := by decide +kernel
theorem fits_B : fitsF nmS chk0 LA lB = 0 := by decide +kernel
theorem fits_C : fitsF nmS chk0 LB lC = 41 := by decide +kernel
theorem ch_A : changes nmS ordS [] lA = [0, 0] := by decide +kernel
theorem ch_B : changes nmS ordS LA lB = [1, 2] := by decide +kernel
theorem len_B : LB.length = 2 := by decide +kernel
theorem get_B : getL nmS LB ((0, 1), 1) = some (oneS 1 1 6) := by kernel_rfl
def cells2 (lo id en lo' id' en' : Int) : Array Value := #[.int .u64 0, .int .u64 lo, .int .u64 id, .int .u64 0, .slice none 0 0, .string ⟨#[115]⟩, .string ⟨#[111]⟩, .int .i64 0, .int .i64 0, .int .i64 0, .int .i64 en, .slice none 0 0, .slice none 0 0, .int .u64 0, .int .u64 lo', .int .u64 id', .int .u64 0, .slice none 0 0, .string ⟨#[115]⟩, .string ⟨#[111]⟩, .int .i64 0, .int .i64 0, .int .i64 0, .int .i64 en', .slice none 0 0, .slice none 0 0]
def cells1 (lo id en : Int) : Array Value := #[.int .u64 0, .int .u64 lo, .int .u64 id, .int .u64 0, .slice none 0 0, .string ⟨#[115]⟩, .string ⟨#[111]⟩, .int .i64 0, .int .i64 0, .int .i64 0, .int .i64 en, .slice none 0 0, .slice none 0 0]
/-- Put, of two spans just laid into a row. -/
theorem put2 (w : World) (base s : Nat) (F : Nat → Prop) (L : List Sp) (B : StoreAt w base s F L) (hb : base ≤ w.heap.size) (lo id en lo' id' en' : Int) (h1 : wfI lo) (h2 : wfI id) (h1' : wfI lo') (h2' : wfI id') :
    Calls Tryz.prog 9 #[.pointer (some ⟨s, 0, none⟩), .slice (some ⟨w.heap.size, 0, none⟩) 2 2] (w.alloc (.cells (cells2 lo id en lo' id' en') 41)) (PutsPost (w.alloc (.cells (cells2 lo id en lo' id' en') 41)) base s F chk0 L [oneS lo id en, oneS lo' id' en']) := by
  have hB := B.below (below_alloc (Below.refl w.heap.size w) (.cells (cells2 lo id en lo' id' en') 41))
  refine puts_run _ base s F L hB (by simp; omega) _ 2 [oneS lo id en, oneS lo' id' en'] (steady_block (blk_new w _) rfl (fun h => by have := (B.ours _ h).2.1; omega) (by simp) ?_) ?_ (by simp) chk0 (one_checks _ _ ?_)
  · intro x hx; simp only [List.mem_cons, List.mem_nil_iff, or_false] at hx; rcases hx with rfl | rfl <;> exact one_bare _ _ _
  · intro x hx; simp only [List.mem_cons, List.mem_nil_iff, or_false] at hx; rcases hx with rfl | rfl
    · exact one_ok _ _ _ h1 h2
    · exact one_ok _ _ _ h1' h2'
  · intro x hx; simp only [List.mem_cons, List.mem_nil_iff, or_false] at hx; rcases hx with rfl | rfl <;> exact ⟨_, _, _, rfl⟩
theorem put1 (w : World) (base s : Nat) (F : Nat → Prop) (L : List Sp) (B : StoreAt w base s F L) (hb : base ≤ w.heap.size) (lo id en : Int) (h1 : wfI lo) (h2 : wfI id) :
    Calls Tryz.prog 9 #[.pointer (some ⟨s, 0, none⟩), .slice (some ⟨w.heap.size, 0, none⟩) 1 1] (w.alloc (.cells (cells1 lo id en) 41)) (PutsPost (w.alloc (.cells (cells1 lo id en) 41)) base s F chk0 L [oneS lo id en]) := by
  have hB := B.below (below_alloc (Below.refl w.heap.size w) (.cells (cells1 lo id en) 41))
  refine puts_run _ base s F L hB (by simp; omega) _ 1 [oneS lo id en] (steady_block (blk_new w _) rfl (fun h => by have := (B.ours _ h).2.1; omega) (by simp) ?_) ?_ (by simp) chk0 (one_checks _ _ ?_)
  · intro x hx; simp only [List.mem_cons, List.mem_nil_iff, or_false] at hx; subst hx; exact one_bare _ _ _
  · intro x hx; simp only [List.mem_cons, List.mem_nil_iff, or_false] at hx; subst hx; exact one_ok _ _ _ h1 h2
  · intro x hx; simp only [List.mem_cons, List.mem_nil_iff, or_false] at hx; subst hx; exact ⟨_, _, _, rfl⟩
/-- What a Put that goes well leaves. -/
theorem puts_ok {w : World} {base s : Nat} {F : Nat → Prop} {chk : Sp → Int} {L l : List Sp} {e : Ending} {w' : World} (h : PutsPost w base s F chk L l e w') (h0 : fitsF nmS chk L l = 0) :
    ∃ F' out, e = .returned (.tuple #[.slice (some ⟨out, 0, none⟩) l.length l.length, .int .i64 0]) ∧ w.heap.size ≤ out ∧ w'.heap[out]? = some (.cells ((changes nmS ordS L l).map (Value.int .i64)).toArray 50 (0, 0)) ∧
    StoreAt w' base s F' (putAll nmS ordS L l) ∧ Chg F w w' ∧ ∀ k, F' k → F k ∨ w.heap.size ≤ k := by
  rcases h with ⟨h1, _⟩ | ⟨_, h2⟩
  · exact absurd h0 h1
  · exact h2
theorem puts_no {w : World} {base s : Nat} {F : Nat → Prop} {chk : Sp → Int} {L l : List Sp} {e : Ending} {w' : World} (h : PutsPost w base s F chk L l e w') (h0 : fitsF nmS chk L l ≠ 0) :
    e = .returned (.tuple #[.slice none 0 0, .int .i64 (fitsF nmS chk L l)]) ∧ Below w.heap.size w w' := by
  rcases h with ⟨_, h1⟩ | ⟨h2, _⟩
  · exact h1
  · exact absurd h2 h0
theorem wf1 : wfI 1 := (by decide : (Lit.int .u64 1).wf = true)
theorem wf2 : wfI 2 := (by decide : (Lit.int .u64 2).wf = true)
theorem wf0 : wfI 0 := (by decide : (Lit.int .u64 0).wf = true)
theorem StoreAt.not {w : World} {base s : Nat} {F : Nat → Prop} {L : List Sp} (B : StoreAt w base s F L) {g t : Nat} {cs : Array Value} (hb : w.heap[g]? = some (.cells cs t (0, 0))) (ht : t ≠ 76) : ¬ F g := fun h => by
  rcases (B.ours g h).2.2 with ⟨es, c, h1⟩ | ⟨cs', h1⟩
  · rw [hb] at h1; cases h1
  · rw [hb] at h1
    cases h1
    exact ht rfl
theorem StoreAt.under {w0 w w' : World} {s : Nat} {F : Nat → Prop} {L : List Sp} (B : StoreAt w w0.heap.size s F L) (hb : Below w0.heap.size w0 w) (hc : Chg F w w') : Below w0.heap.size w0 w' :=
  hb.trans (hc.below hb.size (fun k _ h => (B.ours k h).1))
set_option maxHeartbeats 8000000 in
set_option maxRecDepth 100000 in
theorem alive_run (w : World) : Calls Tryz.prog 7 #[] w (BPost w true) := by
  go_enter Tryz.func7, Tryz.ntmps7
  go_wp2_with fail
  refine (new_run w w.heap.size (Nat.le_refl _)).mono ?_
  rintro e v1 ⟨s, F0, rfl, hS, hb, hF⟩
  have HS1 := Lib.hid hS
  have HW1 := Lib.hid hb
  clear hS hb hF
  go_wp2_with fail
  refine (one_run 1 1 5 v1).mono ?_
  rintro e v2 ⟨rfl, hb⟩
  have HS2 := Lib.hid (HS1.out.below hb)
  have HW2 := Lib.hid (HW1.out.trans (hb.mono HW1.out.size))
  clear hb
  go_wp2_with fail
  refine (one_run 1 2 5 v2).mono ?_
  rintro e v3 ⟨rfl, hb⟩
  have HS3 := Lib.hid (HS2.out.below hb)
  have HW3 := Lib.hid (HW2.out.trans (hb.mono HW2.out.size))
  clear hb
  go_wp2_with fail
  have HA4 := Lib.hid (below_alloc (Below.refl v3.heap.size v3) (.cells (cells2 1 1 5 1 2 5) 41))
  refine (put2 v3 w.heap.size s F0 [] HS3.out HW3.out.size 1 1 5 1 2 5 wf1 wf1 wf1 wf2).mono ?_
  rintro e v4 hP
  obtain ⟨F1, o1, rfl, ho1, hc1, hS4, hC4, hF4⟩ := puts_ok hP fits_A
  have HS4 := Lib.hid hS4
  have HW4 := Lib.hid ((HS3.out.below HA4.out).under (HW3.out.trans (HA4.out.mono HW3.out.size)) hC4)
  have HO4 := Lib.hid (show v4.heap[o1]? = some (.cells #[.int .i64 0, .int .i64 0] 50 (0, 0)) by rw [hc1, show changes nmS ordS [] [oneS 1 1 5, oneS 1 2 5] = [0, 0] from ch_A]; rfl)
  clear hP ho1 hc1 hS4 hC4 hF4 HA4 HS3 HW3
  go_wp2_with fail
  refine (one_run 1 1 6 v4).mono ?_
  rintro e v5 ⟨rfl, hb⟩
  have HS5 := Lib.hid (HS4.out.below hb)
  have HW5 := Lib.hid (HW4.out.trans (hb.mono HW4.out.size))
  have HO5 := Lib.hid (blk_below HO4.out hb)
  clear hb
  go_wp2_with fail
  refine (one_run 1 1 5 v5).mono ?_
  rintro e v6 ⟨rfl, hb⟩
  have HS6 := Lib.hid (HS5.out.below hb)
  have HW6 := Lib.hid (HW5.out.trans (hb.mono HW5.out.size))
  have HO6 := Lib.hid (blk_below HO5.out hb)
  clear hb
  go_wp2_with fail
  have HA7 := Lib.hid (below_alloc (Below.refl v6.heap.size v6) (.cells (cells2 1 1 6 1 1 5) 41))
  refine (put2 v6 w.heap.size s F1 LA HS6.out HW6.out.size 1 1 6 1 1 5 wf1 wf1 wf1 wf1).mono ?_
  rintro e v7 hP
  obtain ⟨F2, o2, rfl, ho2, hc2, hS7, hC7, hF7⟩ := puts_ok hP fits_B
  have HS7 := Lib.hid hS7
  have HW7 := Lib.hid ((HS6.out.below HA7.out).under (HW6.out.trans (HA7.out.mono HW6.out.size)) hC7)
  have HO7 := Lib.hid (hC7.blk (blk_below HO6.out HA7.out) (HS6.out.below HA7.out |>.not (blk_below HO6.out HA7.out) (by decide)))
  have HQ7 := Lib.hid (show v7.heap[o2]? = some (.cells #[.int .i64 1, .int .i64 2] 50 (0, 0)) by rw [hc2, show changes nmS ordS LA [oneS 1 1 6, oneS 1 1 5] = [1, 2] from ch_B]; rfl)
  clear hP ho2 hc2 hS7 hC7 hF7 HA7 HS6 HW6
  go_wp2_with fail
  refine (one_run 0 1 5 v7).mono ?_
  rintro e v8 ⟨rfl, hb⟩
  have HS8 := Lib.hid (HS7.out.below hb)
  have HW8 := Lib.hid (HW7.out.trans (hb.mono HW7.out.size))
  have HO8 := Lib.hid (blk_below HO7.out hb)
  have HQ8 := Lib.hid (blk_below HQ7.out hb)
  clear hb
  go_wp2_with fail
  have HA9 := Lib.hid (below_alloc (Below.refl v8.heap.size v8) (.cells (cells1 0 1 5) 41))
  refine (put1 v8 w.heap.size s F2 LB HS8.out HW8.out.size 0 1 5 wf0 wf1).mono ?_
  rintro e v9 hP
  obtain ⟨rfl, hb⟩ := puts_no hP (by show fitsF nmS chk0 LB lC ≠ 0; rw [fits_C]; decide)
  have hb := HA9.out.trans (hb.mono HA9.out.size)
  have HS9 := Lib.hid (HS8.out.below hb)
  have HW9 := Lib.hid (HW8.out.trans (hb.mono HW8.out.size))
  have HO9 := Lib.hid (blk_below HO8.out hb)
  have HQ9 := Lib.hid (blk_below HQ8.out hb)
  have h41 : fitsF nmS chk0 LB [oneS 0 1 5] = 41 := fits_C
  rw [h41]
  clear hP hb HA9 h41
  go_wp2_with fail
  refine (get_run v9 w.heap.size s F2 LB HS9.out 0 1 1 wf0 wf1 wf1).mono ?_
  rintro e v10 ⟨hb, hg⟩
  have hg : ∃ x v4 v11 v12, getL nmS LB ((0, 1), 1) = some x ∧ e = .returned (.tuple #[.agg (cSp x v4 v11 v12).toArray, .bool true]) ∧ kSq.M v10 v9.heap.size (fun _ => True) x (cSp x v4 v11 v12) := by
    rcases hg with ⟨h1, _⟩ | h2
    · rw [get_B] at h1; cases h1
    · exact h2
  obtain ⟨x, u4, u11, u12, hx, rfl, hM⟩ := hg
  rw [get_B] at hx
  obtain rfl := Option.some.inj hx
  obtain ⟨_, _, _, hu, z4, z11, z12⟩ := kSq_openM hM
  simp only [List.cons.injEq, and_true, true_and] at hu
  obtain ⟨rfl, rfl, rfl⟩ := hu
  obtain ⟨E4, c4, rfl, _, _⟩ := Kd.Zv_reads z4
  obtain ⟨E11, c11, rfl, _, _⟩ := Kd.Zv_reads z11
  obtain ⟨E12, c12, rfl, _, _⟩ := Kd.Zv_reads z12
  have HS10 := Lib.hid (HS9.out.below hb)
  have HW10 := Lib.hid (HW9.out.trans (hb.mono HW9.out.size))
  have HO10 := Lib.hid (blk_below HO9.out hb)
  have HQ10 := Lib.hid (blk_below HQ9.out hb)
  clear hb hx hM z4 z11 z12
  have a0 := (cell_of_row _ _ 0 _ _ _ HO10.out).trans rfl
  have b0 := (cell_of_row _ _ 0 _ _ _ HQ10.out).trans rfl
  have b1 := (cell_of_row _ _ 1 _ _ _ HQ10.out).trans rfl
  have hzo := blk_lt HO10.out
  have hzq := blk_lt HQ10.out
  simp only [oneS, cSp]
  go_wp2_with fail
  refine (count_run _ w.heap.size s F2 LB (HS10.out.below (below_alloc (Below.refl _ _) _))).mono ?_
  rintro e v11 ⟨rfl, hw⟩
  subst hw
  rw [len_B]
  have HW11 := Lib.hid (below_alloc HW10.out (.cells #[.int .u64 0, .int .u64 1, .int .u64 1, .int .u64 0, .slice E4 0 c4, .string ⟨#[115]⟩, .string ⟨#[111]⟩, .int .i64 0, .int .i64 0, .int .i64 0, .int .i64 6, .slice E11 0 c11, .slice E12 0 c12] 41))
  go_wp2_with fail
  go_ret
  exact ⟨by simp, HW11.out⟩
end Go.Proofs.YthdkgilpnkabmaaGreatDoor.Pr
