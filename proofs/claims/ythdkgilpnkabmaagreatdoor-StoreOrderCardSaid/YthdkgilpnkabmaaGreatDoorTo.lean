/- told: all spans of a store. -/
import Derived.Test.YthdkgilpnkabmaaGreatDoorIt
namespace Go.Proofs.YthdkgilpnkabmaaGreatDoor.Pr
open Go Go.RowKit Go.Proofs.YthdkgilpnkabmaaGreatDoorW.PrintWords Go.Proofs.YthdkgilpnkabmaaGreatDoorW.PrintMore
open Go.Shelf
open Rm Ps Rv
set_option linter.unusedVariables false
set_option linter.unusedSimpArgs false
attribute [local go_sem] Oper.semAt_some
theorem cmp_nilF (lb : Array Value) (W : World) : (binOp .eql 65 (.func (.func 50) #[] lb) .nilFunc).run Tryz.prog W = .ok (.bool false) W := by
  have h : (Op.equal 65 (.func (.func 50) #[] lb) .nilFunc).run Tryz.prog W = .ok false W := by
    unfold Op.equal
    rw [show Op.maxDepth = 9999 + 1 from rfl]
    unfold Op.equalIn
    simp [run_underlying Tryz.underlying65, Sem.run_bind, Result.andThen]
  simp [binOp, Sem.run_bind, Result.andThen, h]
/-- What a round that goes on keeps: all blocks below D but one. -/
def KpT (Bo D : Nat) (W W' : World) : Prop := Chg (fun k => k = Bo ∨ D ≤ k) W W'
theorem KpT.trans {Bo D : Nat} {A B C : World} (h : KpT Bo D A B) (k : KpT Bo D B C) : KpT Bo D A C := Chg.trans h k (fun _ _ h => h)
/-- The iterator's list stands. -/
def StT (Bn D b1 : Nat) (A : Option Addr) (c : Nat) (ys : List Sp) (W : World) : Prop :=
  W.heap[Bn]? = some (.cells #[.slice A ys.length c] 22 (0, 0)) ∧ Kd.R kSq 41 W b1 (fun k => b1 ≤ k ∧ k < D) (.slice A ys.length c) ys ∧ D ≤ W.heap.size
theorem StT.below {Bn D b1 : Nat} {A : Option Addr} {c : Nat} {ys : List Sp} {V W : World} (h : StT Bn D b1 A c ys V) (hb : Below V.heap.size V W) : StT Bn D b1 A c ys W :=
  ⟨blk_below h.1 hb, Kd.R_below h.2.1 hb, Nat.le_trans h.2.2 hb.size⟩
theorem StT.kept {Bn D b1 Bo : Nat} {A : Option Addr} {c : Nat} {ys : List Sp} {V W : World} (h : StT Bn D b1 A c ys V) (h1 : Bo < b1) (h2 : b1 ≤ Bn) (h3 : Bn < D) (hk : KpT Bo D V W) : StT Bn D b1 A c ys W ∧ V.heap.size ≤ W.heap.size :=
  ⟨⟨hk.blk h.1 (fun e => by omega), Kd.R_step h.2.1 (fun k hk' hlt => hk.block k hlt (fun e => by omega)), Nat.le_trans h.2.2 hk.size⟩, hk.size⟩
theorem StT.reads {Bn D b1 : Nat} {A : Option Addr} {c : Nat} {ys : List Sp} {W : World} (h : StT Bn D b1 A c ys W) : W.cell? ⟨Bn, 0, none⟩ = some (.slice A ys.length c) ∧ Kd.C kSp W A ys.length ys :=
  ⟨(blk_cell h.1 0).trans rfl, (Kd.R_reads' h.2.1).2.2⟩
/-- Between two rounds: what the result's box holds. -/
def InvT (w wl : World) (Bo D : Nat) (pre : List SpR) (W : World) : Prop :=
  ∃ v, W.heap[Bo]? = some (.cells #[v] 22 (0, 0)) ∧ OwnS W D v (pre.map SpR.x) ∧ Below w.heap.size w W ∧ D ≤ W.heap.size
theorem own_step {w w1 : World} {base : Nat} {v : Value} {xs : List Sp} {row : Option Nat} (h : OwnS w base v xs) (hg : w.grownBy w1 row) (hr : ∀ r, row = some r → ∃ o : Obj, w.heap[r]? = some o ∧ o.isCells = false) : OwnS w1 base v xs := by
  refine Kd.R_mono (Kd.R_grown (Kd.R_bound h) hg (fun j hj e => ?_)) (fun _ _ => trivial)
  obtain ⟨_, _, _, q, _, cells, hc⟩ := hj
  obtain ⟨o, ho, hoc⟩ := hr j e.symm
  rw [hc] at ho
  cases ho
  cases hoc
theorem InvT.own {w wl : World} {Bo D : Nat} (hD : w.heap.size ≤ D) : OwnFrom D (InvT w wl Bo D) := by
  rintro pre V W row ⟨v, h1, h2, h3, h4⟩ hg hr
  refine ⟨v, blk_grown h1 hg (fun e => ?_), own_step h2 hg (fun r e => (hr r e).2), h3.grown hg (Nat.le_trans hD h4) (fun k e => Nat.le_trans hD (hr k e).1), Nat.le_trans h4 hg.size⟩
  obtain ⟨o, ho, hc⟩ := (hr Bo e.symm).2
  rw [h1] at ho
  cases ho
  cases hc
theorem M_apart {W : World} {base b' n : Nat} {p : Sp} {cs : List Value} {v : Value} {inner : List Value} (hM : kSq.M W base (fun _ => True) p cs) (ho : W.ownsRow b' 41 13 v n inner) : kSq.M W base (fun k => True ∧ some k ≠ v.ownBlock) p cs := by
  refine kSq.M_mono (fun k hk => ⟨trivial, fun e => ?_⟩) (kSq.M_bound hM)
  obtain ⟨_, _, _, q, hq, cells, hc⟩ := hk
  obtain ⟨cs', hc'⟩ := own_typed ho k e.symm
  rw [hc] at hc'
  cases hc'
  simp [kSq_E] at hq
/-- One more element, its cells those of a span that lies in memory. -/
theorem own_snoc {W w1 : World} {base : Nat} {v v1 : Value} {xs : List Sp} {p : Sp} {cs inner : List Value} (hr : Reps (kSq.M W base (fun k => True ∧ some k ≠ v.ownBlock)) 13 xs inner) (hown : W.ownsRow base 41 13 v xs.length inner) (hM : kSq.M W base (fun _ => True) p cs)
    (hg : W.grownBy w1 v.ownBlock) (hown1 : w1.ownsRow base 41 13 v1 (xs.length + 1) (inner ++ cs)) : OwnS w1 base v1 (xs ++ [p]) := by
  refine ⟨fun _ _ => trivial, inner ++ cs, by rw [List.length_append]; exact hown1, ?_⟩
  refine Reps.snoc (hr.imp_ (fun x c h => ?_)) ?_ (kSq.K_len (kSq.K_of_M hM))
  · exact M_apart (kSq.M_mono (fun _ _ => trivial) (Kd.M_grown h hg (fun k hk => hk.2))) hown1
  · exact M_apart (kSq.M_mono (fun _ _ => trivial) (Kd.M_grown (M_apart hM hown) hg (fun k hk => hk.2))) hown1
theorem VS.grown {b0 : Nat} {r : SpR} {V W : World} {row : Option Nat} (h : VS b0 r V) (hg : V.grownBy W row) (hr : ∀ k, row = some k → ∃ o : Obj, V.heap[k]? = some o ∧ o.isCells = false) : VS b0 r W := by
  refine kSq.M_mono (fun _ _ => trivial) (Kd.M_grown (kSq.M_bound h) hg (fun k hk e => ?_))
  obtain ⟨_, _, _, q, hq, cells, hc⟩ := hk
  obtain ⟨o, ho, hoc⟩ := hr k e.symm
  rw [hc] at ho
  cases ho
  cases hoc
/-- What a round leaves: the row in its box grown by one. -/
theorem round_ends {w wl W w1 : World} {D : Nat} {pre : List SpR} {r : SpR} {v v1 : Value} {inner : List Value} (hwD : w.heap.size < D) (hD : D ≤ wl.heap.size ∧ wl.heap.size ≤ D) (i1 : W.heap[w.heap.size]? = some (.cells #[v] 22 (0, 0))) (i3 : Below w.heap.size w W) (i4 : D ≤ W.heap.size) (hV : VS D r W)
    (hr : Reps (kSq.M W D (fun k => True ∧ some k ≠ v.ownBlock)) 13 (pre.map SpR.x) inner) (hown : W.ownsRow D 41 13 v (pre.map SpR.x).length inner)
    (hg : (W.alloc (.cells (encS r).toArray 41)).grownBy w1 v.ownBlock) (hown1 : w1.ownsRow D 41 13 v1 ((pre.map SpR.x).length + 1) (inner ++ encS r)) :
    KeepsFrom wl.heap.size W (w1.setCell ⟨w.heap.size, 0, none⟩ v1) ∧ KpT w.heap.size D W (w1.setCell ⟨w.heap.size, 0, none⟩ v1) ∧ InvT w wl w.heap.size D (pre ++ [r]) (w1.setCell ⟨w.heap.size, 0, none⟩ v1) ∧ w1.heap[w.heap.size]? = some (.cells #[v] 22 (0, 0)) := by
  have hal := below_alloc (Below.refl W.heap.size W) (.cells (encS r).toArray 41)
  have hown' := pw_own_below hown hal
  have hne := own_ne hown' (blk_below i1 hal) (by decide)
  have hb1 := blk_grown (blk_below i1 hal) hg hne
  have hbs : ∀ k, v.ownBlock = some k → D ≤ k := own_base hown'
  have hsz := hg.size
  have hsz0 := hal.size
  refine ⟨?_, ?_, ?_, hb1⟩
  · refine ((KeepsOthers.alloc _ _).trans ((KeepsOthers.of_grownBy hg (fun j o e ho => ?_)).trans (KeepsOthers.setCell _ _ _))).from _
    obtain ⟨cs', hc'⟩ := own_typed hown' j e
    rw [ho] at hc'
    cases hc'
    rfl
  · refine ((Chg.of_below hal).trans (G' := fun k => k = w.heap.size ∨ D ≤ k) ⟨hg.os, hg.tape, hg.output, hg.size, fun k hk hn => hg.block k hk (fun e => hn (.inr (hbs k e.symm)))⟩ (fun _ _ h => h)).trans (Chg.set (p := ⟨w.heap.size, 0, none⟩) (.inl rfl)) (fun _ _ h => h)
  · refine ⟨v1, ?_, ?_, ?_, ?_⟩
    · have := blk_set hb1 0 v1
      exact this
    · rw [List.map_append]
      have h1 : OwnS w1 D v1 (pre.map SpR.x ++ [r.x]) := own_snoc (W := W.alloc (.cells (encS r).toArray 41)) (hr.imp_ (fun x c h => Kd.M_below h hal)) hown' (Kd.M_below hV hal) hg hown1
      exact Kd.R_set h1 hb1 (fun q hq => by simp only [kSq_E, List.mem_cons, List.not_mem_nil, or_false] at hq; rcases hq with rfl | rfl | rfl | rfl <;> decide) 0 v1
    · have h2 := (i3.trans (hal.mono i3.size)).grown hg (Nat.le_trans i3.size hsz0) (fun k e => by have := hbs k e; omega)
      exact h2.trans (Chg.below (G := fun k => k = w.heap.size) (Chg.set (p := ⟨w.heap.size, 0, none⟩) rfl) (Nat.le_trans i3.size (Nat.le_trans hsz0 hsz)) (fun k _ e => by rw [e]; exact Nat.le_refl _))
    · show D ≤ (w1.setCell ⟨w.heap.size, 0, none⟩ v1).heap.size
      have h3 : w1.heap.size ≤ (w1.setCell ⟨w.heap.size, 0, none⟩ v1).heap.size := (Chg.set (G := fun k => k = w.heap.size) (w := w1) (v := v1) (p := ⟨w.heap.size, 0, none⟩) rfl).size
      omega
set_option maxHeartbeats 4000000 in
set_option maxRecDepth 100000 in
theorem told_run (w : World) (base s : Nat) (F : Nat → Prop) (L : List Sp) (B : StoreAt w base s F L) :
    Calls Tryz.prog 11 #[.pointer (some ⟨s, 0, none⟩)] w (AllPost w L) := by
  have HB := Lib.hid B
  clear B
  refine (callsIn_wide (n := 5)).1 ?_
  refine callsIn_of_wp_marks Tryz.func11 rfl trivial ?_ rfl
  simp only [Tryz.ntmps11, List.size_toArray, List.length_cons, List.length_nil, Nat.reduceAdd, Nat.reduceSub, Array.replicate_succ, Array.replicate_zero, List.push_toArray, List.append_toArray, List.nil_append, List.cons_append]
  gi_wp2
  refine ⟨trivial, ?_⟩
  have hal := below_alloc (Below.refl w.heap.size w) (.cells #[.slice none 0 0] 22)
  have hbo := blk_new w (.cells #[.slice none 0 0] 22)
  have hsz : (w.alloc (.cells #[.slice none 0 0] 22)).heap.size = w.heap.size + 1 := World.size_alloc _ _
  generalize w.alloc (.cells #[.slice none 0 0] 22) = w1 at *
  have HW1 := Lib.hid hal
  have HO1 := Lib.hid hbo
  have HZ1 := Lib.hid hsz
  clear hal hbo hsz
  refine (callsIn_wide.2 (allIt_run w1 base s F L (HB.out.below HW1.out))).mono ?_
  rintro e wl ⟨Bn, A, c, ys, rfl, h1, h2, h3, h4, h5, h6⟩
  have hcmp := cmp_nilF #[.pointer (some ⟨Bn, 0, none⟩)] wl
  gi_wp2
  clear hcmp
  have hlen : ys.length ≤ 100000 := by rw [h1.length_eq]; exact HB.out.small
  obtain ⟨D, hD⟩ : ∃ D, D = wl.heap.size := ⟨_, rfl⟩
  obtain ⟨Bo, hBo⟩ : ∃ Bo, Bo = w.heap.size := ⟨_, rfl⟩
  have hb1 : Bo < w1.heap.size := by rw [HZ1.out, hBo]; omega
  have hBn : Bn < D := by rw [hD]; exact blk_lt h4
  have hwD : w.heap.size ≤ D := by rw [hD]; exact Nat.le_trans HW1.out.size h6.size
  have hSt : StT Bn D w1.heap.size A c ys wl := ⟨h4, Kd.R_mono (Kd.R_bound h5) (fun k hk => ⟨hk.2.1, by rw [hD]; exact hk.2.2.1⟩), by rw [hD]; exact Nat.le_refl _⟩
  have HST := Lib.hid hSt
  have hwD' : w.heap.size < D := by omega
  have HL := Lib.hid (And.intro h1 h2)
  have HI := Lib.hid (show InvT w wl Bo D [] wl from ⟨_, by rw [hBo]; exact blk_below HO1.out h6, Kd.R_nil _ _ _ _ _, HW1.out.trans (h6.mono HW1.out.size), by rw [hD]; exact Nat.le_refl _⟩)
  have HOK := Lib.hid (show ∀ x ∈ ys, okSp x from fun x hx => HB.out.okS x (h1.mem_iff.1 hx))
  clear hSt h1 h2 h4 h5 h6
  subst hBo
  refine wpIn_rangeV (F := Fence.wide) rfl (by decide) (gf := 50) (lb := #[.pointer (some ⟨Bn, 0, none⟩)]) rfl trivial (enters_of Tryz.func50 (by kernel_rfl) rfl)
    (encs := encY) (Kp := KpT w.heap.size D) (V := VS D) (S := fun rs => rs.map SpR.x = ys) (Sp := fun rs => rs.map SpR.x <+: ys) (N := ys.length) (w0 := wl)
    (fun l J Jx W hW hJ hJx hY h0 => iter_in 4 (by decide) l Bn D A c ys HOK.out (by omega) (KpT w.heap.size D) (StT Bn D w1.heap.size A c ys) J Jx (fun W h => h.reads) (fun V W h hb => h.below hb) (fun V W h hk => h.kept hb1 h3 hBn hk) (fun s V W' hs hb => hJ s V W' none hs (grown_of_below hb none) (fun r e => by cases e)) hY W (by rw [hD]; exact hW.size) (HST.out.below hW) h0)
    KpT.trans (fun W l o o' hl h _ _ => Chg.of_grown (grownBy_putObj' W l o') (.inr (by rw [hD]; exact hl))) (Below.refl _ _) (fun _ => rfl)
    (InvT w wl w.heap.size D) (fun _ _ _ => False) (by rw [← hD]; exact InvT.own hwD) (fun _ _ _ _ _ hs _ _ => hs) HI.out
    (fun x a' W => ∃ Bx, D ≤ Bx ∧ W.heap[Bx]? = some (.cells (encS x).toArray 41 (0, 0)) ∧ VS D x W ∧ a' = { tmps := #[.pointer (some ⟨s, 0, none⟩), undef, .slice none 0 0, .pointer (some ⟨w.heap.size, 0, none⟩), .func (.func 50) #[] #[.pointer (some ⟨Bn, 0, none⟩)], .pointer (some ⟨Bx, 0, none⟩), .pointer (some ⟨s, 0, none⟩), .func (.func 50) #[] #[.pointer (some ⟨Bn, 0, none⟩)], .func (.func 50) #[] #[.pointer (some ⟨Bn, 0, none⟩)], .bool false, undef, undef, .func (.func 50) #[] #[.pointer (some ⟨Bn, 0, none⟩)], .agg (encS x).toArray, undef, undef, undef, undef, undef], defers := [] })
    ?hAx ?assign ?body ?done ?stop
  case hAx =>
    rintro x a' _ V W row ⟨Bx, b1, b2, b3, b4⟩ hg hr
    refine ⟨Bx, b1, blk_grown b2 hg (fun e => ?_), b3.grown hg (fun k e => (hr k e).2), b4⟩
    obtain ⟨o, ho, hc⟩ := (hr Bx e.symm).2
    rw [b2] at ho
    cases ho
    cases hc
  case assign =>
    rintro l pre ⟨⟨⟨hi, lo⟩, id, par, lk, sv, op, kd, st, s0, s1, la, le⟩, E4, n4, e4, E11, n11, e11, E12, n12, e12⟩ W K hI hV hK
    have HK := Lib.hid hK
    have HI := Lib.hid hI
    have HV := Lib.hid hV
    clear hK hI hV
    dsimp only [encY, encS, cSp]
    gi_wp2
    refine HK.out _ _ ((KeepsOthers.alloc _ _).from _) (Chg.of_below (below_alloc (Below.refl _ _) _)) ?_ ⟨W.heap.size, ?_, blk_new _ _, ?_, rfl⟩
    · obtain ⟨v, i1, i2, i3, i4⟩ := HI.out
      have hal := below_alloc (Below.refl W.heap.size W) (.cells #[.int .u64 hi, .int .u64 lo, .int .u64 id, .int .u64 par, .slice E4 n4 e4, .string sv, .string op, .int .i64 kd, .int .i64 st, .int .i64 s0, .int .i64 s1, .slice E11 n11 e11, .slice E12 n12 e12] 41)
      exact ⟨v, blk_below i1 hal, Kd.R_below i2 hal, i3.trans (hal.mono i3.size), Nat.le_trans i4 hal.size⟩
    · obtain ⟨v, i1, i2, i3, i4⟩ := HI.out
      exact i4
    · exact HV.out.grown (World.grownBy_alloc W _ none) (fun k e => by cases e)
  case body =>
    rintro l pre ⟨⟨⟨hi, lo⟩, id, par, lk, sv, op, kd, st, s0, s1, la, le⟩, E4, n4, e4, E11, n11, e11, E12, n12, e12⟩ a' W hl hr ⟨v, i1, i2, i3, i4⟩ ⟨Bx, b1, b2, b3, rfl⟩ hlt
    have hll : pre.length < 100000 := by omega
    have hbn : w.heap.size ≠ Bx := by omega
    have c0 := (blk_cell i1 0).trans rfl
    have f0 := blk_frozen i1 0
    dsimp only [encS, cSp] at b2
    have x0 := (blk_cell b2 0).trans rfl
    have x1 := (blk_cell b2 1).trans rfl
    have x2 := (blk_cell b2 2).trans rfl
    have x3 := (blk_cell b2 3).trans rfl
    have x4 := (blk_cell b2 4).trans rfl
    have x5 := (blk_cell b2 5).trans rfl
    have x6 := (blk_cell b2 6).trans rfl
    have x7 := (blk_cell b2 7).trans rfl
    have x8 := (blk_cell b2 8).trans rfl
    have x9 := (blk_cell b2 9).trans rfl
    have x10 := (blk_cell b2 10).trans rfl
    have x11 := (blk_cell b2 11).trans rfl
    have x12 := (blk_cell b2 12).trans rfl
    obtain ⟨_, inner, ho, hre⟩ := i2
    obtain ⟨i0, hi0, hz0, hz1, hz2⟩ := info_parts infoSp
    have hal := below_alloc (Below.refl W.heap.size W) (.cells #[.int .u64 hi, .int .u64 lo, .int .u64 id, .int .u64 par, .slice E4 n4 e4, .string sv, .string op, .int .i64 kd, .int .i64 st, .int .i64 s0, .int .i64 s1, .slice E11 n11 e11, .slice E12 n12 e12] 41)
    have HO := Lib.hid (pw_own_below ho hal)
    have HIB := Lib.hid (blk_below i1 hal)
    have HNE := Lib.hid (own_ne (pw_own_below ho hal) (blk_below i1 hal) (by decide))
    have HS4 := Lib.hid (Nat.le_trans i4 hal.size)
    have HE := Lib.hid (fun (w1 : World) (v1 : Value) => round_ends (w := w) (wl := wl) (W := W) (w1 := w1) (D := D) (pre := pre) (r := ⟨⟨⟨hi, lo⟩, id, par, lk, sv, op, kd, st, s0, s1, la, le⟩, E4, n4, e4, E11, n11, e11, E12, n12, e12⟩) (v := v) (v1 := v1) (inner := inner) hwD' ⟨by rw [hD]; exact Nat.le_refl _, by rw [hD]; exact Nat.le_refl _⟩ i1 i3 i4 b3 hre ho)
    have hlm : (pre.map SpR.x).length < 100000 := by rw [List.length_map]; exact hll
    have hnb := blk_cell (blk_new W (.cells #[.int .u64 hi, .int .u64 lo, .int .u64 id, .int .u64 par, .slice E4 n4 e4, .string sv, .string op, .int .i64 kd, .int .i64 st, .int .i64 s0, .int .i64 s1, .slice E11 n11 e11, .slice E12 n12 e12] 41))
    have HNB := Lib.hid (show ∀ j u, [Value.int .u64 hi, .int .u64 lo, .int .u64 id, .int .u64 par, .slice E4 n4 e4, .string sv, .string op, .int .i64 kd, .int .i64 st, .int .i64 s0, .int .i64 s1, .slice E11 n11 e11, .slice E12 n12 e12][j]? = some u → (W.alloc (.cells #[.int .u64 hi, .int .u64 lo, .int .u64 id, .int .u64 par, .slice E4 n4 e4, .string sv, .string op, .int .i64 kd, .int .i64 st, .int .i64 s0, .int .i64 s1, .slice E11 n11 e11, .slice E12 n12 e12] 41)).cell? ((⟨W.heap.size, 0, none⟩ : Addr).add j) = some u from fun j u hu => by
      rw [add_plain, hnb]
      simpa using hu)
    clear ho hre b3 i1 i3 i4 hal hnb
    dsimp only [encS, cSp]
    gi_wp2_with (gi_at_builtin; refine wpListIn_append_own _ rfl _ _ 22 rfl D 41 i0 _ 13 168 Tryz.underlying22 hi0 hz0 hz1 hz2 rfl (by decide) _ _ inner rfl HO.out ⟨W.heap.size, 0, none⟩ 1 1 [.int .u64 hi, .int .u64 lo, .int .u64 id, .int .u64 par, .slice E4 n4 e4, .string sv, .string op, .int .i64 kd, .int .i64 st, .int .i64 s0, .int .i64 s1, .slice E11 n11 e11, .slice E12 n12 e12] rfl rfl HNB.out (by simp [Value.oneCell']) (by simp only [maxLen]; omega) (by omega) HS4.out ?_; intro v' w1 hown' hgrow _; obtain ⟨hk1, hk2, hk3, hk4⟩ := HE.out w1 v' hgrow hown'; have HK := Lib.hid (And.intro hk1 (And.intro hk2 hk3)); have c1 := (blk_cell hk4 0).trans rfl; have f1 := blk_frozen hk4 0; clear hk1 hk2 hk3 hk4; obtain ⟨g', cap', rfl⟩ := ownsRow_succ hown')
    have hk := HK.out
    rw [List.length_map, hD] at hk
    exact hk
  case done =>
    rintro D' rs W hD' hrs ⟨v, i1, i2, i3, i4⟩ hK
    have c0 := (blk_cell i1 0).trans rfl
    have HI := Lib.hid (show OwnS W D v (rs.map SpR.x) from i2)
    have H3 := Lib.hid i3
    have HKK := Lib.hid hK
    clear i1 i2 i3 hK
    gi_wp2
    refine ⟨by simp, .inl ⟨_, _, rfl, run_takeDeferred HKK.out, ?_⟩⟩
    have hgb := grownBy_putObj' W D' (.deferred none)
    have hwD'' : w.heap.size ≤ D := hwD
    have hR := own_step HI.out hgb (fun r e => by cases e; exact ⟨_, HKK.out, rfl⟩)
    refine ⟨_, results_tmp rfl _ _ _, v, rs.map SpR.x, rfl, by rw [hrs]; exact HL.out.1, by rw [hrs]; exact HL.out.2, Kd.R_lower hR hwD, H3.out.grown hgb H3.out.size (fun k e => by cases e; omega)⟩
  case stop => exact fun _ _ _ _ _ _ h _ => h.elim
end Go.Proofs.YthdkgilpnkabmaaGreatDoor.Pr
