/- (*Store).Trace: a trace's spans, by rising IDs. -/
import Derived.Test.YthdkgilpnkabmaaGreatDoorSq
import Derived.Test.YthdkgilpnkabmaaGreatDoorRn
namespace Go.Proofs.YthdkgilpnkabmaaGreatDoor.Pr
open Go Go.RowKit Go.Proofs.YthdkgilpnkabmaaGreatDoorW.PrintWords Go.Proofs.YthdkgilpnkabmaaGreatDoorW.PrintMore
open Go.Maps (Keyed)
open Rm Ps
set_option linter.unusedVariables false
set_option linter.unusedSimpArgs false
theorem infoSp : (Tryz.prog.info? 41).map (fun i => (i.zero, i.size, i.bytes)) = some (some (.agg #[.int .u64 0, .int .u64 0, .int .u64 0, .int .u64 0, .slice none 0 0, .string ByteArray.empty, .string ByteArray.empty, .int .i64 0, .int .i64 0, .int .i64 0, .int .i64 0, .slice none 0 0, .slice none 0 0]), 13, 168) := by kernel_rfl
/-- A row of spans of the call's own, with lists of its own. -/
abbrev OwnS (w : World) (base : Nat) (v : Value) (xs : List Sp) : Prop := Kd.R kSq 41 w base (fun _ => True) v xs
def SortPost (w0 w : World) (v : Value) (xs : List Sp) (e : Ending) (w' : World) : Prop :=
  e = .returned (.tuple #[]) ∧ ∃ ys, ys.Perm xs ∧ ys.Pairwise (fun a b => ¬ b.f1 < a.f1) ∧ OwnS w' w0.heap.size v ys ∧ Below w0.heap.size w0 w' ∧ w.heap.size ≤ w'.heap.size
/-- What the sort of spans does. -/
def SortSp : Prop := ∀ (w0 w : World) (v : Value) (xs : List Sp), Below w0.heap.size w0 w → OwnS w w0.heap.size v xs → xs.length < 4611686018427387904 →
  Calls Tryz.prog 72 #[v, .func (.func 73) #[] #[]] w (SortPost w0 w v xs)
/-- What Trace tells: the spans of a trace, by rising IDs. -/
def TracePost (w : World) (L : List Sp) (t : Tr) (e : Ending) (w' : World) : Prop :=
  ∃ v ys, e = .returned v ∧ ys.Perm (L.filter (fun x => decide (tr x = t))) ∧ ys.Pairwise (fun a b => ¬ b.f1 < a.f1) ∧ OwnS w' w.heap.size v ys ∧ Below w.heap.size w w'
theorem Book.perm {w : World} {base s : Nat} {F : Nat → Prop} {L : List Sp} {tb : Nat} {T : List (Tr × Nat)} {I : Nat → List (Int × (Sp × List Value))} (B : Book w base s F L tb T I) {t : Tr} {b : Nat} (h1 : getM T t = some b) :
    ((I b).map (fun q => q.2.1)).Perm (L.filter (fun x => decide (tr x = t))) := by
  have hm := getM_mem h1
  have hnd := (B.inner _ hm).nodup
  have n1 : ((I b).map (fun q => q.2.1)).Nodup := by
    refine List.pairwise_map.2 ((List.pairwise_map.1 hnd).imp_of_mem (fun {p q} hp hq hne e => hne ?_))
    have e1 := (B.spans _ hm p hp).1
    have e2 := (B.spans _ hm q hq).1
    rw [e, e2] at e1
    simpa using e1.symm
  have n2 : L.Nodup := (List.pairwise_map.1 B.nodup).imp (fun hne e => hne (by rw [e]))
  refine (List.perm_ext_iff_of_nodup n1 (n2.filter _)).2 (fun x => ?_)
  rw [List.mem_filter, decide_eq_true_eq]
  constructor
  · intro hx
    obtain ⟨q, hq, rfl⟩ := List.mem_map.1 hx
    obtain ⟨e1, e2, _⟩ := B.spans _ hm q hq
    exact ⟨e2, by simpa [nmS] using congrArg Prod.fst e1⟩
  · rintro ⟨hx, rfl⟩
    obtain ⟨b', v, h5, h6, _, h8⟩ := B.in_of_mem hx
    rw [h1] at h5
    obtain rfl := Option.some.inj h5
    exact List.mem_map.2 ⟨_, h8, rfl⟩
theorem Book.filter_none {w : World} {base s : Nat} {F : Nat → Prop} {L : List Sp} {tb : Nat} {T : List (Tr × Nat)} {I : Nat → List (Int × (Sp × List Value))} (B : Book w base s F L tb T I) {t : Tr} (h1 : getM T t = none) : L.filter (fun x => decide (tr x = t)) = [] := by
  rw [List.filter_eq_nil_iff]
  intro x hx ht
  obtain ⟨b', v, h5, _⟩ := B.in_of_mem hx
  rw [of_decide_eq_true ht, h1] at h5
  cases h5
/-- A clone may stand in a row that was there. -/
theorem clone_fits {w0 W w : World} {v : Value} {xs : List Sp} {x : Sp} {cs : List Value} (hO : OwnS W w0.heap.size v xs) (hW : w0.heap.size ≤ W.heap.size) (hM : kSq.M w W.heap.size (fun _ => True) x cs) : kSq.M w w0.heap.size (fun k => some k ≠ v.ownBlock) x cs := by
  refine kSq.M_lower hW (kSq.M_mono (fun k hk => ?_) (kSq.M_bound hM))
  intro e
  have h1 := Kd.R_lt hO k e.symm
  have h2 := hk.2.1
  omega
theorem own_grown {α β : Type} {P : Program} {k : TypeId} {mk : α → Value} {mv : β → Value} {b r base : Nat} {M Lf : List (α × β)} {w w1 : World} {v : Value} {xs : List Sp} (h : OwnS w base v xs) (hg : w.grownBy w1 (some r)) (hr : RangeIs w P k mk mv b r M Lf) : OwnS w1 base v xs := by
  obtain ⟨es, clock, since, seen, c0, _, _, hm, _⟩ := hr
  refine Kd.R_mono (Kd.R_grown (Kd.R_bound h) hg (fun j hj e => ?_)) (fun _ _ => trivial)
  obtain ⟨_, _, _, q, _, cells, hc⟩ := hj
  rw [Option.some.inj e, hm] at hc
  cases hc
theorem range_row {α β : Type} {P : Program} {k : TypeId} {mk : α → Value} {mv : β → Value} {b r base : Nat} {M Lf : List (α × β)} {w w1 : World} {v : Value} {xs : List Sp} (hr : RangeIs w P k mk mv b r M Lf) (h : OwnS w base v xs) (hg : w.grownBy w1 v.ownBlock) : RangeIs w1 P k mk mv b r M Lf := by
  refine hr.kept hg (fun e => ?_) (fun e => ?_)
  · obtain ⟨cells, hc⟩ := Kd.R_typed h b e.symm
    obtain ⟨es, clock, since, seen, c0, hb, _⟩ := hr
    rw [hb] at hc
    cases hc
  · obtain ⟨cells, hc⟩ := Kd.R_typed h r e.symm
    obtain ⟨es, clock, since, seen, c0, _, _, hm, _⟩ := hr
    rw [hm] at hc
    cases hc
set_option maxHeartbeats 4000000 in
set_option maxRecDepth 100000 in
theorem trace_run (hs : SortSp) (w : World) (base s : Nat) (F : Nat → Prop) (L : List Sp) (B : StoreAt w base s F L) (hi lo : Int) (h1 : wfI hi) (h2 : wfI lo) :
    Calls Tryz.prog 44 #[.pointer (some ⟨s, 0, none⟩), .agg #[.int .u64 hi, .int .u64 lo]] w (TracePost w L (hi, lo)) := by
  obtain ⟨tb, T, I, B⟩ := B
  have HB := Lib.hid B
  have HSO := Lib.hid hs
  have HLB := Lib.hid B.small
  obtain ⟨kt, hkt⟩ := keyTr_mk (t := (hi, lo)) h1 h2
  have HKT := Lib.hid hkt
  clear B hkt hs
  cases hT : getM T (hi, lo) with
  | none =>
    have HT := Lib.hid hT
    have HFN := Lib.hid (HB.out.filter_none hT)
    clear hT
    go_enter Tryz.func44, Tryz.ntmps44
    go_wp2_with fail
    have hb1 := below_alloc (Below.refl w.heap.size w) (.cells #[.int .u64 hi, .int .u64 lo] 33)
    have g1 := blk_new w (.cells #[.int .u64 hi, .int .u64 lo] 33)
    generalize w.alloc (.cells #[.int .u64 hi, .int .u64 lo] 33) = w1 at *
    have HW1 := Lib.hid hb1
    have HB1 := Lib.hid (HB.out.below hb1)
    have hc0 := HB1.out.cell
    have p0 := fun z : Wx w1 => z.cell ((cell_of_row _ _ 0 _ _ _ hc0).trans rfl)
    have q0 := fun z : Wx w1 => z.cell ((cell_of_row _ _ 0 _ _ _ g1).trans rfl)
    have q1 := fun z : Wx w1 => z.cell ((cell_of_row _ _ 1 _ _ _ g1).trans rfl)
    have hlk : ∀ z : Wx w1, (Instr.lookup 74 (.map (some tb)) (.agg #[.int .u64 hi, .int .u64 lo]) false).run Tryz.prog z.W = .ok (.map none) z.W := fun z => (HB1.out.traces.below z.h).look_none keyTr Tryz.underlying74 (zero_tr _) false HKT.out mkTr_inj HT.out
    clear hb1 hc0 g1
    refine wp_region_ext_tail 6 (by kernel_rfl) (by kernel_rfl) ?_
    simp only [List.take_succ_cons, List.take_zero, List.drop_succ_cons, List.drop_zero]
    repeat (go_big_quiet_step (fail))
    refine wpQuiet_nil ?_
    intro _ hw'
    obtain ⟨xx, rfl⟩ := hw'
    clear p0 q0 q1 hlk
    have HW2 := Lib.hid (HW1.out.trans (xx.h.mono HW1.out.size))
    generalize xx.W = w2 at *
    clear xx HW1 HB1
    have hrun : (Instr.range 79 (.map none)).run Tryz.prog w2 = .ok (.pointer (some ⟨w2.heap.size, 0, none⟩)) (w2.alloc (.mapIter none 0 #[] 0)) := run_range_nilMap w2 _ _ _ Tryz.underlying79
    go_wp2_with fail
    clear hrun
    have hnx : ∀ ty, (Instr.next (.pointer (some ⟨w2.heap.size, 0, none⟩)) false ty).run Tryz.prog (w2.alloc (.mapIter none 0 #[] 0)) = .ok (.tuple #[.bool false]) (w2.alloc (.mapIter none 0 #[] 0)) := fun ty => by
      have hb : (w2.alloc (.mapIter none 0 #[] 0)).heap[w2.heap.size]? = some (.mapIter none 0 #[] 0) := blk_new _ _
      simp only [Instr.next, getObj, Sem.run_bind, Sem.run, hb, Result.andThen]
      rfl
    have HW3 := Lib.hid (below_alloc HW2.out (.mapIter none 0 #[] 0))
    generalize w2.alloc (.mapIter none 0 #[] 0) = w3 at *
    have HS := Lib.hid (HSO.out w w3 (.slice none 0 0) [] HW3.out (Kd.R_nil _ _ _ _ _) (by simp))
    refine wp_loop_rounds 1 ?_
    rw [rounds_succ]
    go_wp2_with fail
    refine HS.out.mono ?_
    rintro e w5 ⟨rfl, ys, hy1, hy2, hy3, hy4, hy5⟩
    have HL := Lib.hid (show TracePost w L (hi, lo) (.returned (.slice none 0 0)) w5 from ⟨_, ys, rfl, by rw [HFN.out]; exact hy1, hy2, hy3, hy4⟩)
    clear hy1 hy2 hy3 hy4 hy5
    go_wp2_with fail
    go_ret
    exact HL.out
  | some b =>
    have HT := Lib.hid hT
    have HPM := Lib.hid (HB.out.perm hT)
    clear hT
    go_enter Tryz.func44, Tryz.ntmps44
    go_wp2_with fail
    have hb1 := below_alloc (Below.refl w.heap.size w) (.cells #[.int .u64 hi, .int .u64 lo] 33)
    have g1 := blk_new w (.cells #[.int .u64 hi, .int .u64 lo] 33)
    generalize w.alloc (.cells #[.int .u64 hi, .int .u64 lo] 33) = w1 at *
    have HW1 := Lib.hid hb1
    have HB1 := Lib.hid (HB.out.below hb1)
    have hc0 := HB1.out.cell
    have p0 := fun z : Wx w1 => z.cell ((cell_of_row _ _ 0 _ _ _ hc0).trans rfl)
    have q0 := fun z : Wx w1 => z.cell ((cell_of_row _ _ 0 _ _ _ g1).trans rfl)
    have q1 := fun z : Wx w1 => z.cell ((cell_of_row _ _ 1 _ _ _ g1).trans rfl)
    have hlk : ∀ z : Wx w1, (Instr.lookup 74 (.map (some tb)) (.agg #[.int .u64 hi, .int .u64 lo]) false).run Tryz.prog z.W = .ok (.map (some b)) z.W := fun z => (HB1.out.traces.below z.h).look_some keyTr Tryz.underlying74 (zero_tr _) false HKT.out mkTr_inj HT.out
    clear hb1 hc0 g1
    refine wp_region_ext_tail 6 (by kernel_rfl) (by kernel_rfl) ?_
    simp only [List.take_succ_cons, List.take_zero, List.drop_succ_cons, List.drop_zero]
    repeat (go_big_quiet_step (fail))
    refine wpQuiet_nil ?_
    intro _ hw'
    obtain ⟨xx, rfl⟩ := hw'
    clear p0 q0 q1 hlk
    have HW2 := Lib.hid (HW1.out.trans (xx.h.mono HW1.out.size))
    have HB2 := Lib.hid (HB1.out.below xx.h)
    generalize xx.W = w2 at *
    clear xx HW1 HB1
    obtain ⟨w3, hrun, hrg, hg3, hs3⟩ := (HB2.out.inner _ (getM_mem HT.out)).range Tryz.underlying79
    have hrun : (Instr.range 79 (.map (some b))).run Tryz.prog w2 = .ok (.pointer (some ⟨w2.heap.size, 0, none⟩)) w3 := hrun
    have HRG := Lib.hid hrg
    have hb3 : Below w2.heap.size w2 w3 := ⟨hg3.os, hg3.tape, hg3.output, hg3.size, fun k hk => hg3.block k hk (by simp)⟩
    have HW3 := Lib.hid (HW2.out.trans (hb3.mono HW2.out.size))
    have HB3 := Lib.hid (HB2.out.below hb3)
    clear hrg hg3 hs3 hb3
    go_wp2_with fail
    clear hrun
    obtain ⟨r, hr⟩ : ∃ r, Hid (r = w2.heap.size) := ⟨_, rfl⟩
    rw [← hr.out] at HRG ⊢
    have HRW := Lib.hid (show w.heap.size ≤ r by rw [hr.out]; exact HW2.out.size)
    go_loopw [5] (fun v5 wr => ∃ (v : Value) (Lf : List (Int × (Sp × List Value))) (xs : List Sp), v5 = v ∧ Hid (RangeIs wr Tryz.prog 34 mkId mvS b r (I b) Lf) ∧ Hid (OwnS wr w.heap.size v xs) ∧ Hid ((xs ++ Lf.map (fun q => q.2.1)).Perm ((I b).map (fun q => q.2.1))) ∧ Hid (Below w.heap.size w wr)) (fun _ wr => wr.rangeLeft b r)
    case atStart => exact ⟨_, _, [], rfl, HRG, Lib.hid (Kd.R_nil _ _ _ _ _), Lib.hid (by simp), HW3⟩
    case round =>
      obtain ⟨v, Lf, xs, hv, HG, HO, HP, HW⟩ := hrel
      have hv2 := hv.symm
      clear hv
      subst hv2
      go_wp2_with (at_next; refine wpList_next_is _ rfl _ rfl 34 mkId mvS b r (I b) Lf rfl HG.out ?_ ?_)
      · intro hLf
        subst hLf
        have hlen : xs.length ≤ 100000 := by
          have h3 := HP.out.length_eq
          have h4 := (HPM.out).length_eq
          have h5 := List.length_filter_le (fun x => decide (tr x = (hi, lo))) L
          have h6 := HLB.out
          simp only [List.map_nil, List.append_nil] at h3
          omega
        have HS := Lib.hid (HSO.out w wr v xs HW.out HO.out (by omega))
        have HP' := Lib.hid (show xs.Perm (L.filter (fun x => decide (tr x = (hi, lo)))) by
          have h3 := HP.out
          simp only [List.map_nil, List.append_nil] at h3
          exact h3.trans HPM.out)
        go_wp2_with fail
        refine HS.out.mono ?_
        rintro e w5 ⟨rfl, ys, hy1, hy2, hy3, hy4, hy5⟩
        have HL := Lib.hid (show TracePost w L (hi, lo) (.returned v) w5 from ⟨v, ys, rfl, hy1.trans HP'.out, hy2, hy3, hy4⟩)
        clear hy1 hy2 hy3 hy4 hy5
        go_wp2_with fail
        go_ret
        exact HL.out
      · intro s1 t1 i1 y cs w4 hLf hmem hrg hg4 hs4 hen
        have hb4 : Below w.heap.size w w4 := HW.out.grown hg4 HW.out.size (fun j h => by cases h; exact HRW.out)
        obtain ⟨_, _, hMy, hoy⟩ := (HB.out.below hb4).spans _ (getM_mem HT.out) _ hmem
        obtain ⟨u4, u11, u12, hu, z4, z11, z12⟩ := kSq_openM hMy
        obtain ⟨D4, d4, rfl, _, _⟩ := Kd.Zv_reads z4
        obtain ⟨D11, d11, rfl, _, _⟩ := Kd.Zv_reads z11
        obtain ⟨D12, d12, rfl, _, _⟩ := Kd.Zv_reads z12
        replace hu : cs = cSp y (.slice D4 y.f3.length d4) (.slice D11 y.f10.length d11) (.slice D12 y.f11.length d12) := hu
        subst hu
        have HMY := Lib.hid (kSp_of_sq hMy)
        have HOY := Lib.hid hoy
        clear hMy hoy z4 z11 z12
        obtain ⟨⟨yhi, ylo⟩, yid, ypar, ylk, ysv, yop, ykd, yst, ys0, ys1, yla, yle⟩ := y
        dsimp only [cSp] at HMY
        replace hen : (Instr.entry (.pointer (some ⟨r, 0, none⟩))).run Tryz.prog w4 = .ok (.tuple #[.int .u64 i1, .agg #[.int .u64 yhi, .int .u64 ylo, .int .u64 yid, .int .u64 ypar, .slice D4 ylk.length d4, .string ysv, .string yop, .int .i64 ykd, .int .i64 yst, .int .i64 ys0, .int .i64 ys1, .slice D11 yla.length d11, .slice D12 yle.length d12]]) w4 := hen
        have HRG4 := Lib.hid hrg
        have HO4 := Lib.hid (own_grown HO.out hg4 HG.out)
        have HLF := Lib.hid hLf
        have HW4 := Lib.hid hb4
        clear hrg hg4 hs4 hLf hmem hb4
        go_wp2_with fail
        clear hen
        have hal := below_alloc (Below.refl w4.heap.size w4) (.cells #[.int .u64 yhi, .int .u64 ylo, .int .u64 yid, .int .u64 ypar, .slice D4 ylk.length d4, .string ysv, .string yop, .int .i64 ykd, .int .i64 yst, .int .i64 ys0, .int .i64 ys1, .slice D11 yla.length d11, .slice D12 yle.length d12] 41)
        generalize w4.alloc (.cells #[.int .u64 yhi, .int .u64 ylo, .int .u64 yid, .int .u64 ypar, .slice D4 ylk.length d4, .string ysv, .string yop, .int .i64 ykd, .int .i64 yst, .int .i64 ys0, .int .i64 ys1, .slice D11 yla.length d11, .slice D12 yle.length d12] 41) = w5 at *
        have HW5 := Lib.hid (HW4.out.trans (hal.mono HW4.out.size))
        have HRG5 := Lib.hid (HRG4.out.below hal)
        have HO5 := Lib.hid (Kd.R_below HO4.out hal : OwnS w5 w.heap.size v xs)
        refine (clone_run ⟨⟨yhi, ylo⟩, yid, ypar, ylk, ysv, yop, ykd, yst, ys0, ys1, yla, yle⟩ HOY.out w5 _ (kSp.K_below hal HMY.out)).mono ?_
        rintro e w6 ⟨v4, v11, v12, rfl, hM, hb6⟩
        obtain ⟨_, _, _, hu, z4, z11, z12⟩ := kSq_openM hM
        obtain ⟨E4, e4, rfl, _, _⟩ := Kd.Zv_reads z4
        obtain ⟨E11, e11, rfl, _, _⟩ := Kd.Zv_reads z11
        obtain ⟨E12, e12, rfl, _, _⟩ := Kd.Zv_reads z12
        simp only [List.cons.injEq, and_true, true_and] at hu
        obtain ⟨rfl, rfl, rfl⟩ := hu
        have HW6 := Lib.hid (HW5.out.trans (hb6.mono HW5.out.size))
        have HRG6 := Lib.hid (HRG5.out.below hb6)
        have HO6 := Lib.hid (Kd.R_below HO5.out hb6 : OwnS w6 w.heap.size v xs)
        have HM6 := Lib.hid (clone_fits HO5.out HW5.out.size hM)
        have hlen : xs.length ≤ 100000 := by
          have h3 := HP.out.length_eq
          have h4 := (HPM.out).length_eq
          have h5 := List.length_filter_le (fun x => decide (tr x = (hi, lo))) L
          have h6 := HLB.out
          simp only [List.length_append] at h3
          omega
        clear hM hb6 hal z4 z11 z12 HO4 HRG4 HO5 HRG5
        go_wp2_with (at_builtin; refine Kd.R_append kSq (w0 := w) w.heap.size rfl _ _ 22 41 _ 168 rfl Tryz.underlying22 infoSp rfl (by decide) (by decide) v xs ⟨⟨yhi, ylo⟩, yid, ypar, ylk, ysv, yop, ykd, yst, ys0, ys1, yla, yle⟩ _ (fun _ => True) (fun k => some k ≠ v.ownBlock) rfl rfl HM6.out (fun k h => ⟨trivial, h⟩) (fun _ _ => trivial) HO6.out HW6.out HW6.out.size (by omega) ?_; intro v7 w7 ho hb7 hg7 hat)
        have HO7 := Lib.hid ho
        have HW7 := Lib.hid hb7
        have HRG7 := Lib.hid (range_row HRG6.out HO6.out hg7)
        have HP7 := Lib.hid (show ((xs ++ [(⟨⟨yhi, ylo⟩, yid, ypar, ylk, ysv, yop, ykd, yst, ys0, ys1, yla, yle⟩ : Sp)]) ++ (s1 ++ t1).map (fun q : Int × (Sp × List Value) => q.2.1)).Perm ((I b).map (fun q => q.2.1)) by
          refine List.Perm.trans ?_ HP.out
          rw [HLF.out]
          simp only [List.map_append, List.map_cons, List.append_assoc]
          refine List.Perm.append_left _ ?_
          exact (List.perm_middle (l₁ := s1.map (fun q => q.2.1))).symm)
        clear ho hb7 hg7 hat
        go_wp2_with fail
        go_roundw
        case rel => exact ⟨v7, s1 ++ t1, _, rfl, HRG7, HO7, HP7, HW7⟩
        case measure =>
          rw [HRG7.out.left_eq, HG.out.left_eq, HLF.out]
          simp
end Go.Proofs.YthdkgilpnkabmaaGreatDoor.Pr
