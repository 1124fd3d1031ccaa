import Derived.Test.YthdkgilpnkabmaaGreatDoorSw
/- (*Store).Traces: all traces, rising. -/
namespace Go.Proofs.YthdkgilpnkabmaaGreatDoor.Pr
open Go Go.RowKit Go.Proofs.YthdkgilpnkabmaaGreatDoorW.PrintWords Go.Proofs.YthdkgilpnkabmaaGreatDoorW.PrintMore
open Go.Maps (Keyed)
open Rm Ps
set_option linter.unusedVariables false
set_option linter.unusedSimpArgs false
theorem infoTi : (Tryz.prog.info? 33).map (fun i => (i.zero, i.size, i.bytes)) = some (some (.agg #[.int .u64 0, .int .u64 0]), 2, 16) := by kernel_rfl
def tiOf (t : Tr) : Ti := ⟨t.1, t.2⟩
/-- The order of traces. -/
def ltTi (a b : Ti) : Prop := a.f0 < b.f0 ∨ (a.f0 = b.f0 ∧ a.f1 < b.f1)
def TracesPost (w : World) (L : List Sp) (e : Ending) (w' : World) : Prop :=
  ∃ v ys, e = .returned v ∧ ys.Pairwise ltTi ∧ (∀ t, t ∈ ys ↔ ∃ x ∈ L, x.f0 = t) ∧ ys.length ≤ L.length ∧ OwnI w' w.heap.size v ys ∧ Below w.heap.size w w'
theorem rangeI_row {α β : Type} {P : Program} {k : TypeId} {mk : α → Value} {mv : β → Value} {b r base : Nat} {M Lf : List (α × β)} {w w1 : World} {v : Value} {xs : List Ti} (hr : RangeIs w P k mk mv b r M Lf) (h : OwnI w base v xs) (hg : w.grownBy w1 v.ownBlock) : RangeIs w1 P k mk mv b r M Lf := by
  refine hr.kept hg (fun e => ?_) (fun e => ?_)
  · obtain ⟨cells, hc⟩ := Kd.R_typed h b e.symm
    obtain ⟨es, clock, since, seen, c0, hb, _⟩ := hr
    rw [hb] at hc
    cases hc
  · obtain ⟨cells, hc⟩ := Kd.R_typed h r e.symm
    obtain ⟨es, clock, since, seen, c0, _, _, hm, _⟩ := hr
    rw [hm] at hc
    cases hc
theorem ownI_grown {α β : Type} {P : Program} {k : TypeId} {mk : α → Value} {mv : β → Value} {b r base : Nat} {M Lf : List (α × β)} {w w1 : World} {v : Value} {xs : List Ti} (h : OwnI w base v xs) (hg : w.grownBy w1 (some r)) (hr : RangeIs w P k mk mv b r M Lf) : OwnI w1 base v xs := by
  obtain ⟨es, clock, since, seen, c0, _, _, hm, _⟩ := hr
  refine Kd.R_mono (Kd.R_grown (Kd.R_bound h) hg (fun j hj e => ?_)) (fun _ _ => trivial)
  obtain ⟨_, _, _, q, _, cells, hc⟩ := hj
  rw [Option.some.inj e, hm] at hc
  cases hc
theorem Book.keyset {w : World} {base s : Nat} {F : Nat → Prop} {L : List Sp} {tb : Nat} {T : List (Tr × Nat)} {I : Nat → List (Int × (Sp × List Value))} (B : Book w base s F L tb T I) : (T.map fun p => tiOf p.1).Nodup ∧ (∀ t, t ∈ (T.map fun p => tiOf p.1) ↔ ∃ x ∈ L, x.f0 = t) ∧ (T.map fun p => tiOf p.1).length ≤ L.length := by
  have hnd : (T.map fun p => tiOf p.1).Nodup := by
    refine List.pairwise_map.2 ((List.pairwise_map.1 B.traces.nodup).imp (fun {p q} hne e => hne ?_))
    have e1 := congrArg S33.f0 e
    have e2 := congrArg S33.f1 e
    exact Prod.ext e1 e2
  have hmem : ∀ t, t ∈ (T.map fun p => tiOf p.1) ↔ ∃ x ∈ L, x.f0 = t := by
    intro t
    rw [List.mem_map]
    constructor
    · rintro ⟨p, hp1, rfl⟩
      obtain ⟨q, hq⟩ := List.exists_mem_of_ne_nil _ (B.full p hp1)
      obtain ⟨h1, h2, _⟩ := B.spans p hp1 q hq
      refine ⟨_, h2, ?_⟩
      have h3 : tr q.2.1 = p.1 := congrArg Prod.fst h1
      rw [← h3]
      rfl
    · rintro ⟨x, hx, rfl⟩
      obtain ⟨b, v, h1, _⟩ := B.found x hx
      exact ⟨_, h1, rfl⟩
  refine ⟨hnd, hmem, ?_⟩
  have := List.Nodup.length_le_of_subset hnd (l₂ := L.map (fun x => x.f0)) (fun t ht => by
    obtain ⟨x, hx, e⟩ := (hmem t).1 ht
    exact List.mem_map.2 ⟨x, hx, e⟩)
  simpa using this
/-- The keys, sorted. -/
theorem Book.keys {w : World} {base s : Nat} {F : Nat → Prop} {L : List Sp} {tb : Nat} {T : List (Tr × Nat)} {I : Nat → List (Int × (Sp × List Value))} (B : Book w base s F L tb T I) {ys : List Ti}
    (hp : ys.Perm (T.map fun p => tiOf p.1)) (hs : ys.Pairwise (fun a b => ¬ (b.f0 < a.f0 ∨ (b.f0 = a.f0 ∧ b.f1 < a.f1)))) : ys.Pairwise ltTi ∧ (∀ t, t ∈ ys ↔ ∃ x ∈ L, x.f0 = t) ∧ ys.length ≤ L.length := by
  obtain ⟨k1, k2, k3⟩ := B.keyset
  have hnd : ys.Nodup := hp.nodup_iff.2 k1
  refine ⟨?_, fun t => hp.mem_iff.trans (k2 t), by rw [hp.length_eq]; exact k3⟩
  refine List.Pairwise.imp (fun {a b} h => ?_) (List.Pairwise.and hs hnd)
  obtain ⟨h1, h2⟩ := h
  obtain ⟨a0, a1⟩ := a
  obtain ⟨b0, b1⟩ := b
  have h3 : ¬ (a0 = b0 ∧ a1 = b1) := fun e => h2 (by rw [e.1, e.2])
  simp only [ltTi] at h1 ⊢
  omega
set_option maxHeartbeats 4000000 in
set_option maxRecDepth 100000 in
theorem traces_run (w : World) (base s : Nat) (F : Nat → Prop) (L : List Sp) (B : StoreAt w base s F L) :
    Calls Tryz.prog 25 #[.pointer (some ⟨s, 0, none⟩)] w (TracesPost w L) := by
  obtain ⟨tb, T, I, B⟩ := B
  have HB := Lib.hid B
  have hT : T.length ≤ 100000 := by
    obtain ⟨_, _, h1⟩ := B.keyset
    have := B.small
    rw [List.length_map] at h1
    omega
  have HLT := Lib.hid hT
  clear B hT
  have hc0 := HB.out.cell
  have p0 := (cell_of_row _ _ 0 _ _ _ hc0).trans rfl
  obtain ⟨w3, hrun, hrg, hg3, hs3⟩ := HB.out.traces.range Tryz.underlying74
  have hrun : (Instr.range 74 (.map (some tb))).run Tryz.prog w = .ok (.pointer (some ⟨w.heap.size, 0, none⟩)) w3 := hrun
  have HRG := Lib.hid hrg
  have hb3 : Below w.heap.size w w3 := ⟨hg3.os, hg3.tape, hg3.output, hg3.size, fun k hk => hg3.block k hk (by simp)⟩
  have HW3 := Lib.hid hb3
  clear hrg hg3 hs3 hb3 hc0
  go_enter Tryz.func25, Tryz.ntmps25
  go_wp2_with fail
  clear hrun
  obtain ⟨r, hr⟩ : ∃ r, Hid (r = w.heap.size) := ⟨_, rfl⟩
  rw [← hr.out] at HRG ⊢
  have HRW := Lib.hid (show w.heap.size ≤ r by rw [hr.out]; exact Nat.le_refl _)
  go_loopw [3] (fun v3 wr => ∃ (v : Value) (Lf : List (Tr × Nat)) (xs : List Ti), v3 = v ∧ Hid (RangeIs wr Tryz.prog 33 mkTr mvT tb r T Lf) ∧ Hid (OwnI wr w.heap.size v xs) ∧ Hid ((xs ++ Lf.map (fun q => tiOf q.1)).Perm (T.map (fun q => tiOf q.1))) ∧ Hid (Below w.heap.size w wr)) (fun _ wr => wr.rangeLeft tb r)
  case atStart => exact ⟨_, _, [], rfl, HRG, Lib.hid (Kd.R_nil _ _ _ _ _), Lib.hid (by simp), HW3⟩
  case round =>
    obtain ⟨v, Lf, xs, hv, HG, HO, HP, HW⟩ := hrel
    have hv2 := hv.symm
    clear hv
    subst hv2
    have hlen : xs.length ≤ 100000 := by
      have h3 := HP.out.length_eq
      have h6 := HLT.out
      simp only [List.length_append, List.length_map] at h3
      omega
    go_wp2_with (at_next; refine wpList_next_is _ rfl _ rfl 33 mkTr mvT tb r T Lf rfl HG.out ?_ ?_)
    · intro hLf
      subst hLf
      have HS := Lib.hid (sort_traces w wr v xs HW.out HO.out (by omega))
      have HP' := Lib.hid (show xs.Perm (T.map (fun q => tiOf q.1)) by
        have h3 := HP.out
        simp only [List.map_nil, List.append_nil] at h3
        exact h3)
      go_wp2_with fail
      refine HS.out.mono ?_
      rintro e w5 ⟨rfl, ys, hy1, hy2, hy3, hy4, hy5⟩
      have HL := Lib.hid (show TracesPost w L (.returned v) w5 from by
        obtain ⟨k1, k2, k3⟩ := HB.out.keys (hy1.trans HP'.out) hy2
        exact ⟨v, ys, rfl, k1, k2, k3, hy3, hy4⟩)
      clear hy1 hy2 hy3 hy4 hy5
      go_wp2_with fail
      go_ret
      exact HL.out
    · intro s1 t1 yhi ylo c1 w4 hLf hmem hrg hg4 hs4 hen
      have hb4 : Below w.heap.size w w4 := HW.out.grown hg4 HW.out.size (fun j h => by cases h; exact HRW.out)
      replace hen : (Instr.entry (.pointer (some ⟨r, 0, none⟩))).run Tryz.prog w4 = .ok (.tuple #[.agg #[.int .u64 yhi, .int .u64 ylo], .map (some c1)]) w4 := hen
      have HRG4 := Lib.hid hrg
      have HO4 := Lib.hid (ownI_grown HO.out hg4 HG.out)
      have HLF := Lib.hid hLf
      have HW4 := Lib.hid hb4
      clear hrg hg4 hs4 hLf hmem hb4
      have hal := below_alloc (Below.refl w4.heap.size w4) (.cells #[.int .u64 yhi, .int .u64 ylo] 33)
      have HW5 := Lib.hid (HW4.out.trans (hal.mono HW4.out.size))
      have HRG5 := Lib.hid (HRG4.out.below hal)
      have HO5 := Lib.hid (Kd.R_below HO4.out hal : OwnI _ w.heap.size v xs)
      clear hal HO4 HRG4
      go_wp2_with (at_builtin; go_loud (refine Kd.R_append k33 (w0 := w) w.heap.size rfl _ _ 69 33 _ 16 rfl Tryz.underlying69 infoTi rfl (by decide) (by decide) v xs ⟨yhi, ylo⟩ _ (fun _ => True) (fun k => some k ≠ v.ownBlock) rfl (by first | rfl | (rw [World.size_alloc]; rfl)) (k33_mkM _ _ _ ⟨yhi, ylo⟩) (fun k h => ⟨trivial, h⟩) (fun _ _ => trivial) HO5.out HW5.out HW5.out.size (by omega) ?_; intro v7 w7 ho hb7 hg7 hat))
      have HO7 := Lib.hid ho
      have HW7 := Lib.hid hb7
      have HRG7 := Lib.hid (rangeI_row HRG5.out HO5.out hg7)
      have HP7 := Lib.hid (show ((xs ++ [(⟨yhi, ylo⟩ : Ti)]) ++ (s1 ++ t1).map (fun q : Tr × Nat => tiOf q.1)).Perm (T.map (fun q => tiOf q.1)) by
        refine List.Perm.trans ?_ HP.out
        rw [HLF.out]
        simp only [List.map_append, List.map_cons, List.append_assoc]
        refine List.Perm.append_left _ ?_
        exact (List.perm_middle (l₁ := s1.map (fun q => tiOf q.1))).symm)
      clear ho hb7 hg7 hat
      go_wp2_with fail
      go_roundw
      case rel => exact ⟨v7, s1 ++ t1, _, rfl, HRG7, HO7, HP7, HW7⟩
      case measure =>
        rw [HRG7.out.left_eq, HG.out.left_eq, HLF.out]
        simp
end Go.Proofs.YthdkgilpnkabmaaGreatDoor.Pr
/- (*Store).all: all spans, rising. -/
namespace Go.Proofs.YthdkgilpnkabmaaGreatDoor.Pr
open Go Go.RowKit Go.Proofs.YthdkgilpnkabmaaGreatDoorW.PrintWords Go.Proofs.YthdkgilpnkabmaaGreatDoorW.PrintMore
open Rm Ps
set_option linter.unusedVariables false
set_option linter.unusedSimpArgs false
theorem ti_at {w : World} {A : Option Addr} {n : Nat} {xs : List Ti} (h : Kd.C k33 w A n xs) (k : Nat) (hk : k < n) : ∃ b o, A = some ⟨b, o, none⟩ ∧ w.cell? ⟨b, o + k * 2, none⟩ = some (.int .u64 (rd_T33 xs (k : Int)).f0) ∧ w.cell? ⟨b, o + k * 2 + 1, none⟩ = some (.int .u64 (rd_T33 xs (k : Int)).f1) := by
  obtain ⟨ad, hA, y0, _⟩ := at_T33 h 0 (by omega) (by omega)
  obtain ⟨b, o, sp⟩ := ad
  obtain rfl : sp = none := Go.Proofs.cell_spot y0
  obtain ⟨ad, hA', a, b'⟩ := at_T33 h (k : Int) (by omega) (by omega)
  rw [hA] at hA'
  cases hA'
  rw [Int.toNat_natCast, Addr.add_lit] at a b'
  exact ⟨b, o, hA, a, b'⟩
/-- The order of all spans. -/
def ltSp (a b : Sp) : Prop := ltTi a.f0 b.f0 ∨ (a.f0 = b.f0 ∧ a.f1 < b.f1)
theorem ltTi_irrefl (a : Ti) : ¬ ltTi a a := by unfold ltTi; omega
theorem ltSp_ne {a b : Sp} (h : ltSp a b) : a ≠ b := by
  rintro rfl
  rcases h with h | h
  · exact ltTi_irrefl _ h
  · omega
/-- xs: the spans of L, rising, of these traces. -/
structure Upto (L : List Sp) (ts : List Ti) (xs : List Sp) : Prop where
  pw : xs.Pairwise ltSp
  mem : ∀ x, x ∈ xs ↔ x ∈ L ∧ x.f0 ∈ ts
theorem Upto.nodup {L : List Sp} {ts : List Ti} {xs : List Sp} (h : Upto L ts xs) : xs.Nodup := h.pw.imp ltSp_ne
theorem Upto.len {L : List Sp} {ts : List Ti} {xs : List Sp} (h : Upto L ts xs) : xs.length ≤ L.length := List.Nodup.length_le_of_subset h.nodup (fun x hx => ((h.mem x).1 hx).1)
theorem Upto.step {L : List Sp} {ts : List Ti} {t : Ti} {xs zs : List Sp} (h : Upto L ts xs) (hn : (L.map nmS).Nodup) (ht : ∀ u ∈ ts, ltTi u t) (hp : zs.Perm (L.filter (fun x => decide (tr x = (t.f0, t.f1))))) (hs : zs.Pairwise (fun a b => ¬ b.f1 < a.f1)) : Upto L (ts ++ [t]) (xs ++ zs) := by
  have hm : ∀ x, x ∈ zs ↔ x ∈ L ∧ x.f0 = t := by
    intro x
    rw [hp.mem_iff, List.mem_filter, decide_eq_true_eq]
    refine and_congr_right (fun _ => ⟨fun e => ?_, fun e => by rw [← e]; rfl⟩)
    have e1 := congrArg Prod.fst e
    have e2 := congrArg Prod.snd e
    obtain ⟨a, b⟩ := t
    obtain ⟨⟨c, d⟩⟩ := x
    simp only [tr] at e1 e2
    rw [e1, e2]
  have hnz : (zs.map nmS).Nodup := by
    have h1 : ((L.filter (fun x => decide (tr x = (t.f0, t.f1)))).map nmS).Nodup := hn.sublist (List.filter_sublist.map _)
    exact (hp.map nmS).nodup_iff.2 h1
  refine ⟨List.pairwise_append.2 ⟨h.pw, ?_, ?_⟩, fun x => ?_⟩
  · refine List.Pairwise.imp_of_mem (fun {a b} ha hb hh => ?_) (List.Pairwise.and hs (List.pairwise_map.1 hnz))
    have e1 := ((hm a).1 ha).2
    have e2 := ((hm b).1 hb).2
    refine .inr ⟨e1.trans e2.symm, ?_⟩
    have h3 : a.f1 ≠ b.f1 := fun e => hh.2 (by
      unfold nmS tr
      rw [e1, e2, e])
    have := hh.1
    omega
  · intro a ha b hb
    have e1 := ((h.mem a).1 ha).2
    have e2 := ((hm b).1 hb).2
    exact .inl (by rw [e2]; exact ht _ e1)
  · rw [List.mem_append, h.mem, hm, List.mem_append, List.mem_singleton]
    constructor
    · rintro (⟨a, b⟩ | ⟨a, b⟩)
      · exact ⟨a, .inl b⟩
      · exact ⟨a, .inr b⟩
    · rintro ⟨a, b | b⟩
      · exact .inl ⟨a, b⟩
      · exact .inr ⟨a, b⟩
theorem Upto.done {L : List Sp} {ts : List Ti} {xs : List Sp} (h : Upto L ts xs) (hn : (L.map nmS).Nodup) (ha : ∀ t, t ∈ ts ↔ ∃ x ∈ L, x.f0 = t) : xs.Perm L :=
  (List.perm_ext_iff_of_nodup h.nodup ((List.pairwise_map.1 hn).imp (fun {a b} hne e => hne (by rw [e])))).2 (fun x => (h.mem x).trans ⟨fun q => q.1, fun q => ⟨q, (ha _).2 ⟨x, q, rfl⟩⟩⟩)
/-- What all tells. -/
def AllPost (w : World) (L : List Sp) (e : Ending) (w' : World) : Prop :=
  ∃ v ys, e = .returned v ∧ ys.Perm L ∧ ys.Pairwise ltSp ∧ OwnS w' w.heap.size v ys ∧ Below w.heap.size w w'
theorem row_of_own {w : World} {base : Nat} {v : Value} {xs : List Sp} (h : OwnS w base v xs) : ∃ A c, v = .slice A xs.length c ∧ ReadsRow (fun x cs => kSq.M w base (fun k => some k ≠ v.ownBlock) x cs) 13 w A xs.length xs := by
  obtain ⟨_, inner, ho, hr⟩ := h
  obtain ⟨A, c, hv, hR⟩ := own_reads_row ho (hr.imp_ (fun x cs hM => kSq.M_mono (fun k hk => hk.2) hM)) rfl
  exact ⟨A, c, hv, hR⟩
set_option maxHeartbeats 4000000 in
set_option maxRecDepth 100000 in
theorem all_run (w : World) (base s : Nat) (F : Nat → Prop) (L : List Sp) (B : StoreAt w base s F L) :
    Calls Tryz.prog 49 #[.pointer (some ⟨s, 0, none⟩)] w (AllPost w L) := by
  have HB := Lib.hid B
  obtain ⟨tb, T, I, B'⟩ := B
  have HN := Lib.hid B'.nodup
  have HS := Lib.hid B'.small
  have HOK := Lib.hid (show ∀ x ∈ L, wfI x.f0.f0 ∧ wfI x.f0.f1 from fun x hx => by
    obtain ⟨b, v, h1, h2⟩ := B'.found x hx
    obtain ⟨_, _, _, h3⟩ := B'.spans _ h1 _ h2
    exact ⟨h3.2.2.2.1, h3.2.2.2.2.1⟩)
  clear B'
  have HT := Lib.hid (traces_run w base s F L HB.out)
  go_enter Tryz.func49, Tryz.ntmps49
  go_wp2_with fail
  refine HT.out.mono ?_
  rintro e w1 ⟨vt, ts, rfl, t1, t2, t3, t4, t5⟩
  obtain ⟨A, c, rfl, hc, hC⟩ := Kd.R_reads t4
  have HB1 := Lib.hid (HB.out.below t5)
  have HW1 := Lib.hid t5
  have HC := Lib.hid hC
  have HP := Lib.hid t1
  have HM := Lib.hid t2
  have HL := Lib.hid t3
  clear t1 t2 t3 t4 t5 hC HB HT
  have hlt : ts.length ≤ 100000 := Nat.le_trans HL.out HS.out
  go_wp2_with fail
  go_loopw [3, 9] (fun v3 v9 wr => ∃ (v : Value) (k : Nat) (xs : List Sp), v3 = v ∧ v9 = .int .i64 k ∧ k ≤ ts.length ∧ Hid (OwnS wr w1.heap.size v xs) ∧ Hid (Upto L (ts.take k) xs) ∧ Hid (Below w1.heap.size w1 wr)) (fun _ v9 _ => ts.length - (intOf v9).toNat)
  case atStart => exact ⟨_, 0, [], rfl, rfl, Nat.zero_le _, Lib.hid (Kd.R_nil _ _ _ _ _), Lib.hid ⟨.nil, by simp⟩, Lib.hid (Below.refl _ _)⟩
  case round =>
    obtain ⟨v, k, xs, hv, rfl, hk, HO, HU, HX⟩ := hrel
    have hv2 := hv.symm
    clear hv
    subst hv2
    by_cases hkl : k < ts.length
    · have hki : (k : Int) < (ts.length : Int) := by omega
      obtain ⟨ab, ao, rfl, e0, e1⟩ := ti_at (Kd.C_below HC.out HX.out) k hkl
      have HTS := Lib.hid (show ts.take (k + 1) = ts.take k ++ [rd_T33 ts (k : Int)] by
        rw [List.take_add_one, List.getElem?_eq_getElem hkl]
        simp [rd_T33, List.getD, hkl])
      have HMT := Lib.hid (show rd_T33 ts (k : Int) ∈ ts by
        have : rd_T33 ts (k : Int) = ts[k] := by simp [rd_T33, List.getD, hkl]
        rw [this]; exact List.getElem_mem _)
      have HLT := Lib.hid (show ∀ u ∈ ts.take k, ltTi u (rd_T33 ts (k : Int)) by
        have h1 : (ts.take (k + 1)).Pairwise ltTi := HP.out.sublist (List.take_sublist _ _)
        rw [HTS.out] at h1
        exact fun u hu => (List.pairwise_append.1 h1).2.2 u hu _ (List.mem_singleton_self _))
      generalize rd_T33 ts (k : Int) = t at *
      obtain ⟨hi, lo⟩ := t
      have HWF := Lib.hid (show wfI hi ∧ wfI lo by
        obtain ⟨x, hx, e⟩ := (HM.out _).1 HMT.out
        have := HOK.out x hx
        rw [e] at this
        exact this)
      go_wp2_with fail
      have hal := below_alloc (Below.refl wr.heap.size wr) (.cells #[.int .u64 hi, .int .u64 lo] 33)
      generalize wr.alloc (.cells #[.int .u64 hi, .int .u64 lo] 33) = w5 at *
      have HX5 := Lib.hid (HX.out.trans (hal.mono HX.out.size))
      have HO5 := Lib.hid (Kd.R_below HO.out hal : OwnS w5 w1.heap.size v xs)
      clear hal HO e0 e1
      refine (trace_run sort_spans w5 base s F L (HB1.out.below HX5.out) hi lo HWF.out.1 HWF.out.2).mono ?_
      rintro e w6 ⟨vz, zs, rfl, z1, z2, z3, z4⟩
      have HU6 := Lib.hid (HU.out.step HN.out HLT.out z1 z2)
      rw [← HTS.out] at HU6
      have HLN := Lib.hid HU6.out.len
      have HX6 := Lib.hid (HX5.out.trans (z4.mono HX5.out.size))
      have HO6 := Lib.hid (Kd.R_below HO5.out z4 : OwnS w6 w1.heap.size v xs)
      obtain ⟨Z, cz, rfl, hrz⟩ := row_of_own z3
      have HRZ := Lib.hid hrz
      have HKM := Lib.hid (show ∀ x cs, kSq.M w6 w5.heap.size (fun k => some k ≠ (Value.slice Z zs.length cz).ownBlock) x cs → kSq.M w6 w1.heap.size (fun k => some k ≠ v.ownBlock) x cs from fun x cs hM => by
        refine kSq.M_lower HX5.out.size (kSq.M_mono (fun k hk e => ?_) (kSq.M_bound hM))
        have h1 := Kd.R_lt HO5.out k e.symm
        have h2 := hk.2.1
        omega)
      clear z1 z2 z3 z4 hrz HO5
      have hlx : xs.length + zs.length ≤ 100000 := by
        have h1 := HLN.out
        have h2 := HS.out
        rw [List.length_append] at h1
        omega
      go_wp2_with (at_builtin; go_loud (refine Kd.R_append_rows kSq (w0 := w1) w1.heap.size rfl _ _ 22 41 _ 168 rfl Tryz.underlying22 infoSp rfl (by decide) (by decide) v xs zs _ _ _ (fun _ => True) (fun k => some k ≠ v.ownBlock) rfl rfl HO6.out HRZ.out HKM.out (fun k h => ⟨trivial, h⟩) (fun _ _ => trivial) HX6.out HX6.out.size (by omega) ?_; intro v7 w7 ho hb7 hg7 hat))
      have HO7 := Lib.hid ho
      have HX7 := Lib.hid hb7
      clear ho hb7 hg7 hat
      go_wp2_with fail
      go_roundw
      case rel => exact ⟨v7, k + 1, _, rfl, by go_num, by omega, HO7, HU6, HX7⟩
      case measure => simp [intOf]; omega
    · obtain rfl : k = ts.length := by omega
      have HL2 := Lib.hid (show AllPost w L (.returned v) wr from by
        have hU := HU.out
        rw [List.take_length] at hU
        exact ⟨v, xs, rfl, hU.done HN.out HM.out, hU.pw, Kd.R_lower HO.out HW1.out.size, HW1.out.trans (HX.out.mono HW1.out.size)⟩)
      go_wp2_with fail
      go_ret
      exact HL2.out
end Go.Proofs.YthdkgilpnkabmaaGreatDoor.Pr
/- (*Store).Merge. -/
namespace Go.Proofs.YthdkgilpnkabmaaGreatDoor.Pr
open Go Go.RowKit Go.Proofs.YthdkgilpnkabmaaGreatDoorW.PrintWords Go.Proofs.YthdkgilpnkabmaaGreatDoorW.PrintMore
open Rm Ps
set_option linter.unusedVariables false
set_option linter.unusedSimpArgs false
/-- A row of the call's own stands, whatever becomes of what lies ahead of it. -/
theorem own_steady {F : Nat → Prop} {w : World} {b : Nat} {v : Value} {xs : List Sp} (h : OwnS w b v xs) (hF : ∀ k, F k → k < b) (hl : xs.length ≤ 140737488351232) : ∃ A c, v = .slice A xs.length c ∧ Steady F w A xs := by
  rcases Nat.eq_zero_or_pos xs.length with h0 | h0
  · obtain ⟨A, c, rfl, _⟩ := Kd.R_reads h
    exact ⟨A, c, rfl, hl, fun k hk => by omega⟩
  · obtain ⟨g, cap, rfl, hg, hgl, cells, hcl⟩ := Kd.R_form h h0
    refine ⟨_, cap, rfl, hl, fun k hk => ?_⟩
    obtain ⟨c, _, hM, hc, _⟩ := Kd.R_elem h z41 (k : Int) (by omega) (by omega)
    refine ⟨g, 0, c, rfl, fun w' hch => ⟨?_, fun i u hi => ?_⟩⟩
    · refine kSp_of_sq (w := w') (base := b) (ok := fun _ => True) (Kd.M_step (kSq.M_mono (ok' := fun k => b ≤ k) (fun j hj => hj.2.1) (kSq.M_bound hM)) (fun j hj hlt => hch.block j hlt (fun e => ?_)) |> fun q => kSq.M_mono (fun _ _ => trivial) q)
      have := hF j e
      omega
    · have h1 := hc i u hi
      rw [Int.toNat_natCast] at h1
      have h2 := hch.block g hgl (fun e => by have := hF g e; omega)
      rw [Nat.zero_add]
      rw [← h1]
      simp only [World.cell?, h2]
      rfl
theorem Checks.sub {w : World} {chk : Sp → Int} {l m : List Sp} (h : Checks w chk l) (hs : ∀ x ∈ m, x ∈ l) : Checks w chk m := fun x hx => h x (hs x hx)
theorem Checks.below {w w1 : World} {chk : Sp → Int} {l : List Sp} (h : Checks w chk l) (hb : Below w.heap.size w w1) : Checks w1 chk l := fun x hx cs W hW hK => h x hx cs W (hb.trans (hW.mono hb.size)) hK
theorem StoreAt.okS {w : World} {base s : Nat} {F : Nat → Prop} {L : List Sp} (B : StoreAt w base s F L) : ∀ x ∈ L, okSp x := fun x hx => by
  obtain ⟨tb, T, I, B⟩ := B
  obtain ⟨b, v, h1, h2⟩ := B.found x hx
  exact (B.spans _ h1 _ h2).2.2.2
def MergePost (w : World) (base s : Nat) (F : Nat → Prop) (chk : Sp → Int) (L M : List Sp) (e : Ending) (w' : World) : Prop :=
  ∃ ys, ys.Perm M ∧ ys.Pairwise ltSp ∧ e = .returned (.int .i64 (fitsF nmS chk L ys)) ∧
    ((fitsF nmS chk L ys ≠ 0 ∧ Below w.heap.size w w') ∨ (fitsF nmS chk L ys = 0 ∧ ∃ F', StoreAt w' base s F' (putAll nmS ordS L ys) ∧ Chg F w w' ∧ ∀ k, F' k → F k ∨ w.heap.size ≤ k))
set_option maxHeartbeats 4000000 in
set_option maxRecDepth 100000 in
theorem merge_run (w : World) (base s : Nat) (F : Nat → Prop) (L : List Sp) (B : StoreAt w base s F L) (hbase : base ≤ w.heap.size) (base' o : Nat) (G : Nat → Prop) (M : List Sp) (Bo : StoreAt w base' o G M) (chk : Sp → Int) (hC : Checks w chk M) :
    Calls Tryz.prog 27 #[.pointer (some ⟨s, 0, none⟩), .pointer (some ⟨o, 0, none⟩)] w (MergePost w base s F chk L M) := by
  have HB := Lib.hid B
  have HO := Lib.hid Bo
  have HC := Lib.hid hC
  have HF := Lib.hid (show ∀ k, F k → k < w.heap.size from fun k hk => (B.ours k hk).2.1)
  clear B Bo hC
  have HA := Lib.hid (all_run w base' o G M HO.out)
  go_enter Tryz.func27, Tryz.ntmps27
  go_wp2_with fail
  refine HA.out.mono ?_
  rintro e w1 ⟨v, ys, rfl, y1, y2, y3, y4⟩
  have hlen : ys.length ≤ 100000 := by
    rw [y1.length_eq]
    exact HO.out.small
  obtain ⟨A, c, rfl, hst⟩ := own_steady y3 HF.out (by omega)
  have HP := Lib.hid (puts_run w1 base s F L (HB.out.below y4) (Nat.le_trans hbase y4.size) A c ys hst (fun x hx => HO.out.okS x (y1.mem_iff.1 hx)) (by omega) chk ((HC.out.below y4).sub (fun x hx => y1.mem_iff.1 hx)))
  have HW := Lib.hid y4
  have HY := Lib.hid (And.intro y1 y2)
  clear y1 y2 y3 y4 hst HA
  go_wp2_with fail
  refine HP.out.mono ?_
  rintro e w2 hP
  obtain ⟨u, rfl, hL⟩ : ∃ u, e = .returned (.tuple #[u, .int .i64 (fitsF nmS chk L ys)]) ∧ ∀ e', e' = .returned (.int .i64 (fitsF nmS chk L ys)) → MergePost w base s F chk L M e' w2 := by
    rcases hP with ⟨h1, rfl, h3⟩ | ⟨h1, F', out, rfl, h3, h4, h5, h6, h7⟩
    · exact ⟨_, rfl, fun e' he => ⟨ys, HY.out.1, HY.out.2, he, .inl ⟨h1, HW.out.trans (h3.mono HW.out.size)⟩⟩⟩
    · refine ⟨_, by rw [h1], fun e' he => ⟨ys, HY.out.1, HY.out.2, he, .inr ⟨h1, F', h5, (Chg.of_below HW.out).trans h6 (fun _ _ h => h), fun k hk => ?_⟩⟩⟩
      rcases h7 k hk with h | h
      · exact .inl h
      · exact .inr (Nat.le_trans HW.out.size h)
  have HL := Lib.hid hL
  clear hP hL
  go_wp2_with fail
  go_ret
  exact HL.out _ rfl
end Go.Proofs.YthdkgilpnkabmaaGreatDoor.Pr
