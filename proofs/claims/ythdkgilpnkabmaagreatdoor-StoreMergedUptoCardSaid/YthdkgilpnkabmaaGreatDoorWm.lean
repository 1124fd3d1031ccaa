/- StoreMerged: the walk. -/
import Derived.Test.YthdkgilpnkabmaaGreatDoorBs
import Derived.Test.YthdkgilpnkabmaaGreatDoorMp
import Derived.Deep.Upon
namespace Go.Proofs.YthdkgilpnkabmaaGreatDoor.Pr
open Go Go.RowKit Go.Proofs.YthdkgilpnkabmaaGreatDoorW.PrintWords Go.Proofs.YthdkgilpnkabmaaGreatDoorW.PrintMore
open Rm Ps
set_option linter.unusedVariables false
set_option linter.unusedSimpArgs false
theorem reps_one {R : Sp → List Value → Prop} {ps : List Sp} {inner : List Value} (h : Reps R 13 ps inner) (hR : ∀ x cs, R x cs → ∀ u ∈ cs, u.oneCell' = true) : ∀ u ∈ inner, u.oneCell' = true := by
  intro u hu
  obtain ⟨j, hj, rfl⟩ := List.mem_iff_getElem.1 hu
  have hjl : j / 13 < ps.length := by
    have := h.1
    omega
  refine hR _ _ (h.2 (j / 13) _ (List.getElem?_eq_getElem hjl)) _ ?_
  refine List.mem_iff_getElem?.2 ⟨j % 13, ?_⟩
  rw [List.getElem?_take, if_pos (Nat.mod_lt _ (by decide)), List.getElem?_drop, show j / 13 * 13 + j % 13 = j by omega, List.getElem?_eq_getElem hj]
theorem append_row {W w0 : World} {base : Nat} {v : Value} {ps : List Sp} (ty : TypeId) (HO : OwnRow (kSp.K w0) 41 13 W base v ps) (A : Option Addr) (c : Nat) (l : List Sp) (hr : Kd.C kSp w0 A l.length l) (hW : Below w0.heap.size w0 W) (hbase : base ≤ W.heap.size) (hl : (ps.length + l.length) * 168 ≤ 140737488355328) :
    ∃ v' w', (Builtin.append_ #[22, 22] ty #[v, .slice A l.length c]).run Tryz.prog W = .ok v' w' ∧ OwnRow (kSp.K w0) 41 13 w' base v' (ps ++ l) ∧ W.grownBy w' v.ownBlock := by
  obtain ⟨i0, hi, hzz⟩ := Option.map_eq_some_iff.1 infoSp
  simp only [Prod.mk.injEq] at hzz
  obtain ⟨hz0, hz1, hz2⟩ := hzz
  rcases Nat.eq_zero_or_pos l.length with h0 | h0
  · obtain rfl := List.eq_nil_of_length_eq_zero h0
    obtain ⟨A', c', rfl, hle⟩ := HO.slice_
    refine ⟨_, W, run_append_nothing W _ _ ty _ i0 Tryz.underlying22 hi A' ps.length c' hle (.slice A ([] : List Sp).length c) ?_, by rw [List.append_nil]; exact HO, ⟨rfl, rfl, rfl, Nat.le_refl _, fun _ _ _ => rfl⟩⟩
    cases A with
    | none => exact Src.ofNil W Tryz.underlying22 c
    | some a => exact Src.ofSlice W Tryz.underlying22 a 0 c [] (by simp) (fun j u hu => by simp at hu) (fun u hu => by cases hu)
  · obtain ⟨ad, rfl, _⟩ := hr.2.2 h0
    obtain ⟨news, hn1, hn2⟩ := ReadsRow.inner_ hr
    obtain ⟨inner, ho, hR⟩ := HO
    obtain ⟨v', w', hrun, h2, h3, _, _⟩ := run_append_own_at (P := Tryz.prog) W base 22 ty 41 i0 _ 13 168 Tryz.underlying22 hi hz0 hz1 hz2 rfl (by decide) v ps.length inner ho ad l.length c news hn1.1 (fun j u hu => pw_cell_below hW (hn2 j u hu)) (reps_one hn1 (fun x cs h => kSp.K_one h)) (by simp only [maxLen]; omega) hl hbase
    exact ⟨v', w', hrun, ⟨inner ++ news, by rw [List.length_append]; exact h2, by
      refine ⟨by rw [List.length_append, hR.1, hn1.1, List.length_append, Nat.add_mul]; rfl, fun j p hj => ?_⟩
      rcases Nat.lt_or_ge j ps.length with hlt | hge
      · rw [List.getElem?_append_left hlt] at hj
        have := hR.1
        rw [List.drop_append_of_le_length (by omega), List.take_append_of_le_length (by rw [List.length_drop]; omega)]
        exact hR.2 j p hj
      · rw [List.getElem?_append_right hge] at hj
        have h1 := hR.1
        rw [List.drop_append, List.drop_of_length_le (by omega), List.nil_append, show j * 13 - inner.length = (j - ps.length) * 13 by omega]
        exact hn1.2 _ p hj⟩, h3⟩
section
variable {ops : Array Oper} {rest : List Oper} {o : Oper} {a : Act} {Q : Exit → Act → World → Prop}
theorem wp_append_row {W w0 : World} {base : Nat} {v : Value} {ps : List Sp} (hgd : o.guard = none) (s x : Operand) (ho : o.op = .call { callee := .builtin .append, args := #[s, x], argTypes := #[22, 22] })
    (A : Option Addr) (c : Nat) (l : List Sp) (hs : a.eval s = v) (hx : a.eval x = .slice A l.length c) (HO : OwnRow (kSp.K w0) 41 13 W base v ps) (hr : Kd.C kSp w0 A l.length l) (hW : Below w0.heap.size w0 W) (hbase : base ≤ W.heap.size) (hl : (ps.length + l.length) * 168 ≤ 140737488355328)
    (h : ∀ v' w', OwnRow (kSp.K w0) 41 13 w' base v' (ps ++ l) → W.grownBy w' v.ownBlock → wpList Tryz.prog ops Q rest (a.put o.dst v') w') : wpList Tryz.prog ops Q (o :: rest) a W := by
  refine wpList_plain hgd fun K hK => ?_
  obtain ⟨v', w', hr', h2, h3⟩ := append_row o.type HO A c l hr hW hbase hl
  unfold Oper.wp execOp
  simp only [ho, resolve, invoke, builtin, Sem.run_bind, Sem.run_pure, Result.andThen_ok, List.map_toArray, List.map_cons, List.map_nil, hs, hx, hr']
  exact hK _ _ (h v' w' h2 h3)
end
theorem orow_below {W w0 w' : World} {base : Nat} {v : Value} {ps : List Sp} (HO : OwnRow (kSp.K w0) 41 13 W base v ps) (hg : W.grownBy w' v.ownBlock) (hb : base ≤ W.heap.size) : Below base W w' := by
  obtain ⟨inner, ho, _⟩ := HO
  exact (Below.refl base W).grown hg hb (own_base ho)
theorem steady_orow {F : Nat → Prop} {w0 W : World} {base : Nat} {v : Value} {ps : List Sp} (HO : OwnRow (kSp.K w0) 41 13 W base v ps) (hW : Below w0.heap.size w0 W) (hF0 : ∀ k, F k → w0.heap.size ≤ k) (hFb : ∀ k, F k → k < base) (hl : ps.length ≤ 140737488351232) : ∃ A c, v = .slice A ps.length c ∧ Steady F W A ps := by
  rcases Nat.eq_zero_or_pos ps.length with h0 | h0
  · obtain ⟨A, c, rfl, _⟩ := HO.slice_
    exact ⟨A, c, rfl, hl, fun k hk => by omega⟩
  · obtain ⟨inner, ho, hR⟩ := HO
    obtain ⟨g, cap, rfl, hg, hgl⟩ := ho.form h0
    have hcell := ho.cells (g := g) rfl
    refine ⟨_, cap, rfl, hl, fun k hk => ⟨g, 0, (inner.drop (k * 13)).take 13, rfl, fun w' hc => ⟨?_, fun i u hi => ?_⟩⟩⟩
    · rw [rdS_at hk]
      exact kSp.K_below (hW.trans (hc.below hW.size (fun j _ h => hF0 j h))) (hR.2 k _ (List.getElem?_eq_getElem hk))
    · rw [List.getElem?_take] at hi
      split at hi
      · rw [List.getElem?_drop] at hi
        have h1 := hcell _ u hi
        rw [Addr.add_lit, ← Nat.add_assoc] at h1
        exact hc.cell h1 (fun e => by have := hFb g e; omega)
      · cases hi
/-- A new store beside another one. -/
theorem Two.new {w w' : World} {base a b : Nat} {FA FB : Nat → Prop} {LA : List Sp} (sa : StoreAt w base a FA LA) (hb : Below w.heap.size w w') (sb : StoreAt w' base b FB []) (hF : ∀ k, FB k → w.heap.size ≤ k) : Two w' base a FA LA b FB [] :=
  ⟨sa.below hb, sb, fun k ha hb' => by have := (sa.ours k ha).2.1; have := hF k hb'; omega⟩
/-- What Count says of a store behind a Put. -/
theorem cnt_ways (chk : Sp → Int) (l : List Sp) : (fitsF nmS chk [] l ≠ 0 ∧ after chk [] l = []) ∨ (fitsF nmS chk [] l = 0 ∧ after chk [] l = putAll nmS ordS [] l ∧ ((((putAll nmS ordS [] l).length : Nat) : Int) == 0) = (((l.length : Nat) : Int) == 0)) := by
  unfold after
  by_cases h : fitsF nmS chk [] l = 0
  · refine .inr ⟨h, if_pos h, ?_⟩
    cases l with
    | nil => rfl
    | cons x r =>
      have : x ∈ x :: r := List.mem_cons_self
      obtain ⟨z, hz, _⟩ := (dom_new (nm := nmS) cmp3_S (x :: r)).2 x this
      have hp := List.length_pos_of_mem hz
      rw [Bool.eq_iff_iff, beq_iff_eq, beq_iff_eq, List.length_cons]
      omega
  · exact .inl ⟨h, if_neg h⟩
set_option maxHeartbeats 16000000 in
set_option maxRecDepth 100000 in
theorem merged_run (w : World) (A B : Option Addr) (c d : Nat) (l m : List Sp) (hl : Kd.C kSp w A l.length l) (hm : Kd.C kSp w B m.length m) (ol : ∀ x ∈ l, okSp x) (om : ∀ x ∈ m, okSp x) (hln : l.length ≤ 1048576) (hmn : m.length ≤ 1048576) (chk : Sp → Int) (hCl : Checks w chk l) (hCm : Checks w chk m) :
    Calls Tryz.prog 6 #[.slice A l.length c, .slice B m.length d] w (BPost w true) := by
  have HL := Lib.hid hl
  have HM := Lib.hid hm
  have OL := Lib.hid ol
  have OM := Lib.hid om
  have CL := Lib.hid hCl
  have CM := Lib.hid hCm
  clear hl hm ol om hCl hCm
  go_enter Tryz.func6, Tryz.ntmps6
  go_wp2_with fail
  refine (alive_run w).mono ?_
  rintro e v0 ⟨rfl, hb0⟩
  have HW0 := Lib.hid hb0
  clear hb0
  go_wp2_with fail
  refine (new_run v0 w.heap.size HW0.out.size).mono ?_
  rintro e v1 ⟨sa, FA, rfl, hS, hb, hF⟩
  have HSa := Lib.hid hS
  have HW1 := Lib.hid (HW0.out.trans (hb.mono HW0.out.size))
  clear hS hb hF HW0
  go_wp2_with fail
  refine (new_run v1 w.heap.size HW1.out.size).mono ?_
  rintro e v2 ⟨sb, FB, rfl, hS, hb, hF⟩
  have HAB := Lib.hid (Two.new HSa.out hb hS hF)
  have HW2 := Lib.hid (HW1.out.trans (hb.mono HW1.out.size))
  clear hS hb hF HW1 HSa
  go_wp2_with fail
  refine (new_run v2 w.heap.size HW2.out.size).mono ?_
  rintro e v3 ⟨sc, FC, rfl, hS, hb, hF⟩
  have HAC := Lib.hid (Two.new HAB.out.sa hb hS hF)
  have HBC := Lib.hid (Two.new HAB.out.sb hb hS hF)
  have HAB3 := Lib.hid (HAB.out.below hb)
  have HW3 := Lib.hid (HW2.out.trans (hb.mono HW2.out.size))
  clear hS hb hF HW2 HAB
  go_wp2_with fail
  refine (new_run v3 w.heap.size HW3.out.size).mono ?_
  rintro e v4 ⟨sd, FD, rfl, hS, hb, hF⟩
  have H4 := Lib.hid (show Four v4 w.heap.size sa FA [] sb FB [] sc FC [] sd FD [] from ⟨HAB3.out.below hb, HAC.out.below hb, Two.new HAB3.out.sa hb hS hF, HBC.out.below hb, Two.new HAB3.out.sb hb hS hF, Two.new HAC.out.sb hb hS hF⟩)
  have HW4 := Lib.hid (HW3.out.trans (hb.mono HW3.out.size))
  clear hS hb hF HW3 HAB3 HAC HBC
  go_wp2_with fail
  refine (puts_run v4 w.heap.size sa FA [] H4.out.ab.sa HW4.out.size A c l (Steady.elder HL.out HW4.out (fun j hj => (H4.out.ab.sa.ours j hj).1) (by omega)) OL.out (by omega) chk (CL.out.below HW4.out)).mono ?_
  rintro e v5 hP
  obtain ⟨u5, FA5, he, hS, hC, hF, _⟩ := puts_any H4.out.ab.sa hP
  obtain ⟨re, hre⟩ : ∃ r, Hid (fitsF nmS chk [] l = r) := ⟨_, rfl⟩
  rw [hre.out] at he
  subst he
  have H5 := Lib.hid (H4.out.step hS hC hF)
  have HW5 := Lib.hid (H4.out.ab.sa.under HW4.out hC)
  clear hP hS hC hF H4 HW4
  go_wp2_with fail
  refine (puts_run v5 w.heap.size sb FB [] H5.out.ab.sb HW5.out.size B d m (Steady.elder HM.out HW5.out (fun j hj => (H5.out.ab.sb.ours j hj).1) (by omega)) OM.out (by omega) chk (CM.out.below HW5.out)).mono ?_
  rintro e v6 hP
  obtain ⟨u6, FB6, he, hS, hC, hF, _⟩ := puts_any H5.out.ab.sb hP
  obtain ⟨rf, hrf⟩ : ∃ r, Hid (fitsF nmS chk [] m = r) := ⟨_, rfl⟩
  rw [hrf.out] at he
  subst he
  have H6 := Lib.hid (H5.out.step_b hS hC hF)
  have HW6 := Lib.hid (H5.out.ab.sb.under HW5.out hC)
  clear hP hS hC hF H5 HW5
  go_wp2_with fail
  refine (puts_run v6 w.heap.size sc FC [] H6.out.ac.sb HW6.out.size B d m (Steady.elder HM.out HW6.out (fun j hj => (H6.out.ac.sb.ours j hj).1) (by omega)) OM.out (by omega) chk (CM.out.below HW6.out)).mono ?_
  rintro e v7 hP
  obtain ⟨u7, FC7, he, hS, hC, hF, _⟩ := puts_any H6.out.ac.sb hP
  rw [hrf.out] at he
  subst he
  have H7 := Lib.hid (H6.out.step_c hS hC hF)
  have HW7 := Lib.hid (H6.out.ac.sb.under HW6.out hC)
  clear hP hS hC hF H6 HW6
  have hff : (rf != rf) = false := by simp
  have hfe : (rf == rf) = true := by simp
  have HQA := Lib.hid (cnt_ways chk l)
  have HQB := Lib.hid (cnt_ways chk m)
  rw [hre.out] at HQA
  rw [hrf.out] at HQB
  generalize after chk [] l = LA at *
  generalize after chk [] m = LB at *
  by_cases hok : re = 0 ∧ rf = 0
  case neg =>
    have HOK := Lib.hid hok
    obtain ⟨ba, hba⟩ : ∃ b, ((l.length : Int) == 0) = b := ⟨_, rfl⟩
    obtain ⟨bb, hbb⟩ : ∃ b, ((m.length : Int) == 0) = b := ⟨_, rfl⟩
    have HX : Hid ((∃ x, (re != 0) = x ∧ (x = true ∨ x = false)) ∧ True) := Lib.hid ⟨⟨re != 0, rfl, by cases (re != 0) <;> simp⟩, trivial⟩
    have HQA2 : Hid (((re != 0) = true ∧ ((LA.length : Int) == 0) = true) ∨ ((re != 0) = false ∧ ((LA.length : Int) == 0) = ba)) := Lib.hid (by
      rcases HQA.out with ⟨h1, h2⟩ | ⟨h1, h2, h3⟩
      · exact .inl ⟨by rw [bne_iff_ne]; exact h1, by rw [h2]; rfl⟩
      · exact .inr ⟨by rw [h1]; rfl, by rw [h2, ← hba]; exact h3⟩)
    have HQB2 : Hid (((rf != 0) = true ∧ ((LB.length : Int) == 0) = true) ∨ ((rf != 0) = false ∧ ((LB.length : Int) == 0) = bb)) := Lib.hid (by
      rcases HQB.out with ⟨h1, h2⟩ | ⟨h1, h2, h3⟩
      · exact .inl ⟨by rw [bne_iff_ne]; exact h1, by rw [h2]; rfl⟩
      · exact .inr ⟨by rw [h1]; rfl, by rw [h2, ← hbb]; exact h3⟩)
    have HNE : Hid (¬ ((re != 0) = false ∧ (rf != 0) = false)) := Lib.hid (fun h => HOK.out ⟨by simpa using h.1, by simpa using h.2⟩)
    clear HQA HQB HX
    rcases HQA2.out with ⟨a1, a2⟩ | ⟨a1, a2⟩ <;> rcases HQB2.out with ⟨b1, b2⟩ | ⟨b1, b2⟩
    case inr.inr => exact absurd ⟨a1, b1⟩ HNE.out
    all_goals
      go_wp2_with fail
      refine (count_run v7 w.heap.size sa FA5 _ H7.out.ab.sa).mono ?_
      rintro e v8 ⟨rfl, hw⟩
      subst hw
      cases ba
      all_goals
        go_wp2_with fail
        refine (count_run v8 w.heap.size sb FB6 _ H7.out.ab.sb).mono ?_
        rintro e v9 ⟨rfl, hw⟩
        subst hw
        cases bb
        all_goals
          go_wp2_with fail
          go_ret
          exact ⟨rfl, HW7.out⟩
  obtain ⟨h1, h2⟩ := hok
  subst h1
  subst h2
  have HLA : Hid (LA = putAll nmS ordS [] l) := Lib.hid (by
    rcases HQA.out with ⟨h, _⟩ | ⟨_, h, _⟩
    · exact absurd rfl h
    · exact h)
  have HLB : Hid (LB = putAll nmS ordS [] m) := Lib.hid (by
    rcases HQB.out with ⟨h, _⟩ | ⟨_, h, _⟩
    · exact absurd rfl h
    · exact h)
  have PL1 : Hid (∀ ys zs, ys.Perm LB → zs.Perm LA → fitsF nmS chk LB zs = fitsF nmS chk LA ys) := Lib.hid (fun ys zs hy hz => by
    rw [HLB.out] at hy ⊢
    rw [HLA.out] at hz ⊢
    exact merged_no cmp3_S hre.out hrf.out hy hz)
  have PL2 : Hid (∀ ys, ys.Perm LB → fitsF nmS chk LA ys = 0 → (∀ zs, zs.Perm (putAll nmS ordS LA ys) → fitsF nmS chk LB zs = 0 ∧ (putAll nmS ordS LB zs).Perm (putAll nmS ordS LA ys)) ∧ fitsF nmS chk [] (l ++ m) = 0 ∧ (putAll nmS ordS [] (l ++ m)).Perm (putAll nmS ordS LA ys) ∧ ∀ x ∈ putAll nmS ordS LA ys, x ∈ l ∨ x ∈ m) := Lib.hid (fun ys hy hi => by
    rw [HLB.out] at hy ⊢
    rw [HLA.out] at hi ⊢
    obtain ⟨a1, a2⟩ := merged_put cmp3_S hre.out hrf.out hy hi
    exact ⟨fun zs hz => merged_ok cmp3_S hre.out hrf.out hy hi hz, a1, a2, (dom_both cmp3_S hy).1⟩)
  have CLA := Lib.hid (show Checks w chk LA from CL.out.sub (by rw [HLA.out]; exact (dom_new cmp3_S l).1))
  have CLB := Lib.hid (show Checks w chk LB from CM.out.sub (by rw [HLB.out]; exact (dom_new cmp3_S m).1))
  clear HQA HQB hff hfe HLA HLB hre hrf
  have h00 : ((0 : Int) != 0) = false := rfl
  have h01 : ((0 : Int) == 0) = true := rfl
  go_wp2_with fail
  refine (told_run v7 w.heap.size sa FA5 _ H7.out.ab.sa).mono ?_
  rintro e v8 ⟨vr, fs, rfl, r1, r2, r3, r4⟩
  have hlfs : fs.length ≤ 100000 := by rw [r1.length_eq]; exact (H7.out.ab.sa).small
  obtain ⟨Rfs, cfs, rfl, hst⟩ := own_steady (F := fun _ => False) r3 (fun _ h => h.elim) (by omega)
  have HSfs := Lib.hid hst
  have HPfs := Lib.hid (And.intro r1 r2)
  have HOfs := Lib.hid (show ∀ x ∈ fs, okSp x from fun x hx => (H7.out.ab.sa).okS x (r1.mem_iff.1 hx))
  have HBv8 := Lib.hid r4
  clear r1 r2 r3 r4 hst
  have H8 := Lib.hid (H7.out.below HBv8.out)
  have HW8 := Lib.hid (HW7.out.trans (HBv8.out.mono HW7.out.size))
  clear HBv8 H7 HW7
  go_wp2_with fail
  refine (told_run v8 w.heap.size sb FB6 _ H8.out.ab.sb).mono ?_
  rintro e v9 ⟨vr, ss, rfl, r1, r2, r3, r4⟩
  have hlss : ss.length ≤ 100000 := by rw [r1.length_eq]; exact (H8.out.ab.sb).small
  obtain ⟨Rss, css, rfl, hst⟩ := own_steady (F := FA5) r3 (fun k hk => (H8.out.ab.sa.ours k hk).2.1) (by omega)
  have HSss := Lib.hid hst
  have HPss := Lib.hid (And.intro r1 r2)
  have HOss := Lib.hid (show ∀ x ∈ ss, okSp x from fun x hx => (H8.out.ab.sb).okS x (r1.mem_iff.1 hx))
  have HBv9 := Lib.hid r4
  clear r1 r2 r3 r4 hst
  have HSf9 := Lib.hid (HSfs.out.chg (Chg.of_below HBv9.out) (fun _ _ h => h))
  have H9 := Lib.hid (H8.out.below HBv9.out)
  have HW9 := Lib.hid (HW8.out.trans (HBv9.out.mono HW8.out.size))
  clear HBv9 H8 HW8 HSfs
  go_wp2_with fail
  refine (merge_run v9 w.heap.size sa FA5 LA H9.out.ab.sa HW9.out.size w.heap.size sb FB6 LB H9.out.ab.sb chk (CLB.out.below HW9.out)).mono ?_
  rintro e v10 ⟨ys, y1, y2, rfl, hm⟩
  rcases hm with ⟨n1, n2⟩ | ⟨n1, FA10, s10, g10, f10⟩
  · obtain ⟨ri, hri⟩ : ∃ r, Hid (fitsF nmS chk LA ys = r) := ⟨_, rfl⟩
    rw [hri.out] at n1 ⊢
    have H10 := Lib.hid (H9.out.below n2)
    have HW10 := Lib.hid (HW9.out.trans (n2.mono HW9.out.size))
    have HSf10 := Lib.hid (HSf9.out.chg (Chg.of_below n2) (fun _ _ h => h))
    have HSs10 := Lib.hid (HSss.out.chg (Chg.of_below n2) (fun _ _ h => h))
    have HY := Lib.hid y1
    have HNE := Lib.hid n1
    have hr1 : (ri != 0) = true := by rw [bne_iff_ne]; exact n1
    have hr2 : (ri == ri) = true := by simp
    clear n1 n2 y1 y2 H9 HW9 HSf9 HSss
    go_wp2_with fail
    refine (told_run v10 w.heap.size sb FB6 _ H10.out.ab.sb).mono ?_
    rintro e v11 ⟨vr, ws, rfl, r1, r2, r3, r4⟩
    have hlws : ws.length ≤ 100000 := by rw [r1.length_eq]; exact (H10.out.ab.sb).small
    obtain ⟨Rws, cws, rfl, hst⟩ := own_steady (F := fun _ => False) r3 (fun _ h => h.elim) (by omega)
    have HSws := Lib.hid hst
    have HPws := Lib.hid (And.intro r1 r2)
    have HOws := Lib.hid (show ∀ x ∈ ws, okSp x from fun x hx => (H10.out.ab.sb).okS x (r1.mem_iff.1 hx))
    have HBv11 := Lib.hid r4
    clear r1 r2 r3 r4 hst
    have H11 := Lib.hid (H10.out.below HBv11.out)
    have HW11 := Lib.hid (HW10.out.trans (HBv11.out.mono HW10.out.size))
    have HSf11 := Lib.hid (HSf10.out.chg (Chg.of_below HBv11.out) (fun _ _ h => h))
    have HSs11 := Lib.hid (HSs10.out.chg (Chg.of_below HBv11.out) (fun _ _ h => h))
    clear H10 HW10 HSf10 HSs10 HBv11
    have HEQ := Lib.hid (show ws = ss from rising_one HPws.out.2 HPss.out.2 (HPws.out.1.trans HPss.out.1.symm))
    have HR1 := Lib.hid (HSws.out.reads (Chg.refl _ _))
    have HR2 := Lib.hid (HSs11.out.reads (Chg.refl _ _))
    go_wp2_with fail
    refine (same_run v11 Rws Rss cws css ws ss HR1.out HR2.out HOws.out HOss.out (by omega) (by omega)).mono ?_
    rintro e v12 ⟨rfl, h12⟩
    rw [HEQ.out, sameF_refl]
    have H12 := Lib.hid (H11.out.below h12)
    have HW12 := Lib.hid (HW11.out.trans (h12.mono HW11.out.size))
    have HSf12 := Lib.hid (HSf11.out.chg (Chg.of_below h12) (fun _ _ h => h))
    have HSs12 := Lib.hid (HSs11.out.chg (Chg.of_below h12) (fun _ _ h => h))
    clear h12 HR1 HR2 H11 HW11 HSf11 HSs11 HSws
    go_wp2_with fail
    refine (merge_run v12 w.heap.size sb FB6 LB H12.out.ab.sb HW12.out.size w.heap.size sa FA5 LA H12.out.ab.sa chk (CLA.out.below HW12.out)).mono ?_
    rintro e v13 ⟨zs, z1, z2, rfl, hm⟩
    have hz := (PL1.out ys zs HY.out z1).trans hri.out
    rw [hz] at hm ⊢
    obtain ⟨_, hb⟩ | ⟨h0, _⟩ := hm
    case inr => exact absurd h0 HNE.out
    have H13 := Lib.hid (H12.out.below hb)
    have HW13 := Lib.hid (HW12.out.trans (hb.mono HW12.out.size))
    have HSf13 := Lib.hid (HSf12.out.chg (Chg.of_below hb) (fun _ _ h => h))
    have HSs13 := Lib.hid (HSs12.out.chg (Chg.of_below hb) (fun _ _ h => h))
    clear hb z1 z2 hz H12 HW12 HSf12 HSs12
    go_wp2_with fail
    refine (told_run v13 w.heap.size sa FA5 _ H13.out.ab.sa).mono ?_
    rintro e v14 ⟨vr, gs, rfl, r1, r2, r3, r4⟩
    have hlgs : gs.length ≤ 100000 := by rw [r1.length_eq]; exact (H13.out.ab.sa).small
    obtain ⟨Rgs, cgs, rfl, hst⟩ := own_steady (F := fun _ => False) r3 (fun _ h => h.elim) (by omega)
    have HSgs := Lib.hid hst
    have HPgs := Lib.hid (And.intro r1 r2)
    have HOgs := Lib.hid (show ∀ x ∈ gs, okSp x from fun x hx => (H13.out.ab.sa).okS x (r1.mem_iff.1 hx))
    have HBv14 := Lib.hid r4
    clear r1 r2 r3 r4 hst
    have H14 := Lib.hid (H13.out.below HBv14.out)
    have HW14 := Lib.hid (HW13.out.trans (HBv14.out.mono HW13.out.size))
    have HSf14 := Lib.hid (HSf13.out.chg (Chg.of_below HBv14.out) (fun _ _ h => h))
    have HSs14 := Lib.hid (HSs13.out.chg (Chg.of_below HBv14.out) (fun _ _ h => h))
    clear H13 HW13 HSf13 HSs13 HBv14
    have HEQ2 := Lib.hid (show gs = fs from rising_one HPgs.out.2 HPfs.out.2 (HPgs.out.1.trans HPfs.out.1.symm))
    have HR1 := Lib.hid (HSgs.out.reads (Chg.refl _ _))
    have HR2 := Lib.hid (HSf14.out.reads (Chg.refl _ _))
    go_wp2_with fail
    refine (same_run v14 Rgs Rfs cgs cfs gs fs HR1.out HR2.out HOgs.out HOfs.out (by omega) (by omega)).mono ?_
    rintro e v15 ⟨rfl, h12⟩
    rw [HEQ2.out, sameF_refl]
    have H15 := Lib.hid (H14.out.below h12)
    have HW15 := Lib.hid (HW14.out.trans (h12.mono HW14.out.size))
    have HSs15 := Lib.hid (HSs14.out.chg (Chg.of_below h12) (fun _ _ h => h))
    clear h12 HR1 HR2 H14 HW14 HSf14 HSs14 HSgs
    go_wp2_with fail
    refine (told_run v15 w.heap.size sb FB6 _ H15.out.ab.sb).mono ?_
    rintro e v16 ⟨vr, hs, rfl, r1, r2, r3, r4⟩
    have hlhs : hs.length ≤ 100000 := by rw [r1.length_eq]; exact (H15.out.ab.sb).small
    obtain ⟨Rhs, chs, rfl, hst⟩ := own_steady (F := fun _ => False) r3 (fun _ h => h.elim) (by omega)
    have HShs := Lib.hid hst
    have HPhs := Lib.hid (And.intro r1 r2)
    have HOhs := Lib.hid (show ∀ x ∈ hs, okSp x from fun x hx => (H15.out.ab.sb).okS x (r1.mem_iff.1 hx))
    have HBv16 := Lib.hid r4
    clear r1 r2 r3 r4 hst
    have HW16 := Lib.hid (HW15.out.trans (HBv16.out.mono HW15.out.size))
    have HSs16 := Lib.hid (HSs15.out.chg (Chg.of_below HBv16.out) (fun _ _ h => h))
    clear H15 HW15 HSs15 HBv16
    have HEQ3 := Lib.hid (show hs = ss from rising_one HPhs.out.2 HPss.out.2 (HPhs.out.1.trans HPss.out.1.symm))
    have HR1 := Lib.hid (HShs.out.reads (Chg.refl _ _))
    have HR2 := Lib.hid (HSs16.out.reads (Chg.refl _ _))
    go_wp2_with fail
    refine (same_run v16 Rhs Rss chs css hs ss HR1.out HR2.out HOhs.out HOss.out (by omega) (by omega)).mono ?_
    rintro e v17 ⟨rfl, h12⟩
    rw [HEQ3.out, sameF_refl]
    have HW17 := Lib.hid (HW16.out.trans (h12.mono HW16.out.size))
    clear h12 HR1 HR2 HW16 HSs16 HShs
    go_wp2_with fail
    go_ret
    exact ⟨rfl, HW17.out⟩
  · have HPL := Lib.hid (PL2.out ys y1 n1)
    have H10 := Lib.hid (H9.out.step s10 g10 f10)
    have HW10 := Lib.hid (H9.out.ab.sa.under HW9.out g10)
    have HRs := Lib.hid (HSss.out.reads g10)
    rw [n1]
    generalize putAll nmS ordS LA ys = U at *
    have CLU := Lib.hid (show Checks w chk U from fun x hx => (HPL.out.2.2.2 x hx).elim (fun h => CL.out x h) (fun h => CM.out x h))
    clear n1 s10 g10 f10 y1 y2 H9 HW9 HSf9 HSss PL1 PL2 HOfs HPfs
    go_wp2_with fail
    refine (told_run v10 w.heap.size sb FB6 _ H10.out.ab.sb).mono ?_
    rintro e v11 ⟨vr, ws, rfl, r1, r2, r3, r4⟩
    have hlws : ws.length ≤ 100000 := by rw [r1.length_eq]; exact (H10.out.ab.sb).small
    obtain ⟨Rws, cws, rfl, hst⟩ := own_steady (F := fun _ => False) r3 (fun _ h => h.elim) (by omega)
    have HSws := Lib.hid hst
    have HPws := Lib.hid (And.intro r1 r2)
    have HOws := Lib.hid (show ∀ x ∈ ws, okSp x from fun x hx => (H10.out.ab.sb).okS x (r1.mem_iff.1 hx))
    have HBv11 := Lib.hid r4
    clear r1 r2 r3 r4 hst
    have H11 := Lib.hid (H10.out.below HBv11.out)
    have HW11 := Lib.hid (HW10.out.trans (HBv11.out.mono HW10.out.size))
    have HEQ := Lib.hid (show ws = ss from rising_one HPws.out.2 HPss.out.2 (HPws.out.1.trans HPss.out.1.symm))
    have HR1 := Lib.hid (HSws.out.reads (Chg.refl _ _))
    have HR2 := Lib.hid (Kd.C_below HRs.out HBv11.out)
    clear H10 HW10 HBv11 HRs
    go_wp2_with fail
    refine (same_run v11 Rws Rss cws css ws ss HR1.out HR2.out HOws.out HOss.out (by omega) (by omega)).mono ?_
    rintro e v12 ⟨rfl, h12⟩
    rw [HEQ.out, sameF_refl]
    have H12 := Lib.hid (H11.out.below h12)
    have HW12 := Lib.hid (HW11.out.trans (h12.mono HW11.out.size))
    clear h12 HR1 HR2 H11 HW11 HSws HOss HPss HOws HPws HEQ
    go_wp2_with fail
    refine (merge_run v12 w.heap.size sb FB6 LB H12.out.ab.sb HW12.out.size w.heap.size sa FA10 U H12.out.ab.sa chk (CLU.out.below HW12.out)).mono ?_
    rintro e v13 ⟨zs, z1, z2, rfl, hm⟩
    obtain ⟨hz1, hz2⟩ := HPL.out.1 zs z1
    rw [hz1] at hm ⊢
    obtain ⟨h0, _⟩ | ⟨_, FB13, s13, g13, f13⟩ := hm
    · exact absurd rfl h0
    have H13 := Lib.hid (H12.out.step_b s13 g13 f13)
    have HW13 := Lib.hid (H12.out.ab.sb.under HW12.out g13)
    generalize putAll nmS ordS LB zs = U2 at *
    have HU2 := Lib.hid hz2
    clear hz1 hz2 z1 z2 s13 g13 f13 H12 HW12
    have HO0 := Lib.hid (show OwnRow (kSp.K w) 41 13 v13 v13.heap.size (.slice none 0 0) [] from ⟨[], World.ownsRow_nil _ _ _ _, Reps.none _ _⟩)
    have HV0 := Lib.hid (Below.refl v13.heap.size v13)
    go_wp2_with (at_builtin; first | (refine wp_append_row (w0 := w) (base := v13.heap.size) (v := .slice none 0 0) (ps := []) rfl _ _ rfl A c l rfl rfl HO0.out HL.out HW13.out HV0.out.size (by simp only [List.length_nil]; omega) ?_; intro va wa ho hg; have HBa := Lib.hid (orow_below HO0.out hg (Nat.le_refl _)); have HOa := Lib.hid ho; clear ho hg) | (refine wp_append_row (w0 := w) (base := v13.heap.size) (v := va) (ps := [] ++ l) rfl _ _ rfl B d m rfl rfl HOa.out HM.out (HW13.out.trans (HBa.out.mono HW13.out.size)) HBa.out.size (by simp only [List.nil_append]; omega) ?_; intro vb wb ho hg; have HBb := Lib.hid (HBa.out.trans (orow_below HOa.out hg HBa.out.size)); have HOb := Lib.hid ho; clear ho hg))
    rw [List.nil_append] at HOb
    have HWb := Lib.hid (HW13.out.trans (HBb.out.mono HW13.out.size))
    obtain ⟨Al, cl, rfl, hst⟩ := steady_orow (F := FD) HOb.out HWb.out (fun k hk => (H13.out.cd.sb.ours k hk).1) (fun k hk => (H13.out.cd.sb.ours k hk).2.1) (by rw [List.length_append]; omega)
    have Hb := Lib.hid (H13.out.below HBb.out)
    refine (puts_run wb w.heap.size sd FD [] Hb.out.cd.sb HWb.out.size Al cl (l ++ m) hst (fun x hx => (List.mem_append.1 hx).elim (fun h => OL.out x h) (fun h => OM.out x h)) (by rw [List.length_append]; omega) chk (fun x hx cs W hW hK => (List.mem_append.1 hx).elim (fun h => (CL.out.below HWb.out) x h cs W hW hK) (fun h => (CM.out.below HWb.out) x h cs W hW hK))).mono ?_
    rintro e v14 hP
    obtain ⟨u14, FD14, he, hS, hC, hF, _⟩ := puts_any Hb.out.cd.sb hP
    rw [HPL.out.2.1] at he
    subst he
    unfold after at hS
    rw [if_pos HPL.out.2.1] at hS
    have H14 := Lib.hid (Hb.out.step_d hS hC hF)
    have HW14 := Lib.hid (Hb.out.cd.sb.under HWb.out hC)
    have HD := Lib.hid HPL.out.2.2.1
    generalize putAll nmS ordS [] (l ++ m) = D at *
    have CLD := Lib.hid (show Checks w chk D from fun x hx => CLU.out x (HD.out.mem_iff.1 hx))
    clear hP hS hC hF hst Hb HWb HOb HBb HOa HBa HO0 HV0 H13 HW13
    go_wp2_with fail
    refine (merge_run v14 w.heap.size sc FC7 LB H14.out.cd.sa HW14.out.size w.heap.size sd FD14 D H14.out.cd.sb chk (CLD.out.below HW14.out)).mono ?_
    rintro e v15 ⟨qs, z1, z2, rfl, hm⟩
    obtain ⟨hz1, hz2⟩ := HPL.out.1 qs (z1.trans HD.out)
    rw [hz1] at hm ⊢
    obtain ⟨h0, _⟩ | ⟨_, FC15, s15, g15, f15⟩ := hm
    · exact absurd rfl h0
    have H15 := Lib.hid (H14.out.step_c s15 g15 f15)
    have HW15 := Lib.hid (H14.out.cd.sa.under HW14.out g15)
    generalize putAll nmS ordS LB qs = U3 at *
    have HU3 := Lib.hid hz2
    clear hz1 hz2 z1 z2 s15 g15 f15 H14 HW14
    go_wp2_with fail
    refine (told_run v15 w.heap.size sa FA10 _ H15.out.ab.sa).mono ?_
    rintro e v16 ⟨vr, gs, rfl, r1, r2, r3, r4⟩
    have hlgs : gs.length ≤ 100000 := by rw [r1.length_eq]; exact (H15.out.ab.sa).small
    obtain ⟨Rgs, cgs, rfl, hst⟩ := own_steady (F := fun _ => False) r3 (fun _ h => h.elim) (by omega)
    have HSgs := Lib.hid hst
    have HPgs := Lib.hid (And.intro r1 r2)
    have HOgs := Lib.hid (show ∀ x ∈ gs, okSp x from fun x hx => (H15.out.ab.sa).okS x (r1.mem_iff.1 hx))
    have HBv16 := Lib.hid r4
    clear r1 r2 r3 r4 hst
    have H16 := Lib.hid (H15.out.below HBv16.out)
    have HW16 := Lib.hid (HW15.out.trans (HBv16.out.mono HW15.out.size))
    clear H15 HW15 HBv16
    go_wp2_with fail
    refine (told_run v16 w.heap.size sb FB13 _ H16.out.ab.sb).mono ?_
    rintro e v17 ⟨vr, bs, rfl, r1, r2, r3, r4⟩
    have hlbs : bs.length ≤ 100000 := by rw [r1.length_eq]; exact (H16.out.ab.sb).small
    obtain ⟨Rbs, cbs, rfl, hst⟩ := own_steady (F := fun _ => False) r3 (fun _ h => h.elim) (by omega)
    have HSbs := Lib.hid hst
    have HPbs := Lib.hid (And.intro r1 r2)
    have HObs := Lib.hid (show ∀ x ∈ bs, okSp x from fun x hx => (H16.out.ab.sb).okS x (r1.mem_iff.1 hx))
    have HBv17 := Lib.hid r4
    clear r1 r2 r3 r4 hst
    have H17 := Lib.hid (H16.out.below HBv17.out)
    have HW17 := Lib.hid (HW16.out.trans (HBv17.out.mono HW16.out.size))
    have HSg17 := Lib.hid (HSgs.out.chg (Chg.of_below HBv17.out) (fun _ _ h => h))
    have HEQbs := Lib.hid (show bs = gs from rising_one HPbs.out.2 HPgs.out.2 (HPbs.out.1.trans (HU2.out.trans HPgs.out.1.symm)))
    have HR1 := Lib.hid (HSg17.out.reads (Chg.refl _ _))
    have HR2 := Lib.hid (HSbs.out.reads (Chg.refl _ _))
    clear H16 HW16 HSgs HBv17
    go_wp2_with fail
    refine (same_run v17 Rgs Rbs cgs cbs gs bs HR1.out HR2.out HOgs.out HObs.out (by omega) (by omega)).mono ?_
    rintro e v18 ⟨rfl, h12⟩
    rw [HEQbs.out, sameF_refl]
    have H18 := Lib.hid (H17.out.below h12)
    have HW18 := Lib.hid (HW17.out.trans (h12.mono HW17.out.size))
    have HSg18 := Lib.hid (HSg17.out.chg (Chg.of_below h12) (fun _ _ h => h))
    clear h12 HR1 HR2 H17 HW17 HSg17 HSbs
    go_wp2_with fail
    refine (told_run v18 w.heap.size sc FC15 _ H18.out.ac.sb).mono ?_
    rintro e v19 ⟨vr, ks, rfl, r1, r2, r3, r4⟩
    have hlks : ks.length ≤ 100000 := by rw [r1.length_eq]; exact (H18.out.ac.sb).small
    obtain ⟨Rks, cks, rfl, hst⟩ := own_steady (F := fun _ => False) r3 (fun _ h => h.elim) (by omega)
    have HSks := Lib.hid hst
    have HPks := Lib.hid (And.intro r1 r2)
    have HOks := Lib.hid (show ∀ x ∈ ks, okSp x from fun x hx => (H18.out.ac.sb).okS x (r1.mem_iff.1 hx))
    have HBv19 := Lib.hid r4
    clear r1 r2 r3 r4 hst
    have H19 := Lib.hid (H18.out.below HBv19.out)
    have HW19 := Lib.hid (HW18.out.trans (HBv19.out.mono HW18.out.size))
    have HSg19 := Lib.hid (HSg18.out.chg (Chg.of_below HBv19.out) (fun _ _ h => h))
    have HEQks := Lib.hid (show ks = gs from rising_one HPks.out.2 HPgs.out.2 (HPks.out.1.trans (HU3.out.trans HPgs.out.1.symm)))
    have HR1 := Lib.hid (HSg19.out.reads (Chg.refl _ _))
    have HR2 := Lib.hid (HSks.out.reads (Chg.refl _ _))
    clear H18 HW18 HSg18 HBv19
    go_wp2_with fail
    refine (same_run v19 Rgs Rks cgs cks gs ks HR1.out HR2.out HOgs.out HOks.out (by omega) (by omega)).mono ?_
    rintro e v20 ⟨rfl, h12⟩
    rw [HEQks.out, sameF_refl]
    have H20 := Lib.hid (H19.out.below h12)
    have HW20 := Lib.hid (HW19.out.trans (h12.mono HW19.out.size))
    have HSg20 := Lib.hid (HSg19.out.chg (Chg.of_below h12) (fun _ _ h => h))
    clear h12 HR1 HR2 H19 HW19 HSg19 HSks
    go_wp2_with fail
    refine (told_run v20 w.heap.size sd FD14 _ H20.out.ad.sb).mono ?_
    rintro e v21 ⟨vr, ds, rfl, r1, r2, r3, r4⟩
    have hlds : ds.length ≤ 100000 := by rw [r1.length_eq]; exact (H20.out.ad.sb).small
    obtain ⟨Rds, cds, rfl, hst⟩ := own_steady (F := fun _ => False) r3 (fun _ h => h.elim) (by omega)
    have HSds := Lib.hid hst
    have HPds := Lib.hid (And.intro r1 r2)
    have HOds := Lib.hid (show ∀ x ∈ ds, okSp x from fun x hx => (H20.out.ad.sb).okS x (r1.mem_iff.1 hx))
    have HBv21 := Lib.hid r4
    clear r1 r2 r3 r4 hst
    have H21 := Lib.hid (H20.out.below HBv21.out)
    have HW21 := Lib.hid (HW20.out.trans (HBv21.out.mono HW20.out.size))
    have HSg21 := Lib.hid (HSg20.out.chg (Chg.of_below HBv21.out) (fun _ _ h => h))
    have HEQds := Lib.hid (show ds = gs from rising_one HPds.out.2 HPgs.out.2 (HPds.out.1.trans (HD.out.trans HPgs.out.1.symm)))
    have HR1 := Lib.hid (HSg21.out.reads (Chg.refl _ _))
    have HR2 := Lib.hid (HSds.out.reads (Chg.refl _ _))
    clear H20 HW20 HSg20 HBv21
    go_wp2_with fail
    refine (same_run v21 Rgs Rds cgs cds gs ds HR1.out HR2.out HOgs.out HOds.out (by omega) (by omega)).mono ?_
    rintro e v22 ⟨rfl, h12⟩
    rw [HEQds.out, sameF_refl]
    have H22 := Lib.hid (H21.out.below h12)
    have HW22 := Lib.hid (HW21.out.trans (h12.mono HW21.out.size))
    have HSg22 := Lib.hid (HSg21.out.chg (Chg.of_below h12) (fun _ _ h => h))
    clear h12 HR1 HR2 H21 HW21 HSg21 HSds
    go_wp2_with fail
    go_ret
    exact ⟨rfl, HW22.out⟩
end Go.Proofs.YthdkgilpnkabmaaGreatDoor.Pr
