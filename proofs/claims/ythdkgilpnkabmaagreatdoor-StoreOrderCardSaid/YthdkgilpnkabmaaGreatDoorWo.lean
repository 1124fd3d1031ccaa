/- StoreOrder: the walk. -/
import Derived.Test.YthdkgilpnkabmaaGreatDoorBs
import Derived.Test.YthdkgilpnkabmaaGreatDoorMp
namespace Go.Proofs.YthdkgilpnkabmaaGreatDoor.Pr
open Go Go.RowKit Go.Proofs.YthdkgilpnkabmaaGreatDoorW.PrintWords Go.Proofs.YthdkgilpnkabmaaGreatDoorW.PrintMore
open Rm Ps
set_option linter.unusedVariables false
set_option linter.unusedSimpArgs false
theorem two_new {w w' : World} {base a b : Nat} {FA FB : Nat → Prop} {LA : List Sp} (sa : StoreAt w base a FA LA) (hb : Below w.heap.size w w') (sb : StoreAt w' base b FB []) (hF : ∀ k, FB k → w.heap.size ≤ k) : Two w' base a FA LA b FB [] :=
  ⟨sa.below hb, sb, fun k ha hb' => by have := (sa.ours k ha).2.1; have := hF k hb'; omega⟩
/-- A row of one span, just laid, whose lists lay there ahead of the store. -/
theorem steady_one {F : Nat → Prop} {w0 w : World} {g : Nat} {x : Sp} {cs : List Value} (hb : w.heap[g]? = some (.cells cs.toArray 41 (0, 0))) (hF : ¬ F g) (hK : kSp.K w0 x cs) (hB : Below w0.heap.size w0 w) (hF2 : ∀ j, F j → w0.heap.size ≤ j) : Steady F w (some ⟨g, 0, none⟩) [x] :=
  ⟨by simp, fun k hk => by
    obtain rfl : k = 0 := by simpa using hk
    refine ⟨g, 0, cs, rfl, fun w' hc => ⟨?_, fun i u hi => ?_⟩⟩
    · rw [rdS_at hk]
      exact kSp.K_below (hB.trans (hc.below hB.size (fun j _ h => hF2 j h))) hK
    · rw [cell_of_row _ _ _ _ _ _ (hc.blk hb hF)]
      simpa using hi⟩
theorem put_one (w0 W : World) (s : Nat) (F : Nat → Prop) (L : List Sp) (B : StoreAt W w0.heap.size s F L) (x : Sp) (hx : okSp x) (cs : List Value) (hK : kSp.K w0 x cs) (hB : Below w0.heap.size w0 W) (chk : Sp → Int) (hC : Checks w0 chk [x]) :
    Calls Tryz.prog 9 #[.pointer (some ⟨s, 0, none⟩), .slice (some ⟨W.heap.size, 0, none⟩) 1 1] (W.alloc (.cells cs.toArray 41)) (PutsPost (W.alloc (.cells cs.toArray 41)) w0.heap.size s F chk L [x]) := by
  have hb2 := below_alloc (Below.refl W.heap.size W) (.cells cs.toArray 41)
  have hB2 := hB.trans (hb2.mono hB.size)
  have hst : Steady F (W.alloc (.cells cs.toArray 41)) (some ⟨W.heap.size, 0, none⟩) [x] := steady_one (blk_new W _) (fun h => by have := (B.ours _ h).2.1; omega) hK hB2 (fun j h => (B.ours j h).1)
  exact puts_run _ w0.heap.size s F L (B.below hb2) hB2.size _ 1 [x] hst (fun y hy => by rw [List.mem_singleton] at hy; subst hy; exact hx) (by simp) chk (hC.below hB2)
theorem less_run (ahi alo bhi blo : Int) (w : World) : Calls Tryz.prog 15 #[.agg #[.int .u64 ahi, .int .u64 alo], .agg #[.int .u64 bhi, .int .u64 blo]] w fun e w' => e = .returned (.bool (if ahi = bhi then decide (alo < blo) else decide (ahi < bhi))) ∧ Below w.heap.size w w' := by
  have HB := Lib.hid (below_alloc (below_alloc (Below.refl w.heap.size w) (.cells #[.int .u64 ahi, .int .u64 alo] 33)) (.cells #[.int .u64 bhi, .int .u64 blo] 33))
  by_cases h : ahi = bhi
  · have h1 : (ahi != bhi) = false := by simp [h]
    rw [if_pos h]
    clear h
    go_enter Tryz.func15, Tryz.ntmps15
    go_wp2_with fail
    go_ret
    exact ⟨rfl, HB.out⟩
  · have h1 : (ahi != bhi) = true := by simpa using h
    rw [if_neg h]
    clear h
    go_enter Tryz.func15, Tryz.ntmps15
    go_wp2_with fail
    go_ret
    exact ⟨rfl, HB.out⟩
theorem get_some (V : World) (base s : Nat) (F : Nat → Prop) (L : List Sp) (B : StoreAt V base s F L) (x y : Sp) (hx : okSp x) (hg : getL nmS L (nmS x) = some y) :
    Calls Tryz.prog 13 #[.pointer (some ⟨s, 0, none⟩), .agg #[.int .u64 x.f0.f0, .int .u64 x.f0.f1], .int .u64 x.f1] V fun e V' => ∃ E4 d4 E11 d11 E12 d12, e = .returned (.tuple #[.agg (cSp y (.slice E4 y.f3.length d4) (.slice E11 y.f10.length d11) (.slice E12 y.f11.length d12)).toArray, .bool true]) ∧ kSq.M V' V.heap.size (fun _ => True) y (cSp y (.slice E4 y.f3.length d4) (.slice E11 y.f10.length d11) (.slice E12 y.f11.length d12)) ∧ Below V.heap.size V V' := by
  refine (get_run V base s F L B x.f0.f0 x.f0.f1 x.f1 hx.2.2.2.1 hx.2.2.2.2.1 hx.2.2.2.2.2).mono ?_
  rintro e V' ⟨hb, ⟨h1, _⟩ | ⟨z, v4, v11, v12, h1, rfl, hM⟩⟩
  · have h1 : getL nmS L (nmS x) = none := h1
    rw [hg] at h1
    cases h1
  · have h1 : getL nmS L (nmS x) = some z := h1
    rw [hg] at h1
    cases h1
    obtain ⟨u4, u11, u12, hu, z4, z11, z12⟩ := kSq_openM hM
    obtain ⟨E4, c4, rfl, _, _⟩ := Kd.Zv_reads z4
    obtain ⟨E11, c11, rfl, _, _⟩ := Kd.Zv_reads z11
    obtain ⟨E12, c12, rfl, _, _⟩ := Kd.Zv_reads z12
    simp only [cSp, List.cons.injEq, and_true, true_and] at hu
    obtain ⟨rfl, rfl, rfl⟩ := hu
    exact ⟨E4, c4, E11, c11, E12, c12, rfl, hM, hb⟩
set_option maxHeartbeats 16000000 in
set_option maxRecDepth 100000 in
theorem order_run (w : World) (A : Option Addr) (c : Nat) (l : List Sp) (hl : Kd.C kSp w A l.length l) (ol : ∀ x ∈ l, okSp x) (hln : l.length ≤ 35184372087808) (chk : Sp → Int) (hCl : Checks w chk l) :
    Calls Tryz.prog 3 #[.slice A l.length c] w (BPost w true) := by
  have HL := Lib.hid hl
  have OL := Lib.hid ol
  have CL := Lib.hid hCl
  clear hl ol hCl
  go_enter Tryz.func3, Tryz.ntmps3
  go_wp2_with fail
  refine (alive_run w).mono ?_
  rintro e v0 ⟨rfl, hb0⟩
  have HW0 := Lib.hid hb0
  clear hb0
  go_wp2_with fail
  refine (new_run v0 w.heap.size HW0.out.size).mono ?_
  rintro e v1 ⟨sa, FA, rfl, hS, hb, hF⟩
  have HSa := Lib.hid hS
  have HW1 := Lib.hid (HW0.out.trans (hb.mono HW0.out.size))
  clear hS hb hF HW0
  go_wp2_with fail
  refine (new_run v1 w.heap.size HW1.out.size).mono ?_
  rintro e v2 ⟨sb, FB, rfl, hS, hb, hF⟩
  have H2 := Lib.hid (two_new HSa.out hb hS hF)
  have HW2 := Lib.hid (HW1.out.trans (hb.mono HW1.out.size))
  clear hS hb hF HW1 HSa
  go_wp2_with fail
  refine (puts_run v2 w.heap.size sa FA [] H2.out.sa HW2.out.size A c l (Steady.elder HL.out HW2.out (fun j hj => (H2.out.sa.ours j hj).1) (by omega)) OL.out (by omega) chk (CL.out.below HW2.out)).mono ?_
  rintro e v3 hP
  obtain ⟨u3, FA3, he, hS, hC, hF, _⟩ := puts_any H2.out.sa hP
  obtain ⟨re, hre⟩ : ∃ r, Hid (fitsF nmS chk [] l = r) := ⟨_, rfl⟩
  rw [hre.out] at he
  subst he
  have H3 := Lib.hid (H2.out.step hS hC hF)
  have HW3 := Lib.hid (H2.out.sa.under HW2.out hC)
  clear hP hS hC hF H2 HW2
  by_cases h0 : re = 0
  case neg =>
    have h0' : (re != 0) = true := by rw [bne_iff_ne]; exact h0
    have HE := Lib.hid (show after chk [] l = [] by unfold after; rw [if_neg (by rw [hre.out]; exact h0)])
    rw [HE.out] at H3
    clear h0
    go_wp2_with fail
    refine (count_run v3 w.heap.size sa FA3 _ H3.out.sa).mono ?_
    rintro e v4 ⟨rfl, hw⟩
    subst hw
    go_wp2_with fail
    go_ret
    exact ⟨rfl, HW3.out⟩
  subst h0
  have HE := Lib.hid (show after chk [] l = putAll nmS ordS [] l by unfold after; rw [if_pos hre.out])
  rw [HE.out] at H3
  clear HE
  obtain ⟨n, hn⟩ : ∃ n, n = l.length := ⟨_, rfl⟩
  have HN := Lib.hid hn
  rw [← hn] at hln
  rw [← hn]
  clear hn
  go_wp2_with fail
  go_loopw [8] (fun v8 wr => ∃ j : Nat, v8 = .int .i64 ((j : Int) - 1) ∧ j ≤ 2 * n ∧ Hid (∃ F M, Two wr w.heap.size sa FA3 (putAll nmS ordS [] l) sb F (putAll nmS ordS [] M) ∧ (∀ x ∈ M, x ∈ l) ∧ ∀ q, j ≤ q → q < 2 * n → rdS l (q % n) ∈ M) ∧ Hid (Below w.heap.size w wr)) (fun v8 _ => ((Lib.intOf v8) + 1).toNat)
  case atStart => exact ⟨2 * n, by go_num, Nat.le_refl _, Lib.hid ⟨_, [], H3.out, fun x hx => by simp at hx, fun q h1 h2 => by omega⟩, HW3⟩
  case round =>
    obtain ⟨j, rfl, hj, HT, HW⟩ := hrel
    rcases j with _ | q
    · have eq0 : ((0 : Nat) : Int) - 1 = -1 := rfl
      rw [eq0]
      obtain ⟨F, M, hT1, hT2, hT3⟩ := HT.out
      have HPB := Lib.hid (show (putAll nmS ordS [] M).Perm (putAll nmS ordS [] l) from order_perm cmp3_S hT2 (fun x hx => by
        obtain ⟨k, hk, rfl⟩ := List.mem_iff_getElem.1 hx
        have hkn : k < n := by rw [HN.out]; exact hk
        have := hT3 k (Nat.zero_le _) (by omega)
        rwa [Nat.mod_eq_of_lt hkn, rdS_at hk] at this))
      obtain ⟨wo, hwo⟩ : ∃ wo : World, wr = wo := ⟨_, rfl⟩
      rw [hwo] at HW hT1 ⊢
      have HTo := Lib.hid hT1
      clear hwo wr hT1 hT2 hT3 HT H3 HW3
      have HDM := Lib.hid (dom_new (nm := nmS) cmp3_S l)
      have HND := Lib.hid (nd_new (nm := nmS) (cmp := ordS) l)
      generalize putAll nmS ordS [] M = LB at *
      generalize putAll nmS ordS [] l = LA at *
      go_wp2_with fail
      refine (told_run wo w.heap.size sa FA3 _ HTo.out.sa).mono ?_
      rintro e w5 ⟨vr, all, rfl, r1, r2, r3, r4⟩
      have hal : all.length ≤ 100000 := by rw [r1.length_eq]; exact HTo.out.sa.small
      obtain ⟨R, cr, rfl, hst⟩ := own_steady (F := fun _ => False) r3 (fun _ h => h.elim) (by omega)
      have HSR := Lib.hid hst
      have HPA := Lib.hid (And.intro r1 r2)
      have HOA := Lib.hid (show ∀ x ∈ all, okSp x from fun x hx => HTo.out.sa.okS x (r1.mem_iff.1 hx))
      have HT5 := Lib.hid (HTo.out.below r4)
      have HW5 := Lib.hid (HW.out.trans (r4.mono HW.out.size))
      clear r1 r2 r3 r4 hst HTo HW
      go_wp2_with fail
      refine (told_run w5 w.heap.size sb F _ HT5.out.sb).mono ?_
      rintro e w6 ⟨vr, als, rfl, r1, r2, r3, r4⟩
      have hall2 : als.length ≤ 100000 := by rw [r1.length_eq]; exact HT5.out.sb.small
      obtain ⟨S, cs, rfl, hst⟩ := own_steady (F := fun _ => False) r3 (fun _ h => h.elim) (by omega)
      have HR1 := Lib.hid (HSR.out.reads (Chg.of_below r4))
      have HR2 := Lib.hid (hst.reads (Chg.refl _ _))
      have HSR6 := Lib.hid (HSR.out.chg (Chg.of_below r4) (fun _ _ h => h))
      have HT6 := Lib.hid (HT5.out.below r4)
      have HW6 := Lib.hid (HW5.out.trans (r4.mono HW5.out.size))
      have HEQ := Lib.hid (show als = all from rising_one r2 HPA.out.2 (r1.trans (HPB.out.trans HPA.out.1.symm)))
      have HOS := Lib.hid (show ∀ x ∈ als, okSp x by rw [HEQ.out]; exact HOA.out)
      clear r1 r2 r3 r4 hst HT5 HW5 HSR
      go_wp2_with fail
      refine (same_run w6 R S cr cs all als HR1.out HR2.out HOA.out HOS.out (by omega) (by omega)).mono ?_
      rintro e w7 ⟨rfl, h12⟩
      rw [HEQ.out, sameF_refl]
      have HT7 := Lib.hid (HT6.out.below h12)
      have HW7 := Lib.hid (HW6.out.trans (h12.mono HW6.out.size))
      have HSR7 := Lib.hid (HSR6.out.chg (Chg.of_below h12) (fun _ _ h => h))
      clear h12 HR1 HR2 HT6 HW6 HSR6 HOS HEQ hall2
      go_wp2_with fail
      refine (count_run w7 w.heap.size sa FA3 _ HT7.out.sa).mono ?_
      rintro e w8 ⟨rfl, hw⟩
      subst hw
      rw [← HPA.out.1.length_eq]
      have hcc : ((all.length : Int) != (all.length : Int)) = false := by simp
      go_wp2_with fail
      go_loopw [12] (fun v12 wr => ∃ i : Nat, v12 = .int .i64 i ∧ i ≤ n ∧ Hid (Below w8.heap.size w8 wr)) (fun v12 _ => n - (Lib.intOf v12).toNat)
      case atStart => exact ⟨0, rfl, Nat.zero_le _, Lib.hid (Below.refl _ _)⟩
      case round =>
        obtain ⟨i, rfl, hi, HB⟩ := hrel
        by_cases hlt : i < n
        · have hlk : (i : Int) < (n : Int) := by omega
          have hil : i < l.length := by rw [← HN.out]; exact hlt
          obtain ⟨ab, ao, hA, hab, A4, c4, A11, c11, A12, c12, hK, hx⟩ := spRow (l := l) HL.out i hil
          subst hA
          have HWr := Lib.hid (HW7.out.trans (HB.out.mono HW7.out.size))
          obtain ⟨y, hy1, hy2, hy3⟩ := HDM.out.2 _ (rdS_mem hil)
          have HG := Lib.hid (show getL nmS LA (nmS (rdS l i)) = some y by rw [← hy2]; exact getL_of_mem HND.out hy1)
          have HOX := Lib.hid (OL.out _ (rdS_mem hil))
          have HOY := Lib.hid (HT7.out.sa.okS y hy1)
          have HCMP := Lib.hid (show ¬ ordS y (rdS l i) < 0 by have := cmp3_S.anti (rdS l i) y; omega)
          have HGet := Lib.hid (fun V (hV : Below wr.heap.size wr V) => get_some V w.heap.size sa FA3 LA (HT7.out.sa.below (HB.out.trans (hV.mono HB.out.size))) (rdS l i) y HOX.out HG.out)
          have HK := Lib.hid hK
          have hx' : ∀ V, Below wr.heap.size wr V → ∀ i' u, (cSp (rdS l i) (.slice A4 (rdS l i).f3.length c4) (.slice A11 (rdS l i).f10.length c11) (.slice A12 (rdS l i).f11.length c12))[i']? = some u → V.cell? ⟨ab, ao + i * 13 + i', none⟩ = some u := fun V hV i' u hi => pw_cell_below (HWr.out.trans (hV.mono HWr.out.size)) (hx i' u hi)
          clear hx hK hab hy1 hy2 hy3 HG
          generalize rdS l i = x at *
          obtain ⟨⟨xhi, xlo⟩, xid, xpar, xlk, xsv, xop, xkd, xst, xs0, xs1, xla, xle⟩ := x
          obtain ⟨⟨yhi, ylo⟩, yid, ypar, ylk, ysv, yop, ykd, yst, ys0, ys1, yla, yle⟩ := y
          dsimp only [cSp] at hx' HGet HK
          have HXA := Lib.hid hx'
          have HS : Hid (∀ V, Below wr.heap.size wr V → V.cell? ⟨ab, ao + i * 13, none⟩ = some (.int .u64 xhi) ∧ V.cell? ⟨ab, ao + i * 13 + 1, none⟩ = some (.int .u64 xlo) ∧ V.cell? ⟨ab, ao + i * 13 + 2, none⟩ = some (.int .u64 xid)) := Lib.hid (fun V hV => ⟨hx' V hV 0 _ rfl, hx' V hV 1 _ rfl, hx' V hV 2 _ rfl⟩)
          have HD1 := Lib.hid (drew_below wr)
          have HD2 := Lib.hid (below_drew (below_alloc (Below.refl wr.heap.size wr) (.cells zSp.toArray 41)))
          clear hx'
          go_wp2_with fail
          have hq0 := HS.out _ HD1.out
          have hq2 := HS.out _ HD2.out
          have HG2 := Lib.hid (blk_drew (blk_new wr (.cells zSp.toArray 41)))
          go_region_held3 (fun V => V.cell? ⟨ab, ao + i * 13, none⟩ = some (.int .u64 xhi) ∧ V.cell? ⟨ab, ao + i * 13 + 1, none⟩ = some (.int .u64 xlo) ∧ V.cell? ⟨ab, ao + i * 13 + 2, none⟩ = some (.int .u64 xid)) (first | (with_reducible assumption) | (with_reducible exact HS.out _ (below_alloc HB4.out _))) (first | (go_at_call 13; refine (HGet.out _ (by first | with_reducible exact HD1.out | with_reducible exact HD2.out)).mono ?_; rintro e w4 ⟨E4, d4, E11, d11, E12, d12, rfl, hKy, hb4⟩; have HB4 : Hid (Below wr.heap.size wr w4) := Lib.hid (by first | with_reducible exact HD1.out.trans (hb4.mono HD1.out.size) | with_reducible exact HD2.out.trans (hb4.mono HD2.out.size)); have HKY := Lib.hid hKy; have hq1 := HS.out _ HB4.out; (first | (have G4 : Hid (w4.heap[wr.heap.size]? = some (.cells zSp.toArray 41 (0, 0))) := Lib.hid (by with_reducible exact blk_below HG2.out hb4); have HR13 := Lib.hid (row13 G4.out (.int .u64 yhi) (.int .u64 ylo) (.int .u64 yid) (.int .u64 ypar) (.slice E4 ylk.length d4) (.string ysv) (.string yop) (.int .i64 ykd) (.int .i64 yst) (.int .i64 ys0) (.int .i64 ys1) (.slice E11 yla.length d11) (.slice E12 yle.length d12)); have hq4 := HS.out _ (HB4.out.trans HR13.out.2.1); have p0 := (cell_of_row _ _ 0 _ _ _ G4.out).trans rfl; have r0 := blk_frozen G4.out 0; have p1 := (cell_of_row _ _ 1 _ _ _ G4.out).trans rfl; have r1 := blk_frozen G4.out 1; have p2 := (cell_of_row _ _ 2 _ _ _ G4.out).trans rfl; have r2 := blk_frozen G4.out 2; have p3 := (cell_of_row _ _ 3 _ _ _ G4.out).trans rfl; have r3 := blk_frozen G4.out 3; have p4 := (cell_of_row _ _ 4 _ _ _ G4.out).trans rfl; have r4 := blk_frozen G4.out 4; have p5 := (cell_of_row _ _ 5 _ _ _ G4.out).trans rfl; have r5 := blk_frozen G4.out 5; have p6 := (cell_of_row _ _ 6 _ _ _ G4.out).trans rfl; have r6 := blk_frozen G4.out 6; have p7 := (cell_of_row _ _ 7 _ _ _ G4.out).trans rfl; have r7 := blk_frozen G4.out 7; have p8 := (cell_of_row _ _ 8 _ _ _ G4.out).trans rfl; have r8 := blk_frozen G4.out 8; have p9 := (cell_of_row _ _ 9 _ _ _ G4.out).trans rfl; have r9 := blk_frozen G4.out 9; have p10 := (cell_of_row _ _ 10 _ _ _ G4.out).trans rfl; have r10 := blk_frozen G4.out 10; have p11 := (cell_of_row _ _ 11 _ _ _ G4.out).trans rfl; have r11 := blk_frozen G4.out 11; have p12 := (cell_of_row _ _ 12 _ _ _ G4.out).trans rfl; have r12 := blk_frozen G4.out 12) | skip); clear hKy hb4))
          all_goals
            (first
             | (obtain ⟨k1, k2, k3⟩ := HR13.out
                have HB5 := Lib.hid (HB4.out.trans k2)
                have HK5 := Lib.hid (kSp_of_sq (M_chg (G := fun k => k = wr.heap.size) HKY.out ⟨k2.os, k2.tape, k2.output, k2.size, fun k _ hk => k3 k hk⟩ (fun k hk q hq cells hc => by
                  subst hk
                  rw [G4.out] at hc
                  cases hc
                  simp [kSq_E] at hq)))
                have G5 := Lib.hid k1
                clear HR13 k1 k2 k3 p0 p1 p2 p3 p4 p5 p6 p7 p8 p9 p10 p11 p12 r0 r1 r2 r3 r4 r5 r6 r7 r8 r9 r10 r11 r12 hq4 G4
                generalize World.setCell _ ⟨wr.heap.size, 12, none⟩ _ = w5 at *
                generalize wr.heap.size = gb at G5 ⊢)
             | (have HB5 := Lib.hid (below_alloc HB4.out (.cells #[.int .u64 yhi, .int .u64 ylo, .int .u64 yid, .int .u64 ypar, .slice E4 ylk.length d4, .string ysv, .string yop, .int .i64 ykd, .int .i64 yst, .int .i64 ys0, .int .i64 ys1, .slice E11 yla.length d11, .slice E12 yle.length d12] 41))
                have HK5 := Lib.hid (kSp.K_below (below_alloc (Below.refl w4.heap.size w4) (.cells #[.int .u64 yhi, .int .u64 ylo, .int .u64 yid, .int .u64 ypar, .slice E4 ylk.length d4, .string ysv, .string yop, .int .i64 ykd, .int .i64 yst, .int .i64 ys0, .int .i64 ys1, .slice E11 yla.length d11, .slice E12 yle.length d12] 41)) (kSp_of_sq HKY.out))
                have G5 := Lib.hid (blk_new w4 (.cells #[.int .u64 yhi, .int .u64 ylo, .int .u64 yid, .int .u64 ypar, .slice E4 ylk.length d4, .string ysv, .string yop, .int .i64 ykd, .int .i64 yst, .int .i64 ys0, .int .i64 ys1, .slice E11 yla.length d11, .slice E12 yle.length d12] 41))
                generalize w4.alloc (.cells #[.int .u64 yhi, .int .u64 ylo, .int .u64 yid, .int .u64 ypar, .slice E4 ylk.length d4, .string ysv, .string yop, .int .i64 ykd, .int .i64 yst, .int .i64 ys0, .int .i64 ys1, .slice E11 yla.length d11, .slice E12 yle.length d12] 41) = w5 at *
                generalize w4.heap.size = gb at G5 ⊢))
            clear hq0 hq1 hq2 HKY HG2 HD1 HD2 HGet HS
            have HRC := Lib.hid (fun z : Wx w5 => refcmp_run ⟨⟨yhi, ylo⟩, yid, ypar, ylk, ysv, yop, ykd, yst, ys0, ys1, yla, yle⟩ ⟨⟨xhi, xlo⟩, xid, xpar, xlk, xsv, xop, xkd, xst, xs0, xs1, xla, xle⟩ HOY.out HOX.out z.W E4 E11 E12 d4 d11 d12 A4 A11 A12 c4 c11 c12 (kSp.K_below z.h HK5.out) (kSp.K_below (HWr.out.trans ((HB5.out.trans (z.h.mono HB5.out.size)).mono HWr.out.size)) HK.out))
            have y0 := fun z : Wx w5 => z.cell ((cell_of_row _ _ 0 _ _ _ G5.out).trans rfl)
            have x0 := fun z : Wx w5 => HXA.out z.W (HB5.out.trans (z.h.mono HB5.out.size)) 0 _ rfl
            have y1 := fun z : Wx w5 => z.cell ((cell_of_row _ _ 1 _ _ _ G5.out).trans rfl)
            have x1 := fun z : Wx w5 => HXA.out z.W (HB5.out.trans (z.h.mono HB5.out.size)) 1 _ rfl
            have y2 := fun z : Wx w5 => z.cell ((cell_of_row _ _ 2 _ _ _ G5.out).trans rfl)
            have x2 := fun z : Wx w5 => HXA.out z.W (HB5.out.trans (z.h.mono HB5.out.size)) 2 _ rfl
            have y3 := fun z : Wx w5 => z.cell ((cell_of_row _ _ 3 _ _ _ G5.out).trans rfl)
            have x3 := fun z : Wx w5 => HXA.out z.W (HB5.out.trans (z.h.mono HB5.out.size)) 3 _ rfl
            have y4 := fun z : Wx w5 => z.cell ((cell_of_row _ _ 4 _ _ _ G5.out).trans rfl)
            have x4 := fun z : Wx w5 => HXA.out z.W (HB5.out.trans (z.h.mono HB5.out.size)) 4 _ rfl
            have y5 := fun z : Wx w5 => z.cell ((cell_of_row _ _ 5 _ _ _ G5.out).trans rfl)
            have x5 := fun z : Wx w5 => HXA.out z.W (HB5.out.trans (z.h.mono HB5.out.size)) 5 _ rfl
            have y6 := fun z : Wx w5 => z.cell ((cell_of_row _ _ 6 _ _ _ G5.out).trans rfl)
            have x6 := fun z : Wx w5 => HXA.out z.W (HB5.out.trans (z.h.mono HB5.out.size)) 6 _ rfl
            have y7 := fun z : Wx w5 => z.cell ((cell_of_row _ _ 7 _ _ _ G5.out).trans rfl)
            have x7 := fun z : Wx w5 => HXA.out z.W (HB5.out.trans (z.h.mono HB5.out.size)) 7 _ rfl
            have y8 := fun z : Wx w5 => z.cell ((cell_of_row _ _ 8 _ _ _ G5.out).trans rfl)
            have x8 := fun z : Wx w5 => HXA.out z.W (HB5.out.trans (z.h.mono HB5.out.size)) 8 _ rfl
            have y9 := fun z : Wx w5 => z.cell ((cell_of_row _ _ 9 _ _ _ G5.out).trans rfl)
            have x9 := fun z : Wx w5 => HXA.out z.W (HB5.out.trans (z.h.mono HB5.out.size)) 9 _ rfl
            have y10 := fun z : Wx w5 => z.cell ((cell_of_row _ _ 10 _ _ _ G5.out).trans rfl)
            have x10 := fun z : Wx w5 => HXA.out z.W (HB5.out.trans (z.h.mono HB5.out.size)) 10 _ rfl
            have y11 := fun z : Wx w5 => z.cell ((cell_of_row _ _ 11 _ _ _ G5.out).trans rfl)
            have x11 := fun z : Wx w5 => HXA.out z.W (HB5.out.trans (z.h.mono HB5.out.size)) 11 _ rfl
            have y12 := fun z : Wx w5 => z.cell ((cell_of_row _ _ 12 _ _ _ G5.out).trans rfl)
            have x12 := fun z : Wx w5 => HXA.out z.W (HB5.out.trans (z.h.mono HB5.out.size)) 12 _ rfl
            simp only [Nat.add_zero] at x0
            obtain ⟨r, hr⟩ : ∃ r, Hid (ordS ⟨⟨yhi, ylo⟩, yid, ypar, ylk, ysv, yop, ykd, yst, ys0, ys1, yla, yle⟩ ⟨⟨xhi, xlo⟩, xid, xpar, xlk, xsv, xop, xkd, xst, xs0, xs1, xla, xle⟩ = r) := ⟨_, rfl⟩
            rw [hr.out] at HRC
            have hr0 : decide (r < 0) = false := decide_eq_false (by have h := HCMP.out; rw [hr.out] at h; omega)
            dsimp only at HRC
            go_wp2_with fail
            refine wp_region_ext (by kernel_rfl) (by kernel_rfl) ?_
            repeat (go_big_quiet_step (first | (go_at_call 14; with_reducible exact Calls.ext_of (HRC.out _))))
            refine wpQuiet_nil ?_
            intro _ hw'
            obtain ⟨xx, rfl⟩ := hw'
            clear x0 x1 x2 x3 x4 x5 x6 x7 x8 x9 x10 x11 x12 y0 y1 y2 y3 y4 y5 y6 y7 y8 y9 y10 y11 y12 HRC
            have HB6 := Lib.hid (HB.out.trans ((HB5.out.trans (xx.h.mono HB5.out.size)).mono HB.out.size))
            generalize xx.W = w6 at *
            go_wp2_with fail
            go_roundw
            case rel => exact ⟨i + 1, by go_num, by omega, HB6⟩
            case measure => simp [Lib.intOf]; omega
        · obtain rfl : n = i := by omega
          obtain ⟨wp, hwp⟩ : ∃ wp : World, wr = wp := ⟨_, rfl⟩
          rw [hwp] at HB ⊢
          clear hwp wr
          have HWp := Lib.hid (HW7.out.trans (HB.out.mono HW7.out.size))
          have HSp := Lib.hid (HSR7.out.chg (Chg.of_below HB.out) (fun _ _ h => h))
          have HIN := Lib.hid (show ∀ x ∈ all, x ∈ l from fun x hx => HDM.out.1 x (HPA.out.1.mem_iff.1 hx))
          clear HB HT7 HW7 HSR7 HDM HND HPB hcc
          go_wp2_with fail
          go_loopw [15] (fun v15 wr => ∃ i : Nat, v15 = .int .i64 i ∧ i ≤ all.length ∧ Hid (Below wp.heap.size wp wr)) (fun v15 _ => all.length - (Lib.intOf v15).toNat)
          case atStart => exact ⟨0, rfl, Nat.zero_le _, Lib.hid (Below.refl _ _)⟩
          case round =>
            obtain ⟨i, rfl, hi, HB⟩ := hrel
            by_cases hlt : i < all.length
            · have hlk : (i : Int) < (all.length : Int) := by omega
              obtain ⟨wq, hwq⟩ : ∃ wq : World, wr = wq := ⟨_, rfl⟩
              rw [hwq] at HB ⊢
              clear hwq wr
              have HWq := Lib.hid (HWp.out.trans (HB.out.mono HWp.out.size))
              have HSq := Lib.hid (HSp.out.chg (Chg.of_below HB.out) (fun _ _ h => h))
              have HMI := Lib.hid (HIN.out _ (rdS_mem hlt))
              go_wp2_with fail
              go_loopw [16, 17] (fun v16 v17 wr => ∃ (b : Bool) (k : Nat), v16 = .bool b ∧ v17 = .int .i64 k ∧ k ≤ n ∧ Hid (b = true ∨ ∀ j, j < k → rdS l j ≠ rdS all i) ∧ Hid (Below wq.heap.size wq wr)) (fun _ v17 _ => n - (Lib.intOf v17).toNat)
              case atStart => exact ⟨false, 0, rfl, rfl, Nat.zero_le _, Lib.hid (.inr (fun j h => by omega)), Lib.hid (Below.refl _ _)⟩
              case round =>
                obtain ⟨b, k, rfl, rfl, hk, HF, HC⟩ := hrel
                have HWr := Lib.hid (HWq.out.trans (HC.out.mono HWq.out.size))
                cases b with
                | false =>
                  by_cases hkn : k < n
                  · have hki : (k : Int) < (n : Int) := by omega
                    have hkl : k < l.length := by rw [← HN.out]; exact hkn
                    obtain ⟨ab, ao, hA, hab, A4, c4, A11, c11, A12, c12, hK, hx⟩ := spRow (l := l) HL.out k hkl
                    obtain ⟨bb, bo, hBB, hbb, B4, d4, B11, d11, B12, d12, hK', hy⟩ := spRow (l := all) (HSq.out.reads (Chg.of_below HC.out)) i hlt
                    have HNX : Hid (ordS (rdS all i) (rdS l k) ≠ 0 → ∀ j, j < k + 1 → rdS l j ≠ rdS all i) := Lib.hid (fun hne j hj e => by
                      rcases HF.out with h | h
                      · cases h
                      · by_cases hjk : j = k
                        · subst hjk
                          rw [e] at hne
                          exact hne (cmp3_S.refl _)
                        · exact h j (by omega) e)
                    subst hA
                    subst hBB
                    have HRC := Lib.hid (fun z : Wx wr => refcmp_run (rdS all i) (rdS l k) (HOA.out _ (rdS_mem hlt)) (OL.out _ (rdS_mem hkl)) z.W B4 B11 B12 d4 d11 d12 A4 A11 A12 c4 c11 c12 (kSp.K_below z.h hK') (kSp.K_below (HWr.out.trans (z.h.mono HWr.out.size)) hK))
                    have hx' : ∀ z : Wx wr, ∀ i' u, (cSp (rdS l k) (.slice A4 (rdS l k).f3.length c4) (.slice A11 (rdS l k).f10.length c11) (.slice A12 (rdS l k).f11.length c12))[i']? = some u → z.W.cell? ⟨ab, ao + k * 13 + i', none⟩ = some u := fun z i' u hi => z.cell (pw_cell_below HWr.out (hx i' u hi))
                    have hy' : ∀ z : Wx wr, ∀ i' u, (cSp (rdS all i) (.slice B4 (rdS all i).f3.length d4) (.slice B11 (rdS all i).f10.length d11) (.slice B12 (rdS all i).f11.length d12))[i']? = some u → z.W.cell? ⟨bb, bo + i * 13 + i', none⟩ = some u := fun z i' u hi => z.cell (hy i' u hi)
                    clear hx hy hK hK' hab hbb HF
                    generalize rdS l k = x at *
                    generalize rdS all i = y at *
                    obtain ⟨⟨xhi, xlo⟩, xid, xpar, xlk, xsv, xop, xkd, xst, xs0, xs1, xla, xle⟩ := x
                    obtain ⟨⟨yhi, ylo⟩, yid, ypar, ylk, ysv, yop, ykd, yst, ys0, ys1, yla, yle⟩ := y
                    dsimp only [cSp] at hx' hy' HRC
                    have x0 := fun z : Wx wr => hx' z 0 _ rfl
                    have x1 := fun z : Wx wr => hx' z 1 _ rfl
                    have x2 := fun z : Wx wr => hx' z 2 _ rfl
                    have x3 := fun z : Wx wr => hx' z 3 _ rfl
                    have x4 := fun z : Wx wr => hx' z 4 _ rfl
                    have x5 := fun z : Wx wr => hx' z 5 _ rfl
                    have x6 := fun z : Wx wr => hx' z 6 _ rfl
                    have x7 := fun z : Wx wr => hx' z 7 _ rfl
                    have x8 := fun z : Wx wr => hx' z 8 _ rfl
                    have x9 := fun z : Wx wr => hx' z 9 _ rfl
                    have x10 := fun z : Wx wr => hx' z 10 _ rfl
                    have x11 := fun z : Wx wr => hx' z 11 _ rfl
                    have x12 := fun z : Wx wr => hx' z 12 _ rfl
                    have y0 := fun z : Wx wr => hy' z 0 _ rfl
                    have y1 := fun z : Wx wr => hy' z 1 _ rfl
                    have y2 := fun z : Wx wr => hy' z 2 _ rfl
                    have y3 := fun z : Wx wr => hy' z 3 _ rfl
                    have y4 := fun z : Wx wr => hy' z 4 _ rfl
                    have y5 := fun z : Wx wr => hy' z 5 _ rfl
                    have y6 := fun z : Wx wr => hy' z 6 _ rfl
                    have y7 := fun z : Wx wr => hy' z 7 _ rfl
                    have y8 := fun z : Wx wr => hy' z 8 _ rfl
                    have y9 := fun z : Wx wr => hy' z 9 _ rfl
                    have y10 := fun z : Wx wr => hy' z 10 _ rfl
                    have y11 := fun z : Wx wr => hy' z 11 _ rfl
                    have y12 := fun z : Wx wr => hy' z 12 _ rfl
                    simp only [Nat.add_zero] at x0 y0
                    clear hx' hy'
                    obtain ⟨r, hr⟩ : ∃ r, Hid (ordS ⟨⟨yhi, ylo⟩, yid, ypar, ylk, ysv, yop, ykd, yst, ys0, ys1, yla, yle⟩ ⟨⟨xhi, xlo⟩, xid, xpar, xlk, xsv, xop, xkd, xst, xs0, xs1, xla, xle⟩ = r) := ⟨_, rfl⟩
                    rw [hr.out] at HRC HNX
                    obtain ⟨b, hb⟩ : ∃ b, (r == 0) = b := ⟨_, rfl⟩
                    have HBB := Lib.hid hb
                    go_wp2_with fail
                    refine wp_region_ext (by kernel_rfl) (by kernel_rfl) ?_
                    repeat (go_big_quiet_step (first | (go_at_call 14; with_reducible exact Calls.ext_of (HRC.out _))))
                    refine wpQuiet_nil ?_
                    intro _ hw'
                    obtain ⟨xx, rfl⟩ := hw'
                    clear x0 y0 x1 y1 x2 y2 x3 y3 x4 y4 x5 y5 x6 y6 x7 y7 x8 y8 x9 y9 x10 y10 x11 y11 x12 y12 HRC hb
                    have HC2 := Lib.hid (HC.out.trans (xx.h.mono HC.out.size))
                    generalize xx.W = w2 at *
                    go_wp2_with fail
                    go_roundw
                    case rel => exact ⟨b, k + 1, rfl, by go_num, by omega, Lib.hid (by
                      cases b with
                      | true => exact .inl rfl
                      | false => exact .inr (HNX.out (by have := HBB.out; simpa using this))), HC2⟩
                    case measure => simp [Lib.intOf]; omega
                  · exfalso
                    obtain rfl : n = k := by omega
                    rcases HF.out with h | h
                    · cases h
                    · obtain ⟨j, hj, e⟩ := List.mem_iff_getElem.1 HMI.out
                      exact h j (by rw [HN.out]; exact hj) ((rdS_at hj).trans e)
                | true =>
                  have HSr := Lib.hid (HSq.out.chg (Chg.of_below HC.out) (fun _ _ h => h))
                  have HB2 := Lib.hid (HB.out.trans (HC.out.mono HB.out.size))
                  clear HF HWr HMI HSq HWq HC HB
                  obtain ⟨bb, bo, hBB, hbb, B4, d4, B11, d11, B12, d12, _, hy⟩ := spRow (l := all) (HSr.out.reads (Chg.refl _ _)) i hlt
                  subst hBB
                  have y0 := fun z : Wx wr => z.cell (hy 0 _ rfl)
                  have y1 := fun z : Wx wr => z.cell (hy 1 _ rfl)
                  have y2 := fun z : Wx wr => z.cell (hy 2 _ rfl)
                  clear hy hbb
                  have HY : Hid ((i = 0) ∨ ∃ j, i = j + 1 ∧ ltSp (rdS all j) (rdS all i)) := Lib.hid (by
                    rcases i with _ | j
                    · exact .inl rfl
                    · refine .inr ⟨j, rfl, ?_⟩
                      rw [rdS_at (show j < all.length by omega), rdS_at hlt]
                      exact List.pairwise_iff_getElem.1 HPA.out.2 j (j + 1) (by omega) hlt (by omega))
                  rcases HY.out with hi0 | ⟨j, hj, hless⟩
                  · have d0 : decide ((0 : Int) < (i : Int)) = false := decide_eq_false (by omega)
                    have d1 : decide (0 < i) = false := decide_eq_false (by omega)
                    clear hi0
                    go_wp2_with fail
                    all_goals
                      refine wp_region_ext (by kernel_rfl) (by kernel_rfl) ?_
                      repeat (go_big_quiet_step (fail))
                      refine wpQuiet_nil ?_
                      intro _ hw'
                      obtain ⟨xx, rfl⟩ := hw'
                      go_wp2_with fail
                      go_roundw
                      case rel => exact ⟨i + 1, by go_num, by omega, Lib.hid (HB2.out.trans (xx.h.mono HB2.out.size))⟩
                      case measure => simp [Lib.intOf]; omega
                  · obtain ⟨eb, eo, hEE, hee, E4, f4, E11, f11, E12, f12, _, hz⟩ := spRow (l := all) (HSr.out.reads (Chg.refl _ _)) j (by omega)
                    cases hEE
                    have z0 := fun z : Wx wr => z.cell (hz 0 _ rfl)
                    have z1 := fun z : Wx wr => z.cell (hz 1 _ rfl)
                    have z2 := fun z : Wx wr => z.cell (hz 2 _ rfl)
                    clear hz hee
                    have d0 : decide ((0 : Int) < (i : Int)) = true := decide_eq_true (by omega)
                    have d1 : decide (0 < i) = true := decide_eq_true (by omega)
                    have e1 : (0 : Int) ≤ (i : Int) - 1 := by omega
                    have e2 : (i : Int) - 1 < (all.length : Int) := by omega
                    have e3 : ((i : Int) - 1).toNat = j := by omega
                    clear hj
                    generalize rdS all i = y at *
                    generalize rdS all j = p at *
                    obtain ⟨⟨yhi, ylo⟩, yid, ypar, ylk, ysv, yop, ykd, yst, ys0, ys1, yla, yle⟩ := y
                    obtain ⟨⟨phi, plo⟩, pid, ppar, plk, psv, pop, pkd, pst, ps0, ps1, pla, ple⟩ := p
                    simp only [ltSp, ltTi] at hless
                    dsimp only at y0 y1 y2 z0 z1 z2
                    simp only [Nat.add_zero] at y0 z0
                    have HLS := Lib.hid (fun z : Wx wr => less_run phi plo yhi ylo z.W)
                    have HWY : Hid ((if phi = yhi then decide (plo < ylo) else decide (phi < yhi)) = true ∨ ((if phi = yhi then decide (plo < ylo) else decide (phi < yhi)) = false ∧ (phi == yhi) = true ∧ (plo == ylo) = true ∧ decide (pid < yid) = true)) := Lib.hid (by
                      rcases hless with (h | ⟨h, h'⟩) | ⟨h, h'⟩
                      · left
                        rw [if_neg (by omega)]
                        exact decide_eq_true h
                      · left
                        rw [if_pos h]
                        exact decide_eq_true h'
                      · right
                        injection h with h1 h2
                        subst h1
                        subst h2
                        exact ⟨by simp, by simp, by simp, decide_eq_true h'⟩)
                    clear hless
                    generalize (if phi = yhi then decide (plo < ylo) else decide (phi < yhi)) = q at *
                    rcases HWY.out with hq | ⟨hq, hq1, hq2, hq3⟩
                    all_goals
                      subst hq
                      go_wp2_with fail
                      all_goals
                        refine wp_region_ext (by kernel_rfl) (by kernel_rfl) ?_
                        repeat (go_big_quiet_step (first | (go_at_call 15; with_reducible exact Calls.ext_of (HLS.out _))))
                        refine wpQuiet_nil ?_
                        intro _ hw'
                        obtain ⟨xx, rfl⟩ := hw'
                        go_wp2_with fail
                        go_roundw
                        case rel => exact ⟨i + 1, by go_num, by omega, Lib.hid (HB2.out.trans (xx.h.mono HB2.out.size))⟩
                        case measure => simp [Lib.intOf]; omega
            · obtain rfl : i = all.length := by omega
              have HWe := Lib.hid (HWp.out.trans (HB.out.mono HWp.out.size))
              go_wp2_with fail
              go_ret
              exact ⟨rfl, HWe.out⟩
    · have eq1 : ((q + 1 : Nat) : Int) - 1 = (q : Int) := by omega
      rw [eq1]
      have hn0 : 0 < n := by omega
      obtain ⟨p, hp⟩ : ∃ p, q % n = p := ⟨_, rfl⟩
      have hpn : p < n := by rw [← hp]; exact Nat.mod_lt _ hn0
      have hrem : Int.tmod (q : Int) (n : Int) = (p : Int) := by rw [← hp]; rfl
      have hpi : (p : Int) < (n : Int) := by omega
      have hnz : ((n : Int) == 0) = false := by simp; omega
      have hnz' : ¬ (n : Int) = 0 := by omega
      have hpl : p < l.length := by rw [← HN.out]; exact hpn
      obtain ⟨ab, ao, hA, hab, A4, c4, A11, c11, A12, c12, hK, hx⟩ := spRow (l := l) HL.out p hpl
      subst hA
      have HK := Lib.hid hK
      have HX := Lib.hid (OL.out _ (rdS_mem hpl))
      have HXM := Lib.hid (rdS_mem hpl)
      have hx' : ∀ i u, (cSp (rdS l p) (.slice A4 (rdS l p).f3.length c4) (.slice A11 (rdS l p).f10.length c11) (.slice A12 (rdS l p).f11.length c12))[i]? = some u → wr.cell? ⟨ab, ao + p * 13 + i, none⟩ = some u := fun i u hi => pw_cell_below HW.out (hx i u hi)
      obtain ⟨x, hxe⟩ : ∃ x, Hid (rdS l p = x) := ⟨_, rfl⟩
      rw [hxe.out] at hx' HK HX HXM
      clear hx hab hK
      obtain ⟨F, M, hT1, hT2, hT3⟩ := HT.out
      have HP := Lib.hid (put_one w wr sb F (putAll nmS ordS [] M) hT1.sb x HX.out _ HK.out HW.out chk (CL.out.sub (fun y hy => by rw [List.mem_singleton] at hy; subst hy; exact HXM.out)))
      have HT1 := Lib.hid hT1
      have HT2 := Lib.hid hT2
      have HT3 := Lib.hid hT3
      clear hT1 hT2 hT3 HT HK
      obtain ⟨⟨xhi, xlo⟩, xid, xpar, xlk, xsv, xop, xkd, xst, xs0, xs1, xla, xle⟩ := x
      dsimp only [cSp] at hx' HP
      have x0 := hx' 0 _ rfl
      have x1 := hx' 1 _ rfl
      have x2 := hx' 2 _ rfl
      have x3 := hx' 3 _ rfl
      have x4 := hx' 4 _ rfl
      have x5 := hx' 5 _ rfl
      have x6 := hx' 6 _ rfl
      have x7 := hx' 7 _ rfl
      have x8 := hx' 8 _ rfl
      have x9 := hx' 9 _ rfl
      have x10 := hx' 10 _ rfl
      have x11 := hx' 11 _ rfl
      have x12 := hx' 12 _ rfl
      simp only [Nat.add_zero] at x0
      have HPP := Lib.hid hp
      have HFT := Lib.hid (one_fits (cmp := ordS) hre.out HT2.out HXM.out)
      clear hx' hp
      go_wp2_with fail
      refine HP.out.mono ?_
      rintro e w4 hP
      have HAL := Lib.hid (below_alloc (Below.refl wr.heap.size wr) (.cells [.int .u64 xhi, .int .u64 xlo, .int .u64 xid, .int .u64 xpar, .slice A4 xlk.length c4, .string xsv, .string xop, .int .i64 xkd, .int .i64 xst, .int .i64 xs0, .int .i64 xs1, .slice A11 xla.length c11, .slice A12 xle.length c12].toArray 41))
      have HTA := Lib.hid (HT1.out.below HAL.out)
      obtain ⟨u4, F4, he, hS, hC, hF, hu⟩ := puts_any HTA.out.sb hP
      rw [HFT.out] at he hu
      have HSn := Lib.hid (show StoreAt w4 w.heap.size sb F4 (putAll nmS ordS [] (M ++ [⟨⟨xhi, xlo⟩, xid, xpar, xlk, xsv, xop, xkd, xst, xs0, xs1, xla, xle⟩])) by
        unfold after at hS
        rw [if_pos HFT.out] at hS
        rw [putAll_snoc]
        exact hS)
      subst he
      obtain ⟨hx0, _⟩ | ⟨_, out, rfl, _, _⟩ := hu
      · exact absurd rfl hx0
      rw [List.length_singleton]
      have HTB := Lib.hid (HTA.out.other HSn.out hC hF)
      have HWB := Lib.hid (HTA.out.sb.under (HW.out.trans (HAL.out.mono HW.out.size)) hC)
      clear hP hS hC hF HTA HAL HSn HP HT1 HW x0 x1 x2 x3 x4 x5 x6 x7 x8 x9 x10 x11 x12
      go_wp2_with fail
      go_roundw
      case rel => exact ⟨q, rfl, by omega, Lib.hid ⟨F4, _, HTB.out, fun y hy => (List.mem_append.1 hy).elim (HT2.out y) (fun h => by rw [List.mem_singleton] at h; subst h; exact HXM.out), fun r h1 h2 => by
        by_cases hr : r = q
        · subst hr
          rw [HPP.out, hxe.out]
          exact List.mem_append_right _ (List.mem_singleton.2 rfl)
        · exact List.mem_append_left _ (HT3.out r (by omega) h2)⟩, HWB⟩
      case measure => simp [Lib.intOf]
end Go.Proofs.YthdkgilpnkabmaaGreatDoor.Pr
