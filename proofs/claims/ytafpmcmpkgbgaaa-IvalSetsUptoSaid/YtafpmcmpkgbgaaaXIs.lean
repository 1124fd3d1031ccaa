/- The walk of IvalSets: all its answers are true. -/
import Derived.Test.YtafpmcmpkgbgaaaXRu
import Derived.Outline
import Derived.IntWalk
namespace Go.Proofs.Ytafpmcmpkgbgaaa.Pr
open Go.RowKit Go.Proofs.YtafpmcmpkgbgaaaW.PrintWords Go.Proofs.YtafpmcmpkgbgaaaW.PrintLast Go.Proofs.YtafpmcmpkgbgaaaW.PrintMore
open Go.Lib
set_option linter.unusedVariables false
set_option linter.unusedSimpArgs false
/-- Two rows of the call's own, apart, over what came in. -/
def St (w : World) (vx : Value) (xs : List S23) (vy : Value) (ys : List S23) (W : World) : Prop :=
  Kd.R k23 23 W w.heap.size (fun k => some k = vx.ownBlock) vx xs ∧ Kd.R k23 23 W w.heap.size (fun k => some k = vy.ownBlock) vy ys ∧ Below w.heap.size w W ∧ ∀ k, some k = vx.ownBlock → some k ≠ vy.ownBlock
theorem St.below {w W W' : World} {vx vy : Value} {xs ys : List S23} (h : St w vx xs vy ys W) (hb : Below W.heap.size W W') : St w vx xs vy ys W' :=
  ⟨Kd.R_below h.1 hb, Kd.R_below h.2.1 hb, h.2.2.1.trans (hb.mono h.2.2.1.size), h.2.2.2⟩
theorem view23 {W : World} {b n c : Nat} {ok : Nat → Prop} {A : Option Addr} {xs l t : List S23} (hx : xs = l ++ t) (h : Kd.R k23 23 W b ok (.slice A n c) xs) : Kd.C k23 W A l.length l ∧ l.length ≤ c := by
  subst hx
  have h2 := Kd.R_take (m := l.length) h (by simp)
  rw [List.take_left] at h2
  obtain ⟨_, h3, h4⟩ := Kd.R_reads' h2
  exact ⟨h4, h3⟩
theorem kept_run {w : World} {A : Option Addr} {c : Nat} {vx : Value} {xs l : List S23} {W : World} (hx : xs = l ++ pad4) (hB : Below w.heap.size w W) (hR : Kd.R k23 23 W w.heap.size (fun k => some k = vx.ownBlock) vx xs) (hC : Kd.C k23 w A l.length l) (hc : l.length ≤ c) (hl : l.length ≤ 4194304) (hv : ∀ k, some k = vx.ownBlock → w.heap.size ≤ k) :
    Calls Try.prog 33 #[vx, .slice A l.length c] W fun e W' => e = .returned (.bool true) ∧ Kd.R k23 23 W' w.heap.size (fun k => some k = vx.ownBlock) vx (List.replicate (l.length + 4) markS) ∧ Below w.heap.size w W' ∧ Kept W W' (fun k => some k = vx.ownBlock) := by
  subst hx
  refine (spoorlaw06_kept.calls (l.length + 10) (fun k => some k = vx.ownBlock) vx (l ++ pad4) A c l true (List.replicate (l.length + 4) markS) w W hB hR (Kd.C_kept_came (Kd.heap_iso _ (Kd.heap_pair (Kd.heap_int _) (Kd.heap_int _))) hC hB hv) hc (kept_eq l hl)).mono ?_
  rintro e W' ⟨he, hR', hB', hK⟩
  exact ⟨he, Kd.R_tight rfl hR', hB', hK⟩
theorem rep_split (n : Nat) : List.replicate (n + 4) markS = List.replicate n markS ++ List.replicate 4 markS := by rw [List.replicate_append_replicate]
theorem in64_rep (n : Nat) : In64 (List.replicate n markS) := by
  intro x hx
  obtain ⟨_, rfl⟩ := List.mem_replicate.1 hx
  decide
def SetsPost (w : World) (e : Ending) (w' : World) : Prop := e = .returned (.bool true) ∧ Below w.heap.size w w'
set_option maxHeartbeats 2000000 in
set_option maxRecDepth 100000 in
theorem sets_run (A0 : Option Addr) (c0 : Nat) (l0 : List S23) (A1 : Option Addr) (c1 : Nat) (l1 : List S23) (m : Int) (w : World) (h0 : Kd.C k23 w A0 l0.length l0) (hc0 : l0.length ≤ c0) (h1 : Kd.C k23 w A1 l1.length l1) (hc1 : l1.length ≤ c1)
    (hl0 : l0.length ≤ 1048576) (hl1 : l1.length ≤ 1048576) (i0 : In64 l0) (i1 : In64 l1) :
    Calls Try.prog 9 #[.slice A0 l0.length c0, .slice A1 l1.length c1, .int .i64 m] w fun e w' => SetsPost w e w' := by
  have H0 := Lib.hid h0
  have H1 := Lib.hid h1
  have I0 := Lib.hid i0
  have I1 := Lib.hid i1
  clear h0 h1 i0 i1
  obtain ⟨i00, hi0, _, hsz, _⟩ := info_parts infoS23
  go_enter Try.func9, Try.ntmps9
  go_wp2_with fail
  refine alive_run.mono ?_
  rintro e wa ⟨rfl, HBa⟩
  go_wp2_with fail
  refine (spared_run A0 c0 l0 wa (Kd.C_below H0.out HBa.out) hc0 (by omega)).mono ?_
  rintro e wb ⟨vx, rfl, hRx, hBx⟩
  obtain ⟨Ax, cx, ex, hcx0, _⟩ := Kd.R_reads hRx
  subst ex
  obtain ⟨xs, hxs⟩ : ∃ xs, xs = l0 ++ pad4 := ⟨_, rfl⟩
  rw [← hxs] at hRx hcx0 ⊢
  have hB1 := HBa.out.trans (hBx.mono HBa.out.size)
  have HRx := Lib.hid (Kd.R_tight rfl (Kd.R_lower hRx HBa.out.size))
  have HBx := Lib.hid hB1
  have HXx := Lib.hid hRx
  have hxl : l0.length ≤ xs.length := by rw [hxs]; simp
  have HXS := Lib.hid hxs
  clear hRx hBx hB1 HBa hxs
  go_wp2_with fail
  refine (spared_run A1 c1 l1 wb (Kd.C_below H1.out HBx.out) hc1 (by omega)).mono ?_
  rintro e W0 ⟨vy, rfl, hRy, hBy⟩
  obtain ⟨Ay, cy, ey, hcy0, _⟩ := Kd.R_reads hRy
  subst ey
  obtain ⟨ys, hys⟩ : ∃ ys, ys = l1 ++ pad4 := ⟨_, rfl⟩
  rw [← hys] at hRy hcy0 ⊢
  have ST := Lib.hid (show St w (.slice Ax xs.length cx) xs (.slice Ay ys.length cy) ys W0 from
    ⟨Kd.R_below HRx.out hBy, Kd.R_tight rfl (Kd.R_lower hRy HBx.out.size), HBx.out.trans (hBy.mono HBx.out.size), fun k hk e => by have h1 := Kd.R_lt HXx.out k hk.symm; have h2 := Kd.R_base hRy k e.symm; omega⟩)
  clear hRy hBy HRx HBx HXx
  have hvx : ∀ k, some k = (Value.slice Ax xs.length cx).ownBlock → w.heap.size ≤ k := fun k hk => Kd.R_base ST.out.1 k hk.symm
  have hvy : ∀ k, some k = (Value.slice Ay ys.length cy).ownBlock → w.heap.size ≤ k := fun k hk => Kd.R_base ST.out.2.1 k hk.symm
  have HVX := Lib.hid hvx
  have HVY := Lib.hid hvy
  clear hvx hvy
  have HP := Lib.hid (fun (W : World) (h : St w (.slice Ax xs.length cx) xs (.slice Ay ys.length cy) ys W) => view23 HXS.out h.1)
  have HQ := Lib.hid (fun (W : World) (h : St w (.slice Ax xs.length cx) xs (.slice Ay ys.length cy) ys W) => view23 hys h.2.1)
  have hcx := (HP.out _ ST.out).2
  have hcy := (HQ.out _ ST.out).2
  have hyl : l1.length ≤ ys.length := by rw [hys]; simp
  have HYS := Lib.hid hys
  clear hys
  have cutx := cut_to (P := Try.prog) 29 23 .i64 Try.underlying29 hi0 Ax xs.length cx (l0.length : Int) (by omega) (by omega) hcx0
  have cuty := cut_to (P := Try.prog) 29 23 .i64 Try.underlying29 hi0 Ay ys.length cy (l1.length : Int) (by omega) (by omega) hcy0
  simp only [Int.toNat_natCast] at cutx cuty
  go_wp2_with fail
  refine (normal_run (HP.out _ ST.out).1 hcx (by omega)).mono ?_
  rintro e W1 ⟨An, cn, rfl, hcn, HCn, HB1⟩
  have ST := Lib.hid (ST.out.below HB1.out)
  clear HB1
  go_wp2_with fail
  refine (refNormal_run (Kd.C_below H0.out ST.out.2.2.1) hc0 (by omega)).mono ?_
  rintro e W2 ⟨Am, cm, rfl, hcm, HCm, HB2⟩
  have ST := Lib.hid (ST.out.below HB2.out)
  have HCn := Lib.hid (Kd.C_below HCn.out HB2.out)
  clear HB2
  go_wp2_with fail
  refine (same_run HCn.out hcn HCm.out hcm (by have := normal_len l0; omega)).mono ?_
  rintro e W3 ⟨rfl, HB3⟩
  have ST := Lib.hid (ST.out.below HB3.out)
  clear HB3 HCn HCm
  go_wp2_with fail
  refine (measure_run (HP.out _ ST.out).1 hcx (by omega) I0.out).mono ?_
  rintro e W4 ⟨rfl, HB4⟩
  have ST := Lib.hid (ST.out.below HB4.out)
  clear HB4 
  go_wp2_with fail
  refine (refMeasure_run (Kd.C_below H0.out ST.out.2.2.1) hc0 (by omega) I0.out).mono ?_
  rintro e W5 ⟨rfl, HB5⟩
  have ST := Lib.hid (ST.out.below HB5.out)
  clear HB5 
  go_wp2_with fail
  refine (meet_run (HP.out _ ST.out).1 hcx (HQ.out _ ST.out).1 hcy hl0 hl1).mono ?_
  rintro e W6 ⟨An, cn, rfl, hcn, HCn, HB6⟩
  have ST := Lib.hid (ST.out.below HB6.out)
  clear HB6
  go_wp2_with fail
  refine (refMeet_run (Kd.C_below H0.out ST.out.2.2.1) hc0 (Kd.C_below H1.out ST.out.2.2.1) hc1 hl0 hl1).mono ?_
  rintro e W7 ⟨Am, cm, rfl, hcm, HCm, HB7⟩
  have ST := Lib.hid (ST.out.below HB7.out)
  have HCn := Lib.hid (Kd.C_below HCn.out HB7.out)
  clear HB7
  go_wp2_with fail
  refine (same_run HCn.out hcn HCm.out hcm (by have := meet_len l0 l1; omega)).mono ?_
  rintro e W8 ⟨rfl, HB8⟩
  have ST := Lib.hid (ST.out.below HB8.out)
  clear HB8 HCn HCm
  go_wp2_with fail
  refine (minus_run (HP.out _ ST.out).1 hcx (HQ.out _ ST.out).1 hcy hl0 hl1).mono ?_
  rintro e W9 ⟨An, cn, rfl, hcn, HCn, HB9⟩
  have ST := Lib.hid (ST.out.below HB9.out)
  clear HB9
  go_wp2_with fail
  refine (refMinus_run (Kd.C_below H0.out ST.out.2.2.1) hc0 (Kd.C_below H1.out ST.out.2.2.1) hc1 hl0 hl1).mono ?_
  rintro e W10 ⟨Am, cm, rfl, hcm, HCm, HB10⟩
  have ST := Lib.hid (ST.out.below HB10.out)
  have HCn := Lib.hid (Kd.C_below HCn.out HB10.out)
  clear HB10
  go_wp2_with fail
  refine (same_run HCn.out hcn HCm.out hcm (by have := minus_len l0 l1; omega)).mono ?_
  rintro e W11 ⟨rfl, HB11⟩
  have ST := Lib.hid (ST.out.below HB11.out)
  clear HB11 HCn HCm
  go_wp2_with fail
  refine (has_run (HP.out _ ST.out).1 hcx ).mono ?_
  rintro e W12 ⟨rfl, HB12⟩
  have ST := Lib.hid (ST.out.below HB12.out)
  clear HB12 
  go_wp2_with fail
  refine (refHas_run (Kd.C_below H0.out ST.out.2.2.1) hc0 (by omega)).mono ?_
  rintro e W13 ⟨rfl, HB13⟩
  have ST := Lib.hid (ST.out.below HB13.out)
  clear HB13 
  go_wp2_with fail
  refine (measure_run (HQ.out _ ST.out).1 hcy (by omega) I1.out).mono ?_
  rintro e W14 ⟨rfl, HB14⟩
  have ST := Lib.hid (ST.out.below HB14.out)
  clear HB14 
  go_wp2_with fail
  refine (refMeasure_run (Kd.C_below H1.out ST.out.2.2.1) hc1 (by omega) I1.out).mono ?_
  rintro e W15 ⟨rfl, HB15⟩
  have ST := Lib.hid (ST.out.below HB15.out)
  clear HB15 
  go_wp2_with fail
  refine (kept_run HXS.out ST.out.2.2.1 ST.out.1 H0.out hc0 (by omega) HVX.out).mono ?_
  rintro e V1 ⟨rfl, hR1, hB1, hK1⟩
  have ST1 := Lib.hid (show St w (.slice Ax xs.length cx) (List.replicate (l0.length + 4) markS) (.slice Ay ys.length cy) ys V1 from
    ⟨hR1, Kd.R_kept ST.out.2.1 hK1 (fun k hk hx => ST.out.2.2.2 k hx hk), hB1, ST.out.2.2.2⟩)
  clear hR1 hB1 hK1 ST
  go_wp2_with fail
  refine (kept_run HYS.out ST1.out.2.2.1 ST1.out.2.1 H1.out hc1 (by omega) HVY.out).mono ?_
  rintro e V2 ⟨rfl, hR2, hB2, hK2⟩
  have ST := Lib.hid (show St w (.slice Ax xs.length cx) (List.replicate (l0.length + 4) markS) (.slice Ay ys.length cy) (List.replicate (l1.length + 4) markS) V2 from
    ⟨Kd.R_kept ST1.out.1 hK2 (fun k hk hy => ST1.out.2.2.2 k hk hy), hR2, hB2, ST1.out.2.2.2⟩)
  clear hR2 hB2 hK2 ST1 HP HQ
  obtain ⟨l2, hl2⟩ : ∃ l, l = List.replicate l0.length markS := ⟨_, rfl⟩
  obtain ⟨l3, hl3⟩ : ∃ l, l = List.replicate l1.length markS := ⟨_, rfl⟩
  have I2 := Lib.hid (show In64 l2 by rw [hl2]; exact in64_rep _)
  have I3 := Lib.hid (show In64 l3 by rw [hl3]; exact in64_rep _)
  have e2 : l0.length = l2.length := by rw [hl2, List.length_replicate]
  have e3 : l1.length = l3.length := by rw [hl3, List.length_replicate]
  have HP := Lib.hid (fun (W : World) (h : St w (.slice Ax xs.length cx) (List.replicate (l0.length + 4) markS) (.slice Ay ys.length cy) (List.replicate (l1.length + 4) markS) W) => view23 (l := l2) (t := List.replicate 4 markS) (by rw [hl2]; exact rep_split _) h.1)
  have HQ := Lib.hid (fun (W : World) (h : St w (.slice Ax xs.length cx) (List.replicate (l0.length + 4) markS) (.slice Ay ys.length cy) (List.replicate (l1.length + 4) markS) W) => view23 (l := l3) (t := List.replicate 4 markS) (by rw [hl3]; exact rep_split _) h.2.1)
  clear hl2 hl3
  replace hcx := (HP.out _ ST.out).2
  replace hcy := (HQ.out _ ST.out).2
  have g2 : l2.length ≤ 1048576 := by omega
  have g3 : l3.length ≤ 1048576 := by omega
  go_wp2_with fail
  try rw [e2]
  try rw [e3]
  refine (normal_run (HP.out _ ST.out).1 hcx (by omega)).mono ?_
  rintro e W16 ⟨An, cn, rfl, hcn, HCn, HB16⟩
  have ST := Lib.hid (ST.out.below HB16.out)
  clear HB16
  go_wp2_with fail
  refine (refNormal_run (HP.out _ ST.out).1 hcx (by omega)).mono ?_
  rintro e W17 ⟨Am, cm, rfl, hcm, HCm, HB17⟩
  have ST := Lib.hid (ST.out.below HB17.out)
  have HCn := Lib.hid (Kd.C_below HCn.out HB17.out)
  clear HB17
  go_wp2_with fail
  refine (same_run HCn.out hcn HCm.out hcm (by have := normal_len l2; omega)).mono ?_
  rintro e W18 ⟨rfl, HB18⟩
  have ST := Lib.hid (ST.out.below HB18.out)
  clear HB18 HCn HCm
  go_wp2_with fail
  refine (measure_run (HQ.out _ ST.out).1 hcy (by omega) I3.out).mono ?_
  rintro e W19 ⟨rfl, HB19⟩
  have ST := Lib.hid (ST.out.below HB19.out)
  clear HB19 
  go_wp2_with fail
  refine (refMeasure_run (HQ.out _ ST.out).1 hcy (by omega) I3.out).mono ?_
  rintro e W20 ⟨rfl, HB20⟩
  have ST := Lib.hid (ST.out.below HB20.out)
  clear HB20 
  go_wp2_with fail
  refine (minus_run (HP.out _ ST.out).1 hcx (HQ.out _ ST.out).1 hcy g2 g3).mono ?_
  rintro e W21 ⟨An, cn, rfl, hcn, HCn, HB21⟩
  have ST := Lib.hid (ST.out.below HB21.out)
  clear HB21
  go_wp2_with fail
  refine (refMinus_run (HP.out _ ST.out).1 hcx (HQ.out _ ST.out).1 hcy g2 g3).mono ?_
  rintro e W22 ⟨Am, cm, rfl, hcm, HCm, HB22⟩
  have ST := Lib.hid (ST.out.below HB22.out)
  have HCn := Lib.hid (Kd.C_below HCn.out HB22.out)
  clear HB22
  go_wp2_with fail
  refine (same_run HCn.out hcn HCm.out hcm (by have := minus_len l2 l3; omega)).mono ?_
  rintro e W23 ⟨rfl, HB23⟩
  have ST := Lib.hid (ST.out.below HB23.out)
  clear HB23 HCn HCm
  go_wp2_with fail
  go_ret
  exact ⟨rfl, ST.out.2.2.1⟩
open Classical in
noncomputable def spoorlaw06_IvalSets.f (l0 l1 : List S23) (a2 : Int) : Option Bool := if l0.length ≤ 1048576 ∧ l1.length ≤ 1048576 ∧ In64 l0 ∧ In64 l1 then some true else none
theorem spoorlaw06_IvalSets.calls (A0 : Option Addr) (c0 : Nat) (l0 : List S23) (A1 : Option Addr) (c1 : Nat) (l1 : List S23) (a2 : Int) (r : Bool) (w : World) (hr0 : Kd.C k23 w A0 l0.length l0) (hc0 : l0.length ≤ c0) (hr1 : Kd.C k23 w A1 l1.length l1) (hc1 : l1.length ≤ c1) (h : spoorlaw06_IvalSets.f l0 l1 a2 = some r) :
    Calls Try.prog 9 #[.slice A0 l0.length c0, .slice A1 l1.length c1, .int .i64 a2] w fun e w' => e = .returned (.bool r) ∧ Below w.heap.size w w' := by
  unfold spoorlaw06_IvalSets.f at h
  split at h
  · rename_i hl
    obtain rfl := Option.some.inj h
    exact sets_run A0 c0 l0 A1 c1 l1 a2 w hr0 hc0 hr1 hc1 hl.1 hl.2.1 hl.2.2.1 hl.2.2.2
  · cases h
end Go.Proofs.Ytafpmcmpkgbgaaa.Pr
