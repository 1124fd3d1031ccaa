/- StoreChanges: the walk (UNDER WAY: as far as the first Put). -/
import Derived.Test.YthdkgilpnkabmaaGreatDoorBs
namespace Go.Proofs.YthdkgilpnkabmaaGreatDoor.Pr
open Go Go.RowKit Go.Proofs.YthdkgilpnkabmaaGreatDoorW.PrintWords Go.Proofs.YthdkgilpnkabmaaGreatDoorW.PrintMore
open Rm Ps
set_option linter.unusedVariables false
set_option linter.unusedSimpArgs false
theorem cnt_step {cs : List Int} {i : Nat} (h : i < cs.length) : (cs.take (i + 1)).countP (fun c => c == 0) = (cs.take i).countP (fun c => c == 0) + (if cs[i] = 0 then 1 else 0) := by
  rw [List.take_succ_eq_append_getElem h, List.countP_append]
  by_cases e : cs[i] = 0 <;> simp [e]
theorem int_cell {w : World} {out : Nat} {cs : List Int} {t : Nat} (h : w.heap[out]? = some (.cells (cs.map (Value.int .i64)).toArray t (0, 0))) {i : Nat} (hi : i < cs.length) : w.cell? ⟨out, i, none⟩ = some (.int .i64 cs[i]) := by
  rw [cell_of_row _ _ _ _ _ _ h]
  simp [hi]
/-- What a Put of what was put just before leaves. -/
theorem after_again {chk : Sp → Int} {L m : List Sp} (hn : (L.map nmS).Nodup) (h : fitsF nmS chk L m = 0) (hl : (putAll nmS ordS L m).length ≤ 100000) :
    fitsF nmS chk (putAll nmS ordS L m) m = 0 ∧ after chk (putAll nmS ordS L m) m = putAll nmS ordS L m ∧ changes nmS ordS (putAll nmS ordS L m) m = m.map (fun _ => 2) := by
  have h1 := again_fits cmp3_S hn h hl
  obtain ⟨h2, h3⟩ := kept_all m (again_kept cmp3_S (m := m) hn)
  exact ⟨h1, by unfold after; rw [if_pos h1]; exact h2, h3⟩
set_option maxHeartbeats 8000000 in
set_option maxRecDepth 100000 in
theorem changes_run (w : World) (A B : Option Addr) (c d : Nat) (l m : List Sp) (hl : Kd.C kSp w A l.length l) (hm : Kd.C kSp w B m.length m) (ol : ∀ x ∈ l, okSp x) (om : ∀ x ∈ m, okSp x) (hln : l.length ≤ 35184372087808) (hmn : m.length ≤ 35184372087808) (chk : Sp → Int) (hCl : Checks w chk l) (hCm : Checks w chk m) :
    Calls Tryz.prog 4 #[.slice A l.length c, .slice B m.length d] w (BPost w true) := by
  have HL := Lib.hid hl
  have HM := Lib.hid hm
  have OL := Lib.hid ol
  have OM := Lib.hid om
  have CL := Lib.hid hCl
  have CM := Lib.hid hCm
  clear hl hm ol om hCl hCm
  go_enter Tryz.func4, Tryz.ntmps4
  go_wp2_with fail
  refine (alive_run w).mono ?_
  rintro e v0 ⟨rfl, hb0⟩
  have HW0 := Lib.hid hb0
  clear hb0
  go_wp2_with fail
  refine (new_run v0 w.heap.size HW0.out.size).mono ?_
  rintro e v1 ⟨s, F0, rfl, hS, hb, hF⟩
  have HS1 := Lib.hid hS
  have HW1 := Lib.hid (HW0.out.trans (hb.mono HW0.out.size))
  clear hS hb hF HW0
  go_wp2_with fail
  refine (puts_run v1 w.heap.size s F0 [] HS1.out HW1.out.size A c l (Steady.elder HL.out HW1.out (fun j hj => (HS1.out.ours j hj).1) (by omega)) OL.out hln chk (CL.out.below HW1.out)).mono ?_
  rintro e v2 hP
  obtain ⟨u2, F2, rfl, hS2, hC2, _, _⟩ := puts_any HS1.out hP
  have HS2 := Lib.hid hS2
  have HW2 := Lib.hid (HS1.out.under HW1.out hC2)
  have HN0 := Lib.hid HS2.out.nodup
  generalize after chk [] l = L0 at *
  obtain ⟨r, hr⟩ : ∃ r, Hid (fitsF nmS chk L0 m = r) := ⟨_, rfl⟩
  clear hP hS2 hC2 HS1 HW1
  go_wp2_with fail
  refine (count_run v2 w.heap.size s F2 _ HS2.out).mono ?_
  rintro e v3 ⟨rfl, hw⟩
  subst hw
  go_wp2_with fail
  refine (told_run v3 w.heap.size s F2 _ HS2.out).mono ?_
  rintro e v4 ⟨vr, rs, rfl, r1, r2, r3, r4⟩
  have HS4 := Lib.hid (HS2.out.below r4)
  have HW4 := Lib.hid (HW2.out.trans (r4.mono HW2.out.size))
  have HF4 := Lib.hid (show ∀ k, F2 k → k < v3.heap.size from fun k hk => (HS2.out.ours k hk).2.1)
  have hrl : rs.length ≤ 100000 := by rw [r1.length_eq]; exact HS2.out.small
  obtain ⟨R, cr, rfl, hst⟩ := own_steady r3 HF4.out (by omega)
  have HST := Lib.hid hst
  have HR := Lib.hid (And.intro r1 r2)
  clear r1 r2 r3 r4 hst HS2 HW2
  go_wp2_with fail
  refine (fits_run v4 w.heap.size s F2 _ HS4.out B d m (Kd.C_below HM.out HW4.out) OM.out (by omega) chk (CM.out.below HW4.out)).mono ?_
  rintro e v5 ⟨rfl, h5⟩
  rw [hr.out]
  have HS5 := Lib.hid (HS4.out.below h5)
  have HW5 := Lib.hid (HW4.out.trans (h5.mono HW4.out.size))
  have HST5 := Lib.hid (HST.out.chg (Chg.of_below h5) (fun _ _ h => h))
  clear h5 HS4 HW4 HST
  go_wp2_with fail
  refine (puts_run v5 w.heap.size s F2 _ HS5.out HW5.out.size B d m (Steady.elder HM.out HW5.out (fun j hj => (HS5.out.ours j hj).1) (by omega)) OM.out hmn chk (CM.out.below HW5.out)).mono ?_
  rintro e v6 hP
  obtain ⟨u6, F6, he6, hS6, hC6, hF6, hu6⟩ := puts_any HS5.out hP
  rw [hr.out] at he6 hu6
  subst he6
  have HS6 := Lib.hid hS6
  have HW6 := Lib.hid (HS5.out.under HW5.out hC6)
  have HRD := Lib.hid (HST5.out.reads hC6)
  have HU := Lib.hid hu6
  clear hP hS6 hC6 hu6 hF6 HS5 HW5 HST5
  have hrr : (r != r) = false := by simp
  by_cases h0 : r = 0
  · subst h0
    obtain ⟨_, hx⟩ | ⟨_, out, rfl, ho1, ho2⟩ := HU.out
    · exact absurd rfl ‹_›
    obtain ⟨cs, hcs⟩ : ∃ cs, Hid (changes nmS ordS L0 m = cs) := ⟨_, rfl⟩
    rw [hcs.out] at ho2
    have HC6 := Lib.hid ho2
    have HCL := Lib.hid (show cs.length = m.length by rw [← hcs.out]; exact changes_len _ _)
    have hol : out < v6.heap.size := blk_lt ho2
    have HS6' := Lib.hid (show StoreAt v6 w.heap.size s F6 (putAll nmS ordS L0 m) by
      have := HS6.out
      unfold after at this
      rwa [if_pos hr.out] at this)
    have HAG := Lib.hid (after_again HN0.out hr.out HS6'.out.small)
    have HLN := Lib.hid (show (putAll nmS ordS L0 m).length = L0.length + cs.countP (fun c => c == 0) by rw [← hcs.out]; exact count_all m L0)
    clear ho1 ho2 HU hrr HS6 HRD hcs
    generalize putAll nmS ordS L0 m = L1 at *
    go_wp2_with fail
    go_loopw [12, 13] (fun v12 v13 wr => ∃ i n : Nat, v12 = .int .i64 n ∧ v13 = .int .i64 i ∧ i ≤ m.length ∧ n ≤ i ∧ Hid ((cs.take i).countP (fun c => c == 0) = n) ∧ Hid (Below v6.heap.size v6 wr)) (fun _ v13 _ => m.length - (intOf v13).toNat)
    case atStart => exact ⟨0, 0, rfl, rfl, Nat.zero_le _, Nat.le_refl _, Lib.hid rfl, Lib.hid (Below.refl _ _)⟩
    case round =>
      obtain ⟨i, n, rfl, rfl, hi, hni, HN, HB⟩ := hrel
      by_cases hlt : i < m.length
      · have hlk : (i : Int) < (m.length : Int) := by omega
        have hcl : i < cs.length := by rw [HCL.out]; exact hlt
        have s0 := int_cell (blk_below HC6.out HB.out) hcl
        have HT := Lib.hid (cnt_step hcl)
        obtain ⟨ci, hci⟩ : ∃ ci, cs[i] = ci := ⟨_, rfl⟩
        rw [hci] at s0 HT
        clear hci hcl
        by_cases e0 : ci = 0
        · subst e0
          have HT2 := Lib.hid (show (cs.take (i + 1)).countP (fun c => c == 0) = n + 1 by rw [HT.out, HN.out]; rfl)
          clear HT
          go_wp2_with fail
          go_roundw
          case rel => exact ⟨i + 1, n + 1, by go_num, by go_num, by omega, by omega, HT2, HB⟩
          case measure => simp [intOf]; omega
        · have e1 : (ci == 0) = false := by simpa using e0
          have HT2 := Lib.hid (show (cs.take (i + 1)).countP (fun c => c == 0) = n by rw [HT.out, HN.out, if_neg e0]; rfl)
          clear HT
          go_wp2_with fail
          go_roundw
          case rel => exact ⟨i + 1, n, rfl, by go_num, by omega, by omega, HT2, HB⟩
          case measure => simp [intOf]; omega
      · obtain rfl : i = m.length := by omega
        obtain ⟨wo, hwo⟩ : ∃ wo : World, wr = wo := ⟨_, rfl⟩
        rw [hwo] at HB ⊢
        clear hwo wr
        have HCN := Lib.hid (show L1.length = L0.length + n by rw [HLN.out, ← HN.out, ← HCL.out, List.take_length])
        have HSo := Lib.hid (HS6'.out.below HB.out)
        have HWo := Lib.hid (HW6.out.trans (HB.out.mono HW6.out.size))
        clear HN HLN HC6 HB HS6' HW6
        go_wp2_with fail
        refine (told_run wo w.heap.size s F6 _ HSo.out).mono ?_
        rintro e v8 ⟨vn, ns, rfl, n1, n2, n3, n4⟩
        have HS8 := Lib.hid (HSo.out.below n4)
        have HW8 := Lib.hid (HWo.out.trans (n4.mono HWo.out.size))
        have hnl : ns.length ≤ 100000 := by rw [n1.length_eq]; exact HSo.out.small
        obtain ⟨N, cn, rfl, hst⟩ := own_steady n3 (show ∀ k, F6 k → k < wo.heap.size from fun k hk => (HSo.out.ours k hk).2.1) (by omega)
        have HSN := Lib.hid hst
        have HNP := Lib.hid (And.intro n1 n2)
        clear n1 n2 n3 n4 hst HSo HWo
        go_wp2_with fail
        refine (puts_run v8 w.heap.size s F6 _ HS8.out HW8.out.size B d m (Steady.elder HM.out HW8.out (fun j hj => (HS8.out.ours j hj).1) (by omega)) OM.out hmn chk (CM.out.below HW8.out)).mono ?_
        rintro e v9 hP
        obtain ⟨u9, F9, he9, hS9, hC9, hF9, hu9⟩ := puts_any HS8.out hP
        rw [HAG.out.1] at he9 hu9
        rw [HAG.out.2.1] at hS9
        rw [HAG.out.2.2] at hu9
        subst he9
        obtain ⟨hx, _⟩ | ⟨_, o9, rfl, q1, q2⟩ := hu9
        · exact absurd rfl hx
        have HS9 := Lib.hid hS9
        have HW9 := Lib.hid (HS8.out.under HW8.out hC9)
        have HRN := Lib.hid (HSN.out.reads hC9)
        have HC9 := Lib.hid q2
        have hol9 : o9 < v9.heap.size := blk_lt q2
        clear hP hS9 hC9 hF9 q1 q2 HS8 HW8 HSN
        go_wp2_with fail
        go_loopw [17] (fun v17 wr => ∃ i : Nat, v17 = .int .i64 i ∧ i ≤ m.length ∧ Hid (Below v9.heap.size v9 wr)) (fun v17 _ => m.length - (intOf v17).toNat)
        case atStart => exact ⟨0, rfl, Nat.zero_le _, Lib.hid (Below.refl _ _)⟩
        case round =>
          obtain ⟨j, rfl, hj, HB⟩ := hrel
          by_cases hjt : j < m.length
          · have hlk : (j : Int) < (m.length : Int) := by omega
            have s0 := int_cell (blk_below HC9.out HB.out) (i := j) (by simpa using hjt)
            rw [List.getElem_map] at s0
            go_wp2_with fail
            go_roundw
            case rel => exact ⟨j + 1, by go_num, by omega, HB⟩
            case measure => simp [intOf]; omega
          · obtain rfl : j = m.length := by omega
            obtain ⟨wp, hwp⟩ : ∃ wp : World, wr = wp := ⟨_, rfl⟩
            rw [hwp] at HB ⊢
            clear hwp wr
            have HSp := Lib.hid (HS9.out.below HB.out)
            have HWp := Lib.hid (HW9.out.trans (HB.out.mono HW9.out.size))
            have HRp := Lib.hid (Kd.C_below HRN.out HB.out)
            clear HS9 HW9 HRN HB HC9
            go_wp2_with fail
            refine (count_run wp w.heap.size s F9 _ HSp.out).mono ?_
            rintro e v10 ⟨rfl, hw⟩
            subst hw
            obtain ⟨T, hT⟩ : ∃ T : Nat, L1.length = T := ⟨_, rfl⟩
            have hT1 : (L0.length : Int) + (n : Int) = (T : Int) := by have := HCN.out; omega
            have hT2 : T ≤ 100000 := by rw [← hT]; exact HSp.out.small
            rw [hT]
            clear hT
            go_wp2_with fail
            refine (told_run v10 w.heap.size s F9 _ HSp.out).mono ?_
            rintro e v11 ⟨vq, qs, rfl, q1, q2, q3, q4⟩
            have hql : qs.length ≤ 100000 := by rw [q1.length_eq]; exact HSp.out.small
            obtain ⟨Q, cq, rfl, hsq⟩ := own_steady (F := fun _ => False) q3 (fun _ h => h.elim) (by omega)
            have HRQ := Lib.hid (hsq.reads (Chg.refl _ _))
            have HRO := Lib.hid (Kd.C_below HRp.out q4)
            obtain rfl : qs = ns := rising_one q2 HNP.out.2 (q1.trans HNP.out.1.symm)
            have HW11 := Lib.hid (HWp.out.trans (q4.mono HWp.out.size))
            have HOQ := Lib.hid (show ∀ x ∈ qs, okSp x from fun x hx => HSp.out.okS x (HNP.out.1.mem_iff.1 hx))
            clear q1 q2 q3 q4 hsq HRp HWp
            go_wp2_with fail
            refine (same_run v11 Q N cq cn qs qs HRQ.out HRO.out HOQ.out HOQ.out (by omega) (by omega)).mono ?_
            rintro e v12 ⟨rfl, h12⟩
            rw [sameF_refl]
            have HW12 := Lib.hid (HW11.out.trans (h12.mono HW11.out.size))
            clear h12 HRQ HRO HW11
            go_wp2_with fail
            go_ret
            exact ⟨rfl, HW12.out⟩
  · have h0' : (r != 0) = true := by rw [bne_iff_ne]; exact h0
    have HSr := Lib.hid (show StoreAt v6 w.heap.size s F6 L0 by
      have := HS6.out
      unfold after at this
      rwa [if_neg (by rw [hr.out]; exact h0)] at this)
    obtain ⟨_, rfl⟩ | ⟨h1, _⟩ := HU.out
    case inr => exact absurd h1 h0
    clear HU HS6
    go_wp2_with fail
    refine (count_run v6 w.heap.size s F6 _ HSr.out).mono ?_
    rintro e v7 ⟨rfl, hw⟩
    subst hw
    go_wp2_with fail
    refine (told_run v7 w.heap.size s F6 _ HSr.out).mono ?_
    rintro e v8 ⟨vq, qs, rfl, q1, q2, q3, q4⟩
    have hql : qs.length ≤ 100000 := by rw [q1.length_eq]; exact HSr.out.small
    obtain ⟨Q, cq, rfl, hsq⟩ := own_steady (F := fun _ => False) q3 (fun _ h => h.elim) (by omega)
    have HRQ := Lib.hid (hsq.reads (Chg.refl _ _))
    have HRO := Lib.hid (Kd.C_below HRD.out q4)
    obtain rfl : qs = rs := rising_one q2 HR.out.2 (q1.trans HR.out.1.symm)
    have HW8 := Lib.hid (HW6.out.trans (q4.mono HW6.out.size))
    have HOQ := Lib.hid (show ∀ x ∈ qs, okSp x from fun x hx => HSr.out.okS x (HR.out.1.mem_iff.1 hx))
    clear q1 q2 q3 q4 hsq HRD HW6
    go_wp2_with fail
    refine (same_run v8 Q R cq cr qs qs HRQ.out HRO.out HOQ.out HOQ.out (by omega) (by omega)).mono ?_
    rintro e v9 ⟨rfl, h9⟩
    rw [sameF_refl]
    have HW9 := Lib.hid (HW8.out.trans (h9.mono HW8.out.size))
    clear h9 HRQ HRO HW8
    go_wp2_with fail
    go_ret
    exact ⟨rfl, HW9.out⟩
end Go.Proofs.YthdkgilpnkabmaaGreatDoor.Pr
