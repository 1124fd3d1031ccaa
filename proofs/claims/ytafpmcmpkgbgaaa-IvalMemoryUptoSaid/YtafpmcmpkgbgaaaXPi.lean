/- The document's sorted, and its pieces: what they answer. -/
import Derived.Test.YtafpmcmpkgbgaaaMf
import Derived.Test.YtafpmcmpkgbgaaaPr0c
import Derived.Lib.Hide
import Derived.LoopTactic
import Derived.Outline
import Derived.IntWalk
import Derived.Deep.QuietTactic
import Derived.BigQuiet
namespace Go.Proofs.Ytafpmcmpkgbgaaa.Pr
open Go.RowKit Go.Proofs.YtafpmcmpkgbgaaaW.PrintWords Go.Proofs.YtafpmcmpkgbgaaaW.PrintLast Go.Proofs.YtafpmcmpkgbgaaaW.PrintMore
open Go.Lib
set_option linter.unusedVariables false
set_option linter.unusedSimpArgs false
theorem heap65 : Kd.Heap k65 := Kd.heap_iso _ (Kd.heap_pair (Kd.heap_int _) (Kd.heap_pair (Kd.heap_int _) (Kd.heap_int _)))
theorem infoC65 : (Try.prog.info? 65).map (fun i => (i.zero, i.size, i.bytes)) = some (some (.agg #[(.int .i64 0), (.int .i64 0), (.int .i64 0)]), 3, 24) := by kernel_rfl
def leC (x y : S65) : Bool := decide (x.f0 ≤ y.f0)
def mergeC (a b : List S65) : List S65 := List.merge a b leC
def RisC (l : List S65) : Prop := l.Pairwise fun x y => x.f0 ≤ y.f0
theorem mergeC_perm (a b : List S65) : (mergeC a b).Perm (a ++ b) := List.merge_perm_append _
theorem mergeC_ris {a b : List S65} (ha : RisC a) (hb : RisC b) : RisC (mergeC a b) := by
  have h := List.pairwise_merge (le := leC) (by unfold leC; intro a b c h1 h2; simp at *; omega) (by unfold leC; intro a b; simp; omega) a b (ha.imp (fun h => by simpa [leC] using h)) (hb.imp (fun h => by simpa [leC] using h))
  exact h.imp (fun h => by simpa [leC] using h)
theorem mergeC_nil_r (a : List S65) : mergeC a [] = a := by unfold mergeC; cases a <;> simp [List.merge]
theorem mergeC_nil_l (b : List S65) : mergeC [] b = b := by unfold mergeC; cases b <;> simp [List.merge]
theorem mergeC_le (x : S65) (t : List S65) (y : S65) (s : List S65) (h : x.f0 ≤ y.f0) : mergeC (x :: t) (y :: s) = x :: mergeC t (y :: s) := by unfold mergeC; simp [List.merge, leC, h]
theorem mergeC_gt (x : S65) (t : List S65) (y : S65) (s : List S65) (h : ¬ x.f0 ≤ y.f0) : mergeC (x :: t) (y :: s) = y :: mergeC (x :: t) s := by unfold mergeC; simp [List.merge, leC, h]
theorem drop_cons65 (l : List S65) (k : Nat) (h : k < l.length) : l.drop k = rd_T65 l k :: l.drop (k + 1) := by
  rw [List.drop_eq_getElem_cons h]; simp [rd_T65, List.getD, h]
def SortedPost (l : List S65) (w : World) (e : Ending) (w' : World) : Prop :=
  ∃ (A : Option Addr) (c : Nat) (r : List S65), e = .returned (.slice A r.length c) ∧ r.length = l.length ∧ r.length ≤ c ∧ Kd.C k65 w' A r.length r ∧ r.Perm l ∧ RisC r ∧ Below w.heap.size w w'
theorem sorted_small (l : List S65) (A : Option Addr) (c : Nat) (w : World) (hs : l.length < 2) (hc : l.length ≤ c) (hC : Kd.C k65 w A l.length l) :
    Calls Try.prog 52 #[.slice A l.length c] w fun e w' => SortedPost l w e w' := by
  have HC := Lib.hid hC
  clear hC
  have hr : RisC l := by
    match l, hs with
    | [], _ => exact .nil
    | [x], _ => exact List.pairwise_singleton _ _
  have HR := Lib.hid hr
  clear hr
  have hb : decide ((l.length : Int) < 2) = true := decide_eq_true (by omega)
  go_enter Try.func52, Try.ntmps52
  go_wp2_with fail
  go_ret
  exact ⟨A, c, l, rfl, rfl, hc, Kd.C_below HC.out (by repeat (first | exact Below.refl _ _ | apply pw_below_drewN | apply below_drew1)), .refl _, HR.out, by repeat (first | exact Below.refl _ _ | apply pw_below_drewN | apply below_drew1)⟩
set_option maxHeartbeats 4000000 in
theorem sorted_run : ∀ (n : Nat) (l : List S65) (A : Option Addr) (c : Nat) (w : World), l.length ≤ n → l.length < 4294967296 → l.length ≤ c → Kd.C k65 w A l.length l →
    Calls Try.prog 52 #[.slice A l.length c] w fun e w' => SortedPost l w e w' := by
  intro n
  induction n with
  | zero => intro l A c w hn _ hc hC; exact sorted_small l A c w (by omega) hc hC
  | succ n ih =>
    intro l A c w hn hm hc hC
    by_cases hs : l.length < 2
    · exact sorted_small l A c w hs hc hC
    obtain ⟨h, hh⟩ : ∃ h, h = l.length / 2 := ⟨_, rfl⟩
    have hlh : h < l.length := by omega
    have hn2 : l.length - h ≤ n ∧ h ≤ n := by omega
    obtain ⟨i0, hi0, _, hsz, _⟩ := info_parts infoC65
    have hq : Int.tdiv (l.length : Int) 2 = (h : Int) := by rw [Int.tdiv_eq_ediv_of_nonneg (by omega)]; omega
    have h1 : 1 ≤ h := by omega
    have hcut1 := cut_to (P := Try.prog) 60 65 .i64 Try.underlying60 hi0 A l.length c (h : Int) (by omega) (by omega) hc
    obtain ⟨A2, hA2⟩ : ∃ A2, (if c = h then A else A.map (·.add (h * k65.sz))) = A2 := ⟨_, rfl⟩
    have hcut2 : ∀ W, (Instr.slice 60 (.slice A l.length c) (some (.int .i64 (h : Int))) none none).run Try.prog W = .ok (.slice A2 (l.length - h) (c - h)) W := by
      intro W
      have := cut_from (P := Try.prog) 60 65 .i64 Try.underlying60 hi0 3 hsz A l.length c (h : Int) (by omega) (by omega) W
      rw [this, ← hA2]; simp only [Int.toNat_natCast]; rfl
    have HC2 := Kd.C_drop (m := h) hC (by omega) hc
    rw [hA2] at HC2
    replace HC2 := Lib.hid HC2
    have HC1 := Lib.hid (Kd.C_take (m := h) hC (by omega))
    obtain ⟨ya, hya⟩ : ∃ y, y = l.take h := ⟨_, rfl⟩
    obtain ⟨yb, hyb⟩ : ∃ y, y = l.drop h := ⟨_, rfl⟩
    have la : ya.length = h := by rw [hya, List.length_take]; omega
    have lb : yb.length = l.length - h := by rw [hyb, List.length_drop]
    have hab : ya ++ yb = l := by rw [hya, hyb, List.take_append_drop]
    rw [← hya] at HC1
    rw [← hyb] at HC2
    have K1 : ∀ W, Kd.C k65 W A ya.length ya → Calls Try.prog 52 #[.slice A h c] W fun e w' => SortedPost ya W e w' := by
      intro W hW
      have := ih ya A c W (by omega) (by omega) (by omega) hW
      rwa [la] at this
    have K2 : ∀ W, Kd.C k65 W A2 yb.length yb → Calls Try.prog 52 #[.slice A2 (l.length - h) (c - h)] W fun e w' => SortedPost yb W e w' := by
      intro W hW
      have := ih yb A2 (c - h) W (by omega) (by omega) (by omega) hW
      rwa [lb] at this
    have HK1 := Lib.hid K1
    have HK2 := Lib.hid K2
    have LA := Lib.hid la
    have LB := Lib.hid lb
    have HAB := Lib.hid hab
    clear hC ih hi0 hsz hA2 hya hyb K1 K2 la lb hab hh
    have hb : decide ((l.length : Int) < 2) = false := decide_eq_false (by omega)
    go_enter Try.func52, Try.ntmps52
    go_wp2_with fail
    refine (HK1.out _ HC1.out).mono ?_
    rintro e w1 ⟨Aa, ca, a, rfl, hla, hca, hCa, hpa, hra, hBa⟩
    have HCa := Lib.hid hCa
    have HPa := Lib.hid hpa
    have HRa := Lib.hid hra
    have HBa := Lib.hid hBa
    have LAa := Lib.hid hla
    clear hCa hpa hra hBa hla
    go_wp2_with fail
    refine (HK2.out _ (Kd.C_below HC2.out HBa.out)).mono ?_
    rintro e w2 ⟨Ab, cb, b, rfl, hlb, hcb, hCb, hpb, hrb, hBb⟩
    have HCb := Lib.hid hCb
    have HPb := Lib.hid hpb
    have HRb := Lib.hid hrb
    have HB2 := Lib.hid (HBa.out.trans (hBb.mono HBa.out.size))
    have HCa2 := Lib.hid (Kd.C_below HCa.out hBb)
    have LBb := Lib.hid hlb
    clear hCb hpb hrb hBb hlb HBa HCa
    have hsum : a.length + b.length = l.length := by have := LA.out; have := LB.out; have := LAa.out; have := LBb.out; omega
    clear HK1 HK2 HC1 HC2 hcut1 hcut2 hq
    go_wp2_with fail
    go_loopw [5, 6, 7] (fun v5 v6 v7 wr => ∃ (i k : Nat) (out : List S65), v6 = .int .i64 i ∧ v7 = .int .i64 k ∧ i ≤ a.length ∧ k ≤ b.length ∧ Hid (out.length = i + k) ∧
      Hid (Kd.R k65 65 wr w2.heap.size (fun _ => True) v5 out) ∧ Hid (Below w2.heap.size w2 wr) ∧ Hid (out ++ mergeC (a.drop i) (b.drop k) = mergeC a b)) (fun _ v6 v7 _ => (a.length - (intOf v6).toNat) + (b.length - (intOf v7).toNat))
    case atStart => exact ⟨0, 0, [], rfl, rfl, Nat.zero_le _, Nat.zero_le _, Lib.hid rfl, Lib.hid (Kd.R_nil _ _ _ _ _), Lib.hid (Below.refl _ _), Lib.hid rfl⟩
    case round =>
      obtain ⟨i, k, out, rfl, rfl, hi, hk, HO, HR, HB, HE⟩ := hrel
      have takeA : ∀ (x : S65), mergeC (a.drop i) (b.drop k) = x :: mergeC (a.drop (i + 1)) (b.drop k) → (out ++ [x]) ++ mergeC (a.drop (i + 1)) (b.drop k) = mergeC a b := by
        intro x h; rw [← HE.out, h]; simp
      have takeB : ∀ (x : S65), mergeC (a.drop i) (b.drop k) = x :: mergeC (a.drop i) (b.drop (k + 1)) → (out ++ [x]) ++ mergeC (a.drop i) (b.drop (k + 1)) = mergeC a b := by
        intro x h; rw [← HE.out, h]; simp
      have HTA := Lib.hid takeA
      have HTB := Lib.hid takeB
      clear takeA takeB
      by_cases hkl : k < b.length
      · obtain ⟨bd, hAb, hy0, hy1, hy2⟩ := at_T65 (Kd.C_below HCb.out HB.out) (k : Int) (by omega) (by omega)
        cases hAb
        simp only [Int.toNat_natCast] at hy0 hy1 hy2
        have HDb := Lib.hid (drop_cons65 b k hkl)
        generalize hyy : rd_T65 b (k : Int) = y at *
        have hk1 : ((k : Int) == (b.length : Int)) = false := beq_eq_false_iff_ne.mpr (by omega)
        have hk2 : decide ((k : Int) < (b.length : Int)) = true := decide_eq_true (by omega)
        have hk3 : (k : Int) < (b.length : Int) := by omega
        by_cases hil : i < a.length
        · obtain ⟨ad, hAa, hx0, hx1, hx2⟩ := at_T65 (Kd.C_below HCa2.out HB.out) (i : Int) (by omega) (by omega)
          cases hAa
          simp only [Int.toNat_natCast] at hx0 hx1 hx2
          have HDa := Lib.hid (drop_cons65 a i hil)
          generalize hxx : rd_T65 a (i : Int) = x at *
          have hi1 : decide ((i : Int) < (a.length : Int)) = true := decide_eq_true (by omega)
          have hi2 : (i : Int) < (a.length : Int) := by omega
          by_cases hle : x.f0 ≤ y.f0
          · have hle1 : decide (x.f0 ≤ y.f0) = true := decide_eq_true hle
            go_wp2_with fail
            go_quiet (fail)
            have HRq := Lib.hid (Kd.R_drewN HR.out nq)
            have HBq := Lib.hid (pw_below_drewN HB.out nq)
            go_wp2_with (at_builtin; refine Kd.R_append k65 (w0 := w2) w2.heap.size rfl (.tmp 57) (.tmp 62) 60 65 (.agg #[(.int .i64 0), (.int .i64 0), (.int .i64 0)]) 24 rfl Try.underlying60 infoC65 rfl (by decide) (by omega) u5 out x [.int .i64 x.f0, .int .i64 x.f1, .int .i64 x.f2] (fun _ => True) (fun _ => False) rfl rfl ?aP (fun _ hk => hk.elim) ?aF ?aO ?aB ?aS ?aL ?_; (case aP => exact k65_mkM _ _ _ x); (case aF => exact fun _ _ => trivial); (case aO => exact HRq.out); (case aB => exact HBq.out); (case aS => exact HBq.out.size); (case aL => have := HO.out; omega); intro v1 w7 hro hb hgw hat; have HR8 := Lib.hid hro; have HB8 := Lib.hid hb; clear hro hb hgw hat)
            go_roundw
            case rel => exact ⟨i + 1, k, out ++ [x], by go_num, rfl, by omega, hk, Lib.hid (by have := HO.out; simp; omega), HR8, HB8, Lib.hid (HTA.out x (by rw [HDa.out, HDb.out]; exact mergeC_le x _ y _ hle))⟩
            case measure => simp [intOf]; omega
          · have hle1 : decide (x.f0 ≤ y.f0) = false := decide_eq_false hle
            go_wp2_with fail
            go_quiet (fail)
            have HRq := Lib.hid (Kd.R_drewN HR.out nq)
            have HBq := Lib.hid (pw_below_drewN HB.out nq)
            go_wp2_with (at_builtin; refine Kd.R_append k65 (w0 := w2) w2.heap.size rfl (.tmp 66) (.tmp 71) 60 65 (.agg #[(.int .i64 0), (.int .i64 0), (.int .i64 0)]) 24 rfl Try.underlying60 infoC65 rfl (by decide) (by omega) u5 out y [.int .i64 y.f0, .int .i64 y.f1, .int .i64 y.f2] (fun _ => True) (fun _ => False) rfl rfl ?aP (fun _ hk => hk.elim) ?aF ?aO ?aB ?aS ?aL ?_; (case aP => exact k65_mkM _ _ _ y); (case aF => exact fun _ _ => trivial); (case aO => exact HRq.out); (case aB => exact HBq.out); (case aS => exact HBq.out.size); (case aL => have := HO.out; omega); intro v1 w7 hro hb hgw hat; have HR8 := Lib.hid hro; have HB8 := Lib.hid hb; clear hro hb hgw hat)
            go_roundw
            case rel => exact ⟨i, k + 1, out ++ [y], rfl, by go_num, hi, by omega, Lib.hid (by have := HO.out; simp; omega), HR8, HB8, Lib.hid (HTB.out y (by rw [HDa.out, HDb.out]; exact mergeC_gt x _ y _ (by omega)))⟩
            case measure => simp [intOf]; omega
        · have hi1 : decide ((i : Int) < (a.length : Int)) = false := decide_eq_false (by omega)
          have HDa := Lib.hid (show a.drop i = [] from List.drop_eq_nil_of_le (by omega))
          go_wp2_with fail
          go_quiet (fail)
          have HRq := Lib.hid (Kd.R_drewN HR.out nq)
          have HBq := Lib.hid (pw_below_drewN HB.out nq)
          go_wp2_with (at_builtin; refine Kd.R_append k65 (w0 := w2) w2.heap.size rfl (.tmp 66) (.tmp 71) 60 65 (.agg #[(.int .i64 0), (.int .i64 0), (.int .i64 0)]) 24 rfl Try.underlying60 infoC65 rfl (by decide) (by omega) u5 out y [.int .i64 y.f0, .int .i64 y.f1, .int .i64 y.f2] (fun _ => True) (fun _ => False) rfl rfl ?aP (fun _ hk => hk.elim) ?aF ?aO ?aB ?aS ?aL ?_; (case aP => exact k65_mkM _ _ _ y); (case aF => exact fun _ _ => trivial); (case aO => exact HRq.out); (case aB => exact HBq.out); (case aS => exact HBq.out.size); (case aL => have := HO.out; omega); intro v1 w7 hro hb hgw hat; have HR8 := Lib.hid hro; have HB8 := Lib.hid hb; clear hro hb hgw hat)
          go_roundw
          case rel => exact ⟨i, k + 1, out ++ [y], rfl, by go_num, hi, by omega, Lib.hid (by have := HO.out; simp; omega), HR8, HB8, Lib.hid (HTB.out y (by rw [HDa.out, HDb.out, mergeC_nil_l, mergeC_nil_l]))⟩
          case measure => simp [intOf]; omega
      · have hk1 : ((k : Int) == (b.length : Int)) = true := beq_iff_eq.mpr (by omega)
        have hk2 : decide ((k : Int) < (b.length : Int)) = false := decide_eq_false (by omega)
        have HDb := Lib.hid (show b.drop k = [] from List.drop_eq_nil_of_le (by omega))
        by_cases hil : i < a.length
        · obtain ⟨ad, hAa, hx0, hx1, hx2⟩ := at_T65 (Kd.C_below HCa2.out HB.out) (i : Int) (by omega) (by omega)
          cases hAa
          simp only [Int.toNat_natCast] at hx0 hx1 hx2
          have HDa := Lib.hid (drop_cons65 a i hil)
          generalize hxx : rd_T65 a (i : Int) = x at *
          have hi1 : decide ((i : Int) < (a.length : Int)) = true := decide_eq_true (by omega)
          have hi2 : (i : Int) < (a.length : Int) := by omega
          go_wp2_with fail
          go_quiet (fail)
          have HRq := Lib.hid (Kd.R_drewN HR.out nq)
          have HBq := Lib.hid (pw_below_drewN HB.out nq)
          go_wp2_with (at_builtin; refine Kd.R_append k65 (w0 := w2) w2.heap.size rfl (.tmp 57) (.tmp 62) 60 65 (.agg #[(.int .i64 0), (.int .i64 0), (.int .i64 0)]) 24 rfl Try.underlying60 infoC65 rfl (by decide) (by omega) u5 out x [.int .i64 x.f0, .int .i64 x.f1, .int .i64 x.f2] (fun _ => True) (fun _ => False) rfl rfl ?aP (fun _ hk => hk.elim) ?aF ?aO ?aB ?aS ?aL ?_; (case aP => exact k65_mkM _ _ _ x); (case aF => exact fun _ _ => trivial); (case aO => exact HRq.out); (case aB => exact HBq.out); (case aS => exact HBq.out.size); (case aL => have := HO.out; omega); intro v1 w7 hro hb hgw hat; have HR8 := Lib.hid hro; have HB8 := Lib.hid hb; clear hro hb hgw hat)
          go_roundw
          case rel => exact ⟨i + 1, k, out ++ [x], by go_num, rfl, by omega, hk, Lib.hid (by have := HO.out; simp; omega), HR8, HB8, Lib.hid (HTA.out x (by rw [HDa.out, HDb.out, mergeC_nil_r, mergeC_nil_r]))⟩
          case measure => simp [intOf]; omega
        · have hi1 : decide ((i : Int) < (a.length : Int)) = false := decide_eq_false (by omega)
          have HDa := Lib.hid (show a.drop i = [] from List.drop_eq_nil_of_le (by omega))
          have HF := Lib.hid (show out = mergeC a b by rw [← HE.out, HDa.out, HDb.out, mergeC_nil_l, List.append_nil])
          clear HE HTA HTB
          go_wp2_with fail
          go_ret
          have e := HF.out
          subst e
          obtain ⟨Ao, co, hs⟩ := Kd.R_slice HR.out
          subst hs
          obtain ⟨_, h2, h3⟩ := Kd.R_reads' HR.out
          refine ⟨Ao, co, _, rfl, by have := HO.out; omega, h2, h3, ?_, mergeC_ris HRa.out HRb.out, HB2.out.trans (HB.out.mono HB2.out.size)⟩
          have e1 := (mergeC_perm a b).trans (HPa.out.append HPb.out)
          rw [HAB.out] at e1
          exact e1
end Go.Proofs.Ytafpmcmpkgbgaaa.Pr
