/- The contract of spoorlaw13.moved, in the print's form. -/
import Derived.Test.YtlnhpccapadpmaaPr0
import Derived.Test.YtlnhpccapadpmaaPreb
import Derived.Test.YtlnhpccapadpmaaPr0a
import Derived.Test.YtlnhpccapadpmaaPr0b
import Derived.Lib.Hide
import Derived.LoopTactic
import Derived.Outline
namespace Go.Proofs.Ytlnhpccapadpmaa.Pr
open Go.RowKit Go.Proofs.YtlnhpccapadpmaaW.PrintWords Go.Proofs.YtlnhpccapadpmaaW.PrintLast Go.Proofs.YtlnhpccapadpmaaW.PrintMore
attribute [local go_sem] max2_int min2_int max_two min_two max_three min_three max_four min_four   -- for this text's walks alone
set_option linter.unusedVariables false
set_option linter.unusedSimpArgs false

attribute [local go_sem high] eqA61
def pickV (c : Int) (n : Nat) : Int := if c < 0 then (-(c + 1)) % n else c % n
theorem pickV_eq (c : Int) (n : Nat) (hc : -9223372036854775808 ≤ c) (hn : 0 < n) : spoorlaw13_pick.f c n = some (pickV c n) := by
  unfold spoorlaw13_pick.f pickV
  by_cases h : c < 0
  · rw [if_pos h, if_neg (by omega), if_pos h]
    by_cases h2 : c ≤ 9223372036854775807
    · have e : wrap64 (-(wrap64 (c + 1))) = -(c + 1) := by unfold wrap64; omega
      rw [e, Int.tmod_eq_emod_of_nonneg (by omega)]
    · omega
  · rw [if_neg h, if_neg (by omega), if_neg h, Int.tmod_eq_emod_of_nonneg (by omega)]
theorem pickV_range (c : Int) (n : Nat) (hn : 0 < n) : 0 ≤ pickV c n ∧ pickV c n < n := by
  unfold pickV
  split
  · exact ⟨Int.emod_nonneg _ (by omega), Int.emod_lt_of_pos _ (by omega)⟩
  · exact ⟨Int.emod_nonneg _ (by omega), Int.emod_lt_of_pos _ (by omega)⟩
def swapAt (xs : List S73) (a b : Nat) : List S73 := (xs.set a (xs.getD b z73)).set b (xs.getD a z73)
def moveAll : List S73 → List Int → Nat → List S73
  | xs, [], _ => xs
  | xs, c :: t, i => if 0 < xs.length then moveAll (swapAt xs (i % xs.length) (pickV c xs.length).toNat) t (i + 1) else xs
def spoorlaw13_moved.f (l0 : List S73) (l1 : List Int) : Option (List S73) :=
  if (decide (l0.length < 8796093022208) && decide (l1.length < 9223372036854775807) && l1.all (fun c => decide (-9223372036854775808 ≤ c))) = true then some (moveAll l0 l1 0) else none
theorem swapAt_len (xs : List S73) (a b : Nat) : (swapAt xs a b).length = xs.length := by simp [swapAt]
theorem seg73 {W : World} {base g n cap : Nat} {xs : List S73} (h : Kd.R k73 73 W base (fun _ => True) (.slice (some ⟨g, 0, none⟩) n cap) xs) (i : Nat) (hi : i < n) (s : S73) :
    Kd.R k73 73 ((W.setCell ⟨g, i * 2, none⟩ (.int .u64 s.f0)).setCell ⟨g, i * 2 + 1, none⟩ (.int .u64 s.f1)) base (fun _ => True) (.slice (some ⟨g, 0, none⟩) n cap) (xs.set i s) := by
  obtain ⟨ea, hla, hMa, hca, hfa⟩ := Kd.R_elem h z73 (i : Int) (by omega) (by omega)
  have := (Kd.R_seg h (i : Int) (by omega) (by omega) (seg := [.int .u64 s.f0, .int .u64 s.f1]) (j := 0) hla hca (show 2 ≤ 2 from Nat.le_refl _) (x' := s) (okp := fun _ => False)
    (by
      have e : ea.take 0 ++ [Value.int .u64 s.f0, .int .u64 s.f1] ++ ea.drop (0 + [Value.int .u64 s.f0, .int .u64 s.f1].length) = [.int .u64 s.f0, .int .u64 s.f1] := by
        have : ea.drop 2 = [] := List.drop_eq_nil_of_le (by rw [hla]; exact Nat.le_refl _)
        simp [this]
      rw [e]; exact k73_mkM _ _ _ s) (fun _ hk => hk.elim)).1
  exact this
def MovedPost (w : World) (r : List S73) (e : Ending) (w' : World) : Prop := ∃ v0_ : Value, e = .returned (v0_) ∧ Kd.R k73 73 w' w.heap.size (fun _ => True) v0_ r ∧ Below w.heap.size w w'
theorem drop_consI (l : List Int) (k : Nat) (h : k < l.length) : l.drop k = rd l k :: l.drop (k + 1) := by
  rw [List.drop_eq_getElem_cons h]; simp [rd, List.getD, h]

set_option maxHeartbeats 4000000 in
set_option maxRecDepth 100000 in
theorem spoorlaw13_moved.calls (A0 : Option Addr) (c0 : Nat) (l0 : List (S73)) (A1 : Option Addr) (c1 : Nat) (l1 : List Int) (r : List (S73)) (w : World) (hr0 : Kd.C k73 w A0 l0.length l0) (hc0 : l0.length ≤ c0) (hr1 : Kd.C (Kd.int .i64) w A1 l1.length l1) (hc1 : l1.length ≤ c1) (h : spoorlaw13_moved.f l0 l1 = some r) :
    Calls Try.prog 18 #[.slice A0 l0.length c0, .slice A1 l1.length c1] w fun e w' => ∃ v0_ : Value, e = .returned (v0_) ∧ Kd.R k73 73 w' w.heap.size (fun _ => True) v0_ r ∧ Below w.heap.size w w' := by
  show Calls Try.prog 18 _ w fun e w' => MovedPost w r e w'
  unfold spoorlaw13_moved.f at h
  by_cases hs : (decide (l0.length < 8796093022208) && decide (l1.length < 9223372036854775807) && l1.all (fun c => decide (-9223372036854775808 ≤ c))) = true
  · rw [if_pos hs] at h
    obtain rfl := Option.some.inj h
    clear h
    simp only [Bool.and_eq_true, decide_eq_true_eq, List.all_eq_true] at hs
    obtain ⟨⟨hs0, hs1⟩, hs2⟩ := hs
    have HS2 := Lib.hid hs2
    clear hs2
    have hu73 := Try.underlying73
    have HR0 := Aside0.mk hr0
    have HC0 := Aside0.mk hc0
    clear hr0 hc0
    have HR1 := Aside0.mk hr1
    have HC1 := Aside0.mk hc1
    clear hr1 hc1
    have HB := Aside0.mk (Below.refl w.heap.size w)
    obtain ⟨y116, hy116⟩ : ∃ y_ : List (S73), y_ = (([] : List (S73))) := ⟨_, rfl⟩
    have Ny116 := Aside0.mk hy116
    have c3 : y116.length + l0.length < 8796093022208 := by rw [hy116]; simpa using hs0
    clear hy116
    have LMc3 := Aside0.mk c3
    clear c3
    obtain ⟨y119, hy119⟩ : ∃ y_ : List (S73), y_ = (y116 ++ l0) := ⟨_, rfl⟩
    have Ny119 := Aside0.mk hy119
    clear hy119
    go_enter Try.func18, Try.ntmps18
    go_wp2_with (first | ((with_reducible refine gate_dst (N := 9) rfl ?_); (try (refine gate_guard (by rfl) ?_; dsimp only)); refine Kd.R_lit k73 _ 73 ?hg (N := 9) ?hd (xs := ([] : List (S73))) (inner := []) (ok := fun _ => True) (okp := fun _ => True) ?hr ?hp (fun _ hk => hk) trivial (Below.refl _ _) (Nat.le_refl _) (by simp) ?_; (case hd => rfl); (case hg => rfl); (case hr => first | (go_simp; done) | (go_simp; rfl)); (case hp => exact (Reps.none _ _)); intro v117 w4 ho5 hb hg_ hnew_; clear hg_ hnew_; (first | rw [← Ny116.out] at ho5 | (simp only [Int.reduceToNat] at ho5; rw [← Ny116.out] at ho5)); have n0_ := Aside0.mk (Kd.R_lower ho5 (below_size (by repeat (first | (with_reducible first | exact HB.out | apply below_alloc | apply pw_below_drewN | apply below_drew1) | exact HB.out)))); have n1_ := Aside0.mk (below_step (by repeat (first | (with_reducible first | exact HB.out | apply below_alloc | apply pw_below_drewN | apply below_drew1) | exact HB.out)) hb); clear HB; have HO118 := n0_; have HB := n1_; clear n0_ n1_; clear hb ho5) | ((with_reducible refine gate_builtin (b := .append) (xs := #[.tmp 9, .tmp 10]) rfl ?_); (try (refine gate_guard (by rfl) ?_; dsimp only)); at_builtin; refine Kd.R_append_rows k73 (w0 := w) w.heap.size rfl (.tmp 9) (.tmp 10) 41 73 (.agg #[(.int .u64 0), (.int .u64 0)]) 16 rfl Try.underlying41 info73 rfl (by decide) (by omega) v117 y116 l0 _ _ _ (fun _ => True) (fun _ => False) rfl rfl ?aO ?aR (fun _ _ h => h) (fun _ h => h.elim) ?aF ?aB ?aS ?aL ?_; (case aR => repeat (first | exact (Kd.C_below HR0.out HB.out) | (with_reducible refine Kd.C_alloc ?_ _) | (with_reducible refine Kd.C_drewN ?_ _) | (with_reducible refine Kd.C_drew ?_))); (case aB => exact (by repeat (first | (with_reducible first | exact HB.out | apply below_alloc | apply pw_below_drewN | apply below_drew1) | exact HB.out))); (case aF => exact (fun _ _ => trivial)); (case aO => exact (by (with_reducible repeat (first | apply Kd.R_alloc | apply Kd.R_drewN | apply Kd.R_drew)); exact HO118.out)); (case aS => exact (below_size (by repeat (first | (with_reducible first | exact HB.out | apply below_alloc | apply pw_below_drewN | apply below_drew1) | exact HB.out)))); (case aL => have := LMc3.out; omega); intro v120 w6 ho hb hg hat; rw [← Ny119.out] at ho; have n0_ := Aside0.mk (hb); have n1_ := Aside0.mk (ho); clear HB; clear HO118; have HB := n0_; have HO121 := n1_; clear n0_ n1_; clear ho hb hg hat))
    have hy : y119 = l0 := by rw [Ny119.out, Ny116.out]; rfl
    obtain ⟨A5, c5, hv5, hl5, _⟩ := Kd.R_reads HO121.out
    rw [hy] at hv5 hl5 HO121
    subst hv5
    have HRl := Lib.hid HO121.out
    have HBl := Lib.hid HB.out
    have HC1' := Lib.hid HR1.out
    clear HO121 HB Ny119 Ny116 LMc3 hy HR0 HC0 HR1 HC1 hu73 hl5
    go_loopw [6] (fun v6 wr => ∃ (i : Nat) (xs : List S73), v6 = .int .i64 i ∧ i ≤ l1.length ∧ xs.length = l0.length ∧ Hid (Kd.R k73 73 wr w.heap.size (fun _ => True) (.slice A5 l0.length c5) xs) ∧ Hid (moveAll l0 l1 0 = moveAll xs (l1.drop i) i) ∧ Hid (Below w.heap.size w wr)) (fun v6 _ => l1.length - (intOf v6).toNat)
    case atStart => exact ⟨0, l0, rfl, Nat.zero_le _, rfl, HRl, Lib.hid (by simp), HBl⟩
    clear HRl HBl
    case round =>
      obtain ⟨i, xs, rfl, hi, hxs, HR, HM, HB⟩ := hrel
      by_cases hlt : i < l1.length
      · by_cases hn : 0 < l0.length
        · obtain ⟨a1, rfl, hxc⟩ := Kd.at_int (Kd.C_below HC1'.out HB.out) (i : Int) (by omega) (by omega)
          simp only [Int.toNat_natCast] at hxc
          have HD := Lib.hid (drop_consI l1 i hlt)
          have hmem : rd l1 i ∈ l1 := by simp [rd, List.getD, hlt]
          have hpk := pickV_eq (rd l1 i) l0.length (HS2.out _ hmem) hn
          have hpr := pickV_range (rd l1 i) l0.length hn
          have HP := fun w' => Lib.hid (spoorlaw13_pick.calls _ _ _ w' hpk)
          clear hmem
          generalize hc : rd l1 i = c at *
          clear hc
          obtain ⟨b, hb⟩ : ∃ b : Nat, pickV c l0.length = (b : Int) := ⟨(pickV c l0.length).toNat, by omega⟩
          have HPb := Lib.hid hb
          have hbl : b < l0.length := by omega
          simp only [hb] at HP
          clear hpk hpr hb
          obtain ⟨a, ha⟩ : ∃ a : Nat, a = i % l0.length := ⟨_, rfl⟩
          have hal : a < l0.length := by rw [ha]; exact Nat.mod_lt _ hn
          have hrem : Int.tmod (i : Int) (l0.length : Int) = (a : Int) := by rw [ha, Int.tmod_eq_emod_of_nonneg (by omega)]; rfl
          have HA := Lib.hid ha
          clear ha
          have hgt : decide ((l0.length : Int) > 0) = true := decide_eq_true (by omega)
          obtain ⟨g, cap, hv, hgB, hgl, cells, hcells⟩ := Kd.R_form HR.out (by omega)
          rw [hxs] at hv
          cases hv
          have HGB := Lib.hid hgB
          clear hcells hgB
          obtain ⟨ea, hla, hMa, hca, hfa⟩ := Kd.R_elem HR.out z73 (a : Int) (by omega) (by omega)
          obtain rfl := k73_openM hMa
          obtain ⟨eb, hlb, hMb, hcb, hfb⟩ := Kd.R_elem HR.out z73 (b : Int) (by omega) (by omega)
          obtain rfl := k73_openM hMb
          have ca0 : wr.cell? ⟨g, a * 2, none⟩ = some (.int .u64 (xs.getD a z73).f0) := hca 0 _ rfl
          have ca1 : wr.cell? ⟨g, a * 2 + 1, none⟩ = some (.int .u64 (xs.getD a z73).f1) := hca 1 _ rfl
          have cb0 : wr.cell? ⟨g, b * 2, none⟩ = some (.int .u64 (xs.getD b z73).f0) := hcb 0 _ rfl
          have cb1 : wr.cell? ⟨g, b * 2 + 1, none⟩ = some (.int .u64 (xs.getD b z73).f1) := hcb 1 _ rfl
          have fa0 : wr.frozen? ⟨g, a * 2, none⟩ = false := hfa 0
          have fa1 : wr.frozen? ⟨g, a * 2 + 1, none⟩ = false := hfa 1
          have fb0 : wr.frozen? ⟨g, b * 2, none⟩ = false := hfb 0
          have fb1 : wr.frozen? ⟨g, b * 2 + 1, none⟩ = false := hfb 1
          clear hla hMa hca hfa hlb hMb hcb hfb
          generalize hsa : xs.getD a z73 = sa at *
          generalize hsb : xs.getD b z73 = sb at *
          have HSa := Lib.hid hsa
          have HSb := Lib.hid hsb
          clear hsa hsb
          go_wp2_with fail
          refine (HP _).out.mono ?_
          rintro e w' ⟨rfl, n1, rfl⟩
          go_wp2_with fail
          by_cases hab : a = b
          · subst hab
            have hss : sa = sb := by rw [← HSa.out, ← HSb.out]
            subst hss
            have x0 : ((wr.setCell ⟨g, a * 2, none⟩ (.int .u64 sa.f0)).setCell ⟨g, a * 2 + 1, none⟩ (.int .u64 sa.f1)).cell? ⟨g, a * 2, none⟩ = some (.int .u64 sa.f0) :=
              (World.cell?_setCell_other _ _ _ _ (by simp)).trans (World.cell?_setCell_same _ _ _ ca0)
            have x1 : (((wr.setCell ⟨g, a * 2, none⟩ (.int .u64 sa.f0)).setCell ⟨g, a * 2 + 1, none⟩ (.int .u64 sa.f1)).setCell ⟨g, a * 2, none⟩ (.int .u64 sa.f0)).cell? ⟨g, a * 2 + 1, none⟩ = some (.int .u64 sa.f1) :=
              (World.cell?_setCell_other _ _ _ _ (by simp)).trans (World.cell?_setCell_same _ _ _ ((World.cell?_setCell_other _ _ _ _ (by simp)).trans ca1))
            go_region
            all_goals go_wp2
            all_goals go_roundw
            case rel =>
              refine ⟨i + 1, swapAt xs a a, by go_num, by omega, by rw [swapAt_len, hxs], Lib.hid ?_, Lib.hid ?_, Lib.hid ?_⟩
              · unfold swapAt
                rw [HSa.out]
                exact seg73 (seg73 (Kd.R_drewN HR.out _) a hal sa) a hal sa
              · rw [HM.out, HD.out]
                simp only [moveAll]
                rw [if_pos (by omega), hxs, ← HA.out, HPb.out]
                rfl
              · exact (((((pw_below_drewN HB.out _).setCell HGB.out _).setCell HGB.out _).setCell HGB.out _).setCell HGB.out _)
            case measure => simp [intOf]; omega
          · have hne0 : a * 2 ≠ b * 2 := by omega
            have hne1 : a * 2 + 1 ≠ b * 2 + 1 := by omega
            have hne2 : a * 2 + 1 ≠ b * 2 := by omega
            have hne3 : a * 2 ≠ b * 2 + 1 := by omega
            have hne0' : b * 2 ≠ a * 2 := by omega
            have hne1' : b * 2 + 1 ≠ a * 2 + 1 := by omega
            have hne2' : b * 2 + 1 ≠ a * 2 := by omega
            have hne3' : b * 2 ≠ a * 2 + 1 := by omega
            go_region
            all_goals go_wp2
            all_goals go_roundw
            case rel =>
              refine ⟨i + 1, swapAt xs a b, by go_num, by omega, by rw [swapAt_len, hxs], Lib.hid ?_, Lib.hid ?_, Lib.hid ?_⟩
              · unfold swapAt
                rw [HSa.out, HSb.out]
                exact seg73 (seg73 (Kd.R_drewN HR.out _) a hal sb) b hbl sa
              · rw [HM.out, HD.out]
                simp only [moveAll]
                rw [if_pos (by omega), hxs, ← HA.out, HPb.out]
                rfl
              · exact (((((pw_below_drewN HB.out _).setCell HGB.out _).setCell HGB.out _).setCell HGB.out _).setCell HGB.out _)
            case measure => simp [intOf]; omega
        · have hgt : decide ((l0.length : Int) > 0) = false := decide_eq_false (by omega)
          go_wp2
          go_ret
          refine ⟨_, rfl, ?_, HB.out⟩
          rw [HM.out, drop_consI l1 i hlt]
          simp only [moveAll]
          rw [if_neg (by omega)]
          exact HR.out
      · go_wp2
        go_ret
        have hil : i = l1.length := by omega
        subst hil
        refine ⟨_, rfl, ?_, HB.out⟩
        rw [HM.out, List.drop_eq_nil_of_le (Nat.le_refl _)]
        exact HR.out
  · rw [if_neg hs] at h; exact absurd h (by simp)
end Go.Proofs.Ytlnhpccapadpmaa.Pr
