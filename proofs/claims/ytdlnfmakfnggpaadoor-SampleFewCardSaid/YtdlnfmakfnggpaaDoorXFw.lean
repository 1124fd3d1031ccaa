/- SampleFew's walk. -/
import Derived.Test.YtdlnfmakfnggpaaDoorXFa
import Derived.Test.YtdlnfmakfnggpaaDoorXTc
namespace Go.Proofs.YtdlnfmakfnggpaaDoor.Pr
open Go.RowKit Go.Lib Go.Proofs.YtdlnfmakfnggpaaDoorW.PrintWords
set_option linter.unusedVariables false
set_option linter.unusedSimpArgs false
set_option maxHeartbeats 8000000 in
set_option maxRecDepth 100000 in
theorem few_good (most : Nat) (at_ : Int) (A : Option Addr) (c : Nat) (l : List S26) (w : World) (h0 : 2 ≤ most) (h1 : most ≤ 1000) (hr : Kd.C k26 w A l.length l) (hc : l.length ≤ c) (hl : l.length ≤ 8796093022208) (hmx : ∀ x ∈ l, sample_Mix.f x.f0 x.f1 = some (chn x).1)
    (hS : ∃ k, spoorlaw21_same.f k (ids (top most (chns l))) (ids (top most (chns l))) = some true) (hC : ∃ k, spoorlaw21_chosen.f k (ids (top most (chns l))) l most = some true) (hG : GOk most (top most (chns l))) :
    Calls Tryd.prog 10 #[.int .i64 most, .slice A l.length c, .int .i64 at_] w fun e w' => e = .returned (.bool true) ∧ Below w.heap.size w w' := by
  have HN := Lib.hid (fun W => newfew_ok most h0 h1 W)
  have HA := Lib.hid (fun W => spoorlaw21_alive.calls true W rfl)
  have h2 : ¬ (most : Int) < 2 := by omega
  have h3 : ¬ 1000 < (most : Int) := by omega
  have h4 : ¬ most < 2 := by omega
  have h5 : ¬ 1000 < most := by omega
  generalize hn : l.length = n at *
  have HLN : Aside (l.length = n) := hn
  obtain ⟨kS, hS⟩ := hS
  obtain ⟨kC, hC⟩ := hC
  obtain ⟨Tp, hTp⟩ : ∃ Tp, Tp = top most (chns l) := ⟨_, rfl⟩
  rw [← hTp] at hS hC hG
  have HTP := Lib.hid hTp
  have HSM := Lib.hid hS
  have HG := Lib.hid hG
  have HCH := Lib.hid (fun (A1 : Option Addr) (c1 : Nat) (W : World) (h1 : Kd.C k26 W A1 (ids Tp).length (ids Tp)) (h2 : (ids Tp).length ≤ c1) (h3 : Kd.C k26 W A n l) => (by rw [← hn] at h3 ⊢; exact spoorlaw21_chosen.calls kC A1 c1 (ids Tp) A c l most true W h1 h2 h3 (by omega) hC : Calls Tryd.prog 34 #[.slice A1 (ids Tp).length c1, .slice A n c, .int .i64 most] W fun e w' => e = .returned (.bool true) ∧ Below W.heap.size W w'))
  have HTL := Lib.hid (show (ids Tp).length ≤ most by rw [hTp]; unfold ids; rw [List.length_map]; exact top_length _ _)
  have HTL2 := Lib.hid (show (ids Tp).length = Tp.length by unfold ids; rw [List.length_map])
  clear hS hC hG hTp
  have HR := Lib.hid hr
  have HX := Lib.hid hmx
  obtain ⟨X, hX⟩ : ∃ X, X = chns l := ⟨_, rfl⟩
  have HXX : Aside (X = chns l) := hX
  have hXl : X.length = n := by rw [hX]; unfold chns; rw [List.length_map, hn]
  have HXL : Aside (X.length = n) := hXl
  clear hn hr hmx hX hXl
  go_enter Tryd.func10, Tryd.ntmps10
  go_wp2_with (first
      | (go_at_call 11; refine (HA.out _).mono ?_; rintro e w1 ⟨rfl, hb⟩; have HB1 := Lib.hid hb; clear hb)
      | ((with_reducible refine gate_dst (N := 10) rfl ?_); refine box_event ?hg (N := 10) ?hd (cs := #[.pointer none, .pointer none, .pointer none, .pointer none, .pointer none]) (t := 75) ?hr ?_; (case hd => rfl); (case hg => rfl); (case hr => first | (go_simp; done) | (go_simp; rfl)); intro T hT W0 hbox hb8
         have HB0 := Lib.hid (HB1.out.trans (hb8.mono HB1.out.size)); have HGE := Lib.hid (show w.heap.size ≤ T by rw [hT]; exact HB1.out.size); have HBX : Aside _ := hbox
         clear hbox hb8 hT))
  go_loopg [11] 5 (fun kx s11 wr => ∃ (i : Nat) (b : Nat → Nat), s11 = .int .i64 i ∧ i ≤ 5 ∧ 5 - i ≤ kx ∧ Aside (wr.heap[T]? = some (.cells (arrV b i) 75 (0, 0))) ∧ Aside (Fews i w wr b most (fun _ => [])))
  case atStart => exact ⟨0, fun _ => 0, rfl, Nat.zero_le _, by omega, HBX, fews_zero _ _ _ _ HB0.out⟩
  case round =>
    clear HBX
    obtain ⟨i, b, rfl, hi5, hg, HT, HF⟩ := hrel
    by_cases hlt : i < 5
    · have hlt' : (i : Int) < 5 := by omega
      go_wp2_with (go_at_call 23; refine (HN.out _).mono ?_; rintro e w2 ⟨B, rfl, hB, hblk, hb⟩
                   have hT2 := blk_below HT hb
                   have HF2 : Aside _ := fews_set75 (fews_new HF hB hblk hb) hT2 HGE.out i (pB B)
                   have HT2 : Aside _ := blk_put hT2 i (pB B) (arrV_set b i B hlt)
                   have hc2 := (blk_cell hT2 i).trans (arrV_none b i hlt)
                   have hf2 := blk_frozen hT2 i
                   clear hB hblk hb hT2)
      go_roundg (5 - (i + 1))
      case measure => omega
      case rel => exact ⟨i + 1, fun j => if j = i then B else b j, rfl, by omega, Nat.le_refl _, HT2, HF2⟩
    · have : i = 5 := by omega
      subst this
      have hm : ∃ m : Nat, m ≤ n ∧ ((at_ < 0 ∧ m = n / 2) ∨ ((¬ at_ < 0) ∧ (n : Int) < at_ ∧ m = n / 2) ∨ ((¬ at_ < 0) ∧ (¬ (n : Int) < at_) ∧ at_ = m)) := by
        by_cases g1 : at_ < 0
        · exact ⟨n / 2, by omega, .inl ⟨g1, rfl⟩⟩
        · by_cases g2 : (n : Int) < at_
          · exact ⟨n / 2, by omega, .inr (.inl ⟨g1, g2, rfl⟩)⟩
          · exact ⟨at_.toNat, by omega, .inr (.inr ⟨g1, g2, by omega⟩)⟩
      obtain ⟨m, hmn, hm⟩ := hm
      rcases hm with ⟨g1, hm⟩ | ⟨g1, g2, hm⟩ | ⟨g1, g2, hm⟩
      all_goals go_wp2
      all_goals clear g1
      all_goals try clear g2
      all_goals first | (rw [show (n : Int) / 2 = (m : Int) by omega]; clear hm) | subst hm
      all_goals (
        have HF0 : Aside (Fews 5 w wr b most (L2 X most m 0)) := HF.congr (L2_zero X most m)
        have HT0 : Aside _ := HT
        clear HF HT
        go_loopg [14] n (fun kx s14 wr => ∃ i : Nat, s14 = .int .i64 i ∧ i ≤ n ∧ n - i ≤ kx ∧ Aside (wr.heap[T]? = some (.cells (arrV b 5) 75 (0, 0))) ∧ Aside (Fews 5 w wr b most (L2 X most m i)))
        case atStart => exact ⟨0, rfl, Nat.zero_le _, by omega, HT0, HF0⟩
        case round =>
          clear HF0 HT0
          obtain ⟨i, rfl, hin, hg, HT, HF⟩ := hrel
          by_cases hlt : i < n
          · obtain ⟨ad, rfl, _, _⟩ := at_T26 (Kd.C_below HR.out HF.1) (i : Int) (by omega) (by omega)
            have HQ := Lib.hid (fun (W : World) (hW : Below w.heap.size w W) (hT : W.heap[T]? = some (.cells (arrV b 5) 75 (0, 0))) (j : Nat) (hj : j < 5) (k : Nat) (hk : k < n) => few_cells (T := T) b hW HR.out hT j hj k hk)
            have HP := Lib.hid (fun (W : World) (L : Nat → List C3) (j k : Nat) (hj : j < 5) (hk : k < n) (hF : Fews 5 w W b most L) => few_put_at (w := w) (l := l) (n := n) (most := most) (b := b) HX.out HLN h1 W L j k hj hk hF)
            go_wp2_with fail
            have hq := HQ.out wr.drew (HF.1.drew) HT 0 (by omega) (i) (by omega)
            have HFd : Fews 5 w wr.drew b most (L2 X most m i) := Fews.drew HF
            go_region_held3 (fun W => W.cell? ⟨T, 0, none⟩ = some (.pointer (some ⟨b 0, 0, none⟩)) ∧ W.cell? (ad.add ((i) * 2)) = some (.int .u64 (rd_T26 l ((i : Nat) : Int)).f0) ∧ W.cell? ⟨(ad.add ((i) * 2)).block, (ad.add ((i) * 2)).off + 1, none⟩ = some (.int .u64 (rd_T26 l ((i : Nat) : Int)).f1)) (assumption) (first | (go_at_call 30; refine (HP.out _ _ 0 (i) (by omega) (by omega) HFd).mono ?_; rintro e v1 ⟨bbv1, rfl, hF', hfar⟩; have HTv1 : Aside (v1.heap[T]? = some (.cells (arrV b 5) 75 (0, 0))) := hfar _ _ HT; have HFv1 : Aside (Fews 5 w v1 b most (upd (L2 X most m i) 0 ((insL ((L2 X most m i) 0) (chns l)[i]!).take most))) := hF'; have hqv1 := HQ.out v1 hF'.1 HTv1 0 (by omega) (i) (by omega); clear hF' hfar))
            clear hq hqv1 HFd
            have z1 : IntKind.i64.wrap ((n : Int) - 1) = (n : Int) - 1 := by rw [IntKind.wrap_i64]; omega
            have z2 : IntKind.i64.wrap ((n : Int) - 1 - (i : Int)) = (n : Int) - 1 - (i : Int) := by rw [IntKind.wrap_i64]; omega
            have z3 : (0 : Int) ≤ (n : Int) - 1 - (i : Int) := by omega
            have z4 : (n : Int) - 1 - (i : Int) < (n : Int) := by omega
            have z5 : ((n : Int) - 1 - (i : Int)).toNat = n - 1 - i := by omega
            have z6 : (i : Int) ≤ (n : Int) - 1 := by omega
            have z7 : (n : Int) - 1 < (n : Int) + (i : Int) := by omega
            have z8 : (i : Int) < (n : Int) := by omega
            have z9 : (n : Int) - 1 - (i : Int) ≤ (n : Int) := by omega
            go_wp2_with fail
            have hq := HQ.out v1.drew (HFv1.1.drew) HTv1 1 (by omega) (n - 1 - i) (by omega)
            have HFd : Fews 5 w v1.drew b most (upd (L2 X most m i) 0 ((insL ((L2 X most m i) 0) (chns l)[i]!).take most)) := Fews.drew HFv1
            go_region_held3 (fun W => W.cell? ⟨T, 1, none⟩ = some (.pointer (some ⟨b 1, 0, none⟩)) ∧ W.cell? (ad.add ((n - 1 - i) * 2)) = some (.int .u64 (rd_T26 l ((n - 1 - i : Nat) : Int)).f0) ∧ W.cell? ⟨(ad.add ((n - 1 - i) * 2)).block, (ad.add ((n - 1 - i) * 2)).off + 1, none⟩ = some (.int .u64 (rd_T26 l ((n - 1 - i : Nat) : Int)).f1)) (assumption) (first | (go_at_call 30; refine (HP.out _ _ 1 (n - 1 - i) (by omega) (by omega) HFd).mono ?_; rintro e v2 ⟨bbv2, rfl, hF', hfar⟩; have HTv2 : Aside (v2.heap[T]? = some (.cells (arrV b 5) 75 (0, 0))) := hfar _ _ HTv1; have HFv2 : Aside (Fews 5 w v2 b most (upd (upd (L2 X most m i) 0 ((insL ((L2 X most m i) 0) (chns l)[i]!).take most)) 1 ((insL ((upd (L2 X most m i) 0 ((insL ((L2 X most m i) 0) (chns l)[i]!).take most)) 1) (chns l)[n - 1 - i]!).take most))) := hF'; have hqv2 := HQ.out v2 hF'.1 HTv2 1 (by omega) (n - 1 - i) (by omega); clear hF' hfar))
            clear hq hqv2 HFd
            clear z1 z2 z3 z4 z5 z6 z7 z8 z9
            by_cases him : i < m
            · have him' : (i : Int) < (m : Int) := by omega
              go_wp2_with fail
              have hq := HQ.out v2.drew (HFv2.1.drew) HTv2 2 (by omega) (i) (by omega)
              have HFd : Fews 5 w v2.drew b most (upd (upd (L2 X most m i) 0 ((insL ((L2 X most m i) 0) (chns l)[i]!).take most)) 1 ((insL ((upd (L2 X most m i) 0 ((insL ((L2 X most m i) 0) (chns l)[i]!).take most)) 1) (chns l)[n - 1 - i]!).take most)) := Fews.drew HFv2
              go_region_held3 (fun W => W.cell? ⟨T, 2, none⟩ = some (.pointer (some ⟨b 2, 0, none⟩)) ∧ W.cell? (ad.add ((i) * 2)) = some (.int .u64 (rd_T26 l ((i : Nat) : Int)).f0) ∧ W.cell? ⟨(ad.add ((i) * 2)).block, (ad.add ((i) * 2)).off + 1, none⟩ = some (.int .u64 (rd_T26 l ((i : Nat) : Int)).f1)) (assumption) (first | (go_at_call 30; refine (HP.out _ _ 2 (i) (by omega) (by omega) HFd).mono ?_; rintro e v3 ⟨bbv3, rfl, hF', hfar⟩; have HTv3 : Aside (v3.heap[T]? = some (.cells (arrV b 5) 75 (0, 0))) := hfar _ _ HTv2; have HFv3 : Aside (Fews 5 w v3 b most (upd (upd (upd (L2 X most m i) 0 ((insL ((L2 X most m i) 0) (chns l)[i]!).take most)) 1 ((insL ((upd (L2 X most m i) 0 ((insL ((L2 X most m i) 0) (chns l)[i]!).take most)) 1) (chns l)[n - 1 - i]!).take most)) 2 ((insL ((upd (upd (L2 X most m i) 0 ((insL ((L2 X most m i) 0) (chns l)[i]!).take most)) 1 ((insL ((upd (L2 X most m i) 0 ((insL ((L2 X most m i) 0) (chns l)[i]!).take most)) 1) (chns l)[n - 1 - i]!).take most)) 2) (chns l)[i]!).take most))) := hF'; have hqv3 := HQ.out v3 hF'.1 HTv3 2 (by omega) (i) (by omega); clear hF' hfar))
              clear hq hqv3 HFd
              go_wp2_with fail
              go_roundg (n - (i + 1))
              case measure => omega
              case rel =>
                have HXE := HXX
                have hXl := HXL
                exact ⟨i + 1, rfl, by omega, Nat.le_refl _, HTv3, Fews.congr HFv3 (by rw [← show X = chns l from HXX]; have hh := step_lt X most m i (by rw [show X.length = n from HXL]; exact hlt) him; rw [show X.length = n from HXL] at hh; exact hh)⟩
            · have him' : ¬ (i : Int) < (m : Int) := by omega
              go_wp2_with fail
              have hq := HQ.out v2.drew (HFv2.1.drew) HTv2 3 (by omega) (i) (by omega)
              have HFd : Fews 5 w v2.drew b most (upd (upd (L2 X most m i) 0 ((insL ((L2 X most m i) 0) (chns l)[i]!).take most)) 1 ((insL ((upd (L2 X most m i) 0 ((insL ((L2 X most m i) 0) (chns l)[i]!).take most)) 1) (chns l)[n - 1 - i]!).take most)) := Fews.drew HFv2
              go_region_held3 (fun W => W.cell? ⟨T, 3, none⟩ = some (.pointer (some ⟨b 3, 0, none⟩)) ∧ W.cell? (ad.add ((i) * 2)) = some (.int .u64 (rd_T26 l ((i : Nat) : Int)).f0) ∧ W.cell? ⟨(ad.add ((i) * 2)).block, (ad.add ((i) * 2)).off + 1, none⟩ = some (.int .u64 (rd_T26 l ((i : Nat) : Int)).f1)) (assumption) (first | (go_at_call 30; refine (HP.out _ _ 3 (i) (by omega) (by omega) HFd).mono ?_; rintro e v3 ⟨bbv3, rfl, hF', hfar⟩; have HTv3 : Aside (v3.heap[T]? = some (.cells (arrV b 5) 75 (0, 0))) := hfar _ _ HTv2; have HFv3 : Aside (Fews 5 w v3 b most (upd (upd (upd (L2 X most m i) 0 ((insL ((L2 X most m i) 0) (chns l)[i]!).take most)) 1 ((insL ((upd (L2 X most m i) 0 ((insL ((L2 X most m i) 0) (chns l)[i]!).take most)) 1) (chns l)[n - 1 - i]!).take most)) 3 ((insL ((upd (upd (L2 X most m i) 0 ((insL ((L2 X most m i) 0) (chns l)[i]!).take most)) 1 ((insL ((upd (L2 X most m i) 0 ((insL ((L2 X most m i) 0) (chns l)[i]!).take most)) 1) (chns l)[n - 1 - i]!).take most)) 3) (chns l)[i]!).take most))) := hF'; have hqv3 := HQ.out v3 hF'.1 HTv3 3 (by omega) (i) (by omega); clear hF' hfar))
              clear hq hqv3 HFd
              go_wp2_with fail
              have hq := HQ.out v3.drew (HFv3.1.drew) HTv3 4 (by omega) (i) (by omega)
              have HFd : Fews 5 w v3.drew b most (upd (upd (upd (L2 X most m i) 0 ((insL ((L2 X most m i) 0) (chns l)[i]!).take most)) 1 ((insL ((upd (L2 X most m i) 0 ((insL ((L2 X most m i) 0) (chns l)[i]!).take most)) 1) (chns l)[n - 1 - i]!).take most)) 3 ((insL ((upd (upd (L2 X most m i) 0 ((insL ((L2 X most m i) 0) (chns l)[i]!).take most)) 1 ((insL ((upd (L2 X most m i) 0 ((insL ((L2 X most m i) 0) (chns l)[i]!).take most)) 1) (chns l)[n - 1 - i]!).take most)) 3) (chns l)[i]!).take most)) := Fews.drew HFv3
              go_region_held3 (fun W => W.cell? ⟨T, 4, none⟩ = some (.pointer (some ⟨b 4, 0, none⟩)) ∧ W.cell? (ad.add ((i) * 2)) = some (.int .u64 (rd_T26 l ((i : Nat) : Int)).f0) ∧ W.cell? ⟨(ad.add ((i) * 2)).block, (ad.add ((i) * 2)).off + 1, none⟩ = some (.int .u64 (rd_T26 l ((i : Nat) : Int)).f1)) (assumption) (first | (go_at_call 30; refine (HP.out _ _ 4 (i) (by omega) (by omega) HFd).mono ?_; rintro e v4 ⟨bbv4, rfl, hF', hfar⟩; have HTv4 : Aside (v4.heap[T]? = some (.cells (arrV b 5) 75 (0, 0))) := hfar _ _ HTv3; have HFv4 : Aside (Fews 5 w v4 b most (upd (upd (upd (upd (L2 X most m i) 0 ((insL ((L2 X most m i) 0) (chns l)[i]!).take most)) 1 ((insL ((upd (L2 X most m i) 0 ((insL ((L2 X most m i) 0) (chns l)[i]!).take most)) 1) (chns l)[n - 1 - i]!).take most)) 3 ((insL ((upd (upd (L2 X most m i) 0 ((insL ((L2 X most m i) 0) (chns l)[i]!).take most)) 1 ((insL ((upd (L2 X most m i) 0 ((insL ((L2 X most m i) 0) (chns l)[i]!).take most)) 1) (chns l)[n - 1 - i]!).take most)) 3) (chns l)[i]!).take most)) 4 ((insL ((upd (upd (upd (L2 X most m i) 0 ((insL ((L2 X most m i) 0) (chns l)[i]!).take most)) 1 ((insL ((upd (L2 X most m i) 0 ((insL ((L2 X most m i) 0) (chns l)[i]!).take most)) 1) (chns l)[n - 1 - i]!).take most)) 3 ((insL ((upd (upd (L2 X most m i) 0 ((insL ((L2 X most m i) 0) (chns l)[i]!).take most)) 1 ((insL ((upd (L2 X most m i) 0 ((insL ((L2 X most m i) 0) (chns l)[i]!).take most)) 1) (chns l)[n - 1 - i]!).take most)) 3) (chns l)[i]!).take most)) 4) (chns l)[i]!).take most))) := hF'; have hqv4 := HQ.out v4 hF'.1 HTv4 4 (by omega) (i) (by omega); clear hF' hfar))
              clear hq hqv4 HFd
              go_wp2_with fail
              go_roundg (n - (i + 1))
              case measure => omega
              case rel =>
                exact ⟨i + 1, rfl, by omega, Nat.le_refl _, HTv4, Fews.congr HFv4 (by rw [← show X = chns l from HXX]; have hh := step_ge X most m i (by rw [show X.length = n from HXL]; exact hlt) him; rw [show X.length = n from HXL] at hh; exact hh)⟩
          · have hin' : n = i := by omega
            subst hin'
            have HF3 : Aside (Fews 5 w wr b most (L3 X most m n 0)) := Fews.congr HF (by have h := L3_zero X most m; rw [show X.length = n from HXL] at h; exact h)
            have HT3 : Aside _ := HT
            clear HF HT
            go_wp2_with fail
            go_loopg [15] n (fun kx s15 wr => ∃ i : Nat, s15 = .int .i64 i ∧ i ≤ n ∧ n - i ≤ kx ∧ Aside (wr.heap[T]? = some (.cells (arrV b 5) 75 (0, 0))) ∧ Aside (Fews 5 w wr b most (L3 X most m n i)))
            case atStart => exact ⟨0, rfl, Nat.zero_le _, by omega, HT3, HF3⟩
            case round =>
              clear HF3 HT3
              obtain ⟨i, rfl, hin, hg, HT, HF⟩ := hrel
              by_cases hlt : i < n
              · obtain ⟨ad, rfl, _, _⟩ := at_T26 (Kd.C_below HR.out HF.1) (i : Int) (by omega) (by omega)
                have HQ := Lib.hid (fun (W : World) (hW : Below w.heap.size w W) (hT : W.heap[T]? = some (.cells (arrV b 5) 75 (0, 0))) (j : Nat) (hj : j < 5) (k : Nat) (hk : k < n) => few_cells (T := T) b hW HR.out hT j hj k hk)
                have HP := Lib.hid (fun (W : World) (L : Nat → List C3) (j k : Nat) (hj : j < 5) (hk : k < n) (hF : Fews 5 w W b most L) => few_put_at (w := w) (l := l) (n := n) (most := most) (b := b) HX.out HLN h1 W L j k hj hk hF)
                go_wp2_with fail
                have hq := HQ.out wr.drew (HF.1.drew) HT 1 (by omega) (i) (by omega)
                have HFd : Fews 5 w wr.drew b most (L3 X most m n i) := Fews.drew HF
                go_region_held3 (fun W => W.cell? ⟨T, 1, none⟩ = some (.pointer (some ⟨b 1, 0, none⟩)) ∧ W.cell? (ad.add ((i) * 2)) = some (.int .u64 (rd_T26 l ((i : Nat) : Int)).f0) ∧ W.cell? ⟨(ad.add ((i) * 2)).block, (ad.add ((i) * 2)).off + 1, none⟩ = some (.int .u64 (rd_T26 l ((i : Nat) : Int)).f1)) (assumption) (first | (go_at_call 30; refine (HP.out _ _ 1 (i) (by omega) (by omega) HFd).mono ?_; rintro e v1 ⟨bbv1, rfl, hF', hfar⟩; have HTv1 : Aside (v1.heap[T]? = some (.cells (arrV b 5) 75 (0, 0))) := hfar _ _ HT; have HFv1 : Aside (Fews 5 w v1 b most (upd (L3 X most m n i) 1 ((insL ((L3 X most m n i) 1) (chns l)[i]!).take most))) := hF'; have hqv1 := HQ.out v1 hF'.1 HTv1 1 (by omega) (i) (by omega); clear hF' hfar))
                clear hq hqv1 HFd
                go_wp2_with fail
                go_roundg (n - (i + 1))
                case measure => omega
                case rel =>
                  exact ⟨i + 1, rfl, by omega, Nat.le_refl _, HTv1, Fews.congr HFv1 (by rw [← show X = chns l from HXX]; exact step3 X most m n i (by rw [show X.length = n from HXL]; exact hlt))⟩
              · have hin' : n = i := by omega
                subst hin'
                have e0' : LF X most m 0 = Tp := by
                  have h := HTP.out
                  rw [← show X = chns l from HXX] at h
                  rw [h]; simp [LF]
                have t2 := arr_cell b HT 2 (by omega)
                have t3 := arr_cell b HT 3 (by omega)
                go_wp2_with fail
                refine (fews_merge (show Fews 5 w wr b most (L3 X most m n n) from HF) h1 3 2 (by omega) (by omega)).mono ?_
                rintro e w5 ⟨rfl, hF', hfar⟩
                have HF5 := Lib.hid hF'
                have HT5 := Lib.hid (hfar _ _ HT)
                have u2 := arr_cell b HT5.out 2 (by omega)
                have u4 := arr_cell b HT5.out 4 (by omega)
                clear hF' hfar t2 t3
                go_wp2_with fail
                refine (fews_merge HF5.out h1 2 4 (by omega) (by omega)).mono ?_
                rintro e w6 ⟨rfl, hF', hfar⟩
                have HF6 : Hid (Fews 5 w w6 b most (LF X most m)) := Fews.congr hF' (by have h := end_lists X most m (by rw [show X.length = n from HXL]; exact hmn); rw [show X.length = n from HXL] at h; exact h)
                have HT6 := Lib.hid (hfar _ _ HT5.out)
                have s0 := arr_cell b HT6.out 0 (by omega)
                clear hF' hfar u2 u4
                go_wp2_with fail
                refine (fews_traces HF6.out h1 0 (by omega)).mono ?_
                rintro e w7 ⟨⟨vt, rfl, hR⟩, hb⟩
                rw [e0'] at hR
                have HF7 : Hid (Fews 5 w w7 b most (LF X most m)) := Fews.below HF6.out hb
                have HT7 : Hid (w7.heap[T]? = some (.cells (arrV b 5) 75 (0, 0))) := blk_below HT6.out hb
                obtain ⟨At, ct, rfl⟩ := Kd.R_slice hR
                have HR7 : Hid (Kd.R k26 26 w7 w6.heap.size (fun _ => True) (.slice At (ids Tp).length ct) (ids Tp)) := hR
                clear hR hb s0
                go_wp2_with fail
                have HEQ : Hid (∀ j, j < 4 → LF X most m j = Tp) := fun j hj => by
                  have h := HTP.out
                  rw [← show X = chns l from HXX] at h
                  rw [h]; simp [LF, hj]
                have HTr := Lib.hid (fun (W : World) (j : Nat) (hj : j < 4) (hF : Fews 5 w W b most (LF X most m)) => (by have h := fews_traces hF h1 j (by omega); rw [HEQ.out j hj] at h; exact h : Calls Tryd.prog 32 #[.pointer (some ⟨b j, 0, none⟩)] W fun e W' => (∃ v', e = .returned v' ∧ Kd.R k26 26 W' W.heap.size (fun _ => True) v' (ids Tp)) ∧ Below W.heap.size W W'))
                obtain ⟨gv, hgv⟩ : ∃ gv, gv = guessV most Tp := ⟨_, rfl⟩
                have HGs := Lib.hid (fun (W : World) (j : Nat) (hj : j < 4) (hF : Fews 5 w W b most (LF X most m)) => (by have h := fews_guess hF h0 h1 j (by omega) (by rw [HEQ.out j hj]; exact HG.out); rw [HEQ.out j hj, ← hgv] at h; exact h : Calls Tryd.prog 28 #[.pointer (some ⟨b j, 0, none⟩)] W fun e W' => e = .returned (.int .u64 gv) ∧ Below W.heap.size W W'))
                have HGV := Lib.hid hgv
                clear hgv e0'
                go_loopg [19] 3 (fun kx s19 wr => ∃ i : Nat, s19 = .int .i64 i ∧ 1 ≤ i ∧ i ≤ 4 ∧ 4 - i ≤ kx ∧ Hid (wr.heap[T]? = some (.cells (arrV b 5) 75 (0, 0))) ∧ Hid (Fews 5 w wr b most (LF X most m)) ∧ Hid (Kd.R k26 26 wr w6.heap.size (fun _ => True) (.slice At (ids Tp).length ct) (ids Tp)))
                case atStart => exact ⟨1, rfl, by omega, by omega, by omega, HT7, HF7, HR7⟩
                case round =>
                  clear HT7 HF7 HR7
                  obtain ⟨i, rfl, hi1, hi4, hg, HT, HF, HRt⟩ := hrel
                  by_cases hlt : i < 4
                  · have hlt' : (i : Int) < 5 := by omega
                    have HQ4 := Lib.hid (fun (W : World) (hT : W.heap[T]? = some (.cells (arrV b 5) 75 (0, 0))) => And.intro (arr_cell b hT i (by omega)) (arr_cell b hT 0 (by omega)))
                    have HFd := Lib.hid (Fews.drew HF.out)
                    have HTd : Hid (wr.drew.heap[T]? = some (.cells (arrV b 5) 75 (0, 0))) := HT.out
                    have HRd : Hid (Kd.R k26 26 wr.drew w6.heap.size (fun _ => True) (.slice At (ids Tp).length ct) (ids Tp)) := Kd.R_below HRt.out (below_drew (Below.refl _ _))
                    have hq := HQ4.out wr.drew HTd.out
                    go_wp2_with fail
                    go_region_held3 (fun W => W.cell? ⟨T, i, none⟩ = some (.pointer (some ⟨b i, 0, none⟩)) ∧ W.cell? ⟨T, 0, none⟩ = some (.pointer (some ⟨b 0, 0, none⟩))) (assumption) (first
                      | (go_at_call 32; refine (HTr.out _ i hlt HFd.out).mono ?_; rintro e x1 ⟨⟨v1, rfl, hR⟩, hb⟩; obtain ⟨A1, c1, rfl⟩ := Kd.R_slice hR; have HFx1 := Lib.hid (Fews.below HFd.out hb); have HRx1 := Lib.hid (Kd.R_below HRd.out hb); have HR1x := Lib.hid hR; have HTx1 := Lib.hid (blk_below HTd.out hb); have hq1 := HQ4.out x1 HTx1.out; clear hR hb)
                      | (go_at_call 33; refine (spoorlaw21_same.calls kS A1 c1 (ids Tp) At ct (ids Tp) true _ (Kd.R_reads' HR1x.out).2.2 (Kd.R_reads' HR1x.out).2.1 (Kd.R_reads' HRx1.out).2.2 (Kd.R_reads' HRx1.out).2.1 HSM.out).mono ?_; rintro e x2 ⟨rfl, hd⟩; have hbd : Below x1.heap.size x1 x2 := (by obtain ⟨nd, rfl⟩ := hd; exact pw_below_drewN (Below.refl _ _) nd); have HFx2 := Lib.hid (Fews.below HFx1.out hbd); have HRx2 := Lib.hid (Kd.R_below HRx1.out hbd); have HTx2 := Lib.hid (blk_below HTx1.out hbd); have hq2 := HQ4.out x2 HTx2.out; clear hd hbd)
                      | (go_at_call 28; have _hst := HFg1; refine (HGs.out _ 0 (by omega) HFg1.out).mono ?_; rintro e x4 ⟨rfl, hb⟩; have HFg2 := Lib.hid (Fews.below HFg1.out hb); have HRg2 := Lib.hid (Kd.R_below HRg1.out hb); have HTg2 := Lib.hid (blk_below HTg1.out hb); have hq4 := HQ4.out x4 HTg2.out; clear hb)
                      | (go_at_call 28; refine (HGs.out _ i hlt HFx2.out).mono ?_; rintro e x3 ⟨rfl, hb⟩; have HFg1 := Lib.hid (Fews.below HFx2.out hb); have HRg1 := Lib.hid (Kd.R_below HRx2.out hb); have HTg1 := Lib.hid (blk_below HTx2.out hb); have hq3 := HQ4.out x3 HTg1.out; clear hb))
                    clear hq hq1 hq2 hq3 hq4
                    go_wp2_with fail
                    go_roundg (4 - (i + 1))
                    case measure => omega
                    case rel => exact ⟨i + 1, rfl, by omega, by omega, Nat.le_refl _, HTg2, HFg2, HRg2⟩
                  · have hi : i = 4 := by omega
                    subst hi
                    have s0 := arr_cell b HT.out 0 (by omega)
                    go_wp2_with fail
                    refine (HCH.out At ct _ (Kd.R_reads' HRt.out).2.2 (Kd.R_reads' HRt.out).2.1 (Kd.C_below HR.out HF.out.1)).mono ?_
                    rintro e y1 ⟨rfl, hb⟩
                    have HF9 := Lib.hid (Fews.below HF.out hb)
                    have HT9 := Lib.hid (blk_below HT.out hb)
                    have s9 := arr_cell b HT9.out 0 (by omega)
                    clear hb s0
                    by_cases hfull : (ids Tp).length = most
                    · have hfi : ((ids Tp).length : Int) = (most : Int) := by omega
                      have HE9 := Lib.hid HF9.out.1
                      go_wp2_with fail
                      go_ret
                      exact ⟨by simp [hfull], HE9.out⟩
                    · have hfi : ¬ ((ids Tp).length : Int) = (most : Int) := by omega
                      have hwl : IntKind.u64.wrap ((ids Tp).length : Int) = ((ids Tp).length : Int) := by have := HTL.out; rw [IntKind.wrap_u64]; omega
                      have hgl : gv = ((ids Tp).length : Int) := by
                        have e1 := HGV.out
                        have e2 := HTL2.out
                        have e3 := HTL.out
                        rw [e1, e2]; unfold guessV; rw [if_pos (by omega)]
                      subst hgl
                      go_wp2_with fail
                      refine (HGs.out _ 0 (by omega) HF9.out).mono ?_
                      rintro e y2 ⟨rfl, hb⟩
                      have HE9 := Lib.hid (HF9.out.1.trans (hb.mono HF9.out.1.size))
                      clear hb
                      go_wp2_with fail
                      go_ret
                      exact ⟨by simp [hfull], HE9.out⟩)
end Go.Proofs.YtdlnfmakfnggpaaDoor.Pr
