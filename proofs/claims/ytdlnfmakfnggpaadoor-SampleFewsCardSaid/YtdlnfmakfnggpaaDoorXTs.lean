/- Few.Guess and Few.Traces, of a few in memory. Few.Traces, of a few in memory; Few.Merge. -/
import Derived.Test.YtdlnfmakfnggpaaDoorXPu
import Derived.Test.YtdlnfmakfnggpaaDoorPr0c
import Derived.Test.YtdlnfmakfnggpaaDoorXTr
namespace Go.Proofs.YtdlnfmakfnggpaaDoor.Pr
open Go.RowKit Go.Lib Go.Proofs.YtdlnfmakfnggpaaDoorW.PrintWords
set_option linter.unusedVariables false
set_option linter.unusedSimpArgs false
theorem ownsRow_slice {w : World} {base n : Nat} {v : Value} {xs : List Value} (h : w.ownsRow base 101 3 v n xs) : ∃ A c, v = .slice A n c := by
  rcases h.2 with ⟨rfl, rfl⟩ | ⟨g, cap, cur, rfl, _⟩
  · exact ⟨_, _, rfl⟩
  · exact ⟨_, _, rfl⟩
/-- The last mix and one, in 64 bits. -/
def lastM (l : List C3) : Int := IntKind.u64.wrap ((l[l.length - 1]!).1 + 1)
def guessV (most : Nat) (l : List C3) : Int :=
  if l.length < most then (l.length : Int) else if lastM l = 0 then (most : Int) - 1 else if lastM l ≤ (most : Int) - 1 then 18446744073709551615 else ((bits_Div64.f 40 ((most : Int) - 1) 0 (lastM l)).getD (0, 0)).1
set_option maxHeartbeats 4000000 in
set_option maxRecDepth 100000 in
theorem guess_few (base B : Nat) (v : Value) (most : Nat) (l : List C3) (w : World) (hF : FewAt w base B v most l) (hl : l.length < most) (hm1 : most ≤ 1000) :
    Calls Tryd.prog 28 #[.pointer (some ⟨B, 0, none⟩)] w fun e w' => e = .returned (.int .u64 (l.length : Nat)) ∧ Below w.heap.size w w' := by
  obtain ⟨A, c, rfl⟩ := ownsRow_slice hF.own
  generalize hn : l.length = n at *
  have c0 : ∀ z : Wx w, z.W.cell? ⟨B, 0, none⟩ = some (.int .i64 most) := fun z => z.cell ((cell_of_row _ _ 0 _ _ _ hF.blk).trans rfl)
  have c1 : ∀ z : Wx w, z.W.cell? ⟨B, 1, none⟩ = some (.slice A n c) := fun z => z.cell ((cell_of_row _ _ 1 _ _ _ hF.blk).trans rfl)
  have hlt : (n : Int) < (most : Int) := by omega
  have hw1 : IntKind.u64.wrap (n : Int) = (n : Int) := by rw [IntKind.wrap_u64]; omega
  clear hF hn
  go_enter Tryd.func28, Tryd.ntmps28
  go_wp2
  refine wp_region_ext (by kernel_rfl) (by kernel_rfl) ?_
  repeat (go_big_quiet_step (fail))
  refine wpQuiet_nil ?_
  intro _ hw'
  obtain ⟨zz, rfl⟩ := hw'
  have d1 := c1 zz
  clear c0 c1
  go_wp2
  go_ret
  exact ⟨rfl, zz.h⟩
set_option maxHeartbeats 4000000 in
set_option maxRecDepth 100000 in
theorem guess_full (base B : Nat) (v : Value) (most : Nat) (l : List C3) (w : World) (hF : FewAt w base B v most l) (hl : l.length = most) (hm0 : 2 ≤ most) (hm1 : most ≤ 1000) (hd : (lastM l = 0 ∨ lastM l ≤ (most : Int) - 1) ∨ ∃ r, bits_Div64.f 40 ((most : Int) - 1) 0 (lastM l) = some r) :
    Calls Tryd.prog 28 #[.pointer (some ⟨B, 0, none⟩)] w fun e w' => e = .returned (.int .u64 (guessV most l)) ∧ Below w.heap.size w w' := by
  obtain ⟨g, cap, cur, rfl, hbg, hg, hnc, hcm, hcs, htake⟩ := ownsRow_some hF.own (by omega)
  have hrow : cur.toList[(l.length - 1) * 3 + 0]? = some (.int .u64 (l[l.length - 1]!).1) := by
    have h := cells3_at l (l.length - 1) (by omega) 0 (by omega)
    rw [← htake, List.getElem?_take_of_lt (by omega)] at h
    exact h.trans rfl
  have hlast := cell_row3 hg _ _ hrow
  have hgv : guessV most l = if lastM l = 0 then (most : Int) - 1 else if lastM l ≤ (most : Int) - 1 then 18446744073709551615 else ((bits_Div64.f 40 ((most : Int) - 1) 0 (lastM l)).getD (0, 0)).1 := by
    unfold guessV; rw [if_neg (by omega)]
  rw [hgv]
  unfold lastM at hd ⊢
  generalize (l[l.length - 1]!).1 = y at *
  rw [hl] at hlast hF
  simp only [Nat.add_zero] at hlast
  have c0 : ∀ z : Wx w, z.W.cell? ⟨B, 0, none⟩ = some (.int .i64 most) := fun z => z.cell ((cell_of_row _ _ 0 _ _ _ hF.blk).trans rfl)
  have c1 : ∀ z : Wx w, z.W.cell? ⟨B, 1, none⟩ = some (.slice (some ⟨g, 0, none⟩) most cap) := fun z => z.cell ((cell_of_row _ _ 1 _ _ _ hF.blk).trans rfl)
  have c2 : ∀ z : Wx w, z.W.cell? ⟨g, (most - 1) * 3, none⟩ = some (.int .u64 y) := fun z => z.cell hlast
  have hlt : ¬ (most : Int) < (most : Int) := by omega
  have hw1 : IntKind.u64.wrap ((most : Int) - 1) = (most : Int) - 1 := by rw [IntKind.wrap_u64]; omega
  have hw2 : IntKind.i64.wrap ((most : Int) - 1) = (most : Int) - 1 := by rw [IntKind.wrap_i64]; omega
  have hb0 : (0 : Int) ≤ (most : Int) - 1 := by omega
  have hb1 : (most : Int) - 1 < (most : Int) := by omega
  have htn : ((most : Int) - 1).toNat = most - 1 := by omega
  clear hF hrow hlast hgv hg htake hcs hcm
  generalize hM : IntKind.u64.wrap (y + 1) = M at *
  go_enter Tryd.func28, Tryd.ntmps28
  go_wp2
  refine wp_region_ext (by kernel_rfl) (by kernel_rfl) ?_
  repeat (go_big_quiet_step (fail))
  refine wpQuiet_nil ?_
  intro _ hw'
  obtain ⟨zz, rfl⟩ := hw'
  have HB1 := Lib.hid zz.h
  have d0 := c0 zz
  have e0 : ∀ z : Wx zz.W, z.W.cell? ⟨B, 0, none⟩ = some (.int .i64 most) := fun z => z.cell (c0 zz)
  have e1 : ∀ z : Wx zz.W, z.W.cell? ⟨B, 1, none⟩ = some (.slice (some ⟨g, 0, none⟩) most cap) := fun z => z.cell (c1 zz)
  have e2 : ∀ z : Wx zz.W, z.W.cell? ⟨g, (most - 1) * 3, none⟩ = some (.int .u64 y) := fun z => z.cell (c2 zz)
  clear c0 c1 c2
  generalize zz.W = W1 at *
  go_wp2
  refine wp_region_ext (by kernel_rfl) (by kernel_rfl) ?_
  repeat (go_big_quiet_step (fail))
  refine wpQuiet_nil ?_
  intro _ hw'
  obtain ⟨zz, rfl⟩ := hw'
  have HB2 := Lib.hid (HB1.out.trans (zz.h.mono HB1.out.size))
  clear e0 e1 e2 d0
  by_cases hM0 : M = 0
  · subst hM0
    go_wp2
    go_ret
    exact ⟨rfl, HB2.out⟩
  · by_cases hM1 : M ≤ (most : Int) - 1
    · go_wp2
      go_ret
      exact ⟨by simp [hM0, hM1], HB2.out⟩
    · obtain ⟨⟨r1, r2⟩, hr⟩ := hd.resolve_left (by rintro (h | h) <;> contradiction)
      have HC := Lib.hid (fun W => bits_Div64.calls 40 ((most : Int) - 1) 0 M r1 r2 W hr)
      go_wp2_with (go_at_call 56; refine (HC.out _).mono ?_; rintro e w' ⟨rfl, ⟨nd, rfl⟩⟩)
      go_ret
      exact ⟨by simp [hM0, hM1, hr], HB2.out.trans (pw_below_drewN (Below.refl _ _) _)⟩
end Go.Proofs.YtdlnfmakfnggpaaDoor.Pr
namespace Go.Proofs.YtdlnfmakfnggpaaDoor.Pr
open Go.RowKit Go.Lib Go.Proofs.YtdlnfmakfnggpaaDoorW.PrintWords
set_option linter.unusedVariables false
set_option linter.unusedSimpArgs false
def idOf (c : C3) : S26 := ⟨c.2.1, c.2.2⟩
def ids (l : List C3) : List S26 := l.map idOf
def TrPost (w : World) (l : List C3) (e : Ending) (w' : World) : Prop := ∃ v', e = .returned v' ∧ Kd.R k26 26 w' w.heap.size (fun _ => True) v' (ids l) ∧ Below w.heap.size w w'
set_option maxHeartbeats 4000000 in
set_option maxRecDepth 100000 in
theorem traces_own (base B : Nat) (v : Value) (most : Nat) (l : List C3) (w : World) (hF : FewAt w base B v most l) (hl : l.length ≤ 1000) :
    Calls Tryd.prog 32 #[.pointer (some ⟨B, 0, none⟩)] w (TrPost w l) := by
  have HR : Hid (∀ g, v.ownBlock = some g → ∀ j, j < l.length → w.cell? ⟨g, j * 3, none⟩ = some (.int .u64 (l[j]!).1) ∧ w.cell? ⟨g, j * 3 + 1, none⟩ = some (.int .u64 (l[j]!).2.1) ∧ w.cell? ⟨g, j * 3 + 2, none⟩ = some (.int .u64 (l[j]!).2.2)) := fun g hg j hj => by
    have h := fun i (hi : i < 3) => hF.own.cells hg (j * 3 + i) _ (cells3_at l j hj i hi |>.trans (by unfold enc3; exact List.getElem?_eq_getElem (by simpa using hi)))
    simp only [Addr.add_lit, Nat.zero_add] at h
    exact ⟨h 0 (by omega), h 1 (by omega), h 2 (by omega)⟩
  have c0 := (cell_of_row _ _ 0 _ _ _ hF.blk).trans rfl
  have c1 := (cell_of_row _ _ 1 _ _ _ hF.blk).trans rfl
  obtain ⟨A, cap, hv, hA⟩ : ∃ A cap, v = .slice A l.length cap ∧ (0 < l.length → ∃ g, A = some ⟨g, 0, none⟩ ∧ v.ownBlock = some g) := by
    rcases hF.own.2 with ⟨rfl, h0⟩ | ⟨g, cap, cur, rfl, _⟩
    · exact ⟨none, 0, by rw [h0], fun h => by omega⟩
    · exact ⟨_, _, rfl, fun _ => ⟨g, rfl, rfl⟩⟩
  subst hv
  clear hF
  have HS0 : Aside (Kd.R k26 26 w w.heap.size (fun _ => True) (.slice none 0 0) ((ids l).take 0)) := Kd.R_nil _ _ _ _ _
  have HB0 : Aside (Below w.heap.size w w) := Below.refl _ _
  have HA : Aside _ := hA
  clear hA
  generalize hn : l.length = n at *
  have HN : Aside (l.length = n) := hn
  clear hn
  go_enter Tryd.func32, Tryd.ntmps32
  go_wp2
  go_loopg [3, 11] n (fun kx s3 s11 wr => ∃ i : Nat, s11 = .int .i64 i ∧ i ≤ n ∧ n - i ≤ kx ∧ Aside (Kd.R k26 26 wr w.heap.size (fun _ => True) s3 ((ids l).take i)) ∧ Aside (Below w.heap.size w wr))
  case atStart => exact ⟨0, rfl, Nat.zero_le _, by omega, HS0, HB0⟩
  case round =>
    clear HS0 HB0
    obtain ⟨i, rfl, hin, hg, HO, HB⟩ := hrel
    by_cases hlt : i < n
    · obtain ⟨g, rfl, hgo⟩ := HA.out (by omega)
      have hcl := HR.out g rfl i hlt
      have Y : Aside ((ids l).take (i + 1) = (ids l).take i ++ [(⟨(l[i]!).2.1, (l[i]!).2.2⟩ : S26)]) := by
        have hil : i < (ids l).length := by unfold ids; rw [List.length_map]; have := HN.out; omega
        have hil' : i < l.length := by have := HN.out; omega
        show (ids l).take (i + 1) = _
        rw [List.take_succ_eq_append_getElem hil, getElem!_pos l i hil']
        simp [ids, idOf]
      have hLm : ((ids l).take i).length ≤ 1000 := by rw [List.length_take]; omega
      generalize l[i]! = y at *
      obtain ⟨y1, y2, y3⟩ := y
      dsimp only at hcl Y
      have d0 := pw_cell_below HB.out hcl.1
      have d1 := pw_cell_below HB.out hcl.2.1
      have d2 := pw_cell_below HB.out hcl.2.2
      have hLm' : Aside (((ids l).take i).length ≤ 1000) := hLm
      clear hcl hgo hLm
      generalize (ids l).take i = xs at *
      go_wp2_with (first
        | ((with_reducible refine gate_dst (N := 5) rfl ?_); refine box_event ?hg (N := 5) ?hd (cs := #[.int .u64 0, .int .u64 0, .int .u64 0]) (t := 101) ?hr ?_; (case hd => rfl); (case hg => rfl); (case hr => first | (go_simp; done) | (go_simp; rfl)); intro gb hgb w8 hbox hb8
           have HO8 := Aside0.mk (Kd.R_below HO.out hb8); have HB8 := Aside0.mk (HB.out.trans (hb8.mono HB.out.size)); have GE := Aside0.mk (show w.heap.size ≤ gb by rw [hgb]; exact HB.out.size); have BK := Aside0.mk hbox
           have q0 : w8.cell? ⟨gb, 0, none⟩ = some (.int .u64 0) := (blk_cell hbox 0).trans rfl
           have q1 : w8.cell? ⟨gb, 1, none⟩ = some (.int .u64 0) := (blk_cell hbox 1).trans rfl
           have q2 : w8.cell? ⟨gb, 2, none⟩ = some (.int .u64 0) := (blk_cell hbox 2).trans rfl
           have f0 := blk_frozen hbox 0; have f1 := blk_frozen hbox 1; have f2 := blk_frozen hbox 2
           clear hbox hb8 hgb)
        | ((with_reducible refine gate_builtin (b := .append) (xs := #[.tmp 15, .tmp 18]) rfl ?_); at_builtin; refine Kd.R_append k26 (w0 := w) w.heap.size rfl (.tmp 15) (.tmp 18) 71 26 (.agg #[(.int .u64 0), (.int .u64 0)]) 16 rfl Tryd.underlying71 info26 rfl (by decide) (by omega) u3 xs (⟨y2, y3⟩ : S26) [.int .u64 y2, .int .u64 y3] (fun _ => True) (fun _ => False) rfl (by first | (go_simp; done) | (go_simp; rfl)) ?aP (fun _ hk => hk.elim) ?aF ?aO ?aB ?aS ?aL ?_
           (case aP => exact k26_mkM _ _ _ (⟨y2, y3⟩ : S26))
           (case aF => exact (fun _ _ => trivial))
           (case aO => exact (by (with_reducible repeat (first | apply Kd.R_alloc | apply Kd.R_drewN | apply Kd.R_drew)); exact Kd.R_mono (Kd.R_far (p := ⟨gb, 2, none⟩) (Kd.R_far (p := ⟨gb, 1, none⟩) (Kd.R_far (p := ⟨gb, 0, none⟩) (Kd.R_types HO8.out BK.out (by decide)) (fun _ hk => hk.2) (.int .u64 y1)) (fun _ hk => hk.2) (.int .u64 y2)) (fun _ hk => hk.2) (.int .u64 y3)) (fun _ hk => trivial)))
           (case aB => exact below_set (below_set (below_set HB8.out GE.out) GE.out) GE.out)
           (case aS => exact (below_set (below_set (below_set HB8.out GE.out) GE.out) GE.out : Below w.heap.size w _).size)
           (case aL => have := hLm'.out; omega)
           intro v203 w11 ho hb hg hat
           have HO11 : Aside _ := ho; have HB11 : Aside _ := hb
           clear ho hb hg hat))
      go_roundg (n - (i + 1))
      case measure => omega
      case rel =>
        rw [← show _ = xs ++ [(⟨y2, y3⟩ : S26)] from Y] at HO11
        exact ⟨i + 1, by rfl, by omega, Nat.le_refl _, HO11, HB11⟩
    · have : i = n := by omega
      subst this
      have HE : TrPost w l (.returned u3) wr := ⟨u3, rfl, by have h := HO.out; rwa [List.take_of_length_le (by unfold ids; rw [List.length_map, HN.out]; exact Nat.le_refl _)] at h, HB.out⟩
      have HE' : Aside _ := HE
      clear HE
      go_wp2
      go_ret
      exact HE'
end Go.Proofs.YtdlnfmakfnggpaaDoor.Pr
