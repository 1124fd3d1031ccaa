/- SampleFews: its steps as values (the kind of type 68; printed by xprint.py and cut out). The reference's few: Traces, Merge, Guess. The reference's few: Guess; it is the program's. spoorlaw21.traces: what Traces tells, twice, is written over by its owner. Two fews of the program's and two of the reference's, and what is done with them. spoorlaw21.play: one step on two fews. SampleFews' walk. -/
import Derived.Test.YtdlnfmakfnggpaaDoorPr0
import Derived.Test.YtdlnfmakfnggpaaDoorOp
import Derived.Test.YtdlnfmakfnggpaaDoorXVp
import Derived.Test.YtdlnfmakfnggpaaDoorMd
import Derived.Test.YtdlnfmakfnggpaaDoorMy
import Derived.Deep.RegionHeld3
import Derived.Test.YtdlnfmakfnggpaaDoorXAm
namespace Go.Proofs.YtdlnfmakfnggpaaDoor.Pr
open Go.RowKit Go.Proofs.YtdlnfmakfnggpaaDoorW.PrintWords
set_option linter.unusedVariables false
set_option linter.unusedSimpArgs false
/-! #### struct type 68 -/
structure S68 where
  f0 : Bool
  f1 : Int
  f2 : S26
  f3 : Bool
def z68 : S68 := ⟨false, (0 : Int), z26, false⟩
def k68 : Kd S68 := Kd.iso (Kd.pair Kd.bool (Kd.pair (Kd.int .i64) (Kd.pair k26 Kd.bool))) (fun x : S68 => (x.f0, x.f1, x.f2, x.f3))
theorem k68_open {w : World} {x : S68} {cs : List Value} (h : k68.K w x cs) : cs = [.bool x.f0, .int .i64 x.f1, .int .u64 x.f2.f0, .int .u64 x.f2.f1, .bool x.f3] := by
  obtain ⟨_, _, rfl, rfl, ⟨_, _, rfl, rfl, ⟨_, _, rfl, s2, rfl⟩⟩⟩ := h
  obtain rfl := k26_open s2
  exact rfl
theorem k68_openM {w : World} {base : Nat} {ok : Nat → Prop} {x : S68} {cs : List Value} (h : k68.M w base ok x cs) : cs = [.bool x.f0, .int .i64 x.f1, .int .u64 x.f2.f0, .int .u64 x.f2.f1, .bool x.f3] := by
  obtain ⟨_, _, rfl, rfl, ⟨_, _, rfl, rfl, ⟨_, _, rfl, s2, rfl⟩⟩⟩ := h
  obtain rfl := k26_openM s2
  exact rfl
theorem k68_mk (w : World) (x : S68)  : k68.K w x [.bool x.f0, .int .i64 x.f1, .int .u64 x.f2.f0, .int .u64 x.f2.f1, .bool x.f3] := ⟨[.bool x.f0], [.int .i64 x.f1, .int .u64 x.f2.f0, .int .u64 x.f2.f1, .bool x.f3], rfl, rfl, ⟨[.int .i64 x.f1], [.int .u64 x.f2.f0, .int .u64 x.f2.f1, .bool x.f3], rfl, rfl, ⟨[.int .u64 x.f2.f0, .int .u64 x.f2.f1], [.bool x.f3], rfl, (k26_mk w x.f2 ), rfl⟩⟩⟩
theorem k68_mkM (w : World) (base : Nat) (ok : Nat → Prop) (x : S68)  : k68.M w base ok x [.bool x.f0, .int .i64 x.f1, .int .u64 x.f2.f0, .int .u64 x.f2.f1, .bool x.f3] := ⟨[.bool x.f0], [.int .i64 x.f1, .int .u64 x.f2.f0, .int .u64 x.f2.f1, .bool x.f3], rfl, rfl, ⟨[.int .i64 x.f1], [.int .u64 x.f2.f0, .int .u64 x.f2.f1, .bool x.f3], rfl, rfl, ⟨[.int .u64 x.f2.f0, .int .u64 x.f2.f1], [.bool x.f3], rfl, (k26_mkM w base ok x.f2 ), rfl⟩⟩⟩
def rd_T68 (xs : List S68) (i : Int) : S68 := xs.getD i.toNat z68
theorem at_T68 {w : World} {A : Option Addr} {n : Nat} {xs : List S68} (h : Kd.C k68 w A n xs) (i : Int) (h0 : 0 ≤ i) (h1 : i < n) : ∃ ad , A = some ad ∧ w.cell? (ad.add (i.toNat * 5)) = some (.bool (rd_T68 xs i).f0) ∧ w.cell? ⟨(ad.add (i.toNat * 5)).block, (ad.add (i.toNat * 5)).off + 1, none⟩ = some (.int .i64 (rd_T68 xs i).f1) ∧ w.cell? ⟨(ad.add (i.toNat * 5)).block, (ad.add (i.toNat * 5)).off + 2, none⟩ = some (.int .u64 (rd_T68 xs i).f2.f0) ∧ w.cell? ⟨(ad.add (i.toNat * 5)).block, (ad.add (i.toNat * 5)).off + 3, none⟩ = some (.int .u64 (rd_T68 xs i).f2.f1) ∧ w.cell? ⟨(ad.add (i.toNat * 5)).block, (ad.add (i.toNat * 5)).off + 4, none⟩ = some (.bool (rd_T68 xs i).f3) := by
  obtain ⟨ad, c, e, _, hK, hc0⟩ := Kd.C_get h z68 i h0 h1
  have hc : ∀ j u, c[j]? = some u → w.cell? (ad.add (i.toNat * 5 + j)) = some u := hc0
  obtain rfl := k68_open hK
  exact ⟨ad, e, hc 0 _ rfl, by rw [← add_field _ _ 1 (by omega)]; exact hc 1 _ rfl, by rw [← add_field _ _ 2 (by omega)]; exact hc 2 _ rfl, by rw [← add_field _ _ 3 (by omega)]; exact hc 3 _ rfl, by rw [← add_field _ _ 4 (by omega)]; exact hc 4 _ rfl⟩
def ok68 (x : S68) : Prop := (True) ∧ (((Lit.int .i64 x.f1).wf = true) ∧ ((ok26 x.f2) ∧ ((True))))
theorem opens68 : Opn.Opens Tryd.prog 68 k68 ok68 := Opn.opens_iso (fun x : S68 => (x.f0, (x.f1, (x.f2, x.f3)))) (fun p => ⟨p.1, p.2.1, p.2.2.1, p.2.2.2⟩) (fun _ => rfl) (Opn.opens_struct Tryd.underlying68 (by kernel_rfl) (Opn.opensAt_cons rfl (by kernel_rfl) (Opn.opens_bool Tryd.underlying4) (Opn.opensAt_cons rfl (by kernel_rfl) (Opn.opens_int Tryd.underlying3) (Opn.opensAt_cons rfl (by kernel_rfl) opens26 (Opn.opensAt_one rfl (by kernel_rfl) (Opn.opens_bool Tryd.underlying4))))))
end Go.Proofs.YtdlnfmakfnggpaaDoor.Pr
namespace Go.Proofs.YtdlnfmakfnggpaaDoor.Pr
open Go.RowKit Go.Lib Go.Proofs.YtdlnfmakfnggpaaDoorW.PrintWords
set_option linter.unusedVariables false
set_option linter.unusedSimpArgs false
def TrsPost (w : World) (xs : List S26) (e : Ending) (w' : World) : Prop := ∃ v', e = .returned v' ∧ Kd.R k26 26 w' w.heap.size (fun _ => True) v' xs ∧ Below w.heap.size w w'
set_option maxHeartbeats 4000000 in
set_option maxRecDepth 100000 in
theorem ref_traces (base B : Nat) (v : Value) (most : Nat) (xs : List S26) (w : World) (hF : RefAt w base B v most xs) (hl : xs.length ≤ 1000) :
    Calls Tryd.prog 27 #[.pointer (some ⟨B, 0, none⟩)] w (TrsPost w xs) := by
  obtain ⟨A, c, rfl, hnc, hC⟩ := Kd.R_reads hF.own
  have c1 := (cell_of_row _ _ 1 _ _ _ hF.blk).trans rfl
  have HC := Lib.hid hC
  have HL := Lib.hid hl
  have HKM : Hid (∀ (W : World) x cs, k26.K W x cs → k26.M W w.heap.size (fun _ => False) x cs) := fun W x cs h => by rw [k26_open h]; exact k26_mkM _ _ _ x
  clear hF hC hl hnc
  generalize hn : xs.length = n at *
  have HN := Lib.hid hn
  clear hn
  go_enter Tryd.func27, Tryd.ntmps27
  go_wp2_with ((with_reducible refine gate_builtin (b := .append) (xs := #[.tmp 4, .tmp 8]) rfl ?_); at_builtin; refine Kd.R_append_rows k26 (w0 := w) w.heap.size rfl (.tmp 4) (.tmp 8) 71 26 (.agg #[(.int .u64 0), (.int .u64 0)]) 16 rfl Tryd.underlying71 info26 rfl (by decide) (by omega) (.slice none 0 0) [] xs A n c (fun _ => True) (fun _ => False) rfl (by first | (go_simp; done) | (go_simp; rfl)) (Kd.R_nil _ _ _ _ _) HC.out (HKM.out _) (fun _ h => h.elim) (fun _ _ => trivial) (Below.refl _ _) (Nat.le_refl _) (by simp only [List.length_nil]; have := HL.out; omega) ?_
               intro v1 w1 ho hb hg hat
               have HE : Hid (TrsPost w xs (.returned v1) w1) := ⟨v1, rfl, ho, hb⟩
               clear ho hb hg hat)
  go_ret
  exact HE.out
theorem refRow_kept {w W : World} {base base2 B : Nat} {v vt : Value} {most : Nat} {l xs : List S26} (h : Kd.R k26 26 w base2 (fun _ => True) vt xs) (hF : RefAt w base B v most l) (k : Kx w W (fun k => k = B)) : Kd.R k26 26 W base2 (fun _ => True) vt xs :=
  Kd.R_mono (Kd.R_step (Kd.R_types h hF.blk (by decide)) (fun j hj hlt => k.block j hlt hj.2)) (fun _ _ => trivial)
theorem refmerge_bad (B B2 : Nat) (v v2 : Value) (most most2 : Nat) (base : Nat) (xs ys : List S26) (w : World) (hF : RefAt w base B v most xs) (hF2 : RefAt w base B2 v2 most2 ys) (hne : most2 ≠ most) :
    Calls Tryd.prog 55 #[.pointer (some ⟨B, 0, none⟩), .pointer (some ⟨B2, 0, none⟩)] w fun e w' => e = .returned (.int .i64 1) ∧ Below w.heap.size w w' := by
  have c0 : ∀ z : Wx w, z.W.cell? ⟨B, 0, none⟩ = some (.int .i64 most) := fun z => z.cell ((cell_of_row _ _ 0 _ _ _ hF.blk).trans rfl)
  have c1 : ∀ z : Wx w, z.W.cell? ⟨B2, 0, none⟩ = some (.int .i64 most2) := fun z => z.cell ((cell_of_row _ _ 0 _ _ _ hF2.blk).trans rfl)
  have hd : ((most2 : Int) != (most : Int)) = true := bne_iff_ne.2 (fun e => hne (by omega))
  clear hF hF2
  go_enter Tryd.func55, Tryd.ntmps55
  go_wp2
  refine wp_region_ext (by kernel_rfl) (by kernel_rfl) ?_
  repeat (go_big_quiet_step (fail))
  refine wpQuiet_nil ?_
  intro _ hw'
  obtain ⟨zz, rfl⟩ := hw'
  have HB := Lib.hid zz.h
  clear c0 c1
  go_wp2
  go_ret
  exact ⟨rfl, HB.out⟩
def RefMerge (w : World) (base B : Nat) (most : Nat) (l l2 : List C3) (e : Ending) (w' : World) : Prop :=
  ∃ v', e = .returned (.int .i64 0) ∧ RefAt w' base B v' most (ids (puts most l l2)) ∧ Kx w w' (fun k => k = B)
set_option maxHeartbeats 4000000 in
set_option maxRecDepth 100000 in
theorem ref_merge (base B B2 : Nat) (v v2 : Value) (most : Nat) (l l2 : List C3) (hs : Srt l) (w : World) (hF : RefAt w base B v most (ids l)) (hF2 : RefAt w base B2 v2 most (ids l2)) (hl : l.length ≤ most) (hl2 : l2.length ≤ 1000) (hm0 : 1 ≤ most) (hm1 : most ≤ 1000) (hbase : base ≤ w.heap.size) (hmix1 : MixOk l) (hmix : MixOk l2) :
    Calls Tryd.prog 55 #[.pointer (some ⟨B, 0, none⟩), .pointer (some ⟨B2, 0, none⟩)] w (RefMerge w base B most l l2) := by
  obtain ⟨A, c, rfl, hnc, hC⟩ := Kd.R_reads hF2.own
  have c0 : ∀ z : Wx w, z.W.cell? ⟨B, 0, none⟩ = some (.int .i64 most) := fun z => z.cell ((cell_of_row _ _ 0 _ _ _ hF.blk).trans rfl)
  have c1 : ∀ z : Wx w, z.W.cell? ⟨B2, 0, none⟩ = some (.int .i64 most) := fun z => z.cell ((cell_of_row _ _ 0 _ _ _ hF2.blk).trans rfl)
  have HC2 : Hid (∀ W, Below w.heap.size w W → W.cell? ⟨B2, 1, none⟩ = some (.slice A l2.length c)) := fun W hW => by
    rw [← ids_length]
    exact (cell_of_row _ _ 1 _ _ _ (blk_below hF2.blk hW)).trans rfl
  have HF : Aside (RefAt w base B v most (ids l)) := hF
  have HR0 : Aside (Kd.R k26 26 w base (fun _ => True) (.slice A l2.length c) (ids l2)) := by rw [← ids_length l2]; exact hF2.own
  have HP : Aside (∀ (W : World) (v1 : Value) (i : Nat), i < l2.length → RefAt W base B v1 most (ids (puts most l (l2.take i))) → base ≤ W.heap.size → Calls Tryd.prog 54 #[.pointer (some ⟨B, 0, none⟩), .agg #[.int .u64 (l2[i]!).2.1, .int .u64 (l2[i]!).2.2]] W (RefPut W base B most (puts most l (l2.take i)) l2[i]!)) := fun W v1 i hi hW hb => by
    have hmi : MixOk (l2.take i) := fun c hc => hmix c (List.mem_of_mem_take hc)
    refine ref_put base B v1 most _ (srt_puts most _ _ hs) (mixOk_puts hs hmix1 hmi) _ _ _ W hW (puts_length most _ _ hl) hm0 hm1 hb ?_
    have h := hmix l2[i] (List.getElem_mem hi)
    rw [← getElem!_pos l2 i hi] at h
    exact h
  have HBS : Aside (base ≤ w.heap.size) := hbase
  have hd : ((most : Int) != (most : Int)) = false := by simp
  clear hF hF2 hbase hmix hmix1 hs hl hnc hC
  go_enter Tryd.func55, Tryd.ntmps55
  go_wp2
  refine wp_region_ext (by kernel_rfl) (by kernel_rfl) ?_
  repeat (go_big_quiet_step (fail))
  refine wpQuiet_nil ?_
  intro _ hw'
  obtain ⟨zz, rfl⟩ := hw'
  have HBZ := Lib.hid zz.h
  have e1 := HC2.out _ zz.h
  have HF0 : Aside (RefAt zz.W base B v most (ids (puts most l (l2.take 0)))) := HF.kept (Kx.of_below zz.h (fun _ => False)) (fun h => h) (fun _ _ h => h)
  have HK0 : Aside (Kx w zz.W (fun k => k = B)) := Kx.of_below zz.h _
  have HR1 : Aside (Kd.R k26 26 zz.W base (fun _ => True) (.slice A l2.length c) (ids l2)) := Kd.R_below HR0 zz.h
  clear c0 c1 HR0 HF
  generalize hn : l2.length = n at *
  have HN : Aside (l2.length = n) := hn
  clear hn
  generalize zz.W = W1 at *
  go_wp2_with fail
  go_loopg [6] n (fun kx s6 wr => ∃ (i : Nat) (v1 : Value), s6 = .int .i64 i ∧ i ≤ n ∧ n - i ≤ kx ∧ Aside (RefAt wr base B v1 most (ids (puts most l (l2.take i)))) ∧ Aside (Kx w wr (fun k => k = B)) ∧ Aside (Kd.R k26 26 wr base (fun _ => True) (.slice A n c) (ids l2)))
  case atStart => exact ⟨0, v, rfl, Nat.zero_le _, by omega, HF0, HK0, HR1⟩
  case round =>
    clear HF0 HK0 HR1 e1 HBZ
    obtain ⟨i, v1, rfl, hin, hg, HF1, HK1, HR1⟩ := hrel
    by_cases hlt : i < n
    · have HPut := fun W hW hb => HP.out W v1 i (by have := HN.out; omega) hW hb
      have HY : Aside _ := puts_succ most l l2 i (by have := HN.out; omega)
      have hC := (Kd.R_reads' HR1.out).2.2
      obtain ⟨ad, rfl, e0, e1⟩ := at_T26 hC (i : Int) (by omega) (by rw [ids_length]; have := HN.out; omega)
      rw [rd_ids l2 i (by have := HN.out; omega)] at e0 e1
      generalize l2[i]! = y at *
      obtain ⟨ym, yh, yl⟩ := y
      simp only [idOf, Int.toNat_natCast] at e0 e1
      have HQ : Hid (∀ (W : World), Below wr.heap.size wr W → Calls Tryd.prog 54 #[.pointer (some ⟨B, 0, none⟩), .agg #[.int .u64 yh, .int .u64 yl]] W fun e w' => ∃ bb v', e = .returned (.bool bb) ∧ RefAt w' base B v' most (ids (puts most l (l2.take (i + 1)))) ∧ Kx w w' (fun k => k = B) ∧ Kd.R k26 26 w' base (fun _ => True) (.slice (some ad) n c) (ids l2)) := fun W hW => by
        have hFW : RefAt W base B v1 most (ids (puts most l (l2.take i))) := HF1.kept (Kx.of_below hW (fun _ => False)) (fun h => h) (fun _ _ h => h)
        have hsz := HK1.size
        have hsz2 := hW.size
        refine (HPut W hFW (by have := HBS.out; omega)).mono ?_
        rintro e w' ⟨v', rfl, hF', hK'⟩
        refine ⟨_, v', rfl, ?_, (HK1.then_ (Kx.of_below hW (fun _ => False)) (fun _ h => h.elim)).then_ hK' (fun k hk => .inl hk), refRow_kept (Kd.R_below HR1 hW) hFW hK'⟩
        rw [show puts most l (l2.take (i + 1)) = _ from HY]; exact hF'
      clear HF1 HK1 HR1 HPut HY hC HP
      go_wp2_with (go_at_call 54; refine (HQ.out _ (Below.refl _ _)).mono ?_; rintro e w9 ⟨bb, v', rfl, hF', hK', hR'⟩
                   have HF2 : Aside _ := hF'; have HK2 : Aside _ := hK'; have HR2 : Aside _ := hR'
                   clear hF' hK' hR' e0 e1)
      go_roundg (n - (i + 1))
      case measure => omega
      case rel => exact ⟨i + 1, v', rfl, by omega, Nat.le_refl _, HF2, HK2, HR2⟩
    · have : i = n := by omega
      subst this
      have HE : RefMerge w base B most l l2 (.returned (.int .i64 0)) wr := ⟨v1, rfl, by have h := HF1.out; rwa [List.take_of_length_le (by rw [HN.out]; exact Nat.le_refl _)] at h, HK1.out⟩
      have HE' := Lib.hid HE
      clear HE
      go_wp2
      go_ret
      exact HE'.out
end Go.Proofs.YtdlnfmakfnggpaaDoor.Pr
namespace Go.Proofs.YtdlnfmakfnggpaaDoor.Pr
open Go.RowKit Go.Lib Go.Proofs.YtdlnfmakfnggpaaDoorW.PrintWords
set_option linter.unusedVariables false
set_option linter.unusedSimpArgs false
/-- A round of the long division, bit by bit: the rest, the quotient. -/
def gstep (b : Int) (s : Int × Int) : Int × Int :=
  if s.1 / 9223372036854775808 = 1 ∨ IntKind.u64.wrap (s.1 * 2) ≥ b then (IntKind.u64.wrap (IntKind.u64.wrap (s.1 * 2) - b), IntKind.u64.wrap (IntKind.u64.wrap (s.2 * 2) + 1)) else (IntKind.u64.wrap (s.1 * 2), IntKind.u64.wrap (s.2 * 2))
def gst (b a : Int) : Nat → Int × Int
  | 0 => (a, 0)
  | i + 1 => gstep b (gst b a i)
theorem gst_inv (b a : Int) (h0 : 0 ≤ a) (h1 : a < b) (h2 : b ≤ 18446744073709551615) : ∀ i, i ≤ 64 → a * 2 ^ i = (gst b a i).2 * b + (gst b a i).1 ∧ 0 ≤ (gst b a i).1 ∧ (gst b a i).1 < b ∧ 0 ≤ (gst b a i).2 ∧ (gst b a i).2 < 2 ^ i
  | 0, _ => by simp [gst]; omega
  | i + 1, hi => by
    obtain ⟨e, r0, r1, o0, o1⟩ := gst_inv b a h0 h1 h2 i (by omega)
    have hp : (2 : Int) ^ i ≤ 9223372036854775808 := by
      have h3 : (2 : Nat) ^ i ≤ 2 ^ 63 := Nat.pow_le_pow_right (by decide) (by omega)
      have h4 : (2 : Nat) ^ 63 = 9223372036854775808 := by simp only [Nat.reducePow]
      have h5 : ((2 : Int) ^ i) = ((2 ^ i : Nat) : Int) := by simp
      rw [h5]; omega
    have ep : (2 : Int) ^ (i + 1) = 2 ^ i * 2 := Int.pow_succ 2 i
    rw [ep, ← Int.mul_assoc]
    unfold gst gstep
    generalize gst b a i = s at *
    obtain ⟨r, o⟩ := s
    simp only at *
    generalize (2 : Int) ^ i = P at *
    have w1 : IntKind.u64.wrap (o * 2) = o * 2 := by rw [IntKind.wrap_u64]; omega
    have w2 : IntKind.u64.wrap (o * 2 + 1) = o * 2 + 1 := by rw [IntKind.wrap_u64]; omega
    have m1 : o * 2 * b = o * b * 2 := by rw [Int.mul_right_comm]
    have m2 : (o * 2 + 1) * b = o * b * 2 + b := by rw [Int.add_mul, Int.one_mul, m1]
    split
    · rename_i h
      have w3 : IntKind.u64.wrap (IntKind.u64.wrap (r * 2) - b) = r * 2 - b := by
        simp only [IntKind.wrap_u64] at h ⊢
        omega
      simp only [w1, w2, w3, m2]
      simp only [IntKind.wrap_u64] at h
      omega
    · rename_i h
      have w3 : IntKind.u64.wrap (r * 2) = r * 2 := by
        simp only [IntKind.wrap_u64] at h ⊢
        omega
      rw [w3] at h
      simp only [w1, w3, m1]
      omega
theorem gst_quot (b a : Int) (h0 : 0 ≤ a) (h1 : a < b) (h2 : b ≤ 18446744073709551615) : (gst b a 64).2 = a * 18446744073709551616 / b := by
  obtain ⟨e, r0, r1, o0, o1⟩ := gst_inv b a h0 h1 h2 64 (Nat.le_refl _)
  have e64 : (2 : Int) ^ 64 = 18446744073709551616 := by simp
  rw [e64] at e
  rw [e, Int.add_comm, Int.add_mul_ediv_right _ _ (by omega), Int.ediv_eq_zero_of_lt r0 r1]
  omega
def refGuess (most : Nat) (l : List C3) : Int :=
  if l.length < most then (l.length : Int) else if (l[l.length - 1]!).1 = 18446744073709551615 then (most : Int) - 1 else if (l[l.length - 1]!).1 + 1 ≤ (most : Int) - 1 then 18446744073709551615 else (gst ((l[l.length - 1]!).1 + 1) ((most : Int) - 1) 64).2
theorem guess_same (most : Nat) (l : List C3) (h1 : 2 ≤ most) (h2 : most ≤ 1000) (hr : ∀ c ∈ l, 0 ≤ c.1 ∧ c.1 < 18446744073709551616) (hl : l.length ≤ most) : guessV most l = refGuess most l ∧ GOk most l := by
  unfold guessV refGuess GOk
  by_cases hlt : l.length < most
  · simp [hlt]
  · rw [if_neg hlt, if_neg hlt]
    have hlen : l.length - 1 < l.length := by omega
    have hm := hr (l[l.length - 1]!) (by rw [getElem!_pos l _ hlen]; exact List.getElem_mem hlen)
    unfold lastM
    generalize (l[l.length - 1]!).1 = m at *
    rw [IntKind.wrap_u64]
    by_cases e : m = 18446744073709551615
    · subst e
      have z : ((18446744073709551615 : Int) + 1) % 18446744073709551616 = 0 := by omega
      rw [if_pos z, if_pos rfl]
      exact ⟨rfl, .inr (.inl (.inl z))⟩
    · have z : (m + 1) % 18446744073709551616 = m + 1 := by omega
      rw [z, if_neg (by omega), if_neg e]
      by_cases g : m + 1 ≤ (most : Int) - 1
      · rw [if_pos g, if_pos g]
        exact ⟨rfl, .inr (.inl (.inr g))⟩
      · rw [if_neg g, if_neg g]
        obtain ⟨r, hr⟩ := Mb.div64_ok ((most : Int) - 1) (m + 1) (by omega) (by omega) (by omega)
        have hx := Mb.div64_exact 0 ((most : Int) - 1) 0 (m + 1) r (by omega) (by omega) (by omega) (by omega) (by omega) hr
        refine ⟨?_, .inr (.inr ⟨r, hr⟩)⟩
        rw [hr, Option.getD_some, hx, gst_quot _ _ (by omega) (by omega) (by omega), Int.add_zero]
set_option maxHeartbeats 4000000 in
set_option maxRecDepth 100000 in
theorem refguess_few (base B : Nat) (v : Value) (most : Nat) (l : List C3) (w : World) (hF : RefAt w base B v most (ids l)) (hl : l.length < most) (hm1 : most ≤ 1000) :
    Calls Tryd.prog 29 #[.pointer (some ⟨B, 0, none⟩)] w fun e w' => e = .returned (.int .u64 (l.length : Nat)) ∧ Below w.heap.size w w' := by
  obtain ⟨A, c, rfl, hnc, hC⟩ := Kd.R_reads hF.own
  have hb := hF.blk
  rw [ids_length] at hb
  clear hF hC hnc
  generalize hn : l.length = n at *
  have c0 : ∀ z : Wx w, z.W.cell? ⟨B, 0, none⟩ = some (.int .i64 most) := fun z => z.cell ((cell_of_row _ _ 0 _ _ _ hb).trans rfl)
  have c1 : ∀ z : Wx w, z.W.cell? ⟨B, 1, none⟩ = some (.slice A n c) := fun z => z.cell ((cell_of_row _ _ 1 _ _ _ hb).trans rfl)
  have hlt : (n : Int) < (most : Int) := by omega
  have hw1 : IntKind.u64.wrap (n : Int) = (n : Int) := by rw [IntKind.wrap_u64]; omega
  clear hn hb
  go_enter Tryd.func29, Tryd.ntmps29
  go_wp2
  refine wp_region_ext (by kernel_rfl) (by kernel_rfl) ?_
  repeat (go_big_quiet_step (fail))
  refine wpQuiet_nil ?_
  intro _ hw'
  obtain ⟨zz, rfl⟩ := hw'
  have d1 := c1 zz
  clear c0 c1
  go_wp2
  go_ret
  exact ⟨rfl, zz.h⟩
set_option maxHeartbeats 4000000 in
set_option maxRecDepth 100000 in
theorem refguess_full (base B : Nat) (v : Value) (most : Nat) (l : List C3) (w : World) (hF : RefAt w base B v most (ids l)) (hl : l.length = most) (hm0 : 2 ≤ most) (hm1 : most ≤ 1000) (hmx : MixOk l) (hr : ∀ c ∈ l, 0 ≤ c.1 ∧ c.1 < 18446744073709551616) :
    Calls Tryd.prog 29 #[.pointer (some ⟨B, 0, none⟩)] w fun e w' => e = .returned (.int .u64 (refGuess most l)) ∧ Below w.heap.size w w' := by
  obtain ⟨A, c, rfl, hnc, hC⟩ := Kd.R_reads hF.own
  have hb := hF.blk
  rw [ids_length] at hb hC
  have hil : most - 1 < l.length := by omega
  obtain ⟨ad, rfl, e0, e1⟩ := at_T26 hC ((most - 1 : Nat) : Int) (by omega) (by omega)
  rw [rd_ids l _ hil] at e0 e1
  have hmem : l[most - 1]! ∈ l := by rw [getElem!_pos l _ hil]; exact List.getElem_mem hil
  have hmix := hmx _ hmem
  have hrng := hr _ hmem
  have hgv : refGuess most l = if (l[most - 1]!).1 = 18446744073709551615 then (most : Int) - 1 else if (l[most - 1]!).1 + 1 ≤ (most : Int) - 1 then 18446744073709551615 else (gst ((l[most - 1]!).1 + 1) ((most : Int) - 1) 64).2 := by
    unfold refGuess; rw [if_neg (by omega), hl]
  obtain ⟨G, hG⟩ : ∃ G, G = refGuess most l := ⟨_, rfl⟩
  rw [← hG] at hgv ⊢
  clear hG
  rw [hl] at hb
  generalize l[most - 1]! = y at *
  obtain ⟨m, yh, yl⟩ := y
  simp only [idOf, Int.toNat_natCast] at e0 e1 hmix hrng hgv
  have HGV := Lib.hid hgv
  have c0 : ∀ z : Wx w, z.W.cell? ⟨B, 0, none⟩ = some (.int .i64 most) := fun z => z.cell ((cell_of_row _ _ 0 _ _ _ hb).trans rfl)
  have c1 : ∀ z : Wx w, z.W.cell? ⟨B, 1, none⟩ = some (.slice (some ad) most c) := fun z => z.cell ((cell_of_row _ _ 1 _ _ _ hb).trans rfl)
  have c2 : ∀ z : Wx w, z.W.cell? (ad.add ((most - 1) * 2)) = some (.int .u64 yh) := fun z => pw_cell_below z.h e0
  have c3 : ∀ z : Wx w, z.W.cell? ⟨(ad.add ((most - 1) * 2)).block, (ad.add ((most - 1) * 2)).off + 1, none⟩ = some (.int .u64 yl) := fun z => pw_cell_below z.h e1
  have HM := Lib.hid (fun W => spoorref21_Mix.calls yh yl m W hmix)
  have hlt : ¬ (most : Int) < (most : Int) := by omega
  have hw1 : IntKind.u64.wrap ((most : Int) - 1) = (most : Int) - 1 := by rw [IntKind.wrap_u64]; omega
  have hw2 : IntKind.i64.wrap ((most : Int) - 1) = (most : Int) - 1 := by rw [IntKind.wrap_i64]; omega
  have hb0 : (0 : Int) ≤ (most : Int) - 1 := by omega
  have hb1 : (most : Int) - 1 < (most : Int) := by omega
  have htn : ((most : Int) - 1).toNat = most - 1 := by omega
  clear hF hb hC hnc hgv e0 e1 hmem hmix hil hl hmx hr
  go_enter Tryd.func29, Tryd.ntmps29
  go_wp2
  refine wp_region_ext (by kernel_rfl) (by kernel_rfl) ?_
  repeat (go_big_quiet_step (fail))
  refine wpQuiet_nil ?_
  intro _ hw'
  obtain ⟨zz, rfl⟩ := hw'
  have HB1 := Lib.hid zz.h
  have f0 : ∀ z : Wx zz.W, z.W.cell? ⟨B, 0, none⟩ = some (.int .i64 most) := fun z => z.cell (c0 zz)
  have f1 : ∀ z : Wx zz.W, z.W.cell? ⟨B, 1, none⟩ = some (.slice (some ad) most c) := fun z => z.cell (c1 zz)
  have f2 : ∀ z : Wx zz.W, z.W.cell? (ad.add ((most - 1) * 2)) = some (.int .u64 yh) := fun z => pw_cell_below z.h (c2 zz)
  have f3 : ∀ z : Wx zz.W, z.W.cell? ⟨(ad.add ((most - 1) * 2)).block, (ad.add ((most - 1) * 2)).off + 1, none⟩ = some (.int .u64 yl) := fun z => pw_cell_below z.h (c3 zz)
  clear c0 c1 c2 c3
  generalize zz.W = W1 at *
  go_wp2
  refine wp_region_ext (by kernel_rfl) (by kernel_rfl) ?_
  repeat (go_big_quiet_step ((go_at_call 14; with_reducible exact Calls.ext_of (HM.out _))))
  refine wpQuiet_nil ?_
  intro _ hw'
  obtain ⟨zz, rfl⟩ := hw'
  have HB2 := Lib.hid (HB1.out.trans (zz.h.mono HB1.out.size))
  have g0 := f0 zz
  clear f0 f1 f2 f3
  generalize zz.W = W2 at *
  by_cases hM0 : m = 18446744073709551615
  · subst hM0
    go_wp2
    go_ret
    exact ⟨by rw [HGV.out]; simp, HB2.out⟩
  · have hw3 : IntKind.u64.wrap (m + 1) = m + 1 := by rw [IntKind.wrap_u64]; omega
    by_cases hM1 : m + 1 ≤ (most : Int) - 1
    · go_wp2
      go_ret
      exact ⟨by rw [HGV.out]; simp [hM0, hM1], HB2.out⟩
    · have HEND : Hid (G = (gst (m + 1) ((most : Int) - 1) 64).2) := Lib.hid (by rw [HGV.out, if_neg hM0, if_neg hM1])
      have HI := Lib.hid (gst_inv (m + 1) ((most : Int) - 1) (by omega) (by omega) (by omega))
      go_wp2
      generalize hbb : m + 1 = b at *
      generalize haa : (most : Int) - 1 = a at *
      have HBB := Lib.hid hbb
      have HAA := Lib.hid haa
      clear hbb haa
      clear g0 hM1 hw3 hw1 hw2 htn hb0 hb1
      go_loopg [5, 6, 7] 64 (fun kx s5 s6 s7 wr => ∃ i : Nat, s7 = .int .i64 i ∧ i ≤ 64 ∧ 64 - i ≤ kx ∧ s5 = .int .u64 (gst b a i).1 ∧ s6 = .int .u64 (gst b a i).2 ∧ wr = W2)
      case atStart => exact ⟨0, rfl, by omega, by omega, rfl, rfl, rfl⟩
      case round =>
        obtain ⟨i, rfl, hi, hg, rfl, rfl, rfl⟩ := hrel
        have hin := HI.out i hi
        have HS := Lib.hid (show gst b a (i + 1) = gstep b (gst b a i) from rfl)
        by_cases hlt : i < 64
        · have hlt' : (i : Int) < 64 := by omega
          generalize gst b a i = s at *
          obtain ⟨r, o⟩ := s
          simp only at hin
          obtain ⟨_, r0, r1, o0, o1⟩ := hin
          by_cases hh : r / 9223372036854775808 = 1
          · have hb0 : (r / 9223372036854775808 == 1) = true := by simpa using hh
            have HS2 := Lib.hid (show gst b a (i + 1) = (IntKind.u64.wrap (IntKind.u64.wrap (r * 2) - b), IntKind.u64.wrap (IntKind.u64.wrap (o * 2) + 1)) by rw [HS.out]; unfold gstep; rw [if_pos (.inl hh)])
            clear hh o1
            go_wp2
            go_roundg (64 - (i + 1))
            case measure => omega
            case rel => exact ⟨i + 1, by rfl, by omega, Nat.le_refl _, by rw [HS2.out], by rw [HS2.out], rfl⟩
          · have hb0 : (r / 9223372036854775808 == 1) = false := by simpa using hh
            by_cases hge : IntKind.u64.wrap (r * 2) ≥ b
            · have hd0 : decide (IntKind.u64.wrap (r * 2) ≥ b) = true := by simpa using hge
              have HS2 := Lib.hid (show gst b a (i + 1) = (IntKind.u64.wrap (IntKind.u64.wrap (r * 2) - b), IntKind.u64.wrap (IntKind.u64.wrap (o * 2) + 1)) by rw [HS.out]; unfold gstep; rw [if_pos (.inr hge)])
              clear hh o1
              go_wp2
              go_roundg (64 - (i + 1))
              case measure => omega
              case rel => exact ⟨i + 1, by rfl, by omega, Nat.le_refl _, by rw [HS2.out], by rw [HS2.out], rfl⟩
            · have hd0 : decide (IntKind.u64.wrap (r * 2) ≥ b) = false := by simpa using hge
              have HS2 := Lib.hid (show gst b a (i + 1) = (IntKind.u64.wrap (r * 2), IntKind.u64.wrap (o * 2)) by rw [HS.out]; unfold gstep; rw [if_neg (by rintro (h | h) <;> contradiction)])
              clear hh o1
              go_wp2
              go_roundg (64 - (i + 1))
              case measure => omega
              case rel => exact ⟨i + 1, by rfl, by omega, Nat.le_refl _, by rw [HS2.out], by rw [HS2.out], rfl⟩
        · have h64 : i = 64 := by omega
          subst h64
          clear hin
          go_wp2
          have HE2 : Hid (G = (gst b a 64).2) := HEND
          go_ret
          exact ⟨by rw [HE2.out]; rfl, HB2.out⟩
end Go.Proofs.YtdlnfmakfnggpaaDoor.Pr
namespace Go.Proofs.YtdlnfmakfnggpaaDoor.Pr
open Go.RowKit Go.Lib Go.Proofs.YtdlnfmakfnggpaaDoorW.PrintWords
set_option linter.unusedVariables false
set_option linter.unusedSimpArgs false
theorem cells26_two {w : World} {base n g cap : Nat} {inner : List Value} (h : w.ownsRow base 26 2 (.slice (some ⟨g, 0, none⟩) n cap) n inner) (i : Nat) (hi : i < n) :
    (∃ u, w.cell? ⟨g, i * 2, none⟩ = some u) ∧ (∃ u, w.cell? ⟨g, i * 2 + 1, none⟩ = some u) ∧ (∀ j, w.frozen? ⟨g, j, none⟩ = false) := by
  have hl := h.1
  have a := fun j (hj : j < inner.length) => h.cells (g := g) rfl j inner[j] (List.getElem?_eq_getElem hj)
  simp only [Addr.add_lit, Nat.zero_add] at a
  refine ⟨⟨_, a (i * 2) (by omega)⟩, ⟨_, a (i * 2 + 1) (by omega)⟩, fun j => ?_⟩
  obtain ⟨cells, hc⟩ := own_typed h g (by simp [Value.ownBlock])
  exact blk_frozen hc j
theorem store26 {w : World} {base n g cap : Nat} {inner : List Value} (h : w.ownsRow base 26 2 (.slice (some ⟨g, 0, none⟩) n cap) n inner) (j : Nat) (u : Value) :
    ∃ inner', (w.setCell ⟨g, j, none⟩ u).ownsRow base 26 2 (.slice (some ⟨g, 0, none⟩) n cap) n inner' ∧ Kx w (w.setCell ⟨g, j, none⟩ u) (fun k => k = g) :=
  ⟨_, (h.stored j u).1, Kx.setCell w _ u⟩
theorem R26_apart {w2 W : World} {b1 : Nat} {v va : Value} {xs : List S26} (h : Kd.R k26 26 w2 b1 (fun _ => True) v xs) (k : Kx w2 W (fun k => va.ownBlock = some k)) (hv : ∀ k, va.ownBlock = some k → k < b1) : Kd.R k26 26 W b1 (fun _ => True) v xs :=
  Kd.R_mono (Kd.R_step (Kd.R_bound h) (fun j hj hlt => k.block j hlt (fun e => by have := hv j e; have := hj.2.1; omega))) (fun _ _ => trivial)
theorem cells26_box (w : World) : ∀ j u, [(.int .u64 7 : Value), .int .u64 0][j]? = some u → (w.alloc (.cells #[.int .u64 7, .int .u64 0] 26)).cell? ((⟨w.heap.size, 0, none⟩ : Addr).add j) = some u := fun j u hj => by
  rw [Addr.add_lit, Nat.zero_add, blk_cell (blk_new w _)]
  simpa using hj
set_option maxHeartbeats 4000000 in
set_option maxRecDepth 100000 in
theorem traces_law (base B : Nat) (v : Value) (most : Nat) (l : List C3) (A : Option Addr) (c : Nat) (w : World) (hF : FewAt w base B v most l) (hl : l.length ≤ 1000) (hC : Kd.C k26 w A l.length (ids l)) (hc : l.length ≤ c) :
    Calls Tryd.prog 26 #[.pointer (some ⟨B, 0, none⟩), .slice A l.length c] w fun e w' => e = .returned (.bool true) ∧ Below w.heap.size w w' := by
  obtain ⟨kS, hS⟩ := same_ok (ids l) (by rw [ids_length]; omega)
  have HSM := Lib.hid (fun (A1 : Option Addr) (c1 : Nat) (W : World) (h1 : Kd.C k26 W A1 l.length (ids l)) (h2 : l.length ≤ c1) (h3 : Kd.C k26 W A l.length (ids l)) => (by
    have h := spoorlaw21_same.calls kS A1 c1 (ids l) A c (ids l) true W (by rw [ids_length]; exact h1) (by rw [ids_length]; exact h2) (by rw [ids_length]; exact h3) (by rw [ids_length]; exact hc) hS
    rw [ids_length] at h; exact h.mono (fun e w' ⟨a, b⟩ => ⟨a, b.below⟩) : Calls Tryd.prog 33 #[.slice A1 l.length c1, .slice A l.length c] W fun e w' => e = .returned (.bool true) ∧ Below W.heap.size W w'))
  have HF := Lib.hid hF
  have HC := Lib.hid hC
  have HL := Lib.hid hl
  have HT := Lib.hid (fun (W : World) (hb : Below w.heap.size w W) => (by
    have h := traces_own base B v most l W (hF.kept (Kx.of_below hb (fun _ => False)) (fun _ _ h => h)) hl; exact h : Calls Tryd.prog 32 #[.pointer (some ⟨B, 0, none⟩)] W (TrPost W l)))
  clear hF hC hl hc hS
  have HIL := Lib.hid (ids_length l)
  generalize hn : l.length = n at *
  have HN := Lib.hid hn
  clear hn
  go_enter Tryd.func26, Tryd.ntmps26
  go_wp2_with fail
  refine (HT.out _ (Below.refl _ _)).mono ?_
  rintro e w1 ⟨va, rfl, hRa, hb1⟩
  have HB1 := Lib.hid hb1
  have HRA := Lib.hid hRa
  clear hRa hb1
  go_wp2_with fail
  refine (HT.out _ HB1.out).mono ?_
  rintro e w2 ⟨vb, rfl, hRb, hb2⟩
  have HB2 := Lib.hid hb2
  have HRA2 : Hid (Kd.R k26 26 w2 w.heap.size (fun _ => True) va (ids l)) := Lib.hid (Kd.R_below HRA.out hb2)
  have HRB := Lib.hid hRb
  have HAO := Lib.hid (Kd.R_lt HRA.out)
  obtain ⟨A1, c1, hva⟩ := Kd.R_slice HRA2.out
  obtain ⟨A2, c2, hvb⟩ := Kd.R_slice hRb
  rw [HIL.out] at hva hvb
  subst hva hvb
  clear hRb hb2
  go_wp2_with fail
  refine (HSM.out A1 c1 _ (by have h := (Kd.R_reads' HRA2.out).2.2; rwa [HIL.out] at h) (Kd.R_reads' HRA2.out).2.1 (Kd.C_below (Kd.C_below HC.out HB1.out) HB2.out)).mono ?_
  rintro e w3 ⟨rfl, hb3⟩
  have HB3 := Lib.hid hb3
  have HO0 : Hid (∃ inner, w3.ownsRow w.heap.size 26 2 (.slice A1 n c1) n inner) := Lib.hid (by
    obtain ⟨inner, h⟩ := Kd.R_own (Kd.R_below HRA2.out hb3); rw [HIL.out] at h; exact ⟨inner, h⟩)
  have HK0 : Hid (Kx w2 w3 (fun k => (Value.slice A1 n c1).ownBlock = some k)) := Lib.hid (Kx.of_below hb3 _)
  clear hb3
  go_wp2_with fail
  go_loopg [8] n (fun kx s8 wr => ∃ i : Nat, s8 = .int .i64 i ∧ i ≤ n ∧ n - i ≤ kx ∧ Hid (∃ inner, wr.ownsRow w.heap.size 26 2 (.slice A1 n c1) n inner) ∧ Hid (Kx w2 wr (fun k => (Value.slice A1 n c1).ownBlock = some k)))
  case atStart => exact ⟨0, rfl, Nat.zero_le _, by omega, HO0, HK0⟩
  case round =>
    clear HO0 HK0
    obtain ⟨i, rfl, hin, hg, HO, HK⟩ := hrel
    by_cases hlt : i < n
    · obtain ⟨inner, ho⟩ := HO.out
      obtain ⟨g, cap, he, hgb, hgl⟩ := ho.form (by omega)
      injection he with he1 _ he2
      subst he1 he2
      obtain ⟨⟨u0, q0⟩, ⟨u1, q1⟩, qf⟩ := cells26_two ho i hlt
      have HS : Hid (∃ inner', ((wr.setCell ⟨g, i * 2, none⟩ (.int .u64 7)).setCell ⟨g, i * 2 + 1, none⟩ (.int .u64 7)).ownsRow w.heap.size 26 2 (.slice (some ⟨g, 0, none⟩) n c1) n inner') := Lib.hid (by
        obtain ⟨in1, o1, _⟩ := store26 ho (i * 2) (.int .u64 7)
        obtain ⟨in2, o2, _⟩ := store26 o1 (i * 2 + 1) (.int .u64 7)
        exact ⟨in2, o2⟩)
      have HK1 : Hid (Kx w2 ((wr.setCell ⟨g, i * 2, none⟩ (.int .u64 7)).setCell ⟨g, i * 2 + 1, none⟩ (.int .u64 7)) (fun k => (Value.slice (some ⟨g, 0, none⟩) n c1).ownBlock = some k)) := Lib.hid
        ((HK.out.then_ (Kx.setCell _ _ _) (fun k hk => .inl (by rw [hk]; rfl))).then_ (Kx.setCell _ _ _) (fun k hk => .inl (by rw [hk]; rfl)))
      clear ho HO HK
      have hn1 : n ≤ 1000 := HL.out
      go_wp2
      go_roundg (n - (i + 1))
      case measure => omega
      case rel => exact ⟨i + 1, by go_num, by omega, Nat.le_refl _, HS, HK1⟩
    · obtain rfl : n = i := by omega
      clear hlt
      have HO2 : Hid (∃ inner, wr.ownsRow w.heap.size 26 2 (.slice A1 n c1) (n + 0) inner) := HO
      clear HO
      have hn1 : n ≤ 1000 := HL.out
      go_wp2
      go_loopg [5, 9] 20 (fun kx s5 s9 wr => ∃ i : Nat, s9 = .int .i64 i ∧ i ≤ 20 ∧ 20 - i ≤ kx ∧ Hid (∃ inner, wr.ownsRow w.heap.size 26 2 s5 (n + i) inner) ∧ Hid (Kx w2 wr (fun k => (Value.slice A1 n c1).ownBlock = some k)) ∧ Hid (s5.ownBlock = (Value.slice A1 n c1).ownBlock ∨ ∃ k, s5.ownBlock = some k ∧ w2.heap.size ≤ k))
      case atStart => exact ⟨0, rfl, by omega, by omega, HO2, HK, Lib.hid (.inl rfl)⟩
      case round =>
        clear HO2 HK
        obtain ⟨i, rfl, hi, hg2, HO, HK, HV⟩ := hrel
        by_cases hlt : i < 20
        · have hlt' : (i : Int) < 20 := by omega
          obtain ⟨i0, hi0, hzz⟩ := Option.map_eq_some_iff.1 info26
          simp only [Prod.mk.injEq] at hzz
          obtain ⟨hz0, hz1, hz2⟩ := hzz
          obtain ⟨inner, ho⟩ := HO.out
          have HOW := Lib.hid (ho.alloc (.cells #[.int .u64 7, .int .u64 0] 26))
          have HBB : Hid (w.heap.size ≤ wr.heap.size) := Lib.hid (by
            have h1 := HK.out.size; have h2 := HB1.out.size; have h3 := HB2.out.size; omega)
          have HZ : Hid (w.heap.size ≤ (wr.alloc (.cells #[.int .u64 7, .int .u64 0] 26)).heap.size) := Lib.hid (by have := HBB.out; simp; omega)
          have HNW := Lib.hid (cells26_box wr)
          clear ho
          go_wp2_with (at_builtin; refine wpList_append_own_at _ rfl (.tmp 33) (.tmp 35) 71 rfl w.heap.size 26 i0 _ 2 16 Tryd.underlying71 hi0 hz0 hz1 hz2 rfl (by omega) u5 (n + i) inner (by first | (go_simp; done) | (go_simp; rfl)) HOW.out ⟨wr.heap.size, 0, none⟩ 1 1 [.int .u64 7, .int .u64 0] (by first | (go_simp; done) | (go_simp; rfl)) rfl HNW.out (by simp [Value.oneCell']) (by unfold maxLen; omega) (by omega) HZ.out ?_
                       intro v' w9 hown' hgrow hnil hat
                       have HO2 : Hid (∃ inner, w9.ownsRow w.heap.size 26 2 v' (n + (i + 1)) inner) := Lib.hid ⟨_, hown'⟩
                       have HK2 : Hid (Kx w2 w9 (fun k => (Value.slice A1 n c1).ownBlock = some k)) := Lib.hid (by
                         have k1 : Kx wr w9 (fun k => u5.ownBlock = some k) := (Kx.of_below (below_alloc (Below.refl _ wr) (.cells #[.int .u64 7, .int .u64 0] 26)) _).then_ (Kx.of_grown hgrow) (fun k hk => .inl hk)
                         refine HK.out.then_ k1 (fun k hk => ?_)
                         rcases HV.out with h1 | ⟨k', h1, h2⟩
                         · exact .inl (h1 ▸ hk)
                         · rw [h1] at hk; simp at hk; subst hk; exact .inr h2)
                       have HV2 : Hid (v'.ownBlock = (Value.slice A1 n c1).ownBlock ∨ ∃ k, v'.ownBlock = some k ∧ w2.heap.size ≤ k) := Lib.hid (by
                         rcases hat with h1 | h1
                         · rw [h1]; exact HV.out
                         · refine .inr ⟨_, h1, ?_⟩
                           have := HK.out.size; simp; omega)
                       clear hown' hgrow hnil hat)
          all_goals
            go_roundg (20 - (i + 1))
            case measure => omega
            case rel => exact ⟨i + 1, by go_num, by omega, Nat.le_refl _, HO2, HK2, HV2⟩
        · have hie : i = 20 := by omega
          subst hie
          clear hlt
          have HRB3 : Hid (Kd.R k26 26 wr w1.heap.size (fun _ => True) (.slice A2 n c2) (ids l)) := Lib.hid (R26_apart HRB.out HK.out HAO.out)
          have HBW : Hid (Below w.heap.size w wr) := Lib.hid ((HB1.out.trans (HB2.out.mono HB1.out.size)).trans (HK.out.below (Nat.le_trans HB1.out.size HB2.out.size) (fun k hk => Kd.R_base HRA.out k hk)))
          clear HO HK HV
          go_wp2_with fail
          refine (HSM.out A2 c2 _ (by have h := (Kd.R_reads' HRB3.out).2.2; rwa [HIL.out] at h) (Kd.R_reads' HRB3.out).2.1 (Kd.C_below HC.out HBW.out)).mono ?_
          rintro e w4 ⟨rfl, hb4⟩
          have HO0 : Hid (∃ inner, w4.ownsRow w.heap.size 26 2 (.slice A2 n c2) n inner) := Lib.hid (by
            obtain ⟨inner, h⟩ := Kd.R_own (Kd.R_lower (Kd.R_below HRB3.out hb4) HB1.out.size); rw [HIL.out] at h; exact ⟨inner, h⟩)
          have HW0 : Hid (Below w.heap.size w w4) := Lib.hid (HBW.out.trans (hb4.mono HBW.out.size))
          clear hb4
          go_wp2_with fail
          go_loopg [11] n (fun kx s11 wr => ∃ i : Nat, s11 = .int .i64 i ∧ i ≤ n ∧ n - i ≤ kx ∧ Hid (∃ inner, wr.ownsRow w.heap.size 26 2 (.slice A2 n c2) n inner) ∧ Hid (Below w.heap.size w wr))
          case atStart => exact ⟨0, rfl, Nat.zero_le _, by omega, HO0, HW0⟩
          case round =>
            clear HO0 HW0
            obtain ⟨i, rfl, hin, hg, HO, HW⟩ := hrel
            by_cases hlt : i < n
            · obtain ⟨inner, ho⟩ := HO.out
              obtain ⟨g, cap, he, hgb, hgl⟩ := ho.form (by omega)
              injection he with he1 _ he2
              subst he1 he2
              obtain ⟨⟨u0, q0⟩, ⟨u1, q1⟩, qf⟩ := cells26_two ho i hlt
              have HS : Hid (∃ inner', ((wr.setCell ⟨g, i * 2, none⟩ (.int .u64 8)).setCell ⟨g, i * 2 + 1, none⟩ (.int .u64 8)).ownsRow w.heap.size 26 2 (.slice (some ⟨g, 0, none⟩) n c2) n inner') := Lib.hid (by
                obtain ⟨in1, o1, _⟩ := store26 ho (i * 2) (.int .u64 8)
                obtain ⟨in2, o2, _⟩ := store26 o1 (i * 2 + 1) (.int .u64 8)
                exact ⟨in2, o2⟩)
              have HK1 : Hid (Below w.heap.size w ((wr.setCell ⟨g, i * 2, none⟩ (.int .u64 8)).setCell ⟨g, i * 2 + 1, none⟩ (.int .u64 8))) := Lib.hid (below_set (below_set HW.out hgb) hgb)
              clear ho HO HW
              go_wp2
              go_roundg (n - (i + 1))
              case measure => omega
              case rel => exact ⟨i + 1, by go_num, by omega, Nat.le_refl _, HS, HK1⟩
            · obtain rfl : n = i := by omega
              clear hlt
              go_wp2
              go_ret
              exact ⟨rfl, HW.out⟩
end Go.Proofs.YtdlnfmakfnggpaaDoor.Pr
namespace Go.Proofs.YtdlnfmakfnggpaaDoor.Pr
open Go.RowKit Go.Lib Go.Proofs.YtdlnfmakfnggpaaDoorW.PrintWords
set_option linter.unusedVariables false
set_option linter.unusedSimpArgs false
def Rng (l : List C3) : Prop := ∀ c ∈ l, 0 ≤ c.1 ∧ c.1 < 18446744073709551616
structure Good (m : Nat) (l : List C3) : Prop where
  srt : Srt l
  len : l.length ≤ m
  mix : MixOk l
  rng : Rng l
theorem good_nil (m : Nat) : Good m [] := ⟨srt_nil, Nat.zero_le _, fun c hc => by simp at hc, fun c hc => by simp at hc⟩
theorem good_put {m : Nat} {l : List C3} {x : C3} (h : Good m l) (hx : sample_Mix.f x.2.1 x.2.2 = some x.1) (hr : 0 ≤ x.1 ∧ x.1 < 18446744073709551616) : Good m ((insL l x).take m) := by
  refine ⟨srt_take (by rw [insL_ins _ _ h.srt]; exact srt_ins _ _ h.srt) m, by rw [List.length_take]; omega, mixOk_insL h.srt h.mix hx, fun c hc => ?_⟩
  have hc := List.mem_of_mem_take hc
  rw [insL_ins l x h.srt] at hc
  rcases (mem_ins l x c).1 hc with rfl | hc
  · exact hr
  · exact h.rng c hc
theorem good_puts {m : Nat} : ∀ {l2 l : List C3}, Good m l → MixOk l2 → Rng l2 → Good m (puts m l l2)
  | [], l, h, _, _ => h
  | x :: r, l, h, h2, h3 => good_puts (l2 := r) (l := (insL l x).take m) (good_put h (h2 x (by simp)) (h3 x (by simp))) (fun c hc => h2 c (by simp [hc])) (fun c hc => h3 c (by simp [hc]))
structure D4 (w0 W : World) (bf bg cx cy mf mg : Nat) (Lf Lg Lx Ly : List C3) : Prop where
  below : Below w0.heap.size w0 W
  ge : w0.heap.size ≤ bf ∧ w0.heap.size ≤ bg ∧ w0.heap.size ≤ cx ∧ w0.heap.size ≤ cy
  ne : cx ≠ cy
  mem : ∃ vf vg vx vy, FewAt W w0.heap.size bf vf mf Lf ∧ FewAt W w0.heap.size bg vg mg Lg ∧ RefAt W w0.heap.size cx vx mf (ids Lx) ∧ RefAt W w0.heap.size cy vy mg (ids Ly) ∧ ∀ k, Foot bf vf k → ¬ Foot bg vg k
section
variable {w0 W W' : World} {bf bg cx cy mf mg : Nat} {Lf Lg Lx Ly : List C3}
theorem D4.swap (h : D4 w0 W bf bg cx cy mf mg Lf Lg Lx Ly) : D4 w0 W bg bf cy cx mg mf Lg Lf Ly Lx := by
  obtain ⟨hb, ⟨h1, h2, h3, h4⟩, hn, vf, vg, vx, vy, a, b, c, d, e⟩ := h
  exact ⟨hb, ⟨h2, h1, h4, h3⟩, fun e => hn e.symm, vg, vf, vy, vx, b, a, d, c, fun k hk hk2 => e k hk2 hk⟩
/-- A row of a reference's few is no block of a few. -/
theorem ref_apart {base base2 B C : Nat} {v u : Value} {m m2 : Nat} {l : List C3} {xs : List S26} (hF : FewAt W base B v m l) (hR : RefAt W base2 C u m2 xs) : ¬ Foot B v C ∧ ∀ g, u.ownBlock = some g → ¬ Foot B v g := by
  have hu : ∀ g, u.ownBlock = some g → ∃ cells, W.heap[g]? = some (.cells cells 26 (0, 0)) := fun g hg => by
    obtain ⟨inner, ho⟩ := Kd.R_own hR.own
    exact own_typed ho g hg
  have hv : ∀ g, v.ownBlock = some g → ∃ cells, W.heap[g]? = some (.cells cells 101 (0, 0)) := fun g hg => own_typed hF.own g hg
  refine ⟨?_, fun g hg => ?_⟩
  · rintro (h | h)
    · subst h; have := hF.blk.symm.trans hR.blk; simp at this
    · obtain ⟨cells, hc⟩ := hv _ h; have := hc.symm.trans hR.blk; simp at this
  · obtain ⟨cells, hc⟩ := hu g hg
    rintro (h | h)
    · subst h; have := hF.blk.symm.trans hc; simp at this
    · obtain ⟨cells2, hc2⟩ := hv _ h; have := hc2.symm.trans hc; simp at this
theorem few_apart {base base2 B C : Nat} {v u : Value} {m m2 : Nat} {l : List C3} {xs : List S26} (hF : FewAt W base B v m l) (hR : RefAt W base2 C u m2 xs) : ∀ k, Foot B v k → ¬ k = C := fun k hk e => by
  subst e; exact (ref_apart hF hR).1 hk
theorem rows_apart {base base2 B C : Nat} {v u : Value} {m m2 : Nat} {xs ys : List S26} (hF : RefAt W base B v m xs) (hR : RefAt W base2 C u m2 ys) : ∀ g, u.ownBlock = some g → ¬ g = B := fun g hg e => by
  subst e
  obtain ⟨inner, ho⟩ := Kd.R_own hR.own
  obtain ⟨cells, hc⟩ := own_typed ho g hg
  have := hc.symm.trans hF.blk; simp at this
theorem D4.keep (h : D4 w0 W bf bg cx cy mf mg Lf Lg Lx Ly) (hb : Below W.heap.size W W') : D4 w0 W' bf bg cx cy mf mg Lf Lg Lx Ly := by
  obtain ⟨h0, hge, hn, vf, vg, vx, vy, a, b, c, d, e⟩ := h
  have k := Kx.of_below hb (fun _ => False)
  exact ⟨h0.trans (hb.mono h0.size), hge, hn, vf, vg, vx, vy, a.kept k (fun _ _ h => h), b.kept k (fun _ _ h => h), c.kept k (fun h => h) (fun _ _ h => h), d.kept k (fun h => h) (fun _ _ h => h), e⟩
theorem D4.drew (h : D4 w0 W bf bg cx cy mf mg Lf Lg Lx Ly) : D4 w0 W.drew bf bg cx cy mf mg Lf Lg Lx Ly := h.keep (below_drew (Below.refl _ _))
/-- The first few was changed. -/
theorem D4.step {vf v' : Value} {vg vx vy : Value} {L' : List C3} (h0 : Below w0.heap.size w0 W) (hge : w0.heap.size ≤ bf ∧ w0.heap.size ≤ bg ∧ w0.heap.size ≤ cx ∧ w0.heap.size ≤ cy) (hn : cx ≠ cy) (a : FewAt W w0.heap.size bf vf mf Lf) (b : FewAt W w0.heap.size bg vg mg Lg)
    (c : RefAt W w0.heap.size cx vx mf (ids Lx)) (d : RefAt W w0.heap.size cy vy mg (ids Ly)) (e : ∀ k, Foot bf vf k → ¬ Foot bg vg k) (hF : FewAt W' w0.heap.size bf v' mf L') (hK : Kx W W' (Foot bf vf)) (hv : OwnF W vf v') : D4 w0 W' bf bg cx cy mf mg L' Lg Lx Ly := by
  refine ⟨h0.trans (hK.below h0.size (foot_ge hge.1 a)), hge, hn, v', vg, vx, vy, hF, b.kept hK (fun k hk hk2 => e k hk2 hk), c.kept hK (ref_apart a c).1 (ref_apart a c).2, d.kept hK (ref_apart a d).1 (ref_apart a d).2, fun k hk hk2 => ?_⟩
  rcases hk with rfl | hk
  · exact e _ (.inl rfl) hk2
  · rcases hv with h1 | ⟨k', h1, h2⟩
    · exact e k (.inr (by rw [← h1]; exact hk)) hk2
    · rw [h1] at hk; simp at hk; subst hk
      have := foot_lt b _ hk2; omega
/-- The first of the reference's was changed. -/
theorem D4.rstep {v' : Value} {L' : List C3} (h : D4 w0 W bf bg cx cy mf mg Lf Lg Lx Ly) (hF : RefAt W' w0.heap.size cx v' mf (ids L')) (hK : Kx W W' (fun k => k = cx)) : D4 w0 W' bf bg cx cy mf mg Lf Lg L' Ly := by
  obtain ⟨h0, hge, hn, vf, vg, vx, vy, a, b, c, d, e⟩ := h
  exact ⟨h0.trans (hK.below h0.size (fun k hk => by rw [hk]; exact hge.2.2.1)), hge, hn, vf, vg, v', vy, a.kept hK (few_apart a c), b.kept hK (few_apart b c), hF, d.kept hK (fun h => hn h.symm) (rows_apart c d), e⟩
/-- Blocks of traces are as they were. -/
def Far26 (W W' : World) : Prop := ∀ (g : Nat) (cs : Array Value), W.heap[g]? = some (.cells cs 26 (0, 0)) → W'.heap[g]? = some (.cells cs 26 (0, 0))
theorem far26 {base B : Nat} {v : Value} {most : Nat} {l : List C3} (hF : FewAt W base B v most l) (hK : Kx W W' (Foot B v)) : Far26 W W' := fun g cs hg => by
  refine (hK.block g (blk_lt hg) ?_).trans hg
  rintro (rfl | hv)
  · have := hg.symm.trans hF.blk
    simp at this
  · obtain ⟨cells, hc⟩ := own_typed hF.own g hv
    have := hg.symm.trans hc
    simp at this
theorem rfar26 {base C : Nat} {v : Value} {most : Nat} {xs : List S26} (hF : RefAt W base C v most xs) (hK : Kx W W' (fun k => k = C)) : Far26 W W' := fun g cs hg => by
  refine (hK.block g (blk_lt hg) ?_).trans hg
  rintro rfl
  have := hg.symm.trans hF.blk
  simp at this
theorem d_put (h : D4 w0 W bf bg cx cy mf mg Lf Lg Lx Ly) (hg : Good mf Lf) (hm1 : mf ≤ 1000) (hh lo mx : Int) (hm : sample_Mix.f hh lo = some mx) :
    Calls Tryd.prog 30 #[.pointer (some ⟨bf, 0, none⟩), .agg #[.int .u64 hh, .int .u64 lo]] W fun e W' => e = .returned (.bool (decide (pos Lf (mx, hh, lo) < mf))) ∧ D4 w0 W' bf bg cx cy mf mg ((insL Lf (mx, hh, lo)).take mf) Lg Lx Ly ∧ Far26 W W' := by
  obtain ⟨h0, hge, hn, vf, vg, vx, vy, a, b, c, d, e⟩ := h
  refine (put_own w0.heap.size bf vf mf Lf hg.srt hh lo mx W a hg.len hm1 h0.size hm).mono ?_
  rintro e' W' ⟨v', rfl, hF', hK, hv⟩
  exact ⟨rfl, D4.step h0 hge hn a b c d e hF' hK hv, far26 a hK⟩
theorem d_rput (h : D4 w0 W bf bg cx cy mf mg Lf Lg Lx Ly) (hg : Good mf Lx) (hm0 : 1 ≤ mf) (hm1 : mf ≤ 1000) (hh lo mx : Int) (hm : sample_Mix.f hh lo = some mx) :
    Calls Tryd.prog 54 #[.pointer (some ⟨cx, 0, none⟩), .agg #[.int .u64 hh, .int .u64 lo]] W fun e W' => e = .returned (.bool (decide (pos Lx (mx, hh, lo) < mf))) ∧ D4 w0 W' bf bg cx cy mf mg Lf Lg ((insL Lx (mx, hh, lo)).take mf) Ly ∧ Far26 W W' := by
  obtain ⟨_, _, c, _⟩ := h.mem.choose_spec.choose_spec.choose_spec.choose_spec
  refine (ref_put w0.heap.size cx _ mf Lx hg.srt hg.mix hh lo mx W c hg.len hm0 hm1 h.below.size hm).mono ?_
  rintro e' W' ⟨v', rfl, hF', hK⟩
  exact ⟨rfl, h.rstep hF' hK, rfar26 c hK⟩
theorem d_merge (h : D4 w0 W bf bg cx cy mf mf Lf Lg Lx Ly) (hg : Good mf Lf) (hg2 : Good mf Lg) (hm1 : mf ≤ 1000) :
    Calls Tryd.prog 31 #[.pointer (some ⟨bf, 0, none⟩), .pointer (some ⟨bg, 0, none⟩)] W fun e W' => e = .returned (.int .i64 0) ∧ D4 w0 W' bf bg cx cy mf mf (puts mf Lf Lg) Lg Lx Ly := by
  obtain ⟨h0, hge, hn, vf, vg, vx, vy, a, b, c, d, e⟩ := h
  refine (merge_own w0.heap.size bf bg vf vg mf Lf Lg hg.srt W a b hg.len (by have := hg2.len; omega) hm1 h0.size hg2.mix).mono ?_
  rintro e' W' ⟨v', rfl, hF', hK, hv⟩
  exact ⟨rfl, D4.step h0 hge hn a b c d e hF' hK hv⟩
theorem d_self (h : D4 w0 W bf bg cx cy mf mg Lf Lg Lx Ly) (hg : Good mf Lf) (hm1 : mf ≤ 1000) :
    Calls Tryd.prog 31 #[.pointer (some ⟨bf, 0, none⟩), .pointer (some ⟨bf, 0, none⟩)] W fun e W' => e = .returned (.int .i64 0) ∧ D4 w0 W' bf bg cx cy mf mg (puts mf Lf Lf) Lg Lx Ly := by
  obtain ⟨h0, hge, hn, vf, vg, vx, vy, a, b, c, d, e⟩ := h
  refine (merge_own w0.heap.size bf bf vf vf mf Lf Lf hg.srt W a a hg.len (by have := hg.len; omega) hm1 h0.size hg.mix).mono ?_
  rintro e' W' ⟨v', rfl, hF', hK, hv⟩
  exact ⟨rfl, D4.step h0 hge hn a b c d e hF' hK hv⟩
theorem d_rmerge (h : D4 w0 W bf bg cx cy mf mf Lf Lg Lx Ly) (hg : Good mf Lx) (hg2 : Good mf Ly) (hm0 : 1 ≤ mf) (hm1 : mf ≤ 1000) :
    Calls Tryd.prog 55 #[.pointer (some ⟨cx, 0, none⟩), .pointer (some ⟨cy, 0, none⟩)] W fun e W' => e = .returned (.int .i64 0) ∧ D4 w0 W' bf bg cx cy mf mf Lf Lg (puts mf Lx Ly) Ly := by
  obtain ⟨_, _, c, d, _⟩ := h.mem.choose_spec.choose_spec.choose_spec.choose_spec
  refine (ref_merge w0.heap.size cx cy _ _ mf Lx Ly hg.srt W c d hg.len (by have := hg2.len; omega) hm0 hm1 h.below.size hg.mix hg2.mix).mono ?_
  rintro e' W' ⟨v', rfl, hF', hK⟩
  exact ⟨rfl, h.rstep hF' hK⟩
theorem d_rself (h : D4 w0 W bf bg cx cy mf mg Lf Lg Lx Ly) (hg : Good mf Lx) (hm0 : 1 ≤ mf) (hm1 : mf ≤ 1000) :
    Calls Tryd.prog 55 #[.pointer (some ⟨cx, 0, none⟩), .pointer (some ⟨cx, 0, none⟩)] W fun e W' => e = .returned (.int .i64 0) ∧ D4 w0 W' bf bg cx cy mf mg Lf Lg (puts mf Lx Lx) Ly := by
  obtain ⟨_, _, c, d, _⟩ := h.mem.choose_spec.choose_spec.choose_spec.choose_spec
  refine (ref_merge w0.heap.size cx cx _ _ mf Lx Lx hg.srt W c c hg.len (by have := hg.len; omega) hm0 hm1 h.below.size hg.mix hg.mix).mono ?_
  rintro e' W' ⟨v', rfl, hF', hK⟩
  exact ⟨rfl, h.rstep hF' hK⟩
set_option maxHeartbeats 1000000 in
theorem merge_bad (B B2 : Nat) (v v2 : Value) (most most2 : Nat) (base : Nat) (xs ys : List C3) (w : World) (hF : FewAt w base B v most xs) (hF2 : FewAt w base B2 v2 most2 ys) (hne : most2 ≠ most) :
    Calls Tryd.prog 31 #[.pointer (some ⟨B, 0, none⟩), .pointer (some ⟨B2, 0, none⟩)] w fun e w' => e = .returned (.int .i64 1) ∧ Below w.heap.size w w' := by
  have c0 : ∀ z : Wx w, z.W.cell? ⟨B, 0, none⟩ = some (.int .i64 most) := fun z => z.cell ((cell_of_row _ _ 0 _ _ _ hF.blk).trans rfl)
  have c1 : ∀ z : Wx w, z.W.cell? ⟨B2, 0, none⟩ = some (.int .i64 most2) := fun z => z.cell ((cell_of_row _ _ 0 _ _ _ hF2.blk).trans rfl)
  have hd : ((most2 : Int) != (most : Int)) = true := bne_iff_ne.2 (fun e => hne (by omega))
  clear hF hF2
  go_enter Tryd.func31, Tryd.ntmps31
  go_wp2
  refine wp_region_ext (by kernel_rfl) (by kernel_rfl) ?_
  repeat (go_big_quiet_step (fail))
  refine wpQuiet_nil ?_
  intro _ hw'
  obtain ⟨zz, rfl⟩ := hw'
  have HB := Lib.hid zz.h
  clear c0 c1
  go_wp2
  go_ret
  exact ⟨rfl, HB.out⟩
set_option maxHeartbeats 1000000 in
theorem merge_nil (B : Nat) (w : World) : Calls Tryd.prog 31 #[.pointer (some ⟨B, 0, none⟩), .pointer none] w fun e w' => e = .returned (.int .i64 1) ∧ Below w.heap.size w w' := by
  go_enter Tryd.func31, Tryd.ntmps31
  go_wp2
  refine wp_region_ext (by kernel_rfl) (by kernel_rfl) ?_
  repeat (go_big_quiet_step (fail))
  refine wpQuiet_nil ?_
  intro _ hw'
  obtain ⟨zz, rfl⟩ := hw'
  have HB := Lib.hid zz.h
  go_wp2
  go_ret
  exact ⟨rfl, HB.out⟩
theorem d_mbad (h : D4 w0 W bf bg cx cy mf mg Lf Lg Lx Ly) (hne : mg ≠ mf) : Calls Tryd.prog 31 #[.pointer (some ⟨bf, 0, none⟩), .pointer (some ⟨bg, 0, none⟩)] W fun e W' => e = .returned (.int .i64 1) ∧ Below W.heap.size W W' := by
  obtain ⟨a, b, _⟩ := h.mem.choose_spec.choose_spec.choose_spec.choose_spec
  exact merge_bad bf bg _ _ mf mg _ Lf Lg W a b hne
theorem d_rmbad (h : D4 w0 W bf bg cx cy mf mg Lf Lg Lx Ly) (hne : mg ≠ mf) : Calls Tryd.prog 55 #[.pointer (some ⟨cx, 0, none⟩), .pointer (some ⟨cy, 0, none⟩)] W fun e W' => e = .returned (.int .i64 1) ∧ Below W.heap.size W W' := by
  obtain ⟨_, _, c, d, _⟩ := h.mem.choose_spec.choose_spec.choose_spec.choose_spec
  exact refmerge_bad cx cy _ _ mf mg _ _ _ W c d hne
theorem d_rtraces (h : D4 w0 W bf bg cx cy mf mg Lf Lg Lx Ly) (hg : Good mf Lx) (hm1 : mf ≤ 1000) : Calls Tryd.prog 27 #[.pointer (some ⟨cx, 0, none⟩)] W (TrsPost W (ids Lx)) := by
  obtain ⟨_, _, c, d, _⟩ := h.mem.choose_spec.choose_spec.choose_spec.choose_spec
  exact ref_traces _ cx _ mf (ids Lx) W c (by rw [ids_length]; have := hg.len; omega)
theorem d_law (h : D4 w0 W bf bg cx cy mf mg Lf Lg Lx Ly) (hg : Good mf Lf) (hm1 : mf ≤ 1000) (A : Option Addr) (c : Nat) (hC : Kd.C k26 W A Lf.length (ids Lf)) (hc : Lf.length ≤ c) :
    Calls Tryd.prog 26 #[.pointer (some ⟨bf, 0, none⟩), .slice A Lf.length c] W fun e w' => e = .returned (.bool true) ∧ Below W.heap.size W w' := by
  obtain ⟨a, _⟩ := h.mem.choose_spec.choose_spec.choose_spec.choose_spec
  exact traces_law _ bf _ mf Lf A c W a (by have := hg.len; omega) hC hc
theorem d_guess (h : D4 w0 W bf bg cx cy mf mg Lf Lg Lx Ly) (hg : Good mf Lf) (hm0 : 2 ≤ mf) (hm1 : mf ≤ 1000) : Calls Tryd.prog 28 #[.pointer (some ⟨bf, 0, none⟩)] W fun e w' => e = .returned (.int .u64 (refGuess mf Lf)) ∧ Below W.heap.size W w' := by
  obtain ⟨a, _⟩ := h.mem.choose_spec.choose_spec.choose_spec.choose_spec
  obtain ⟨e1, e2⟩ := guess_same mf Lf hm0 hm1 hg.rng hg.len
  by_cases hlt : Lf.length < mf
  · have e : refGuess mf Lf = (Lf.length : Int) := by unfold refGuess; rw [if_pos hlt]
    rw [e]
    exact guess_few _ bf _ mf Lf W a hlt hm1
  · rw [← e1]
    exact guess_full _ bf _ mf Lf W a (by have := hg.len; omega) hm0 hm1 (e2.resolve_left hlt)
theorem d_rguess (h : D4 w0 W bf bg cx cy mf mg Lf Lg Lx Ly) (hg : Good mf Lx) (hm0 : 2 ≤ mf) (hm1 : mf ≤ 1000) : Calls Tryd.prog 29 #[.pointer (some ⟨cx, 0, none⟩)] W fun e w' => e = .returned (.int .u64 (refGuess mf Lx)) ∧ Below W.heap.size W w' := by
  obtain ⟨_, _, c, _⟩ := h.mem.choose_spec.choose_spec.choose_spec.choose_spec
  by_cases hlt : Lx.length < mf
  · have e : refGuess mf Lx = (Lx.length : Int) := by unfold refGuess; rw [if_pos hlt]
    rw [e]
    exact refguess_few _ cx _ mf Lx W c hlt hm1
  · exact refguess_full _ cx _ mf Lx W c (by have := hg.len; omega) hm0 hm1 hg.mix hg.rng
end
end Go.Proofs.YtdlnfmakfnggpaaDoor.Pr
namespace Go.Proofs.YtdlnfmakfnggpaaDoor.Pr
open Go.RowKit Go.Lib Go.Proofs.YtdlnfmakfnggpaaDoorW.PrintWords
set_option linter.unusedVariables false
set_option linter.unusedSimpArgs false
theorem mixN_lt (h2 lo : Nat) : mixN h2 lo < 2 ^ 64 := Mx.blend_lt (Nat.mod_lt _ (by decide))
def PlayPost (w0 : World) (bf bg cx cy mf mg : Nat) (Lg : List C3) (e : Ending) (W' : World) : Prop := e = .returned (.bool true) ∧ ∃ L', Good mf L' ∧ D4 w0 W' bf bg cx cy mf mg L' Lg L' Lg
set_option maxHeartbeats 8000000 in
set_option maxRecDepth 100000 in
theorem play_run (w0 W : World) (bf bg cx cy mf mg : Nat) (L Lg : List C3) (hD : D4 w0 W bf bg cx cy mf mg L Lg L Lg) (hg1 : Good mf L) (hg2 : Good mg Lg) (hm0 : 2 ≤ mf) (hm1 : mf ≤ 1000) (ot bk : Bool) (kd : Int) (hi lo : Nat) (hh : hi < 2 ^ 64) (hlo : lo < 2 ^ 64) :
    Calls Tryd.prog 25 #[.pointer (some ⟨bf, 0, none⟩), .pointer (some ⟨bg, 0, none⟩), .pointer (some ⟨cx, 0, none⟩), .pointer (some ⟨cy, 0, none⟩), .agg #[.bool ot, .int .i64 kd, .int .u64 hi, .int .u64 lo, .bool bk]] W (PlayPost w0 bf bg cx cy mf mg Lg) := by
  have HG1 := Lib.hid hg1
  have HG2 := Lib.hid hg2
  have HM0 := Lib.hid hm0
  have HM1 := Lib.hid hm1
  have HNM := Lib.hid (fun V => spoorlaw21_named.calls 9 (hi : Int) (lo : Int) ((namedN hi lo : Nat) : Int) (lo : Int) V (named_int hi lo hh hlo))
  have HMX : Hid (∀ h2 : Nat, h2 < 2 ^ 64 → sample_Mix.f (h2 : Int) (lo : Int) = some ((mixN h2 lo : Nat) : Int) ∧ (0 : Int) ≤ ((mixN h2 lo : Nat) : Int) ∧ ((mixN h2 lo : Nat) : Int) < 18446744073709551616) := Lib.hid (fun h2 hlt => ⟨mix_int h2 lo hlt hlo, by omega, by have : mixN h2 lo < 2 ^ 64 := mixN_lt h2 lo; simp only [Nat.reducePow] at this; omega⟩)
  have HHI := Lib.hid hh
  obtain ⟨W1, hW1⟩ : ∃ W1, W1 = W.alloc (.cells #[.bool ot, .int .i64 kd, .int .u64 hi, .int .u64 lo, .bool bk] 68) := ⟨_, rfl⟩
  have HD1 : Hid (D4 w0 W1 bf bg cx cy mf mg L Lg L Lg) := Lib.hid (by rw [hW1]; exact hD.keep (below_alloc (Below.refl _ W) _))
  have HO1 : Hid (W1.heap[W.heap.size]? = some (.cells #[.bool ot, .int .i64 kd, .int .u64 hi, .int .u64 lo, .bool bk] 68 (0, 0))) := Lib.hid (by rw [hW1]; exact blk_new W _)
  have hsz : W1.heap.size = W.heap.size + 1 := by rw [hW1]; simp
  obtain ⟨W2, hW2⟩ : ∃ W2, W2 = W1.alloc (.cells #[.int .u64 hi, .int .u64 lo] 26) := ⟨_, rfl⟩
  have HBX : Hid (Below W1.heap.size W1 W2) := Lib.hid (by rw [hW2]; exact below_alloc (Below.refl _ W1) _)
  have HD2 : Hid (D4 w0 W2 bf bg cx cy mf mg L Lg L Lg) := Lib.hid (HD1.out.keep HBX.out)
  have HT2 : Hid (W2.heap[W.heap.size + 1]? = some (.cells #[.int .u64 hi, .int .u64 lo] 26 (0, 0))) := Lib.hid (by rw [← hsz, hW2]; exact blk_new W1 _)
  have HSZ := Lib.hid hsz
  rw [hW1] at hW2
  have HW2 := Lib.hid hW2
  have HO2 := Lib.hid (blk_below HO1.out HBX.out)
  clear hD hg1 hg2 hm0 hm1 hh hlo hW1 hW2 hsz
  go_enter Tryd.func25, Tryd.ntmps25
  cases bk with
  | false =>
    have HD := HD2
    have HT := HT2
    have HO := HO2
    have HHL := HHI
    have HMM := Lib.hid (HMX.out hi HHL.out)
    obtain ⟨mx, hmx⟩ : ∃ mx : Int, mx = ((mixN hi lo : Nat) : Int) := ⟨_, rfl⟩
    rw [← hmx] at HMM
    clear hmx
    have k1 := (blk_cell HO.out 1).trans rfl
    by_cases c1 : kd = 1
    · subst c1
      go_wp2_with fail
      rw [← HW2.out]
      have HDd := Lib.hid HD.out.drew
      have HTd : Hid (W2.drew.heap[W.heap.size + 1]? = some (.cells #[.int .u64 (hi : Int), .int .u64 lo] 26 (0, 0))) := HT
      have HQ : Hid (∀ V : World, V.heap[W.heap.size + 1]? = some (.cells #[.int .u64 (hi : Int), .int .u64 lo] 26 (0, 0)) → V.cell? ⟨W.heap.size + 1, 0, none⟩ = some (.int .u64 (hi : Int)) ∧ V.cell? ⟨W.heap.size + 1, 1, none⟩ = some (.int .u64 lo)) := Lib.hid (fun V hV => ⟨(blk_cell hV 0).trans rfl, (blk_cell hV 1).trans rfl⟩)
      have hq := HQ.out _ HTd.out
      go_region_held3 (fun V => V.cell? ⟨W.heap.size + 1, 0, none⟩ = some (.int .u64 (hi : Int)) ∧ V.cell? ⟨W.heap.size + 1, 1, none⟩ = some (.int .u64 lo)) (assumption) (first
        | (go_at_call 30; refine (d_put HDd.out HG1.out HM1.out _ _ _ HMM.out.1).mono ?_; rintro e v1 ⟨rfl, hD, hfar⟩; have HDp := Lib.hid hD; have HTp := Lib.hid (hfar _ _ HTd.out); have hq1 := HQ.out _ HTp.out; clear hD hfar)
        | (go_at_call 54; refine (d_rput HDp.out HG1.out (by have := HM0.out; omega) HM1.out _ _ _ HMM.out.1).mono ?_; rintro e v2 ⟨rfl, hD, hfar⟩; have HDq := Lib.hid hD; have hq2 := HQ.out _ (hfar _ _ HTp.out); clear hD hfar))
      clear hq hq1 hq2
      have HE : Hid (PlayPost w0 bf bg cx cy mf mg Lg (.returned (.bool true)) v2) := Lib.hid ⟨rfl, _, good_put (x := (mx, (hi : Int), (lo : Int))) HG1.out HMM.out.1 HMM.out.2, HDq.out⟩
      go_wp2_with fail
      go_ret
      exact HE.out
    · by_cases c2 : kd = 2
      · subst c2
        go_wp2_with fail
        rw [← HW2.out]
        refine (d_rtraces HD.out HG1.out HM1.out).mono ?_
        rintro e v1 ⟨vt, rfl, hR, hb⟩
        have HDp := Lib.hid (HD.out.keep hb)
        obtain ⟨A1, a1, hvt⟩ := Kd.R_slice hR
        rw [ids_length] at hvt
        subst hvt
        have HRc := Lib.hid (Kd.R_reads' hR)
        clear hR hb
        go_wp2_with fail
        refine (d_law HDp.out HG1.out HM1.out A1 a1 (by have h := HRc.out.2.2; rwa [ids_length] at h) HRc.out.2.1).mono ?_
        rintro e v2 ⟨rfl, hb⟩
        have HE : Hid (PlayPost w0 bf bg cx cy mf mg Lg (.returned (.bool true)) v2) := Lib.hid ⟨rfl, L, HG1.out, HDp.out.keep hb⟩
        clear hb
        go_wp2_with fail
        go_ret
        exact HE.out
      · by_cases c3 : kd = 3
        · subst c3
          have HGS := Lib.hid (fun V (h : D4 w0 V bf bg cx cy mf mg L Lg L Lg) => d_guess h HG1.out HM0.out HM1.out)
          have HGR := Lib.hid (fun V (h : D4 w0 V bf bg cx cy mf mg L Lg L Lg) => d_rguess h HG1.out HM0.out HM1.out)
          generalize refGuess mf L = G at HGS HGR
          go_wp2_with fail
          rw [← HW2.out]
          refine (HGS.out _ HD.out).mono ?_
          rintro e v1 ⟨rfl, hb⟩
          have HDp := Lib.hid (HD.out.keep hb)
          clear hb
          go_wp2_with fail
          refine (HGR.out _ HDp.out).mono ?_
          rintro e v2 ⟨rfl, hb⟩
          have HE : Hid (PlayPost w0 bf bg cx cy mf mg Lg (.returned (.bool true)) v2) := Lib.hid ⟨rfl, L, HG1.out, HDp.out.keep hb⟩
          clear hb
          go_wp2_with fail
          go_ret
          exact HE.out
        · by_cases c4 : kd = 4
          · subst c4
            by_cases hmm : mg = mf
            · subst hmm
              go_wp2_with fail
              rw [← HW2.out]
              refine (d_merge HD.out HG1.out HG2.out HM1.out).mono ?_
              rintro e v1 ⟨rfl, hD⟩
              have HDp := Lib.hid hD
              clear hD
              go_wp2_with fail
              refine (d_rmerge HDp.out HG1.out HG2.out (by have := HM0.out; omega) HM1.out).mono ?_
              rintro e v2 ⟨rfl, hD⟩
              have HE : Hid (PlayPost w0 bf bg cx cy mg mg Lg (.returned (.bool true)) v2) := Lib.hid ⟨rfl, _, good_puts HG1.out HG2.out.mix HG2.out.rng, hD⟩
              clear hD
              go_wp2_with fail
              go_ret
              exact HE.out
            · have HMM2 := Lib.hid hmm
              clear hmm
              go_wp2_with fail
              rw [← HW2.out]
              refine (d_mbad HD.out HMM2.out).mono ?_
              rintro e v1 ⟨rfl, hb⟩
              have HDp := Lib.hid (HD.out.keep hb)
              clear hb
              go_wp2_with fail
              refine (d_rmbad HDp.out HMM2.out).mono ?_
              rintro e v2 ⟨rfl, hb⟩
              have HE : Hid (PlayPost w0 bf bg cx cy mf mg Lg (.returned (.bool true)) v2) := Lib.hid ⟨rfl, L, HG1.out, HDp.out.keep hb⟩
              clear hb
              go_wp2_with fail
              go_ret
              exact HE.out
          · by_cases c5 : kd = 5
            · subst c5
              go_wp2_with fail
              rw [← HW2.out]
              refine (d_self HD.out HG1.out HM1.out).mono ?_
              rintro e v1 ⟨rfl, hD⟩
              have HDp := Lib.hid hD
              clear hD
              go_wp2_with fail
              refine (d_rself HDp.out HG1.out (by have := HM0.out; omega) HM1.out).mono ?_
              rintro e v2 ⟨rfl, hD⟩
              have HE : Hid (PlayPost w0 bf bg cx cy mf mg Lg (.returned (.bool true)) v2) := Lib.hid ⟨rfl, _, good_puts HG1.out HG1.out.mix HG1.out.rng, hD⟩
              clear hD
              go_wp2_with fail
              go_ret
              exact HE.out
            · by_cases c6 : kd = 6
              · subst c6
                go_wp2_with fail
                rw [← HW2.out]
                refine (merge_nil bf _).mono ?_
                rintro e v1 ⟨rfl, hb⟩
                have HE : Hid (PlayPost w0 bf bg cx cy mf mg Lg (.returned (.bool true)) v1) := Lib.hid ⟨rfl, L, HG1.out, HD.out.keep hb⟩
                clear hb
                go_wp2_with fail
                go_ret
                exact HE.out
              · have HE : Hid (PlayPost w0 bf bg cx cy mf mg Lg (.returned (.bool true)) W2) := Lib.hid ⟨rfl, L, HG1.out, HD.out⟩
                go_wp2_with fail
                rw [← HW2.out]
                go_ret
                exact HE.out
  | true =>
    go_wp2_with fail
    rw [← HW2.out]
    clear HW2
    refine (HNM.out _).mono ?_
    rintro e W3 ⟨rfl, hb⟩
    have HHL := Lib.hid (namedN_lt hi lo)
    have HT3 := Lib.hid (blk_below HT2.out hb)
    have ht0 := (blk_cell HT3.out 0).trans rfl
    have ht1 := (blk_cell HT3.out 1).trans rfl
    have htf := fun j => blk_frozen HT3.out j
    obtain ⟨W4, hW4⟩ : ∃ W4, W4 = (W3.setCell ⟨W.heap.size + 1, 0, none⟩ (.int .u64 ((namedN hi lo : Nat) : Int))).setCell ⟨W.heap.size + 1, 1, none⟩ (.int .u64 lo) := ⟨_, rfl⟩
    have HT : Hid (W4.heap[W.heap.size + 1]? = some (.cells #[.int .u64 ((namedN hi lo : Nat) : Int), .int .u64 lo] 26 (0, 0))) := Lib.hid (by rw [hW4]; exact blk_put (blk_put HT3.out 0 (.int .u64 ((namedN hi lo : Nat) : Int)) rfl) 1 (.int .u64 lo) rfl)
    have HB4 : Hid (Below W1.heap.size W1 W4) := Lib.hid (by rw [hW4]; have hz := HSZ.out; exact below_set (below_set (HBX.out.trans (hb.mono HBX.out.size)) (Nat.le_of_eq hz)) (Nat.le_of_eq hz))
    have HD : Hid (D4 w0 W4 bf bg cx cy mf mg L Lg L Lg) := Lib.hid (HD1.out.keep HB4.out)
    have HO := Lib.hid (blk_below HO1.out HB4.out)
    have HW4 := Lib.hid hW4
    have oo := (blk_cell (blk_below HO2.out hb) 1).trans rfl
    have hoT : W.heap.size + 1 ≠ W.heap.size := by omega
    clear hb hW4
    have HMM := Lib.hid (HMX.out (namedN hi lo) HHL.out)
    obtain ⟨mx, hmx⟩ : ∃ mx : Int, mx = ((mixN (namedN hi lo) lo : Nat) : Int) := ⟨_, rfl⟩
    rw [← hmx] at HMM
    clear hmx
    have k1 := (blk_cell HO.out 1).trans rfl
    by_cases c1 : kd = 1
    · subst c1
      go_wp2_with fail
      rw [← HW4.out]
      have HDd := Lib.hid HD.out.drew
      have HTd : Hid (W4.drew.heap[W.heap.size + 1]? = some (.cells #[.int .u64 ((namedN hi lo : Nat) : Int), .int .u64 lo] 26 (0, 0))) := HT
      have HQ : Hid (∀ V : World, V.heap[W.heap.size + 1]? = some (.cells #[.int .u64 ((namedN hi lo : Nat) : Int), .int .u64 lo] 26 (0, 0)) → V.cell? ⟨W.heap.size + 1, 0, none⟩ = some (.int .u64 ((namedN hi lo : Nat) : Int)) ∧ V.cell? ⟨W.heap.size + 1, 1, none⟩ = some (.int .u64 lo)) := Lib.hid (fun V hV => ⟨(blk_cell hV 0).trans rfl, (blk_cell hV 1).trans rfl⟩)
      have hq := HQ.out _ HTd.out
      go_region_held3 (fun V => V.cell? ⟨W.heap.size + 1, 0, none⟩ = some (.int .u64 ((namedN hi lo : Nat) : Int)) ∧ V.cell? ⟨W.heap.size + 1, 1, none⟩ = some (.int .u64 lo)) (assumption) (first
        | (go_at_call 30; refine (d_put HDd.out HG1.out HM1.out _ _ _ HMM.out.1).mono ?_; rintro e v1 ⟨rfl, hD, hfar⟩; have HDp := Lib.hid hD; have HTp := Lib.hid (hfar _ _ HTd.out); have hq1 := HQ.out _ HTp.out; clear hD hfar)
        | (go_at_call 54; refine (d_rput HDp.out HG1.out (by have := HM0.out; omega) HM1.out _ _ _ HMM.out.1).mono ?_; rintro e v2 ⟨rfl, hD, hfar⟩; have HDq := Lib.hid hD; have hq2 := HQ.out _ (hfar _ _ HTp.out); clear hD hfar))
      clear hq hq1 hq2
      have HE : Hid (PlayPost w0 bf bg cx cy mf mg Lg (.returned (.bool true)) v2) := Lib.hid ⟨rfl, _, good_put (x := (mx, ((namedN hi lo : Nat) : Int), (lo : Int))) HG1.out HMM.out.1 HMM.out.2, HDq.out⟩
      go_wp2_with fail
      go_ret
      exact HE.out
    · by_cases c2 : kd = 2
      · subst c2
        go_wp2_with fail
        rw [← HW4.out]
        refine (d_rtraces HD.out HG1.out HM1.out).mono ?_
        rintro e v1 ⟨vt, rfl, hR, hb⟩
        have HDp := Lib.hid (HD.out.keep hb)
        obtain ⟨A1, a1, hvt⟩ := Kd.R_slice hR
        rw [ids_length] at hvt
        subst hvt
        have HRc := Lib.hid (Kd.R_reads' hR)
        clear hR hb
        go_wp2_with fail
        refine (d_law HDp.out HG1.out HM1.out A1 a1 (by have h := HRc.out.2.2; rwa [ids_length] at h) HRc.out.2.1).mono ?_
        rintro e v2 ⟨rfl, hb⟩
        have HE : Hid (PlayPost w0 bf bg cx cy mf mg Lg (.returned (.bool true)) v2) := Lib.hid ⟨rfl, L, HG1.out, HDp.out.keep hb⟩
        clear hb
        go_wp2_with fail
        go_ret
        exact HE.out
      · by_cases c3 : kd = 3
        · subst c3
          have HGS := Lib.hid (fun V (h : D4 w0 V bf bg cx cy mf mg L Lg L Lg) => d_guess h HG1.out HM0.out HM1.out)
          have HGR := Lib.hid (fun V (h : D4 w0 V bf bg cx cy mf mg L Lg L Lg) => d_rguess h HG1.out HM0.out HM1.out)
          generalize refGuess mf L = G at HGS HGR
          go_wp2_with fail
          rw [← HW4.out]
          refine (HGS.out _ HD.out).mono ?_
          rintro e v1 ⟨rfl, hb⟩
          have HDp := Lib.hid (HD.out.keep hb)
          clear hb
          go_wp2_with fail
          refine (HGR.out _ HDp.out).mono ?_
          rintro e v2 ⟨rfl, hb⟩
          have HE : Hid (PlayPost w0 bf bg cx cy mf mg Lg (.returned (.bool true)) v2) := Lib.hid ⟨rfl, L, HG1.out, HDp.out.keep hb⟩
          clear hb
          go_wp2_with fail
          go_ret
          exact HE.out
        · by_cases c4 : kd = 4
          · subst c4
            by_cases hmm : mg = mf
            · subst hmm
              go_wp2_with fail
              rw [← HW4.out]
              refine (d_merge HD.out HG1.out HG2.out HM1.out).mono ?_
              rintro e v1 ⟨rfl, hD⟩
              have HDp := Lib.hid hD
              clear hD
              go_wp2_with fail
              refine (d_rmerge HDp.out HG1.out HG2.out (by have := HM0.out; omega) HM1.out).mono ?_
              rintro e v2 ⟨rfl, hD⟩
              have HE : Hid (PlayPost w0 bf bg cx cy mg mg Lg (.returned (.bool true)) v2) := Lib.hid ⟨rfl, _, good_puts HG1.out HG2.out.mix HG2.out.rng, hD⟩
              clear hD
              go_wp2_with fail
              go_ret
              exact HE.out
            · have HMM2 := Lib.hid hmm
              clear hmm
              go_wp2_with fail
              rw [← HW4.out]
              refine (d_mbad HD.out HMM2.out).mono ?_
              rintro e v1 ⟨rfl, hb⟩
              have HDp := Lib.hid (HD.out.keep hb)
              clear hb
              go_wp2_with fail
              refine (d_rmbad HDp.out HMM2.out).mono ?_
              rintro e v2 ⟨rfl, hb⟩
              have HE : Hid (PlayPost w0 bf bg cx cy mf mg Lg (.returned (.bool true)) v2) := Lib.hid ⟨rfl, L, HG1.out, HDp.out.keep hb⟩
              clear hb
              go_wp2_with fail
              go_ret
              exact HE.out
          · by_cases c5 : kd = 5
            · subst c5
              go_wp2_with fail
              rw [← HW4.out]
              refine (d_self HD.out HG1.out HM1.out).mono ?_
              rintro e v1 ⟨rfl, hD⟩
              have HDp := Lib.hid hD
              clear hD
              go_wp2_with fail
              refine (d_rself HDp.out HG1.out (by have := HM0.out; omega) HM1.out).mono ?_
              rintro e v2 ⟨rfl, hD⟩
              have HE : Hid (PlayPost w0 bf bg cx cy mf mg Lg (.returned (.bool true)) v2) := Lib.hid ⟨rfl, _, good_puts HG1.out HG1.out.mix HG1.out.rng, hD⟩
              clear hD
              go_wp2_with fail
              go_ret
              exact HE.out
            · by_cases c6 : kd = 6
              · subst c6
                go_wp2_with fail
                rw [← HW4.out]
                refine (merge_nil bf _).mono ?_
                rintro e v1 ⟨rfl, hb⟩
                have HE : Hid (PlayPost w0 bf bg cx cy mf mg Lg (.returned (.bool true)) v1) := Lib.hid ⟨rfl, L, HG1.out, HD.out.keep hb⟩
                clear hb
                go_wp2_with fail
                go_ret
                exact HE.out
              · have HE : Hid (PlayPost w0 bf bg cx cy mf mg Lg (.returned (.bool true)) W4) := Lib.hid ⟨rfl, L, HG1.out, HD.out⟩
                go_wp2_with fail
                rw [← HW4.out]
                go_ret
                exact HE.out
end Go.Proofs.YtdlnfmakfnggpaaDoor.Pr
namespace Go.Proofs.YtdlnfmakfnggpaaDoor.Pr
open Go.RowKit Go.Lib Go.Proofs.YtdlnfmakfnggpaaDoorW.PrintWords
set_option linter.unusedVariables false
set_option linter.unusedSimpArgs false
theorem wf_nat {a : Int} (h : (Lit.int .u64 a).wf = true) : ∃ n : Nat, a = n ∧ n < 2 ^ 64 := by
  have h' : 0 ≤ a ∧ a ≤ 18446744073709551615 := by simpa [Lit.wf, IntKind.min, IntKind.max, IntKind.signed, IntKind.bits] using h
  exact ⟨a.toNat, by omega, by omega⟩
def FewsPost (w : World) (e : Ending) (w' : World) : Prop := e = .returned (.bool true) ∧ Below w.heap.size w w'
theorem d4_start {w w1 w2 w3 w4 w5 : World} {bf bg cx cy mf mg : Nat} (h1 : Below w.heap.size w w1) (hf : w1.heap.size ≤ bf) (ff : w2.heap[bf]? = some (.cells #[.int .i64 mf, .slice none 0 0] 96 (0, 0))) (h2 : Below w1.heap.size w1 w2) (hg : w2.heap.size ≤ bg) (fg : w3.heap[bg]? = some (.cells #[.int .i64 mg, .slice none 0 0] 96 (0, 0))) (h3 : Below w2.heap.size w2 w3)
    (hx : w3.heap.size ≤ cx) (fx : w4.heap[cx]? = some (.cells #[.int .i64 mf, .slice none 0 0] 98 (0, 0))) (h4 : Below w3.heap.size w3 w4) (hy : w4.heap.size ≤ cy) (fy : w5.heap[cy]? = some (.cells #[.int .i64 mg, .slice none 0 0] 98 (0, 0))) (h5 : Below w4.heap.size w4 w5) : D4 w w5 bf bg cx cy mf mg [] [] [] [] := by
  have s1 := h1.size; have s2 := h2.size; have s3 := h3.size; have s4 := h4.size; have s5 := h5.size
  have b5 : Below w.heap.size w w5 := h1.trans ((h2.trans ((h3.trans ((h4.trans (h5.mono s4)).mono s3)).mono s2)).mono s1)
  have l2 := blk_lt ff; have l3 := blk_lt fg; have l4 := blk_lt fx
  refine ⟨b5, ⟨by omega, by omega, by omega, by omega⟩, by omega, .slice none 0 0, .slice none 0 0, .slice none 0 0, .slice none 0 0, ⟨?_, World.ownsRow_nil _ _ _ _⟩, ⟨?_, World.ownsRow_nil _ _ _ _⟩, ⟨?_, Kd.R_nil _ _ _ _ _⟩, ⟨fy, Kd.R_nil _ _ _ _ _⟩, ?_⟩
  · exact blk_below (blk_below (blk_below ff h3) h4) h5
  · exact blk_below (blk_below fg h4) h5
  · exact blk_below fx h5
  · rintro k (rfl | h) (h' | h')
    · omega
    · simp [Value.ownBlock] at h'
    · simp [Value.ownBlock] at h
    · simp [Value.ownBlock] at h
set_option maxHeartbeats 8000000 in
set_option maxRecDepth 100000 in
theorem fews_good (m1 m2 : Nat) (A : Option Addr) (c : Nat) (l : List S68) (w : World) (h10 : 2 ≤ m1) (h11 : m1 ≤ 1000) (h20 : 2 ≤ m2) (h21 : m2 ≤ 1000) (hr : Kd.C k68 w A l.length l) (hl : l.length ≤ 8796093022208) (hx : ∀ x ∈ l, ok68 x) :
    Calls Tryd.prog 9 #[.int .i64 m1, .int .i64 m2, .slice A l.length c] w (FewsPost w) := by
  have HN1 := Lib.hid (fun W => newfew_ok m1 h10 h11 W)
  have HN2 := Lib.hid (fun W => newfew_ok m2 h20 h21 W)
  have HR1 := Lib.hid (fun W => refnew_ok m1 h10 h11 W)
  have HR2 := Lib.hid (fun W => refnew_ok m2 h20 h21 W)
  have HA := Lib.hid (fun W => spoorlaw21_alive.calls true W rfl)
  have HC := Lib.hid hr
  have HX := Lib.hid hx
  have H10 := Lib.hid h10
  have H11 := Lib.hid h11
  have H20 := Lib.hid h20
  have H21 := Lib.hid h21
  clear hr hx h10 h11 h20 h21
  generalize hn : l.length = n at *
  have HN := Lib.hid hn
  clear hn
  go_enter Tryd.func9, Tryd.ntmps9
  go_wp2_with fail
  refine (HA.out _).mono ?_
  rintro e w1 ⟨rfl, hb⟩
  have HB1 := Lib.hid hb
  clear hb
  go_wp2_with fail
  refine (HN1.out _).mono ?_
  rintro e w2 ⟨bf, rfl, hf, ff, hb⟩
  have HF2 := Lib.hid hf; have HFF2 := Lib.hid ff; have HB2 := Lib.hid hb
  clear hf ff hb
  go_wp2_with fail
  refine (HN2.out _).mono ?_
  rintro e w3 ⟨bg, rfl, hf, ff, hb⟩
  have HF3 := Lib.hid hf; have HFF3 := Lib.hid ff; have HB3 := Lib.hid hb
  clear hf ff hb
  go_wp2_with fail
  refine (HR1.out _).mono ?_
  rintro e w4 ⟨cx, rfl, hf, ff, hb⟩
  have HF4 := Lib.hid hf; have HFF4 := Lib.hid ff; have HB4 := Lib.hid hb
  clear hf ff hb
  go_wp2_with fail
  refine (HR2.out _).mono ?_
  rintro e w5 ⟨cy, rfl, hf, ff, hb⟩
  have HD0 := Lib.hid (d4_start HB1.out HF2.out HFF2.out HB2.out HF3.out HFF3.out HB3.out HF4.out HFF4.out HB4.out hf ff hb)
  clear hf ff hb
  clear HF2 HFF2 HB2 HF3 HFF3 HB3 HF4 HFF4 HB4
  go_wp2_with fail
  go_loopg [16] n (fun kx s16 wr => ∃ (i : Nat) (Lf Lg : List C3), s16 = .int .i64 i ∧ i ≤ n ∧ n - i ≤ kx ∧ Hid (Good m1 Lf) ∧ Hid (Good m2 Lg) ∧ Hid (D4 w wr bf bg cx cy m1 m2 Lf Lg Lf Lg))
  case atStart => exact ⟨0, [], [], rfl, Nat.zero_le _, by omega, Lib.hid (good_nil _), Lib.hid (good_nil _), HD0⟩
  case round =>
    clear HD0
    obtain ⟨i, Lf, Lg, rfl, hin, hg, HG1, HG2, HD⟩ := hrel
    by_cases hlt : i < n
    · obtain ⟨ad, rfl, e0, e1, e2, e3, e4⟩ := at_T68 (Kd.C_below HC.out HD.out.below) (i : Int) (by omega) (by omega)
      have hxx := HX.out (rd_T68 l (i : Int)) (by
        have hk : i < l.length := by have := HN.out; omega
        simp [rd_T68, List.getD, hk])
      rw [Int.toNat_natCast] at e0 e1 e2 e3 e4
      generalize rd_T68 l (i : Int) = x at *
      obtain ⟨ot, kd, ⟨xh, xl⟩, bk⟩ := x
      obtain ⟨_, _, ⟨hw1, hw2⟩, _⟩ := hxx
      obtain ⟨hi, e5, hh⟩ := wf_nat hw1
      obtain ⟨lo, e6, hlo⟩ := wf_nat hw2
      simp only at e5 e6 e0 e1 e2 e3 e4
      subst e5 e6
      have HP1 := Lib.hid (fun (V : World) (hD : D4 w V bf bg cx cy m1 m2 Lf Lg Lf Lg) => play_run w V bf bg cx cy m1 m2 Lf Lg hD HG1.out HG2.out H10.out H11.out ot bk kd hi lo hh hlo)
      have HP2 := Lib.hid (fun (V : World) (hD : D4 w V bf bg cx cy m1 m2 Lf Lg Lf Lg) => play_run w V bg bf cy cx m2 m1 Lg Lf hD.swap HG2.out HG1.out H20.out H21.out ot bk kd hi lo hh hlo)
      have HDK := Lib.hid (fun (V : World) (hb : Below wr.heap.size wr V) => HD.out.keep hb)
      have HBA := Lib.hid (fun o => below_alloc (Below.refl _ wr) o)
      clear hw1 hw2 hh hlo
      cases ot with
      | true =>
        go_wp2_with fail
        refine (HP2.out _ (HDK.out _ (HBA.out _))).mono ?_
        rintro e v1 ⟨rfl, L', hg', hD'⟩
        have HG3 := Lib.hid hg'
        have HD3 := Lib.hid hD'.swap
        clear hg' hD' e0 e1 e2 e3 e4
        go_wp2_with fail
        go_roundg (n - (i + 1))
        case measure => omega
        case rel => exact ⟨i + 1, Lf, L', by go_num, by omega, Nat.le_refl _, HG1, HG3, HD3⟩
      | false =>
        go_wp2_with fail
        refine (HP1.out _ (HDK.out _ (HBA.out _))).mono ?_
        rintro e v1 ⟨rfl, L', hg', hD'⟩
        have HG3 := Lib.hid hg'
        have HD3 := Lib.hid hD'
        clear hg' hD' e0 e1 e2 e3 e4
        go_wp2_with fail
        go_roundg (n - (i + 1))
        case measure => omega
        case rel => exact ⟨i + 1, L', Lg, by go_num, by omega, Nat.le_refl _, HG3, HG2, HD3⟩
    · obtain rfl : n = i := by omega
      clear hlt
      have HGS1 := Lib.hid (fun V (h : D4 w V bf bg cx cy m1 m2 Lf Lg Lf Lg) => d_guess h HG1.out H10.out H11.out)
      have HGR1 := Lib.hid (fun V (h : D4 w V bf bg cx cy m1 m2 Lf Lg Lf Lg) => d_rguess h HG1.out H10.out H11.out)
      have HGS2 := Lib.hid (fun V (h : D4 w V bf bg cx cy m1 m2 Lf Lg Lf Lg) => d_guess h.swap HG2.out H20.out H21.out)
      have HGR2 := Lib.hid (fun V (h : D4 w V bf bg cx cy m1 m2 Lf Lg Lf Lg) => d_rguess h.swap HG2.out H20.out H21.out)
      generalize refGuess m1 Lf = G1 at HGS1 HGR1
      generalize refGuess m2 Lg = G2 at HGS2 HGR2
      go_wp2_with fail
      refine (d_rtraces HD.out HG1.out H11.out).mono ?_
      rintro e v1 ⟨vt, rfl, hR, hb⟩
      have HD1 := Lib.hid (HD.out.keep hb)
      obtain ⟨A1, a1, hvt⟩ := Kd.R_slice hR
      rw [ids_length] at hvt
      subst hvt
      have HRc := Lib.hid (Kd.R_reads' hR)
      clear hR hb
      go_wp2_with fail
      refine (d_law HD1.out HG1.out H11.out A1 a1 (by have h := HRc.out.2.2; rwa [ids_length] at h) HRc.out.2.1).mono ?_
      rintro e v2 ⟨rfl, hb⟩
      have HD2 := Lib.hid (HD1.out.keep hb)
      clear hb
      go_wp2_with fail
      refine (d_rtraces HD2.out.swap HG2.out H21.out).mono ?_
      rintro e v3 ⟨vt, rfl, hR, hb⟩
      have HD3 := Lib.hid (HD2.out.keep hb)
      obtain ⟨A2, a2, hvt⟩ := Kd.R_slice hR
      rw [ids_length] at hvt
      subst hvt
      have HRc2 := Lib.hid (Kd.R_reads' hR)
      clear hR hb
      go_wp2_with fail
      refine (d_law HD3.out.swap HG2.out H21.out A2 a2 (by have h := HRc2.out.2.2; rwa [ids_length] at h) HRc2.out.2.1).mono ?_
      rintro e v4 ⟨rfl, hb⟩
      have HD4 := Lib.hid (HD3.out.keep hb)
      clear hb
      go_wp2_with fail
      refine (HGS1.out _ HD4.out).mono ?_
      rintro e v5 ⟨rfl, hb⟩
      have HD5 := Lib.hid (HD4.out.keep hb)
      clear hb
      go_wp2_with fail
      refine (HGR1.out _ HD5.out).mono ?_
      rintro e v6 ⟨rfl, hb⟩
      have HD6 := Lib.hid (HD5.out.keep hb)
      clear hb
      go_wp2_with fail
      refine (HGS2.out _ HD6.out).mono ?_
      rintro e v7 ⟨rfl, hb⟩
      have HD7 := Lib.hid (HD6.out.keep hb)
      clear hb
      go_wp2_with fail
      refine (HGR2.out _ HD7.out).mono ?_
      rintro e v8 ⟨rfl, hb⟩
      have HE : Hid (FewsPost w (.returned (.bool true)) v8) := Lib.hid ⟨rfl, (HD7.out.keep hb).below⟩
      clear hb
      go_wp2_with fail
      go_ret
      exact HE.out
set_option maxHeartbeats 8000000 in
set_option maxRecDepth 100000 in
theorem fews_bad (q1 q2 : Int) (A : Option Addr) (c n : Nat) (w : World) (h : (q1 < 2 ∨ 1000 < q1) ∨ (q2 < 2 ∨ 1000 < q2)) :
    Calls Tryd.prog 9 #[.int .i64 q1, .int .i64 q2, .slice A n c] w (FewsPost w) := by
  have HA := Lib.hid (fun W => spoorlaw21_alive.calls true W rfl)
  by_cases hq1 : q1 < 2 ∨ 1000 < q1
  · have HN1 := Lib.hid (fun W => newfew_bad q1 hq1 W)
    have HR1 := Lib.hid (fun W => refnew_bad q1 hq1 W)
    by_cases hq2 : q2 < 2 ∨ 1000 < q2
    · have HN2 := Lib.hid (fun W => newfew_bad q2 hq2 W)
      have HR2 := Lib.hid (fun W => refnew_bad q2 hq2 W)
      clear h hq1 hq2
      go_enter Tryd.func9, Tryd.ntmps9
      go_wp2_with fail
      refine (HA.out _).mono ?_
      rintro e w1 ⟨rfl, hb⟩
      have HB1 := Lib.hid hb
      clear hb
      go_wp2_with fail
      refine (HN1.out _).mono ?_
      rintro e w2 ⟨rfl, hb⟩
      have HB2 := Lib.hid (HB1.out.trans (hb.mono HB1.out.size))
      clear hb
      go_wp2_with fail
      refine (HN2.out _).mono ?_
      rintro e w3 ⟨rfl, hb⟩
      have HB3 := Lib.hid (HB2.out.trans (hb.mono HB2.out.size))
      clear hb
      go_wp2_with fail
      refine (HR1.out _).mono ?_
      rintro e w4 ⟨rfl, hb⟩
      have HB4 := Lib.hid (HB3.out.trans (hb.mono HB3.out.size))
      clear hb
      go_wp2_with fail
      refine (HR2.out _).mono ?_
      rintro e w5 ⟨rfl, hb⟩
      have HE : Hid (FewsPost w (.returned (.bool true)) w5) := Lib.hid ⟨rfl, HB4.out.trans (hb.mono HB4.out.size)⟩
      clear hb
      go_wp2_with fail
      go_ret
      exact HE.out
    · obtain ⟨m2, rfl⟩ := Int.eq_ofNat_of_zero_le (show 0 ≤ q2 by omega)
      have HN2 := Lib.hid (fun W => newfew_ok m2 (by omega) (by omega) W)
      have HR2 := Lib.hid (fun W => refnew_ok m2 (by omega) (by omega) W)
      clear h hq1 hq2
      go_enter Tryd.func9, Tryd.ntmps9
      go_wp2_with fail
      refine (HA.out _).mono ?_
      rintro e w1 ⟨rfl, hb⟩
      have HB1 := Lib.hid hb
      clear hb
      go_wp2_with fail
      refine (HN1.out _).mono ?_
      rintro e w2 ⟨rfl, hb⟩
      have HB2 := Lib.hid (HB1.out.trans (hb.mono HB1.out.size))
      clear hb
      go_wp2_with fail
      refine (HN2.out _).mono ?_
      rintro e w3 ⟨bg, rfl, _, _, hb⟩
      have HB3 := Lib.hid (HB2.out.trans (hb.mono HB2.out.size))
      clear hb
      go_wp2_with fail
      refine (HR1.out _).mono ?_
      rintro e w4 ⟨rfl, hb⟩
      have HB4 := Lib.hid (HB3.out.trans (hb.mono HB3.out.size))
      clear hb
      go_wp2_with fail
      refine (HR2.out _).mono ?_
      rintro e w5 ⟨cy, rfl, _, _, hb⟩
      have HE : Hid (FewsPost w (.returned (.bool true)) w5) := Lib.hid ⟨rfl, HB4.out.trans (hb.mono HB4.out.size)⟩
      clear hb
      go_wp2_with fail
      go_ret
      exact HE.out
  · have hq2 : q2 < 2 ∨ 1000 < q2 := h.resolve_left hq1
    obtain ⟨m1, rfl⟩ := Int.eq_ofNat_of_zero_le (show 0 ≤ q1 by omega)
    have HN1 := Lib.hid (fun W => newfew_ok m1 (by omega) (by omega) W)
    have HR1 := Lib.hid (fun W => refnew_ok m1 (by omega) (by omega) W)
    have HN2 := Lib.hid (fun W => newfew_bad q2 hq2 W)
    have HR2 := Lib.hid (fun W => refnew_bad q2 hq2 W)
    clear h hq1 hq2
    go_enter Tryd.func9, Tryd.ntmps9
    go_wp2_with fail
    refine (HA.out _).mono ?_
    rintro e w1 ⟨rfl, hb⟩
    have HB1 := Lib.hid hb
    clear hb
    go_wp2_with fail
    refine (HN1.out _).mono ?_
    rintro e w2 ⟨bf, rfl, _, _, hb⟩
    have HB2 := Lib.hid (HB1.out.trans (hb.mono HB1.out.size))
    clear hb
    go_wp2_with fail
    refine (HN2.out _).mono ?_
    rintro e w3 ⟨rfl, hb⟩
    have HB3 := Lib.hid (HB2.out.trans (hb.mono HB2.out.size))
    clear hb
    go_wp2_with fail
    refine (HR1.out _).mono ?_
    rintro e w4 ⟨cx, rfl, _, _, hb⟩
    have HB4 := Lib.hid (HB3.out.trans (hb.mono HB3.out.size))
    clear hb
    go_wp2_with fail
    refine (HR2.out _).mono ?_
    rintro e w5 ⟨rfl, hb⟩
    have HE : Hid (FewsPost w (.returned (.bool true)) w5) := Lib.hid ⟨rfl, HB4.out.trans (hb.mono HB4.out.size)⟩
    clear hb
    go_wp2_with fail
    go_ret
    exact HE.out
theorem fews_run (q1 q2 : Int) (A : Option Addr) (c : Nat) (l : List S68) (w : World) (hr : Kd.C k68 w A l.length l) (hl : l.length ≤ 8796093022208) (hx : ∀ x ∈ l, ok68 x) :
    Calls Tryd.prog 9 #[.int .i64 q1, .int .i64 q2, .slice A l.length c] w (FewsPost w) := by
  by_cases hb : (q1 < 2 ∨ 1000 < q1) ∨ (q2 < 2 ∨ 1000 < q2)
  · exact fews_bad q1 q2 A c l.length w hb
  · obtain ⟨m1, rfl⟩ := Int.eq_ofNat_of_zero_le (show 0 ≤ q1 by omega)
    obtain ⟨m2, rfl⟩ := Int.eq_ofNat_of_zero_le (show 0 ≤ q2 by omega)
    exact fews_good m1 m2 A c l w (by omega) (by omega) (by omega) (by omega) hr hl hx
end Go.Proofs.YtdlnfmakfnggpaaDoor.Pr
