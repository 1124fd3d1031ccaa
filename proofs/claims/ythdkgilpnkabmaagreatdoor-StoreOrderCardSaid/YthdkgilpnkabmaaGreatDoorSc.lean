/- (*Store).put. -/
import Derived.Test.YthdkgilpnkabmaaGreatDoorSb
import Derived.Deep.RegionHeld3
import Derived.Outline
namespace Go.Proofs.YthdkgilpnkabmaaGreatDoor.Pr
open Go Go.RowKit Go.Proofs.YthdkgilpnkabmaaGreatDoorW.PrintWords Go.Proofs.YthdkgilpnkabmaaGreatDoorW.PrintMore
open Go.Maps (Keyed)
open Rm Ps
set_option linter.unusedVariables false
set_option linter.unusedSimpArgs false
theorem drew_below (w : World) : Below w.heap.size w w.drew := below_drew (Below.refl _ _)
theorem map_eq_some (w : World) (b : Nat) : (binOp .eql 79 (.map (some b)) (.map none)).run Tryz.prog w = .ok (.bool false) w := by kernel_rfl
theorem map_eq_none (w : World) : (binOp .eql 79 (.map none) (.map none)).run Tryz.prog w = .ok (.bool true) w := by kernel_rfl
theorem Book.lay {w : World} {base s : Nat} {F : Nat → Prop} {L : List Sp} {tb : Nat} {T : List (Tr × Nat)} {I : Nat → List (Int × (Sp × List Value))} (B : Book w base s F L tb T I) {t : Tr} {b : Nat} (hb : getM T t = some b) {i : Int} {kl : Lit} (hk : keyOf Tryz.prog 34 (mkId i) = some kl) (x : Sp) (cs : List Value) :
    ∃ w', (Instr.mapUpdate 79 (.map (some b)) (.int .u64 i) (.agg cs.toArray)).run Tryz.prog w = .ok () w' ∧ IsI w' b (setM (I b) i (x, cs)) ∧ w.grownBy w' (some b) ∧ w'.heap.size = w.heap.size :=
  (B.inner _ (getM_mem hb)).store keyId Tryz.underlying79 hk mkId_inj (x, cs)
/-- What put tells, and what it makes of the store. -/
def PutPost (w : World) (base s : Nat) (F : Nat → Prop) (L : List Sp) (x : Sp) (e : Ending) (w' : World) : Prop :=
  ∃ F', e = .returned (.int .i64 (became nmS ordS L x)) ∧ StoreAt w' base s F' (putL nmS ordS L x) ∧ Chg F w w' ∧ ∀ k, F' k → F k ∨ w.heap.size ≤ k
section
variable {w : World} {base s : Nat} {F : Nat → Prop} {L : List Sp} {tb : Nat} {T : List (Tr × Nat)} {I : Nat → List (Int × (Sp × List Value))}
theorem Book.sb (B : Book w base s F L tb T I) {p : Tr × Nat} (hp : p ∈ T) : s ≠ p.2 ∧ s ≠ tb := by
  refine ⟨fun e => ?_, fun e => ?_⟩
  · obtain ⟨es, c, h1, _⟩ := B.inner _ hp
    have h2 := B.cell
    rw [e, h1] at h2
    cases h2
  · obtain ⟨es, c, h1, _⟩ := B.traces
    have h2 := B.cell
    rw [e, h1] at h2
    cases h2
theorem Book.s_tb (B : Book w base s F L tb T I) : s ≠ tb := fun e => by
  obtain ⟨es, c, h1, _⟩ := B.traces
  have h2 := B.cell
  rw [e, h1] at h2
  cases h2
theorem put_none {x : Sp} (h : getL nmS L (nmS x) = none) : putL nmS ordS L x = L ++ [x] ∧ became nmS ordS L x = 0 := by
  unfold putL became
  rw [h]
  exact ⟨rfl, rfl⟩
/-- The end of a put whose name is not there, its trace is. -/
theorem fresh_close (B : Book w base s F L tb T I) (x : Sp) (cs : List Value) (hx : okSp x) {b : Nat} (hb : getM T (tr x) = some b) {w4 w5 : World} (h4 : Below w.heap.size w w4) (hM : kSq.M w4 base (fun _ => True) x cs)
    (hI : IsI w5 b (setM (I b) x.f1 (x, cs))) (hg : w4.grownBy w5 (some b)) (hn : getL nmS L (nmS x) = none) (hroom : L.length < 100000) :
    PutPost w base s F L x (.returned (.int .i64 0)) (w5.setCell ⟨s, 1, none⟩ (.int .i64 (L.length + 1 : Int))) := by
  obtain ⟨e1, e2⟩ := put_none hn
  have hbT := getM_mem hb
  have hsb : s ≠ b := (B.sb hbT).1
  have htb : tb ≠ b := (B.tbne _ hbT).symm
  have hst := B.s_tb
  have hFs := B.fs
  have hFb : F b := hFs.2.2 _ hbT
  have B4 := B.below h4
  have hc : Chg F w4 (w5.setCell ⟨s, 1, none⟩ (.int .i64 (L.length + 1 : Int))) := (Chg.of_grown hg hFb).trans (Chg.set (G := F) hFs.1) (fun _ _ h => h)
  have hcw : Chg F w (w5.setCell ⟨s, 1, none⟩ (.int .i64 (L.length + 1 : Int))) := (Chg.of_below (G := F) h4).trans hc (fun _ _ h => h)
  have hblk : ∀ k, k < w.heap.size → k ≠ s → k ≠ b → (w5.setCell ⟨s, 1, none⟩ (.int .i64 (L.length + 1 : Int))).heap[k]? = w.heap[k]? := fun k hk h1 h2 =>
    (Below.heap_setCell _ ⟨s, 1, none⟩ _ k h1).trans ((hg.block k (Nat.lt_of_lt_of_le hk h4.size) (fun e => h2 (Option.some.inj e))).trans (h4.block k hk))
  refine ⟨F, by rw [e2], ⟨tb, T, _, B.upd (x := x) (cs := cs) (b := b) hbT hcw ?_ ?_ ?_ ?_ ?_ hx ?_ ?_ ?_⟩, hcw, fun k h => Or.inl h⟩
  · have h1 := blk_set (blk_grown B4.cell hg (fun e => hsb (Option.some.inj e))) 1 (.int .i64 (L.length + 1 : Int))
    rw [e1, List.length_append, List.length_singleton]
    simpa using h1
  · exact hblk tb B.traces.lt hst.symm htb
  · exact hI.of_block (Below.heap_setCell _ ⟨s, 1, none⟩ _ b hsb.symm)
  · exact fun p hp hne => hblk p.2 (B.inner p hp).lt (B.sb hp).1.symm hne
  · exact M_chg hM hc (Ours.nt (fun k hk => (B4.fb k hk).2.2))
  · intro z
    rw [e1, List.mem_append, List.mem_singleton]
    exact ⟨fun h => h.elim (fun h => Or.inl ⟨h, getL_none.1 hn z h⟩) Or.inr, fun h => h.elim (fun h => Or.inl h.1) Or.inr⟩
  · exact nodup_put B.nodup x
  · rw [e1, List.length_append, List.length_singleton]; omega
end
set_option maxHeartbeats 4000000 in
set_option maxRecDepth 100000 in
theorem put_fresh (w : World) (base s : Nat) (F : Nat → Prop) (L : List Sp) (tb : Nat) (T : List (Tr × Nat)) (I : Nat → List (Int × (Sp × List Value))) (B : Book w base s F L tb T I) (hbase : base ≤ w.heap.size)
    (x : Sp) (hx : okSp x) (A4 A11 A12 : Option Addr) (c4 c11 c12 : Nat) (hK : ∀ w', Chg F w w' → kSp.K w' x (cSp x (.slice A4 x.f3.length c4) (.slice A11 x.f10.length c11) (.slice A12 x.f11.length c12)))
    (b : Nat) (hb : getM T (tr x) = some b) (hn : getL nmS L (nmS x) = none) (hroom : L.length < 100000) :
    Calls Tryz.prog 29 #[.pointer (some ⟨s, 0, none⟩), .agg (cSp x (.slice A4 x.f3.length c4) (.slice A11 x.f10.length c11) (.slice A12 x.f11.length c12)).toArray] w (PutPost w base s F L x) := by
  obtain ⟨⟨hi, lo⟩, id, par, lk, sv, op, kd, st, s0, s1, la, le⟩ := x
  dsimp only [cSp] at *
  have HX := Lib.hid hx
  have HK := Lib.hid hK
  have HB := Lib.hid B
  have HN := Lib.hid hn
  have HT := Lib.hid hb
  have HBS := Lib.hid hbase
  obtain ⟨kt, hkt⟩ := keyTr_mk (t := (hi, lo)) hx.2.2.2.1 hx.2.2.2.2.1
  obtain ⟨ki, hki⟩ := keyId_mk (i := id) hx.2.2.2.2.2
  have HKT := Lib.hid hkt
  have HKI := Lib.hid hki
  have hlen : (L.length : Int) < 100000 := by omega
  clear hx hK B hn hb hkt hki hbase hroom
  go_enter Tryz.func29, Tryz.ntmps29
  go_wp2_with fail
  have g1 := blk_new w (.cells #[.int .u64 hi, .int .u64 lo, .int .u64 id, .int .u64 par, .slice A4 lk.length c4, .string sv, .string op, .int .i64 kd, .int .i64 st, .int .i64 s0, .int .i64 s1, .slice A11 la.length c11, .slice A12 le.length c12] 41)
  have hw1 := below_alloc (Below.refl w.heap.size w) (.cells #[.int .u64 hi, .int .u64 lo, .int .u64 id, .int .u64 par, .slice A4 lk.length c4, .string sv, .string op, .int .i64 kd, .int .i64 st, .int .i64 s0, .int .i64 s1, .slice A11 la.length c11, .slice A12 le.length c12] 41)
  generalize w.alloc (.cells #[.int .u64 hi, .int .u64 lo, .int .u64 id, .int .u64 par, .slice A4 lk.length c4, .string sv, .string op, .int .i64 kd, .int .i64 st, .int .i64 s0, .int .i64 s1, .slice A11 la.length c11, .slice A12 le.length c12] 41) = w1 at *
  have HW1 := Lib.hid hw1
  have B1 := HB.out.below hw1
  have hc0 := B1.cell
  have p0 := fun z : Wx w1 => z.cell ((cell_of_row _ _ 0 _ _ _ hc0).trans rfl)
  have q0 := fun z : Wx w1 => z.cell ((cell_of_row _ _ 0 _ _ _ g1).trans rfl)
  have q1 := fun z : Wx w1 => z.cell ((cell_of_row _ _ 1 _ _ _ g1).trans rfl)
  have hlk : ∀ z : Wx w1, (Instr.lookup 74 (.map (some tb)) (.agg #[.int .u64 hi, .int .u64 lo]) false).run Tryz.prog z.W = .ok (.map (some b)) z.W := fun z => (B1.traces.below z.h).look_some keyTr Tryz.underlying74 (zero_tr _) false HKT.out mkTr_inj HT.out
  have G1 := Lib.hid g1
  have HB1 := Lib.hid B1
  clear hw1 B1 hc0 g1
  refine wp_region_ext (by kernel_rfl) (by kernel_rfl) ?_
  repeat (go_big_quiet_step (fail))
  refine wpQuiet_nil ?_
  intro _ hw'
  obtain ⟨xx, rfl⟩ := hw'
  clear p0 q0 q1 hlk
  have HW2 := Lib.hid (HW1.out.trans (xx.h.mono HW1.out.size))
  have G2 := Lib.hid (blk_below G1.out xx.h)
  have HB2 := Lib.hid (HB1.out.below xx.h)
  generalize xx.W = w2 at *
  clear xx HW1 G1 HB1
  have hq : (binOp .eql 79 (.map (some b)) (.map none)).run Tryz.prog w2 = .ok (.bool false) w2 := map_eq_some _ _
  have hl2 : (Instr.lookup 79 (.map (some b)) (.int .u64 id) true).run Tryz.prog w2 = .ok (.tuple #[.agg zSp.toArray, .bool false]) w2 :=
    (HB2.out.inner _ (getM_mem HT.out)).look_none keyId Tryz.underlying79 (zero_sp _) true HKI.out mkId_inj (HB2.out.get_none HN.out HT.out)
  have q2 := (cell_of_row _ _ 2 _ _ _ G2.out).trans rfl
  go_wp2_with fail
  have hb3 := below_alloc HW2.out (.cells zSp.toArray 41)
  have HW3 := Lib.hid hb3
  have G3 := Lib.hid (blk_alloc G2.out (.cells zSp.toArray 41))
  have HB3 := Lib.hid (HB2.out.below (below_alloc (Below.refl w2.heap.size w2) (.cells zSp.toArray 41)))
  clear hb3 HB2 G2 q2 hl2 hq
  generalize w2.alloc _ = w3 at *
  have HLT := Lib.hid (show b ≠ w.heap.size from fun e => by have := (HB.out.inner _ (getM_mem HT.out)).lt; simp only at this; omega)
  have HS : Hid (∀ V : World, V.heap[w.heap.size]? = some (.cells #[.int .u64 hi, .int .u64 lo, .int .u64 id, .int .u64 par, .slice A4 lk.length c4, .string sv, .string op, .int .i64 kd, .int .i64 st, .int .i64 s0, .int .i64 s1, .slice A11 la.length c11, .slice A12 le.length c12] 41 (0, 0)) → V.cell? ⟨w.heap.size, 0, none⟩ = some (.int .u64 hi) ∧ V.cell? ⟨w.heap.size, 1, none⟩ = some (.int .u64 lo) ∧ V.cell? ⟨w.heap.size, 2, none⟩ = some (.int .u64 id) ∧ V.cell? ⟨w.heap.size, 3, none⟩ = some (.int .u64 par) ∧ V.cell? ⟨w.heap.size, 4, none⟩ = some (.slice A4 lk.length c4) ∧ V.cell? ⟨w.heap.size, 5, none⟩ = some (.string sv) ∧ V.cell? ⟨w.heap.size, 6, none⟩ = some (.string op) ∧ V.cell? ⟨w.heap.size, 7, none⟩ = some (.int .i64 kd) ∧ V.cell? ⟨w.heap.size, 8, none⟩ = some (.int .i64 st) ∧ V.cell? ⟨w.heap.size, 9, none⟩ = some (.int .i64 s0) ∧ V.cell? ⟨w.heap.size, 10, none⟩ = some (.int .i64 s1) ∧ V.cell? ⟨w.heap.size, 11, none⟩ = some (.slice A11 la.length c11) ∧ V.cell? ⟨w.heap.size, 12, none⟩ = some (.slice A12 le.length c12)) := fun V a => by
    exact ⟨(cell_of_row _ _ 0 _ _ _ a).trans rfl, (cell_of_row _ _ 1 _ _ _ a).trans rfl, (cell_of_row _ _ 2 _ _ _ a).trans rfl, (cell_of_row _ _ 3 _ _ _ a).trans rfl, (cell_of_row _ _ 4 _ _ _ a).trans rfl, (cell_of_row _ _ 5 _ _ _ a).trans rfl, (cell_of_row _ _ 6 _ _ _ a).trans rfl, (cell_of_row _ _ 7 _ _ _ a).trans rfl, (cell_of_row _ _ 8 _ _ _ a).trans rfl, (cell_of_row _ _ 9 _ _ _ a).trans rfl, (cell_of_row _ _ 10 _ _ _ a).trans rfl, (cell_of_row _ _ 11 _ _ _ a).trans rfl, (cell_of_row _ _ 12 _ _ _ a).trans rfl⟩
  have hq0 := HS.out _ (blk_below G3.out (drew_below w3))
  have HC := Lib.hid (clone_run ⟨⟨hi, lo⟩, id, par, lk, sv, op, kd, st, s0, s1, la, le⟩ HX.out w3.drew _ (HK.out _ (Chg.of_below (HW3.out.trans ((drew_below w3).mono HW3.out.size)))))
  go_region_held3 (fun V => V.cell? ⟨w.heap.size, 0, none⟩ = some (.int .u64 hi) ∧ V.cell? ⟨w.heap.size, 1, none⟩ = some (.int .u64 lo) ∧ V.cell? ⟨w.heap.size, 2, none⟩ = some (.int .u64 id) ∧ V.cell? ⟨w.heap.size, 3, none⟩ = some (.int .u64 par) ∧ V.cell? ⟨w.heap.size, 4, none⟩ = some (.slice A4 lk.length c4) ∧ V.cell? ⟨w.heap.size, 5, none⟩ = some (.string sv) ∧ V.cell? ⟨w.heap.size, 6, none⟩ = some (.string op) ∧ V.cell? ⟨w.heap.size, 7, none⟩ = some (.int .i64 kd) ∧ V.cell? ⟨w.heap.size, 8, none⟩ = some (.int .i64 st) ∧ V.cell? ⟨w.heap.size, 9, none⟩ = some (.int .i64 s0) ∧ V.cell? ⟨w.heap.size, 10, none⟩ = some (.int .i64 s1) ∧ V.cell? ⟨w.heap.size, 11, none⟩ = some (.slice A11 la.length c11) ∧ V.cell? ⟨w.heap.size, 12, none⟩ = some (.slice A12 le.length c12)) (assumption) (first | (go_at_call 30; refine HC.out.mono ?_; rintro e w4 ⟨v4, v11, v12, rfl, hM, hb4⟩; have HB4 := Lib.hid ((drew_below w3).trans hb4); have HM4 := Lib.hid (kSq.M_lower (show base ≤ w3.drew.heap.size from Nat.le_trans HBS.out HW3.out.size) hM); have G4 := Lib.hid (blk_below G3.out HB4.out); have hq1 := HS.out _ G4.out; obtain ⟨w5, hrun, hM5, hg5, hs5⟩ := (HB3.out.below HB4.out).lay HT.out HKI.out ⟨⟨hi, lo⟩, id, par, lk, sv, op, kd, st, s0, s1, la, le⟩ (cSp ⟨⟨hi, lo⟩, id, par, lk, sv, op, kd, st, s0, s1, la, le⟩ v4 v11 v12); have G5 := Lib.hid (blk_grown G4.out hg5 (fun e => HLT.out (Option.some.inj e).symm)); have hq2 := HS.out _ G5.out; have HI5 := Lib.hid hM5; have HG5 := Lib.hid hg5; have HS5 := Lib.hid hs5; clear hM hb4 hM5 hg5 hs5))
  have GS := Lib.hid (HB3.out.below HB4.out).cell
  have HSB := Lib.hid (show s ≠ b from fun e => by
    obtain ⟨es, c, h1, _⟩ := (HB3.out.below HB4.out).inner _ (getM_mem HT.out)
    have h2 := GS.out
    rw [e] at h2
    simp only at h1
    rw [h1] at h2
    cases h2)
  have GS5 := Lib.hid (blk_grown GS.out HG5.out (fun e => HSB.out (Option.some.inj e)))
  have y1 := (cell_of_row _ _ 1 _ _ _ GS5.out).trans rfl
  have f1 := blk_frozen GS5.out 1
  have HL := Lib.hid (fresh_close HB.out ⟨⟨hi, lo⟩, id, par, lk, sv, op, kd, st, s0, s1, la, le⟩ (cSp ⟨⟨hi, lo⟩, id, par, lk, sv, op, kd, st, s0, s1, la, le⟩ v4 v11 v12) HX.out HT.out (HW3.out.trans (HB4.out.mono HW3.out.size)) HM4.out HI5.out HG5.out HN.out (by omega))
  clear hq0 hq1 hq2 hrun
  go_wp2_with fail
  go_ret
  exact HL.out
section
variable {w : World} {base s : Nat} {F : Nat → Prop} {L : List Sp} {tb : Nat} {T : List (Tr × Nat)} {I : Nat → List (Int × (Sp × List Value))}
theorem put_le {x y : Sp} (h : getL nmS L (nmS x) = some y) (hc : ¬ ordS x y > 0) : putL nmS ordS L x = L ∧ became nmS ordS L x = 2 := by
  unfold putL became
  rw [h]
  exact ⟨if_neg hc, if_neg hc⟩
theorem put_gt {x y : Sp} (h : getL nmS L (nmS x) = some y) (hc : ordS x y > 0) : putL nmS ordS L x = L.map (fun z => if nmS z = nmS x then x else z) ∧ became nmS ordS L x = 1 := by
  unfold putL became
  rw [h]
  exact ⟨if_pos hc, if_pos hc⟩
theorem kept_close {w3 : World} (B : Book w3 base s F L tb T I) (h : Below w.heap.size w w3) (x y : Sp) (hn : getL nmS L (nmS x) = some y) (hc : ¬ ordS x y > 0) : PutPost w base s F L x (.returned (.int .i64 2)) w3 := by
  obtain ⟨e1, e2⟩ := put_le hn hc
  exact ⟨F, by rw [e2], by rw [e1]; exact ⟨tb, T, I, B⟩, Chg.of_below h, fun k h => Or.inl h⟩
/-- The end of a put of a greater one. -/
theorem better_close (B : Book w base s F L tb T I) (x y : Sp) (cs : List Value) (hx : okSp x) {b : Nat} (hb : getM T (tr x) = some b) {w4 w5 : World} (h4 : Below w.heap.size w w4) (hM : kSq.M w4 base (fun _ => True) x cs)
    (hI : IsI w5 b (setM (I b) x.f1 (x, cs))) (hg : w4.grownBy w5 (some b)) (hn : getL nmS L (nmS x) = some y) (hgt : ordS x y > 0) :
    PutPost w base s F L x (.returned (.int .i64 1)) w5 := by
  obtain ⟨e1, e2⟩ := put_gt hn hgt
  have hbT := getM_mem hb
  have hsb : s ≠ b := (B.sb hbT).1
  have htb : tb ≠ b := (B.tbne _ hbT).symm
  have hFs := B.fs
  have hFb : F b := hFs.2.2 _ hbT
  have B4 := B.below h4
  have hc : Chg F w4 w5 := Chg.of_grown hg hFb
  have hcw : Chg F w w5 := (Chg.of_below (G := F) h4).trans hc (fun _ _ h => h)
  have hblk : ∀ k, k < w.heap.size → k ≠ b → w5.heap[k]? = w.heap[k]? := fun k hk h2 =>
    (hg.block k (Nat.lt_of_lt_of_le hk h4.size) (fun e => h2 (Option.some.inj e))).trans (h4.block k hk)
  refine ⟨F, by rw [e2], ⟨tb, T, _, B.upd (x := x) (cs := cs) (b := b) hbT hcw ?_ ?_ hI ?_ ?_ hx ?_ ?_ ?_⟩, hcw, fun k h => Or.inl h⟩
  · rw [e1, List.length_map]
    exact blk_grown B4.cell hg (fun e => hsb (Option.some.inj e))
  · exact hblk tb B.traces.lt htb
  · exact fun p hp hne => hblk p.2 (B.inner p hp).lt hne
  · exact M_chg hM hc (Ours.nt (fun k hk => (B4.fb k hk).2.2))
  · intro z
    rw [mem_put B.nodup, hn]
    simp only [if_pos hgt]
    exact ⟨fun h => h.elim Or.inl (fun h => Or.inr h.2), fun h => h.elim Or.inl (fun h => Or.inr ⟨by rw [h], h⟩)⟩
  · exact nodup_put B.nodup x
  · rw [e1, List.length_map]; exact B.small
end
set_option maxHeartbeats 4000000 in
set_option maxRecDepth 100000 in
theorem put_there (w : World) (base s : Nat) (F : Nat → Prop) (L : List Sp) (tb : Nat) (T : List (Tr × Nat)) (I : Nat → List (Int × (Sp × List Value))) (B : Book w base s F L tb T I) (hbase : base ≤ w.heap.size)
    (x : Sp) (hx : okSp x) (A4 A11 A12 : Option Addr) (c4 c11 c12 : Nat) (hK : ∀ w', Chg F w w' → kSp.K w' x (cSp x (.slice A4 x.f3.length c4) (.slice A11 x.f10.length c11) (.slice A12 x.f11.length c12)))
    (b : Nat) (hb : getM T (tr x) = some b) (y : Sp) (hn : getL nmS L (nmS x) = some y) :
    Calls Tryz.prog 29 #[.pointer (some ⟨s, 0, none⟩), .agg (cSp x (.slice A4 x.f3.length c4) (.slice A11 x.f10.length c11) (.slice A12 x.f11.length c12)).toArray] w (PutPost w base s F L x) := by
  obtain ⟨⟨hi, lo⟩, id, par, lk, sv, op, kd, st, s0, s1, la, le⟩ := x
  dsimp only [cSp] at *
  have HX := Lib.hid hx
  have HK := Lib.hid hK
  have HB := Lib.hid B
  have HN := Lib.hid hn
  have HT := Lib.hid hb
  have HBS := Lib.hid hbase
  obtain ⟨kt, hkt⟩ := keyTr_mk (t := (hi, lo)) hx.2.2.2.1 hx.2.2.2.2.1
  obtain ⟨ki, hki⟩ := keyId_mk (i := id) hx.2.2.2.2.2
  have HKT := Lib.hid hkt
  have HKI := Lib.hid hki
  obtain ⟨b', vy, hb', hiy, _, hiy2⟩ := B.get_some hn
  rw [hb] at hb'
  obtain rfl := Option.some.inj hb'
  obtain ⟨_, hyL, hMy, hoy⟩ := B.spans _ (getM_mem hb) _ hiy2
  have HY := Lib.hid hoy
  obtain ⟨u4, u11, u12, huy, z4, z11, z12⟩ := kSq_openM hMy
  obtain ⟨D4, d4, rfl, _, _⟩ := Kd.Zv_reads z4
  obtain ⟨D11, d11, rfl, _, _⟩ := Kd.Zv_reads z11
  obtain ⟨D12, d12, rfl, _, _⟩ := Kd.Zv_reads z12
  replace huy : vy = cSp y (.slice D4 y.f3.length d4) (.slice D11 y.f10.length d11) (.slice D12 y.f11.length d12) := huy
  subst huy
  have HIY := Lib.hid hiy
  have HIY2 := Lib.hid hiy2
  clear hyL hMy hoy z4 z11 z12 hiy hiy2
  obtain ⟨⟨hi', lo'⟩, id', par', lk', sv', op', kd', st', s0', s1', la', le'⟩ := y
  dsimp only [cSp] at HIY HIY2
  clear hx hK B hn hb hkt hki hbase
  go_enter Tryz.func29, Tryz.ntmps29
  go_wp2_with fail
  have g1 := blk_new w (.cells #[.int .u64 hi, .int .u64 lo, .int .u64 id, .int .u64 par, .slice A4 lk.length c4, .string sv, .string op, .int .i64 kd, .int .i64 st, .int .i64 s0, .int .i64 s1, .slice A11 la.length c11, .slice A12 le.length c12] 41)
  have hw1 := below_alloc (Below.refl w.heap.size w) (.cells #[.int .u64 hi, .int .u64 lo, .int .u64 id, .int .u64 par, .slice A4 lk.length c4, .string sv, .string op, .int .i64 kd, .int .i64 st, .int .i64 s0, .int .i64 s1, .slice A11 la.length c11, .slice A12 le.length c12] 41)
  generalize w.alloc (.cells #[.int .u64 hi, .int .u64 lo, .int .u64 id, .int .u64 par, .slice A4 lk.length c4, .string sv, .string op, .int .i64 kd, .int .i64 st, .int .i64 s0, .int .i64 s1, .slice A11 la.length c11, .slice A12 le.length c12] 41) = w1 at *
  have HW1 := Lib.hid hw1
  have B1 := HB.out.below hw1
  have hc0 := B1.cell
  have p0 := fun z : Wx w1 => z.cell ((cell_of_row _ _ 0 _ _ _ hc0).trans rfl)
  have q0 := fun z : Wx w1 => z.cell ((cell_of_row _ _ 0 _ _ _ g1).trans rfl)
  have q1 := fun z : Wx w1 => z.cell ((cell_of_row _ _ 1 _ _ _ g1).trans rfl)
  have hlk : ∀ z : Wx w1, (Instr.lookup 74 (.map (some tb)) (.agg #[.int .u64 hi, .int .u64 lo]) false).run Tryz.prog z.W = .ok (.map (some b)) z.W := fun z => (B1.traces.below z.h).look_some keyTr Tryz.underlying74 (zero_tr _) false HKT.out mkTr_inj HT.out
  have G1 := Lib.hid g1
  have HB1 := Lib.hid B1
  clear hw1 B1 hc0 g1
  refine wp_region_ext (by kernel_rfl) (by kernel_rfl) ?_
  repeat (go_big_quiet_step (fail))
  refine wpQuiet_nil ?_
  intro _ hw'
  obtain ⟨xx, rfl⟩ := hw'
  clear p0 q0 q1 hlk
  have HW2 := Lib.hid (HW1.out.trans (xx.h.mono HW1.out.size))
  have G2 := Lib.hid (blk_below G1.out xx.h)
  have HB2 := Lib.hid (HB1.out.below xx.h)
  generalize xx.W = w2 at *
  clear xx HW1 G1 HB1
  have hq : (binOp .eql 79 (.map (some b)) (.map none)).run Tryz.prog w2 = .ok (.bool false) w2 := map_eq_some _ _
  have hl2 : (Instr.lookup 79 (.map (some b)) (.int .u64 id) true).run Tryz.prog w2 = .ok (.tuple #[.agg #[.int .u64 hi', .int .u64 lo', .int .u64 id', .int .u64 par', .slice D4 lk'.length d4, .string sv', .string op', .int .i64 kd', .int .i64 st', .int .i64 s0', .int .i64 s1', .slice D11 la'.length d11, .slice D12 le'.length d12], .bool true]) w2 :=
    (HB2.out.inner _ (getM_mem HT.out)).look_some keyId Tryz.underlying79 (zero_sp _) true HKI.out mkId_inj HIY.out
  have hz2 := blk_lt G2.out
  have q0 := (cell_of_row _ _ 0 _ _ _ G2.out).trans rfl
  have q1 := (cell_of_row _ _ 1 _ _ _ G2.out).trans rfl
  have q2 := (cell_of_row _ _ 2 _ _ _ G2.out).trans rfl
  have q3 := (cell_of_row _ _ 3 _ _ _ G2.out).trans rfl
  have q4 := (cell_of_row _ _ 4 _ _ _ G2.out).trans rfl
  have q5 := (cell_of_row _ _ 5 _ _ _ G2.out).trans rfl
  have q6 := (cell_of_row _ _ 6 _ _ _ G2.out).trans rfl
  have q7 := (cell_of_row _ _ 7 _ _ _ G2.out).trans rfl
  have q8 := (cell_of_row _ _ 8 _ _ _ G2.out).trans rfl
  have q9 := (cell_of_row _ _ 9 _ _ _ G2.out).trans rfl
  have q10 := (cell_of_row _ _ 10 _ _ _ G2.out).trans rfl
  have q11 := (cell_of_row _ _ 11 _ _ _ G2.out).trans rfl
  have q12 := (cell_of_row _ _ 12 _ _ _ G2.out).trans rfl
  go_wp2_with fail
  have hb3 := below_alloc HW2.out (.cells #[.int .u64 hi', .int .u64 lo', .int .u64 id', .int .u64 par', .slice D4 lk'.length d4, .string sv', .string op', .int .i64 kd', .int .i64 st', .int .i64 s0', .int .i64 s1', .slice D11 la'.length d11, .slice D12 le'.length d12] 41)
  have HW3 := Lib.hid hb3
  have G3 := Lib.hid (blk_alloc G2.out (.cells #[.int .u64 hi', .int .u64 lo', .int .u64 id', .int .u64 par', .slice D4 lk'.length d4, .string sv', .string op', .int .i64 kd', .int .i64 st', .int .i64 s0', .int .i64 s1', .slice D11 la'.length d11, .slice D12 le'.length d12] 41))
  have HB3 := Lib.hid (HB2.out.below (below_alloc (Below.refl w2.heap.size w2) (.cells #[.int .u64 hi', .int .u64 lo', .int .u64 id', .int .u64 par', .slice D4 lk'.length d4, .string sv', .string op', .int .i64 kd', .int .i64 st', .int .i64 s0', .int .i64 s1', .slice D11 la'.length d11, .slice D12 le'.length d12] 41)))
  clear hb3 HB2 G2 hl2 hq q0 q1 q2 q3 q4 q5 q6 q7 q8 q9 q10 q11 q12
  have hgo := below_alloc (Below.refl w2.heap.size w2) (.cells #[.int .u64 hi', .int .u64 lo', .int .u64 id', .int .u64 par', .slice D4 lk'.length d4, .string sv', .string op', .int .i64 kd', .int .i64 st', .int .i64 s0', .int .i64 s1', .slice D11 la'.length d11, .slice D12 le'.length d12] 41)
  have HC0 := Lib.hid (spancmp_run ⟨⟨hi, lo⟩, id, par, lk, sv, op, kd, st, s0, s1, la, le⟩ ⟨⟨hi', lo'⟩, id', par', lk', sv', op', kd', st', s0', s1', la', le'⟩ HX.out HY.out _ _ [.int .u64 hi', .int .u64 lo', .int .u64 id', .int .u64 par', .slice D4 lk'.length d4, .string sv', .string op', .int .i64 kd', .int .i64 st', .int .i64 s0', .int .i64 s1', .slice D11 la'.length d11, .slice D12 le'.length d12] (HK.out _ (Chg.of_below HW3.out)) (kSp_of_sq (HB3.out.spans _ (getM_mem HT.out) _ HIY2.out).2.2.1))
  clear hgo
  refine HC0.out.mono ?_
  rintro e w3' ⟨rfl, hb3⟩
  have HW3 := Lib.hid (HW3.out.trans (hb3.mono HW3.out.size))
  have G3 := Lib.hid (blk_below G3.out hb3)
  have HB3 := Lib.hid (HB3.out.below hb3)
  clear hb3 HC0
  generalize w3' = w3 at *
  by_cases hgt : ordS ⟨⟨hi, lo⟩, id, par, lk, sv, op, kd, st, s0, s1, la, le⟩ ⟨⟨hi', lo'⟩, id', par', lk', sv', op', kd', st', s0', s1', la', le'⟩ > 0
  case neg =>
    have HL := Lib.hid (kept_close HB3.out HW3.out ⟨⟨hi, lo⟩, id, par, lk, sv, op, kd, st, s0, s1, la, le⟩ ⟨⟨hi', lo'⟩, id', par', lk', sv', op', kd', st', s0', s1', la', le'⟩ HN.out hgt)
    have hgt' : ¬ (0 < ordS ⟨⟨hi, lo⟩, id, par, lk, sv, op, kd, st, s0, s1, la, le⟩ ⟨⟨hi', lo'⟩, id', par', lk', sv', op', kd', st', s0', s1', la', le'⟩) := hgt
    generalize ordS ⟨⟨hi, lo⟩, id, par, lk, sv, op, kd, st, s0, s1, la, le⟩ ⟨⟨hi', lo'⟩, id', par', lk', sv', op', kd', st', s0', s1', la', le'⟩ = oo at hgt hgt' ⊢
    go_wp2_with fail
    go_ret
    exact HL.out
  have HGT := Lib.hid hgt
  have hgt' : 0 < ordS ⟨⟨hi, lo⟩, id, par, lk, sv, op, kd, st, s0, s1, la, le⟩ ⟨⟨hi', lo'⟩, id', par', lk', sv', op', kd', st', s0', s1', la', le'⟩ := hgt
  generalize ordS ⟨⟨hi, lo⟩, id, par, lk, sv, op, kd, st, s0, s1, la, le⟩ ⟨⟨hi', lo'⟩, id', par', lk', sv', op', kd', st', s0', s1', la', le'⟩ = oo at hgt hgt' ⊢
  go_wp2_with fail
  clear hgt hgt'
  have HLT := Lib.hid (show b ≠ w.heap.size from fun e => by have := (HB.out.inner _ (getM_mem HT.out)).lt; simp only at this; omega)
  have HS : Hid (∀ V : World, V.heap[w.heap.size]? = some (.cells #[.int .u64 hi, .int .u64 lo, .int .u64 id, .int .u64 par, .slice A4 lk.length c4, .string sv, .string op, .int .i64 kd, .int .i64 st, .int .i64 s0, .int .i64 s1, .slice A11 la.length c11, .slice A12 le.length c12] 41 (0, 0)) → V.cell? ⟨w.heap.size, 0, none⟩ = some (.int .u64 hi) ∧ V.cell? ⟨w.heap.size, 1, none⟩ = some (.int .u64 lo) ∧ V.cell? ⟨w.heap.size, 2, none⟩ = some (.int .u64 id) ∧ V.cell? ⟨w.heap.size, 3, none⟩ = some (.int .u64 par) ∧ V.cell? ⟨w.heap.size, 4, none⟩ = some (.slice A4 lk.length c4) ∧ V.cell? ⟨w.heap.size, 5, none⟩ = some (.string sv) ∧ V.cell? ⟨w.heap.size, 6, none⟩ = some (.string op) ∧ V.cell? ⟨w.heap.size, 7, none⟩ = some (.int .i64 kd) ∧ V.cell? ⟨w.heap.size, 8, none⟩ = some (.int .i64 st) ∧ V.cell? ⟨w.heap.size, 9, none⟩ = some (.int .i64 s0) ∧ V.cell? ⟨w.heap.size, 10, none⟩ = some (.int .i64 s1) ∧ V.cell? ⟨w.heap.size, 11, none⟩ = some (.slice A11 la.length c11) ∧ V.cell? ⟨w.heap.size, 12, none⟩ = some (.slice A12 le.length c12)) := fun V a => by
    exact ⟨(cell_of_row _ _ 0 _ _ _ a).trans rfl, (cell_of_row _ _ 1 _ _ _ a).trans rfl, (cell_of_row _ _ 2 _ _ _ a).trans rfl, (cell_of_row _ _ 3 _ _ _ a).trans rfl, (cell_of_row _ _ 4 _ _ _ a).trans rfl, (cell_of_row _ _ 5 _ _ _ a).trans rfl, (cell_of_row _ _ 6 _ _ _ a).trans rfl, (cell_of_row _ _ 7 _ _ _ a).trans rfl, (cell_of_row _ _ 8 _ _ _ a).trans rfl, (cell_of_row _ _ 9 _ _ _ a).trans rfl, (cell_of_row _ _ 10 _ _ _ a).trans rfl, (cell_of_row _ _ 11 _ _ _ a).trans rfl, (cell_of_row _ _ 12 _ _ _ a).trans rfl⟩
  have hq0 := HS.out _ (blk_below G3.out (drew_below w3))
  have HC := Lib.hid (clone_run ⟨⟨hi, lo⟩, id, par, lk, sv, op, kd, st, s0, s1, la, le⟩ HX.out w3.drew _ (HK.out _ (Chg.of_below (HW3.out.trans ((drew_below w3).mono HW3.out.size)))))
  go_region_held3 (fun V => V.cell? ⟨w.heap.size, 0, none⟩ = some (.int .u64 hi) ∧ V.cell? ⟨w.heap.size, 1, none⟩ = some (.int .u64 lo) ∧ V.cell? ⟨w.heap.size, 2, none⟩ = some (.int .u64 id) ∧ V.cell? ⟨w.heap.size, 3, none⟩ = some (.int .u64 par) ∧ V.cell? ⟨w.heap.size, 4, none⟩ = some (.slice A4 lk.length c4) ∧ V.cell? ⟨w.heap.size, 5, none⟩ = some (.string sv) ∧ V.cell? ⟨w.heap.size, 6, none⟩ = some (.string op) ∧ V.cell? ⟨w.heap.size, 7, none⟩ = some (.int .i64 kd) ∧ V.cell? ⟨w.heap.size, 8, none⟩ = some (.int .i64 st) ∧ V.cell? ⟨w.heap.size, 9, none⟩ = some (.int .i64 s0) ∧ V.cell? ⟨w.heap.size, 10, none⟩ = some (.int .i64 s1) ∧ V.cell? ⟨w.heap.size, 11, none⟩ = some (.slice A11 la.length c11) ∧ V.cell? ⟨w.heap.size, 12, none⟩ = some (.slice A12 le.length c12)) (assumption) (first | (go_at_call 30; refine HC.out.mono ?_; rintro e w4 ⟨v4, v11, v12, rfl, hM, hb4⟩; have HB4 := Lib.hid ((drew_below w3).trans hb4); have HM4 := Lib.hid (kSq.M_lower (show base ≤ w3.drew.heap.size from Nat.le_trans HBS.out HW3.out.size) hM); have G4 := Lib.hid (blk_below G3.out HB4.out); have hq1 := HS.out _ G4.out; obtain ⟨w5, hrun, hM5, hg5, hs5⟩ := (HB3.out.below HB4.out).lay HT.out HKI.out ⟨⟨hi, lo⟩, id, par, lk, sv, op, kd, st, s0, s1, la, le⟩ (cSp ⟨⟨hi, lo⟩, id, par, lk, sv, op, kd, st, s0, s1, la, le⟩ v4 v11 v12); have G5 := Lib.hid (blk_grown G4.out hg5 (fun e => HLT.out (Option.some.inj e).symm)); have hq2 := HS.out _ G5.out; have HI5 := Lib.hid hM5; have HG5 := Lib.hid hg5; have HS5 := Lib.hid hs5; clear hM hb4 hM5 hg5 hs5))
  have HL := Lib.hid (better_close HB.out ⟨⟨hi, lo⟩, id, par, lk, sv, op, kd, st, s0, s1, la, le⟩ ⟨⟨hi', lo'⟩, id', par', lk', sv', op', kd', st', s0', s1', la', le'⟩ (cSp ⟨⟨hi, lo⟩, id, par, lk, sv, op, kd, st, s0, s1, la, le⟩ v4 v11 v12) HX.out HT.out (HW3.out.trans (HB4.out.mono HW3.out.size)) HM4.out HI5.out HG5.out HN.out HGT.out)
  clear hq0 hq1 hq2 hrun
  go_wp2_with fail
  go_ret
  exact HL.out
theorem lay_new {w : World} {b : Nat} (h : IsI w b []) {i : Int} {kl : Lit} (hk : keyOf Tryz.prog 34 (mkId i) = some kl) (x : Sp) (cs : List Value) :
    ∃ w', (Instr.mapUpdate 79 (.map (some b)) (.int .u64 i) (.agg cs.toArray)).run Tryz.prog w = .ok () w' ∧ IsI w' b [(i, (x, cs))] ∧ w.grownBy w' (some b) ∧ w'.heap.size = w.heap.size :=
  h.store keyId Tryz.underlying79 hk mkId_inj (x, cs)
section
variable {w : World} {base s : Nat} {F : Nat → Prop} {L : List Sp} {tb : Nat} {T : List (Tr × Nat)} {I : Nat → List (Int × (Sp × List Value))}
/-- The end of a put whose trace is not there. -/
theorem new_close (B : Book w base s F L tb T I) (x : Sp) (cs : List Value) (hx : okSp x) (hT : getM T (tr x) = none) (hbase : base ≤ w.heap.size) {nb : Nat} (hnb : w.heap.size < nb) {w4 w5 w6 w7 w8 : World} (h4 : Below w.heap.size w w4) (B4 : Book w4 base s F L tb T I)
    (hT5 : IsT w5 tb (setM T (tr x) nb)) (hg5 : w4.grownBy w5 (some tb)) (h6 : Below w5.heap.size w5 w6) (h7 : Below w6.heap.size w6 w7) (hM : kSq.M w7 base (fun _ => True) x cs)
    (hI7 : IsI w7 nb []) (hI : IsI w8 nb [(x.f1, (x, cs))]) (hg8 : w7.grownBy w8 (some nb)) (hroom : L.length < 100000) :
    PutPost w base s F L x (.returned (.int .i64 0)) (w8.setCell ⟨s, 1, none⟩ (.int .i64 (L.length + 1 : Int))) := by
  have hn := B.get_no_trace hT x.f1
  obtain ⟨e1, e2⟩ := put_none hn
  have hst := B.s_tb
  have hFs := B.fs
  have hslt := blk_lt B.cell
  have htlt := B.traces.lt
  have hTn : setM T (tr x) nb = T ++ [(tr x, nb)] := by unfold setM; rw [if_pos (by rw [hT]; rfl)]
  rw [hTn] at hT5
  have c45 : Chg F w4 w5 := Chg.of_grown hg5 hFs.2.1
  have c57 : Chg F w5 w7 := (Chg.of_below (G := F) h6).trans (Chg.of_below (G := F) h7) (fun _ _ h => h)
  have c47 : Chg F w4 w7 := c45.trans c57 (fun _ _ h => h)
  have c0 : Chg F w w4 := Chg.of_below h4
  have c07 : Chg F w w7 := c0.trans c47 (fun _ _ h => h)
  have c78 : Chg (fun k => F k ∨ k = nb) w7 w8 := Chg.of_grown hg8 (Or.inr rfl)
  have c89 : Chg (fun k => F k ∨ k = nb) w8 (w8.setCell ⟨s, 1, none⟩ (.int .i64 (L.length + 1 : Int))) := Chg.set (Or.inl hFs.1)
  have c79 := c78.trans c89 (fun _ _ h => h)
  have c09 : Chg F w (w8.setCell ⟨s, 1, none⟩ (.int .i64 (L.length + 1 : Int))) := c07.trans c79 (fun j hj h => h.elim (fun h => h) (fun h => by omega))
  have far : ∀ k, k ≠ s → k ≠ nb → (w8.setCell ⟨s, 1, none⟩ (.int .i64 (L.length + 1 : Int))).heap[k]? = w8.heap[k]? := fun k h1 h2 => Below.heap_setCell _ ⟨s, 1, none⟩ _ k h1
  have z45 : w4.heap.size ≤ w5.heap.size := hg5.size
  have z57 : w5.heap.size ≤ w7.heap.size := Nat.le_trans h6.size h7.size
  have z04 := h4.size
  have hsn : s ≠ nb := by omega
  have hkeep : ∀ k, k < w.heap.size → k ≠ s → k ≠ tb → (w8.setCell ⟨s, 1, none⟩ (.int .i64 (L.length + 1 : Int))).heap[k]? = w.heap[k]? := fun k hk h1 h2 =>
    (Below.heap_setCell _ ⟨s, 1, none⟩ _ k h1).trans ((hg8.block k (by omega) (fun e => by have := Option.some.inj e; omega)).trans ((h7.block k (by have := h6.size; omega)).trans ((h6.block k (by omega)).trans ((hg5.block k (by omega) (fun e => h2 (Option.some.inj e))).trans (h4.block k hk)))))
  refine ⟨fun k => F k ∨ k = nb, by rw [e2], ⟨tb, _, _, B.new (x := x) (cs := cs) (b := nb) hT hbase (by omega) c09 ?_ ?_ ?_ ?_ ?_ hx ?_ ?_ ?_⟩, c09, fun k h => h.elim Or.inl (fun h => Or.inr (by omega))⟩
  · have h1 := blk_set (blk_grown (blk_below (blk_below (blk_grown B4.cell hg5 (fun e => hst (Option.some.inj e))) h6) h7) hg8 (fun e => hsn (Option.some.inj e))) 1 (.int .i64 (L.length + 1 : Int))
    rw [e1, List.length_append, List.length_singleton]
    simpa using h1
  · refine (hT5.below h6).below h7 |>.kept hg8 (fun e => by have := Option.some.inj e; omega) |>.of_block ?_
    exact Below.heap_setCell _ ⟨s, 1, none⟩ _ tb hst.symm
  · exact hI.of_block (Below.heap_setCell _ ⟨s, 1, none⟩ _ nb hsn.symm)
  · exact fun p hp => hkeep p.2 (B.inner p hp).lt (B.sb hp).1.symm (B.tbne p hp)
  · refine M_chg hM c79 (Ours.nt (fun k hk => ?_))
    rcases hk with hk | rfl
    · have h1 := B4.fb k hk
      have h7k : w7.heap[k]? = w5.heap[k]? := (h7.block k (by have := h6.size; omega)).trans (h6.block k (by omega))
      unfold Ours
      rw [h7k]
      by_cases hkt : k = tb
      · subst hkt
        obtain ⟨es, c, h2, _⟩ := hT5
        exact Or.inl ⟨es, c, h2⟩
      · rw [hg5.block k h1.2.1 (fun e => hkt (Option.some.inj e))]
        exact h1.2.2
    · obtain ⟨es, c, h2, _⟩ := hI7
      exact Or.inl ⟨es, c, h2⟩
  · intro z
    rw [e1, List.mem_append, List.mem_singleton]
    exact ⟨fun h => h.elim (fun h => Or.inl ⟨h, getL_none.1 hn z h⟩) Or.inr, fun h => h.elim (fun h => Or.inl h.1) Or.inr⟩
  · exact nodup_put B.nodup x
  · rw [e1, List.length_append, List.length_singleton]; omega
end
set_option maxHeartbeats 4000000 in
set_option maxRecDepth 100000 in
theorem put_new (w : World) (base s : Nat) (F : Nat → Prop) (L : List Sp) (tb : Nat) (T : List (Tr × Nat)) (I : Nat → List (Int × (Sp × List Value))) (B : Book w base s F L tb T I) (hbase : base ≤ w.heap.size)
    (x : Sp) (hx : okSp x) (A4 A11 A12 : Option Addr) (c4 c11 c12 : Nat) (hK : ∀ w', Chg F w w' → kSp.K w' x (cSp x (.slice A4 x.f3.length c4) (.slice A11 x.f10.length c11) (.slice A12 x.f11.length c12)))
    (hb : getM T (tr x) = none) (hroom : L.length < 100000) :
    Calls Tryz.prog 29 #[.pointer (some ⟨s, 0, none⟩), .agg (cSp x (.slice A4 x.f3.length c4) (.slice A11 x.f10.length c11) (.slice A12 x.f11.length c12)).toArray] w (PutPost w base s F L x) := by
  obtain ⟨⟨hi, lo⟩, id, par, lk, sv, op, kd, st, s0, s1, la, le⟩ := x
  dsimp only [cSp] at *
  have HX := Lib.hid hx
  have HK := Lib.hid hK
  have HB := Lib.hid B
  have HT := Lib.hid hb
  have HBS := Lib.hid hbase
  obtain ⟨kt, hkt⟩ := keyTr_mk (t := (hi, lo)) hx.2.2.2.1 hx.2.2.2.2.1
  obtain ⟨ki, hki⟩ := keyId_mk (i := id) hx.2.2.2.2.2
  have HKT := Lib.hid hkt
  have HKI := Lib.hid hki
  have hlen : (L.length : Int) < 100000 := by omega
  clear hx hK B hb hkt hki hbase hroom
  have hmm := @run_makeMap Tryz.prog
  go_enter Tryz.func29, Tryz.ntmps29
  go_wp2_with fail
  have g1 := blk_new w (.cells #[.int .u64 hi, .int .u64 lo, .int .u64 id, .int .u64 par, .slice A4 lk.length c4, .string sv, .string op, .int .i64 kd, .int .i64 st, .int .i64 s0, .int .i64 s1, .slice A11 la.length c11, .slice A12 le.length c12] 41)
  have hw1 := below_alloc (Below.refl w.heap.size w) (.cells #[.int .u64 hi, .int .u64 lo, .int .u64 id, .int .u64 par, .slice A4 lk.length c4, .string sv, .string op, .int .i64 kd, .int .i64 st, .int .i64 s0, .int .i64 s1, .slice A11 la.length c11, .slice A12 le.length c12] 41)
  generalize w.alloc (.cells #[.int .u64 hi, .int .u64 lo, .int .u64 id, .int .u64 par, .slice A4 lk.length c4, .string sv, .string op, .int .i64 kd, .int .i64 st, .int .i64 s0, .int .i64 s1, .slice A11 la.length c11, .slice A12 le.length c12] 41) = w1 at *
  have HW1 := Lib.hid hw1
  have B1 := HB.out.below hw1
  have hc0 := B1.cell
  have p0 := fun z : Wx w1 => z.cell ((cell_of_row _ _ 0 _ _ _ hc0).trans rfl)
  have q0 := fun z : Wx w1 => z.cell ((cell_of_row _ _ 0 _ _ _ g1).trans rfl)
  have q1 := fun z : Wx w1 => z.cell ((cell_of_row _ _ 1 _ _ _ g1).trans rfl)
  have hlk : ∀ z : Wx w1, (Instr.lookup 74 (.map (some tb)) (.agg #[.int .u64 hi, .int .u64 lo]) false).run Tryz.prog z.W = .ok (.map none) z.W := fun z => (B1.traces.below z.h).look_none keyTr Tryz.underlying74 (zero_tr _) false HKT.out mkTr_inj HT.out
  have G1 := Lib.hid g1
  have HB1 := Lib.hid B1
  clear hw1 B1 hc0 g1
  refine wp_region_ext (by kernel_rfl) (by kernel_rfl) ?_
  repeat (go_big_quiet_step (fail))
  refine wpQuiet_nil ?_
  intro _ hw'
  obtain ⟨xx, rfl⟩ := hw'
  clear p0 q0 q1 hlk
  have HW2 := Lib.hid (HW1.out.trans (xx.h.mono HW1.out.size))
  have G2 := Lib.hid (blk_below G1.out xx.h)
  have HB2 := Lib.hid (HB1.out.below xx.h)
  generalize xx.W = w2 at *
  clear xx HW1 G1 HB1
  have hq : (binOp .eql 79 (.map none) (.map none)).run Tryz.prog w2 = .ok (.bool true) w2 := map_eq_none _
  go_wp2_with fail
  clear hq
  have hm2 := below_alloc (Below.refl w2.heap.size w2) (.map #[] 0)
  have HM0 := Lib.hid (MapIs.made w2 Tryz.prog 34 mkId mvS)
  have HNB := Lib.hid (show w.heap.size < w2.heap.size from blk_lt G2.out)
  obtain ⟨nb, hnb⟩ : ∃ nb, nb = w2.heap.size := ⟨_, rfl⟩
  rw [← hnb] at HM0 HNB ⊢
  clear hnb
  generalize w2.alloc (.map #[] 0) = w3 at *
  have HW3 := Lib.hid (HW2.out.trans (hm2.mono HW2.out.size))
  have G3 := Lib.hid (blk_below G2.out hm2)
  have HB3 := Lib.hid (HB2.out.below hm2)
  clear hm2 HW2 G2 HB2
  have hc0 := HB3.out.cell
  have g1 := G3.out
  have p0 := fun z : Wx w3 => z.cell ((cell_of_row _ _ 0 _ _ _ hc0).trans rfl)
  have q0 := fun z : Wx w3 => z.cell ((cell_of_row _ _ 0 _ _ _ g1).trans rfl)
  have q1 := fun z : Wx w3 => z.cell ((cell_of_row _ _ 1 _ _ _ g1).trans rfl)
  clear hc0 g1
  refine wp_region_ext_tail 7 (by kernel_rfl) (by kernel_rfl) ?_
  simp only [List.take_succ_cons, List.take_zero, List.drop_succ_cons, List.drop_zero]
  repeat (go_big_quiet_step (fail))
  refine wpQuiet_nil ?_
  intro _ hw'
  obtain ⟨xx, rfl⟩ := hw'
  clear p0 q0 q1
  have HW4 := Lib.hid (HW3.out.trans (xx.h.mono HW3.out.size))
  have G4 := Lib.hid (blk_below G3.out xx.h)
  have HB4 := Lib.hid (HB3.out.below xx.h)
  have HM4 := Lib.hid (HM0.out.below xx.h)
  generalize xx.W = w4 at *
  clear xx HW3 G3 HB3 HM0
  obtain ⟨w5, hrun, hT5, hg5, hs5⟩ := HB4.out.traces.store keyTr Tryz.underlying74 HKT.out mkTr_inj nb
  have hrun : (Instr.mapUpdate 74 (.map (some tb)) (.agg #[.int .u64 hi, .int .u64 lo]) (.map (some nb))).run Tryz.prog w4 = .ok () w5 := hrun
  have HT5 := Lib.hid hT5
  have HG5 := Lib.hid hg5
  have HTB := Lib.hid HB4.out.traces.lt
  have HLT := Lib.hid HB4.out.traces.lt
  have htb1 : tb ≠ w.heap.size := fun e => by
    obtain ⟨es, c, h1, _⟩ := HB4.out.traces
    rw [e, G4.out] at h1
    cases h1
  have htb2 : tb ≠ nb := fun e => by have := HB.out.traces.lt; have := HNB.out; omega
  have HTN := Lib.hid htb2
  have G5 := Lib.hid (blk_grown G4.out hg5 (fun e => htb1 (Option.some.inj e).symm))
  have HM5 := Lib.hid (HM4.out.kept hg5 (fun e => htb2 (Option.some.inj e).symm))
  have GS5 := Lib.hid (blk_grown HB4.out.cell hg5 (fun e => HB4.out.s_tb (Option.some.inj e)))
  clear hT5 hg5 hs5 htb1 htb2
  have hl2 : (Instr.lookup 79 (.map (some nb)) (.int .u64 id) true).run Tryz.prog w5 = .ok (.tuple #[.agg zSp.toArray, .bool false]) w5 :=
    HM5.out.look_none keyId Tryz.underlying79 (zero_sp _) true HKI.out mkId_inj rfl
  have q2 := (cell_of_row _ _ 2 _ _ _ G5.out).trans rfl
  go_wp2_with fail
  clear hrun hl2 q2
  have hb6 := below_alloc (Below.refl w5.heap.size w5) (.cells zSp.toArray 41)
  have HW6 := Lib.hid hb6
  have G6 := Lib.hid (blk_below G5.out hb6)
  have HM6 := Lib.hid (HM5.out.below hb6)
  have GS6 := Lib.hid (blk_below GS5.out hb6)
  have HC6 := Lib.hid (((Chg.of_below (G := F) HW4.out).trans (Chg.of_grown (G := F) HG5.out HB4.out.fs.2.1) (fun _ _ h => h)).trans (Chg.of_below (G := F) hb6) (fun _ _ h => h))
  clear hb6 G5 HM5 GS5
  generalize w5.alloc _ = w6 at *
  have HS : Hid (∀ V : World, V.heap[w.heap.size]? = some (.cells #[.int .u64 hi, .int .u64 lo, .int .u64 id, .int .u64 par, .slice A4 lk.length c4, .string sv, .string op, .int .i64 kd, .int .i64 st, .int .i64 s0, .int .i64 s1, .slice A11 la.length c11, .slice A12 le.length c12] 41 (0, 0)) → V.cell? ⟨w.heap.size, 0, none⟩ = some (.int .u64 hi) ∧ V.cell? ⟨w.heap.size, 1, none⟩ = some (.int .u64 lo) ∧ V.cell? ⟨w.heap.size, 2, none⟩ = some (.int .u64 id) ∧ V.cell? ⟨w.heap.size, 3, none⟩ = some (.int .u64 par) ∧ V.cell? ⟨w.heap.size, 4, none⟩ = some (.slice A4 lk.length c4) ∧ V.cell? ⟨w.heap.size, 5, none⟩ = some (.string sv) ∧ V.cell? ⟨w.heap.size, 6, none⟩ = some (.string op) ∧ V.cell? ⟨w.heap.size, 7, none⟩ = some (.int .i64 kd) ∧ V.cell? ⟨w.heap.size, 8, none⟩ = some (.int .i64 st) ∧ V.cell? ⟨w.heap.size, 9, none⟩ = some (.int .i64 s0) ∧ V.cell? ⟨w.heap.size, 10, none⟩ = some (.int .i64 s1) ∧ V.cell? ⟨w.heap.size, 11, none⟩ = some (.slice A11 la.length c11) ∧ V.cell? ⟨w.heap.size, 12, none⟩ = some (.slice A12 le.length c12)) := fun V a => by
    exact ⟨(cell_of_row _ _ 0 _ _ _ a).trans rfl, (cell_of_row _ _ 1 _ _ _ a).trans rfl, (cell_of_row _ _ 2 _ _ _ a).trans rfl, (cell_of_row _ _ 3 _ _ _ a).trans rfl, (cell_of_row _ _ 4 _ _ _ a).trans rfl, (cell_of_row _ _ 5 _ _ _ a).trans rfl, (cell_of_row _ _ 6 _ _ _ a).trans rfl, (cell_of_row _ _ 7 _ _ _ a).trans rfl, (cell_of_row _ _ 8 _ _ _ a).trans rfl, (cell_of_row _ _ 9 _ _ _ a).trans rfl, (cell_of_row _ _ 10 _ _ _ a).trans rfl, (cell_of_row _ _ 11 _ _ _ a).trans rfl, (cell_of_row _ _ 12 _ _ _ a).trans rfl⟩
  have hq0 := HS.out _ (blk_below G6.out (drew_below w6))
  have HC := Lib.hid (clone_run ⟨⟨hi, lo⟩, id, par, lk, sv, op, kd, st, s0, s1, la, le⟩ HX.out w6.drew _ (HK.out _ (HC6.out.trans (Chg.of_below (G := F) (drew_below w6)) (fun _ _ h => h))))
  go_region_held3 (fun V => V.cell? ⟨w.heap.size, 0, none⟩ = some (.int .u64 hi) ∧ V.cell? ⟨w.heap.size, 1, none⟩ = some (.int .u64 lo) ∧ V.cell? ⟨w.heap.size, 2, none⟩ = some (.int .u64 id) ∧ V.cell? ⟨w.heap.size, 3, none⟩ = some (.int .u64 par) ∧ V.cell? ⟨w.heap.size, 4, none⟩ = some (.slice A4 lk.length c4) ∧ V.cell? ⟨w.heap.size, 5, none⟩ = some (.string sv) ∧ V.cell? ⟨w.heap.size, 6, none⟩ = some (.string op) ∧ V.cell? ⟨w.heap.size, 7, none⟩ = some (.int .i64 kd) ∧ V.cell? ⟨w.heap.size, 8, none⟩ = some (.int .i64 st) ∧ V.cell? ⟨w.heap.size, 9, none⟩ = some (.int .i64 s0) ∧ V.cell? ⟨w.heap.size, 10, none⟩ = some (.int .i64 s1) ∧ V.cell? ⟨w.heap.size, 11, none⟩ = some (.slice A11 la.length c11) ∧ V.cell? ⟨w.heap.size, 12, none⟩ = some (.slice A12 le.length c12)) (assumption) (first | (go_at_call 30; refine HC.out.mono ?_; rintro e w7 ⟨v4, v11, v12, rfl, hM, hb7⟩; have HB7 := Lib.hid ((drew_below w6).trans hb7); have HM7 := Lib.hid (kSq.M_lower (show base ≤ w6.drew.heap.size from Nat.le_trans HBS.out HC6.out.size) hM); have G7 := Lib.hid (blk_below G6.out HB7.out); have hq1 := HS.out _ G7.out; obtain ⟨w8, hrun, hM8, hg8, hs8⟩ := lay_new (HM6.out.below HB7.out) HKI.out ⟨⟨hi, lo⟩, id, par, lk, sv, op, kd, st, s0, s1, la, le⟩ (cSp ⟨⟨hi, lo⟩, id, par, lk, sv, op, kd, st, s0, s1, la, le⟩ v4 v11 v12); have G8 := Lib.hid (blk_grown G7.out hg8 (fun e => by have := HNB.out; have := Option.some.inj e; omega)); have hq2 := HS.out _ G8.out; have HI8 := Lib.hid hM8; have HG8 := Lib.hid hg8; clear hM hb7 hM8 hg8 hs8))
  have HSB := Lib.hid (show s ≠ nb from fun e => by have := blk_lt HB.out.cell; have := HNB.out; omega)
  have GS8 := Lib.hid (blk_grown (blk_below GS6.out HB7.out) HG8.out (fun e => HSB.out (Option.some.inj e)))
  have y1 := (cell_of_row _ _ 1 _ _ _ GS8.out).trans rfl
  have f1 := blk_frozen GS8.out 1
  have HL := Lib.hid (new_close HB.out ⟨⟨hi, lo⟩, id, par, lk, sv, op, kd, st, s0, s1, la, le⟩ (cSp ⟨⟨hi, lo⟩, id, par, lk, sv, op, kd, st, s0, s1, la, le⟩ v4 v11 v12) HX.out HT.out HBS.out HNB.out HW4.out HB4.out HT5.out HG5.out HW6.out HB7.out HM7.out (HM6.out.below HB7.out) HI8.out HG8.out (by omega))
  clear hq0 hq1 hq2 hrun
  go_wp2_with fail
  go_ret
  exact HL.out
/-- (*Store).put, of any span. -/
theorem put_run (w : World) (base s : Nat) (F : Nat → Prop) (L : List Sp) (B : StoreAt w base s F L) (hbase : base ≤ w.heap.size) (x : Sp) (hx : okSp x) (cs : List Value) (hK : ∀ w', Chg F w w' → kSp.K w' x cs)
    (hroom : getL nmS L (nmS x) = none → L.length < 100000) : Calls Tryz.prog 29 #[.pointer (some ⟨s, 0, none⟩), .agg cs.toArray] w (PutPost w base s F L x) := by
  obtain ⟨tb, T, I, B⟩ := B
  obtain ⟨A4, c4, A11, c11, A12, c12, rfl, _⟩ := kSp_open' (hK w (Chg.refl F w))
  cases hT : getM T (tr x) with
  | none => exact put_new w base s F L tb T I B hbase x hx A4 A11 A12 c4 c11 c12 hK hT (hroom (B.get_no_trace hT _))
  | some b =>
    cases hn : getL nmS L (nmS x) with
    | none => exact put_fresh w base s F L tb T I B hbase x hx A4 A11 A12 c4 c11 c12 hK b hT hn (hroom hn)
    | some y => exact put_there w base s F L tb T I B hbase x hx A4 A11 A12 c4 c11 c12 hK b hT y hn
end Go.Proofs.YthdkgilpnkabmaaGreatDoor.Pr
