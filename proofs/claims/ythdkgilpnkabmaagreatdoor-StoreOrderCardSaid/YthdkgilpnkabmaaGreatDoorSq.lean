/- (*Store).Get. -/
import Derived.Test.YthdkgilpnkabmaaGreatDoorSp
import Derived.Laws.Rows
namespace Go.Proofs.YthdkgilpnkabmaaGreatDoor.Pr
open Go Go.RowKit Go.Proofs.YthdkgilpnkabmaaGreatDoorW.PrintWords Go.Proofs.YthdkgilpnkabmaaGreatDoorW.PrintMore
open Go.Maps (Keyed)
open Rm Ps
set_option linter.unusedVariables false
set_option linter.unusedSimpArgs false
theorem results_row_tmp {P : Program} {fn : Func} {p u : Tmp} {ty : TypeId} (h : fn.results = #[.cell p ty, .tmp u]) (tmps : Array Value) (w : World) (g : Nat) (t : TypeId) (cs : Array Value) (fr : Nat × Nat) (d : TypeDesc)
    (hp : tmps.getD p undef = .pointer (some ⟨g, 0, none⟩)) (hg : w.heap[g]? = some (.cells cs t fr))
    (hu : P.underlying ty = some d) (hd : (match d with | .struct _ | .array _ _ => true | _ => false) = true) (hi : (P.info? ty).map (·.size) = some cs.size) (v : Value) (hv : tmps.getD u undef = v) :
    (results fn tmps).run P w = .ok (.tuple #[.agg cs, v]) w := by
  have hp' : tmps[p]?.getD undef = .pointer (some ⟨g, 0, none⟩) := by simpa using hp
  have hv' : tmps[u]?.getD undef = v := by simpa using hv
  simp [results, h, hp', hv', asAddr, run_loadVar_row w g t ty cs fr d hg hu hd hi]
/-- What Get tells. -/
def GetPost (w : World) (L : List Sp) (n : Nm) (e : Ending) (w' : World) : Prop :=
  Below w.heap.size w w' ∧ ((getL nmS L n = none ∧ e = .returned (.tuple #[.agg zSp.toArray, .bool false])) ∨ ∃ x v4 v11 v12, getL nmS L n = some x ∧ e = .returned (.tuple #[.agg (cSp x v4 v11 v12).toArray, .bool true]) ∧ kSq.M w' w.heap.size (fun _ => True) x (cSp x v4 v11 v12))
/-- The store's two look-ups, where a span is found. -/
theorem Book.found' {w : World} {base s : Nat} {F : Nat → Prop} {L : List Sp} {tb : Nat} {T : List (Tr × Nat)} {I : Nat → List (Int × (Sp × List Value))} (B : Book w base s F L tb T I) {t : Tr} {i : Int} (h1 : wfI t.1) (h2 : wfI t.2) (h3 : wfI i) {y : Sp} (hy : getL nmS L (t, i) = some y) :
    ∃ (vT : Value) (D4 D11 D12 : Option Addr) (d4 d11 d12 : Nat), okSp y ∧ kSp.K w y (cSp y (.slice D4 y.f3.length d4) (.slice D11 y.f10.length d11) (.slice D12 y.f11.length d12)) ∧ ∀ V, Below w.heap.size w V →
      (Instr.lookup 74 (.map (some tb)) (.agg #[.int .u64 t.1, .int .u64 t.2]) false).run Tryz.prog V = .ok vT V ∧
      (Instr.lookup 79 vT (.int .u64 i) true).run Tryz.prog V = .ok (.tuple #[.agg (cSp y (.slice D4 y.f3.length d4) (.slice D11 y.f10.length d11) (.slice D12 y.f11.length d12)).toArray, .bool true]) V := by
  obtain ⟨kt, hkt⟩ := keyTr_mk h1 h2
  obtain ⟨ki, hki⟩ := keyId_mk h3
  obtain ⟨b, vy, hT, hiy, _, hiy2⟩ := B.get_some hy
  obtain ⟨_, hyL, hMy, hoy⟩ := B.spans _ (getM_mem hT) _ hiy2
  obtain ⟨u4, u11, u12, huy, z4, z11, z12⟩ := kSq_openM hMy
  obtain ⟨D4, d4, rfl, _, _⟩ := Kd.Zv_reads z4
  obtain ⟨D11, d11, rfl, _, _⟩ := Kd.Zv_reads z11
  obtain ⟨D12, d12, rfl, _, _⟩ := Kd.Zv_reads z12
  have huy : vy = cSp y (.slice D4 y.f3.length d4) (.slice D11 y.f10.length d11) (.slice D12 y.f11.length d12) := huy
  subst huy
  exact ⟨.map (some b), D4, D11, D12, d4, d11, d12, hoy, kSp_of_sq hMy, fun V hV => ⟨(B.traces.below hV).look_some keyTr Tryz.underlying74 (zero_tr _) false hkt mkTr_inj hT, ((B.inner _ (getM_mem hT)).below hV).look_some keyId Tryz.underlying79 (zero_sp _) true hki mkId_inj hiy⟩⟩
set_option maxHeartbeats 4000000 in
set_option maxRecDepth 100000 in
theorem get_no (w : World) (base s : Nat) (F : Nat → Prop) (L : List Sp) (B : StoreAt w base s F L) (hi lo id : Int) (h1 : wfI hi) (h2 : wfI lo) (h3 : wfI id) (hn : getL nmS L ((hi, lo), id) = none) :
    Calls Tryz.prog 13 #[.pointer (some ⟨s, 0, none⟩), .agg #[.int .u64 hi, .int .u64 lo], .int .u64 id] w (GetPost w L ((hi, lo), id)) := by
  obtain ⟨tb, T, I, B⟩ := B
  obtain ⟨vT, a0, a1, a2, a3, B4, n4, m4, t5, t6, a7, a8, a9, a10, B11, n11, m11, B12, n12, m12, hask⟩ := B.asks (hi, lo) id h1 h2 h3
  rw [hn] at hask
  have HA := Lib.hid hask
  have HB := Lib.hid B
  have HN := Lib.hid hn
  clear hask B hn
  go_enter Tryz.func13, Tryz.ntmps13
  go_wp2_with fail
  have hb2 := below_alloc (below_alloc (Below.refl w.heap.size w) (.cells #[.int .u64 hi, .int .u64 lo] 33)) (.cells zSp.toArray 41)
  have g1 := blk_alloc (blk_new w (.cells #[.int .u64 hi, .int .u64 lo] 33)) (.cells zSp.toArray 41)
  have g2 := blk_new (w.alloc (.cells #[.int .u64 hi, .int .u64 lo] 33)) (.cells zSp.toArray 41)
  rw [World.size_alloc] at g2
  generalize (w.alloc (.cells #[.int .u64 hi, .int .u64 lo] 33)).alloc (.cells zSp.toArray 41) = w2 at *
  have HW2 := Lib.hid hb2
  have G2 := Lib.hid g2
  have hc0 := (cell_of_row _ _ 0 _ _ _ (HB.out.below HW2.out).cell).trans rfl
  have q0 := (cell_of_row _ _ 0 _ _ _ g1).trans rfl
  have q1 := (cell_of_row _ _ 1 _ _ _ g1).trans rfl
  have hA1 := HA.out w2.drew (hb2.trans ((drew_below w2).mono hb2.size))
  have hA2 := fun o => HA.out (w2.alloc o).drew (hb2.trans ((below_drew (below_alloc (Below.refl _ _) o)).mono hb2.size))
  have e1 := hA1.1
  have e2 := hA1.2
  have e3 := fun o => (hA2 o).1
  have e4 := fun o => (hA2 o).2
  have hzs := blk_lt (HB.out.below HW2.out).cell
  have hz1 := blk_lt g1
  have hz2 := blk_lt g2
  clear hA1 hA2 hb2 g1 g2
  go_big_region
  clear e1 e2 e3 e4 hc0 q0 q1 hzs hz1 hz2
  have hb3 := below_drew (below_alloc (Below.refl w2.heap.size w2) (.cells #[.int .u64 a0, .int .u64 a1, .int .u64 a2, .int .u64 a3, .slice B4 n4 m4, .string t5, .string t6, .int .i64 a7, .int .i64 a8, .int .i64 a9, .int .i64 a10, .slice B11 n11 m11, .slice B12 n12 m12] 41))
  generalize (w2.alloc (.cells #[.int .u64 a0, .int .u64 a1, .int .u64 a2, .int .u64 a3, .slice B4 n4 m4, .string t5, .string t6, .int .i64 a7, .int .i64 a8, .int .i64 a9, .int .i64 a10, .slice B11 n11 m11, .slice B12 n12 m12] 41)).drew = w3 at *
  have HW3 := Lib.hid (HW2.out.trans (hb3.mono HW2.out.size))
  have G3 := Lib.hid (blk_below G2.out hb3)
  have p0 := (cell_of_row _ _ 0 _ _ _ G3.out).trans rfl
  have r0 := blk_frozen G3.out 0
  have p1 := (cell_of_row _ _ 1 _ _ _ G3.out).trans rfl
  have r1 := blk_frozen G3.out 1
  have p2 := (cell_of_row _ _ 2 _ _ _ G3.out).trans rfl
  have r2 := blk_frozen G3.out 2
  have p3 := (cell_of_row _ _ 3 _ _ _ G3.out).trans rfl
  have r3 := blk_frozen G3.out 3
  have p4 := (cell_of_row _ _ 4 _ _ _ G3.out).trans rfl
  have r4 := blk_frozen G3.out 4
  have p5 := (cell_of_row _ _ 5 _ _ _ G3.out).trans rfl
  have r5 := blk_frozen G3.out 5
  have p6 := (cell_of_row _ _ 6 _ _ _ G3.out).trans rfl
  have r6 := blk_frozen G3.out 6
  have p7 := (cell_of_row _ _ 7 _ _ _ G3.out).trans rfl
  have r7 := blk_frozen G3.out 7
  have p8 := (cell_of_row _ _ 8 _ _ _ G3.out).trans rfl
  have r8 := blk_frozen G3.out 8
  have p9 := (cell_of_row _ _ 9 _ _ _ G3.out).trans rfl
  have r9 := blk_frozen G3.out 9
  have p10 := (cell_of_row _ _ 10 _ _ _ G3.out).trans rfl
  have r10 := blk_frozen G3.out 10
  have p11 := (cell_of_row _ _ 11 _ _ _ G3.out).trans rfl
  have r11 := blk_frozen G3.out 11
  have p12 := (cell_of_row _ _ 12 _ _ _ G3.out).trans rfl
  have r12 := blk_frozen G3.out 12
  clear hb3
  go_wp2_with fail
  obtain ⟨k1, k2, _⟩ := row13 G3.out (.int .u64 0) (.int .u64 0) (.int .u64 0) (.int .u64 0) (.slice none 0 0) (.string ⟨#[]⟩) (.string ⟨#[]⟩) (.int .i64 0) (.int .i64 0) (.int .i64 0) (.int .i64 0) (.slice none 0 0) (.slice none 0 0)
  refine bodyPost_ret (results_row_tmp rfl _ _ (w.heap.size + 1) 41 zSp.toArray (0, 0) _ rfl k1 Tryz.underlying41 rfl (by kernel_rfl) (.bool false) rfl) rfl ?_
  exact ⟨HW3.out.trans (k2.mono (by omega)), Or.inl ⟨HN.out, rfl⟩⟩
set_option maxHeartbeats 4000000 in
set_option maxRecDepth 100000 in
theorem get_yes (w : World) (base s : Nat) (F : Nat → Prop) (L : List Sp) (B : StoreAt w base s F L) (hi lo id : Int) (h1 : wfI hi) (h2 : wfI lo) (h3 : wfI id) (y : Sp) (hn : getL nmS L ((hi, lo), id) = some y) :
    Calls Tryz.prog 13 #[.pointer (some ⟨s, 0, none⟩), .agg #[.int .u64 hi, .int .u64 lo], .int .u64 id] w (GetPost w L ((hi, lo), id)) := by
  obtain ⟨tb, T, I, B⟩ := B
  obtain ⟨vT, D4, D11, D12, d4, d11, d12, hoy, hKy, hask⟩ := B.found' h1 h2 h3 hn
  have HA := Lib.hid hask
  have HB := Lib.hid B
  have HN := Lib.hid hn
  have HY := Lib.hid hoy
  have HK := Lib.hid hKy
  clear hask B hn hoy hKy
  obtain ⟨⟨yhi, ylo⟩, yid, ypar, ylk, ysv, yop, ykd, yst, ys0, ys1, yla, yle⟩ := y
  dsimp only [cSp] at HA HK
  go_enter Tryz.func13, Tryz.ntmps13
  go_wp2_with fail
  have hb2 := below_alloc (below_alloc (Below.refl w.heap.size w) (.cells #[.int .u64 hi, .int .u64 lo] 33)) (.cells zSp.toArray 41)
  have g1 := blk_alloc (blk_new w (.cells #[.int .u64 hi, .int .u64 lo] 33)) (.cells zSp.toArray 41)
  have g2 := blk_new (w.alloc (.cells #[.int .u64 hi, .int .u64 lo] 33)) (.cells zSp.toArray 41)
  rw [World.size_alloc] at g2
  generalize (w.alloc (.cells #[.int .u64 hi, .int .u64 lo] 33)).alloc (.cells zSp.toArray 41) = w2 at *
  have HW2 := Lib.hid hb2
  have G2 := Lib.hid g2
  have hc0 := (cell_of_row _ _ 0 _ _ _ (HB.out.below HW2.out).cell).trans rfl
  have q0 := (cell_of_row _ _ 0 _ _ _ g1).trans rfl
  have q1 := (cell_of_row _ _ 1 _ _ _ g1).trans rfl
  have hA1 := HA.out w2.drew (hb2.trans ((drew_below w2).mono hb2.size))
  have hA2 := fun o => HA.out (w2.alloc o).drew (hb2.trans ((below_drew (below_alloc (Below.refl _ _) o)).mono hb2.size))
  have e1 := hA1.1
  have e2 := hA1.2
  have e3 := fun o => (hA2 o).1
  have e4 := fun o => (hA2 o).2
  have hzs := blk_lt (HB.out.below HW2.out).cell
  have hz1 := blk_lt g1
  have hz2 := blk_lt g2
  clear hA1 hA2 hb2 g1 g2
  go_big_region
  clear e1 e2 e3 e4 hc0 q0 q1 hzs hz1 hz2
  have hb3 := below_drew (below_alloc (Below.refl w2.heap.size w2) (.cells #[.int .u64 yhi, .int .u64 ylo, .int .u64 yid, .int .u64 ypar, .slice D4 ylk.length d4, .string ysv, .string yop, .int .i64 ykd, .int .i64 yst, .int .i64 ys0, .int .i64 ys1, .slice D11 yla.length d11, .slice D12 yle.length d12] 41))
  have g3 := blk_drew (blk_new w2 (.cells #[.int .u64 yhi, .int .u64 ylo, .int .u64 yid, .int .u64 ypar, .slice D4 ylk.length d4, .string ysv, .string yop, .int .i64 ykd, .int .i64 yst, .int .i64 ys0, .int .i64 ys1, .slice D11 yla.length d11, .slice D12 yle.length d12] 41))
  generalize (w2.alloc (.cells #[.int .u64 yhi, .int .u64 ylo, .int .u64 yid, .int .u64 ypar, .slice D4 ylk.length d4, .string ysv, .string yop, .int .i64 ykd, .int .i64 yst, .int .i64 ys0, .int .i64 ys1, .slice D11 yla.length d11, .slice D12 yle.length d12] 41)).drew = w3 at *
  have HW3 := Lib.hid (HW2.out.trans (hb3.mono HW2.out.size))
  have G3 := Lib.hid (blk_below G2.out hb3)
  have x0 := (cell_of_row _ _ 0 _ _ _ g3).trans rfl
  have x1 := (cell_of_row _ _ 1 _ _ _ g3).trans rfl
  have x2 := (cell_of_row _ _ 2 _ _ _ g3).trans rfl
  have x3 := (cell_of_row _ _ 3 _ _ _ g3).trans rfl
  have x4 := (cell_of_row _ _ 4 _ _ _ g3).trans rfl
  have x5 := (cell_of_row _ _ 5 _ _ _ g3).trans rfl
  have x6 := (cell_of_row _ _ 6 _ _ _ g3).trans rfl
  have x7 := (cell_of_row _ _ 7 _ _ _ g3).trans rfl
  have x8 := (cell_of_row _ _ 8 _ _ _ g3).trans rfl
  have x9 := (cell_of_row _ _ 9 _ _ _ g3).trans rfl
  have x10 := (cell_of_row _ _ 10 _ _ _ g3).trans rfl
  have x11 := (cell_of_row _ _ 11 _ _ _ g3).trans rfl
  have x12 := (cell_of_row _ _ 12 _ _ _ g3).trans rfl
  have HC := Lib.hid (clone_run ⟨⟨yhi, ylo⟩, yid, ypar, ylk, ysv, yop, ykd, yst, ys0, ys1, yla, yle⟩ HY.out w3 _ (kSp.K_below HW3.out HK.out))
  clear hb3 g3
  go_wp2_with fail
  refine HC.out.mono ?_
  rintro e w4 ⟨v4, v11, v12, rfl, hM4, hb4⟩
  obtain ⟨u4, u11, u12, hu, z4, z11, z12⟩ := kSq_openM hM4
  obtain ⟨E4, c4, rfl, _, _⟩ := Kd.Zv_reads z4
  obtain ⟨E11, c11, rfl, _, _⟩ := Kd.Zv_reads z11
  obtain ⟨E12, c12, rfl, _, _⟩ := Kd.Zv_reads z12
  simp only [List.cons.injEq, and_true, true_and] at hu
  obtain ⟨rfl, rfl, rfl⟩ := hu
  have HM4 := Lib.hid (kSq.M_lower HW3.out.size hM4)
  have HW4 := Lib.hid (HW3.out.trans (hb4.mono HW3.out.size))
  have G4 := Lib.hid (blk_below G3.out hb4)
  have p0 := (cell_of_row _ _ 0 _ _ _ G4.out).trans rfl
  have r0 := blk_frozen G4.out 0
  have p1 := (cell_of_row _ _ 1 _ _ _ G4.out).trans rfl
  have r1 := blk_frozen G4.out 1
  have p2 := (cell_of_row _ _ 2 _ _ _ G4.out).trans rfl
  have r2 := blk_frozen G4.out 2
  have p3 := (cell_of_row _ _ 3 _ _ _ G4.out).trans rfl
  have r3 := blk_frozen G4.out 3
  have p4 := (cell_of_row _ _ 4 _ _ _ G4.out).trans rfl
  have r4 := blk_frozen G4.out 4
  have p5 := (cell_of_row _ _ 5 _ _ _ G4.out).trans rfl
  have r5 := blk_frozen G4.out 5
  have p6 := (cell_of_row _ _ 6 _ _ _ G4.out).trans rfl
  have r6 := blk_frozen G4.out 6
  have p7 := (cell_of_row _ _ 7 _ _ _ G4.out).trans rfl
  have r7 := blk_frozen G4.out 7
  have p8 := (cell_of_row _ _ 8 _ _ _ G4.out).trans rfl
  have r8 := blk_frozen G4.out 8
  have p9 := (cell_of_row _ _ 9 _ _ _ G4.out).trans rfl
  have r9 := blk_frozen G4.out 9
  have p10 := (cell_of_row _ _ 10 _ _ _ G4.out).trans rfl
  have r10 := blk_frozen G4.out 10
  have p11 := (cell_of_row _ _ 11 _ _ _ G4.out).trans rfl
  have r11 := blk_frozen G4.out 11
  have p12 := (cell_of_row _ _ 12 _ _ _ G4.out).trans rfl
  have r12 := blk_frozen G4.out 12
  clear hM4 hb4 z4 z11 z12 x0 x1 x2 x3 x4 x5 x6 x7 x8 x9 x10 x11 x12
  go_wp2_with fail
  obtain ⟨k1, k2, k3⟩ := row13 G4.out (.int .u64 yhi) (.int .u64 ylo) (.int .u64 yid) (.int .u64 ypar) (.slice E4 ylk.length c4) (.string ysv) (.string yop) (.int .i64 ykd) (.int .i64 yst) (.int .i64 ys0) (.int .i64 ys1) (.slice E11 yla.length c11) (.slice E12 yle.length c12)
  refine bodyPost_ret (results_row_tmp rfl _ _ (w.heap.size + 1) 41 _ (0, 0) _ rfl k1 Tryz.underlying41 rfl (by kernel_rfl) (.bool true) rfl) rfl ?_
  refine ⟨HW4.out.trans (k2.mono (by omega)), Or.inr ⟨_, _, _, _, HN.out, rfl, ?_⟩⟩
  refine M_chg (G := fun k => k = w.heap.size + 1) HM4.out ⟨k2.os, k2.tape, k2.output, k2.size, fun k _ hk => k3 k hk⟩ (fun k hk q hq cells hc => ?_)
  subst hk
  rw [G4.out] at hc
  cases hc
  simp [kSq_E] at hq
theorem get_run (w : World) (base s : Nat) (F : Nat → Prop) (L : List Sp) (B : StoreAt w base s F L) (hi lo id : Int) (h1 : wfI hi) (h2 : wfI lo) (h3 : wfI id) :
    Calls Tryz.prog 13 #[.pointer (some ⟨s, 0, none⟩), .agg #[.int .u64 hi, .int .u64 lo], .int .u64 id] w (GetPost w L ((hi, lo), id)) := by
  cases hn : getL nmS L ((hi, lo), id) with
  | none => exact get_no w base s F L B hi lo id h1 h2 h3 hn
  | some y => exact get_yes w base s F L B hi lo id h1 h2 h3 y hn
end Go.Proofs.YthdkgilpnkabmaaGreatDoor.Pr
