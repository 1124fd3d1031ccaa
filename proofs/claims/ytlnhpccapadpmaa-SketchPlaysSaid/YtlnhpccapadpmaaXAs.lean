/- One call, by both: (*Bars).asks. -/
import Derived.Test.YtlnhpccapadpmaaXHd
import Derived.Test.YtlnhpccapadpmaaPrea
import Derived.Test.YtlnhpccapadpmaaPreb
import Derived.Test.YtlnhpccapadpmaaPr0c
import Derived.Test.YtlnhpccapadpmaaPr0e
import Derived.Test.YtlnhpccapadpmaaPr0f
import Derived.Test.YtlnhpccapadpmaaPr1a
import Derived.Test.YtlnhpccapadpmaaPr2a
import Derived.Outline
namespace Go.Proofs.Ytlnhpccapadpmaa.Pr
open Go.RowKit Go.Proofs.YtlnhpccapadpmaaW.PrintWords Go.Proofs.YtlnhpccapadpmaaW.PrintLast Go.Proofs.YtlnhpccapadpmaaW.PrintMore
set_option linter.unusedVariables false
set_option linter.unusedSimpArgs false
attribute [local go_sem high] eqA35 eqA61
/-- What both tell of these sketches and numbers is the same. -/
structure Same (X Y : List S61) (I V N : Int) : Prop where
  index : ∃ i k1 k2, sketch_Index.f k1 V = some i ∧ spoorref13_Index.f k2 V = some i
  span : ∃ u v f k1 k2, sketch_Span.f k1 I = some (u, v, f) ∧ spoorref13_Span.f k2 I = some (u, v, f)
  check : ∃ e k, sketch_Check.f X = some e ∧ spoorref13_Check.f k X = some e
  add : ∃ r e k, sketch_Add.f X V N = some (r, e) ∧ spoorref13_Add.f k X V N = some (r, e) ∧ r.length ≤ 1920
  merge : ∃ r e k, sketch_Merge.f X Y = some (r, e) ∧ spoorref13_Merge.f k X Y = some (r, e) ∧ r.length ≤ 1920
  less : ∃ r e k, sketch_Less.f X Y = some (r, e) ∧ spoorref13_Less.f k X Y = some (r, e) ∧ r.length ≤ 1920
  count : ∃ h l e k1 k2, sketch_Count.f k1 X = some (h, l, e) ∧ spoorref13_Count.f k2 X = some (h, l, e)
  quant : ∃ u v f k, sketch_Quantile.f k X V N = some (u, v, f) ∧ ∀ (W : World) (A : Option Addr) (c : Nat), Kd.C k61 W A X.length X → X.length ≤ c → Calls Try.prog 43 #[.slice A X.length c, .int .u64 V, .int .u64 N] W (QPost W u v f)
def AsksPost (w W : World) (K n : Nat) (ok : Nat → Prop) (e : Ending) (w' : World) : Prop :=
  ∃ (hs' ws' : List Hd) (X' : Nat → List S61) (v0' v1' : Value), e = .returned (.bool true) ∧ BS w w' K hs' ws' X' ok v0' v1' ∧ hs'.length = ws'.length ∧ hs'.length ≤ n + 1 ∧ Keep w W w'
/-- What two calls made is held. -/
theorem held_run {w W V1 V2 : World} {K : Nat} {hs ws : List Hd} {XX : Nat → List S61} {ok : Nat → Prop} {v0 v1 : Value} (h : BS w W K hs ws XX ok v0 v1) (hl : hs.length = ws.length) (hlen : hs.length ≤ 7000000000) (hok : ∀ k, W.heap.size ≤ k → ok k)
    (r : List S61) (hr : r.length ≤ 1920) (xA yA : Option Addr) (xc yc : Nat) (b1 : Below W.heap.size W V1) (b2 : Below V1.heap.size V1 V2) {U1 U2 : World} (u1 : Below W.heap.size W U1) (u2 : W.heap.size ≤ U2.heap.size)
    (hx : Kd.R k61 61 V1 U1.heap.size T1 (.slice xA r.length xc) r) (hy : Kd.R k61 61 V2 U2.heap.size T1 (.slice yA r.length yc) r) :
    Calls Try.prog 39 #[.pointer (some ⟨K, 0, none⟩), .slice xA r.length xc, .slice yA r.length yc] V2 (AsksPost w W K hs.length ok) := by
  have hB2 := b1.trans (b2.mono b1.size)
  have h2 := h.more hB2
  have up : ∀ {v : Value} {U V : World}, Kd.R k61 61 V U.heap.size T1 v r → W.heap.size ≤ U.heap.size → Kd.R k61 61 V w.heap.size ok v r := fun hv hu => Kd.R_lower (Kd.R_mono (Kd.R_bound hv) (fun k hk => hok k (Nat.le_trans hu hk.2.1))) (Nat.le_trans h.below.size hu)
  refine (hold_run h2 hl hlen ⟨xA, r.length, xc⟩ ⟨yA, r.length, yc⟩ r hr rfl (Kd.R_below (up hx u1.size) b2) rfl (up hy u2) ?_).mono ?_
  · intro i q hq
    cases hu : q.val.ownBlock with
    | none => exact .inl hu
    | some k =>
      refine .inr (fun e => ?_)
      have h1 := Kd.R_lt (h.lstL i q hq).2 k hu
      have h3 := Kd.R_base hx k (by rw [hu] at e; exact e.symm)
      have := u1.size
      omega
  · rintro e w' ⟨v0', v1', rfl, hb, hk⟩
    exact ⟨_, _, _, v0', v1', rfl, hb, by simp [hl], by simp, (Keep.of_below h.below.size hB2).trans hk⟩
set_option maxHeartbeats 4000000 in
set_option maxRecDepth 100000 in
theorem asks_add {w W : World} {K : Nat} {hs ws : List Hd} {XX : Nat → List S61} {ok : Nat → Prop} {v0 v1 : Value} (h : BS w W K hs ws XX ok v0 v1) (hl : hs.length = ws.length) (hlen : hs.length ≤ 7000000000) (hok : ∀ k, W.heap.size ≤ k → ok k)
    (X Y : List S61) (I V N : Int) (hS : Same X Y I V N) (oA oB : Value) (aA bA cA dA : Option Addr) (ac bc cc dc : Nat) (ha : Kd.C k61 W aA X.length X) (ha' : X.length ≤ ac) (hb : Kd.C k61 W bA Y.length Y) (hb' : Y.length ≤ bc) (hc : Kd.C k61 W cA X.length X) (hc' : X.length ≤ cc) (hd : Kd.C k61 W dA Y.length Y) (hd' : Y.length ≤ dc) :
    Calls Try.prog 23 #[.pointer (some ⟨K, 0, none⟩), .agg #[.int .i64 2, .int .i64 I, oA, oB, .int .u64 V, .int .u64 N], .slice aA X.length ac, .slice bA Y.length bc, .slice cA X.length cc, .slice dA Y.length dc] W (AsksPost w W K hs.length ok) := by
  obtain ⟨r, e, k, q1, q2, q3⟩ := hS.add
  have h0 := below_alloc (Below.refl W.heap.size W) (.cells #[.int .i64 2, .int .i64 I, oA, oB, .int .u64 V, .int .u64 N] 56)
  have HB := Lib.hid h
  have HL := Lib.hid hl
  have H0 := Lib.hid h0
  have HK := Lib.hid hok
  have C1 := Lib.hid (sketch_Add.calls aA ac X V N r e (W.alloc (.cells #[.int .i64 2, .int .i64 I, oA, oB, .int .u64 V, .int .u64 N] 56)) (Kd.C_below ha h0) ha' q1)
  have C2 := Lib.hid (fun U (hU : Below W.heap.size W U) => spoorref13_Add.calls k cA cc X V N r e U (Kd.C_below hc hU) hc' q2)
  have g0 := blk_new W (.cells #[.int .i64 2, .int .i64 I, oA, oB, .int .u64 V, .int .u64 N] 56)
  have HG := Lib.hid g0
  have p0 := (cell_of_row _ _ 0 _ _ _ g0).trans rfl
  have p4 := (cell_of_row _ _ 4 _ _ _ g0).trans rfl
  have p5 := (cell_of_row _ _ 5 _ _ _ g0).trans rfl
  clear h hl hS h0 q1 q2 g0 ha hb hc hd hok
  go_enter Try.func23, Try.ntmps23
  go_wp2_with fail
  generalize W.alloc (.cells #[.int .i64 2, .int .i64 I, oA, oB, .int .u64 V, .int .u64 N] 56) = W0 at *
  refine C1.out.mono ?_
  rintro e1 V1 ⟨x, rfl, hx, hb1⟩
  obtain ⟨xA, xc, rfl⟩ := Kd.R_slice hx
  have HX := Lib.hid hx
  have B1 := Lib.hid hb1
  have B1' := Lib.hid (H0.out.trans (hb1.mono H0.out.size))
  have g1 := blk_below HG.out hb1
  clear p0 p4 p5 hx hb1
  have p4 := (cell_of_row _ _ 4 _ _ _ g1).trans rfl
  have p5 := (cell_of_row _ _ 5 _ _ _ g1).trans rfl
  clear g1
  go_wp2_with fail
  refine (C2.out V1 B1'.out).mono ?_
  rintro e1 V2 ⟨y, rfl, hy, hb2⟩
  obtain ⟨yA, yc, rfl⟩ := Kd.R_slice hy
  have HY := Lib.hid hy
  have B2 := Lib.hid hb2
  clear p4 p5 hy hb2
  go_wp2_with fail
  refine (held_run HB.out HL.out hlen HK.out r q3 xA yA xc yc B1'.out B2.out H0.out B1'.out.size HX.out HY.out).mono ?_
  rintro e1 V3 ⟨hs', ws', X', v0', v1', rfl, z1, z2, z3, z4⟩
  have HZ := Lib.hid (show AsksPost w W K hs.length ok (.returned (.bool true)) V3 from ⟨hs', ws', X', v0', v1', rfl, z1, z2, z3, z4⟩)
  clear z1 z2 z3 z4
  go_wp2_with fail
  go_ret
  exact HZ.out
set_option maxHeartbeats 4000000 in
set_option maxRecDepth 100000 in
theorem asks_merge {w W : World} {K : Nat} {hs ws : List Hd} {XX : Nat → List S61} {ok : Nat → Prop} {v0 v1 : Value} (h : BS w W K hs ws XX ok v0 v1) (hl : hs.length = ws.length) (hlen : hs.length ≤ 7000000000) (hok : ∀ k, W.heap.size ≤ k → ok k)
    (X Y : List S61) (I V N : Int) (hS : Same X Y I V N) (oA oB : Value) (aA bA cA dA : Option Addr) (ac bc cc dc : Nat) (ha : Kd.C k61 W aA X.length X) (ha' : X.length ≤ ac) (hb : Kd.C k61 W bA Y.length Y) (hb' : Y.length ≤ bc) (hc : Kd.C k61 W cA X.length X) (hc' : X.length ≤ cc) (hd : Kd.C k61 W dA Y.length Y) (hd' : Y.length ≤ dc) :
    Calls Try.prog 23 #[.pointer (some ⟨K, 0, none⟩), .agg #[.int .i64 3, .int .i64 I, oA, oB, .int .u64 V, .int .u64 N], .slice aA X.length ac, .slice bA Y.length bc, .slice cA X.length cc, .slice dA Y.length dc] W (AsksPost w W K hs.length ok) := by
  obtain ⟨r, e, k, q1, q2, q3⟩ := hS.merge
  have h0 := below_alloc (Below.refl W.heap.size W) (.cells #[.int .i64 3, .int .i64 I, oA, oB, .int .u64 V, .int .u64 N] 56)
  have HB := Lib.hid h
  have HL := Lib.hid hl
  have H0 := Lib.hid h0
  have HK := Lib.hid hok
  have C1 := Lib.hid (sketch_Merge.calls aA ac X bA bc Y r e (W.alloc (.cells #[.int .i64 3, .int .i64 I, oA, oB, .int .u64 V, .int .u64 N] 56)) (Kd.C_below ha h0) ha' (Kd.C_below hb h0) hb' q1)
  have C2 := Lib.hid (fun U (hU : Below W.heap.size W U) => spoorref13_Merge.calls k cA cc X dA dc Y r e U (Kd.C_below hc hU) hc' (Kd.C_below hd hU) hd' q2)
  have g0 := blk_new W (.cells #[.int .i64 3, .int .i64 I, oA, oB, .int .u64 V, .int .u64 N] 56)
  have HG := Lib.hid g0
  have p0 := (cell_of_row _ _ 0 _ _ _ g0).trans rfl
  have p4 := (cell_of_row _ _ 4 _ _ _ g0).trans rfl
  have p5 := (cell_of_row _ _ 5 _ _ _ g0).trans rfl
  clear h hl hS h0 q1 q2 g0 ha hb hc hd hok
  go_enter Try.func23, Try.ntmps23
  go_wp2_with fail
  generalize W.alloc (.cells #[.int .i64 3, .int .i64 I, oA, oB, .int .u64 V, .int .u64 N] 56) = W0 at *
  refine C1.out.mono ?_
  rintro e1 V1 ⟨x, rfl, hx, hb1⟩
  obtain ⟨xA, xc, rfl⟩ := Kd.R_slice hx
  have HX := Lib.hid hx
  have B1 := Lib.hid hb1
  have B1' := Lib.hid (H0.out.trans (hb1.mono H0.out.size))
  have g1 := blk_below HG.out hb1
  clear p0 p4 p5 hx hb1
  have p4 := (cell_of_row _ _ 4 _ _ _ g1).trans rfl
  have p5 := (cell_of_row _ _ 5 _ _ _ g1).trans rfl
  clear g1
  go_wp2_with fail
  refine (C2.out V1 B1'.out).mono ?_
  rintro e1 V2 ⟨y, rfl, hy, hb2⟩
  obtain ⟨yA, yc, rfl⟩ := Kd.R_slice hy
  have HY := Lib.hid hy
  have B2 := Lib.hid hb2
  clear p4 p5 hy hb2
  go_wp2_with fail
  refine (held_run HB.out HL.out hlen HK.out r q3 xA yA xc yc B1'.out B2.out H0.out B1'.out.size HX.out HY.out).mono ?_
  rintro e1 V3 ⟨hs', ws', X', v0', v1', rfl, z1, z2, z3, z4⟩
  have HZ := Lib.hid (show AsksPost w W K hs.length ok (.returned (.bool true)) V3 from ⟨hs', ws', X', v0', v1', rfl, z1, z2, z3, z4⟩)
  clear z1 z2 z3 z4
  go_wp2_with fail
  go_ret
  exact HZ.out
set_option maxHeartbeats 4000000 in
set_option maxRecDepth 100000 in
theorem asks_less {w W : World} {K : Nat} {hs ws : List Hd} {XX : Nat → List S61} {ok : Nat → Prop} {v0 v1 : Value} (h : BS w W K hs ws XX ok v0 v1) (hl : hs.length = ws.length) (hlen : hs.length ≤ 7000000000) (hok : ∀ k, W.heap.size ≤ k → ok k)
    (X Y : List S61) (I V N : Int) (hS : Same X Y I V N) (oA oB : Value) (aA bA cA dA : Option Addr) (ac bc cc dc : Nat) (ha : Kd.C k61 W aA X.length X) (ha' : X.length ≤ ac) (hb : Kd.C k61 W bA Y.length Y) (hb' : Y.length ≤ bc) (hc : Kd.C k61 W cA X.length X) (hc' : X.length ≤ cc) (hd : Kd.C k61 W dA Y.length Y) (hd' : Y.length ≤ dc) :
    Calls Try.prog 23 #[.pointer (some ⟨K, 0, none⟩), .agg #[.int .i64 4, .int .i64 I, oA, oB, .int .u64 V, .int .u64 N], .slice aA X.length ac, .slice bA Y.length bc, .slice cA X.length cc, .slice dA Y.length dc] W (AsksPost w W K hs.length ok) := by
  obtain ⟨r, e, k, q1, q2, q3⟩ := hS.less
  have h0 := below_alloc (Below.refl W.heap.size W) (.cells #[.int .i64 4, .int .i64 I, oA, oB, .int .u64 V, .int .u64 N] 56)
  have HB := Lib.hid h
  have HL := Lib.hid hl
  have H0 := Lib.hid h0
  have HK := Lib.hid hok
  have C1 := Lib.hid (sketch_Less.calls aA ac X bA bc Y r e (W.alloc (.cells #[.int .i64 4, .int .i64 I, oA, oB, .int .u64 V, .int .u64 N] 56)) (Kd.C_below ha h0) ha' (Kd.C_below hb h0) hb' q1)
  have C2 := Lib.hid (fun U (hU : Below W.heap.size W U) => spoorref13_Less.calls k cA cc X dA dc Y r e U (Kd.C_below hc hU) hc' (Kd.C_below hd hU) hd' q2)
  have g0 := blk_new W (.cells #[.int .i64 4, .int .i64 I, oA, oB, .int .u64 V, .int .u64 N] 56)
  have HG := Lib.hid g0
  have p0 := (cell_of_row _ _ 0 _ _ _ g0).trans rfl
  have p4 := (cell_of_row _ _ 4 _ _ _ g0).trans rfl
  have p5 := (cell_of_row _ _ 5 _ _ _ g0).trans rfl
  clear h hl hS h0 q1 q2 g0 ha hb hc hd hok
  go_enter Try.func23, Try.ntmps23
  go_wp2_with fail
  generalize W.alloc (.cells #[.int .i64 4, .int .i64 I, oA, oB, .int .u64 V, .int .u64 N] 56) = W0 at *
  refine C1.out.mono ?_
  rintro e1 V1 ⟨x, rfl, hx, hb1⟩
  obtain ⟨xA, xc, rfl⟩ := Kd.R_slice hx
  have HX := Lib.hid hx
  have B1 := Lib.hid hb1
  have B1' := Lib.hid (H0.out.trans (hb1.mono H0.out.size))
  have g1 := blk_below HG.out hb1
  clear p0 p4 p5 hx hb1
  have p4 := (cell_of_row _ _ 4 _ _ _ g1).trans rfl
  have p5 := (cell_of_row _ _ 5 _ _ _ g1).trans rfl
  clear g1
  go_wp2_with fail
  refine (C2.out V1 B1'.out).mono ?_
  rintro e1 V2 ⟨y, rfl, hy, hb2⟩
  obtain ⟨yA, yc, rfl⟩ := Kd.R_slice hy
  have HY := Lib.hid hy
  have B2 := Lib.hid hb2
  clear p4 p5 hy hb2
  go_wp2_with fail
  refine (held_run HB.out HL.out hlen HK.out r q3 xA yA xc yc B1'.out B2.out H0.out B1'.out.size HX.out HY.out).mono ?_
  rintro e1 V3 ⟨hs', ws', X', v0', v1', rfl, z1, z2, z3, z4⟩
  have HZ := Lib.hid (show AsksPost w W K hs.length ok (.returned (.bool true)) V3 from ⟨hs', ws', X', v0', v1', rfl, z1, z2, z3, z4⟩)
  clear z1 z2 z3 z4
  go_wp2_with fail
  go_ret
  exact HZ.out
theorem fin_of {w W W' : World} {K : Nat} {hs ws : List Hd} {XX : Nat → List S61} {ok : Nat → Prop} {v0 v1 : Value} (h : BS w W K hs ws XX ok v0 v1) (hl : hs.length = ws.length) (hb : Below W.heap.size W W') : AsksPost w W K hs.length ok (.returned (.bool true)) W' :=
  ⟨hs, ws, XX, v0, v1, rfl, h.more hb, hl, by omega, Keep.of_below h.below.size hb⟩
set_option maxHeartbeats 4000000 in
set_option maxRecDepth 100000 in
theorem asks_else {w W : World} {K : Nat} {hs ws : List Hd} {XX : Nat → List S61} {ok : Nat → Prop} {v0 v1 : Value} (h : BS w W K hs ws XX ok v0 v1) (hl : hs.length = ws.length)
    (X Y : List S61) (I V N : Int) (hS : Same X Y I V N) (oA oB : Value) (aA bA cA dA : Option Addr) (ac bc cc dc : Nat) (ha : Kd.C k61 W aA X.length X) (ha' : X.length ≤ ac) (hc : Kd.C k61 W cA X.length X) (hc' : X.length ≤ cc) (kd : Int) (hk : kd < 1 ∨ 6 < kd) :
    Calls Try.prog 23 #[.pointer (some ⟨K, 0, none⟩), .agg #[.int .i64 kd, .int .i64 I, oA, oB, .int .u64 V, .int .u64 N], .slice aA X.length ac, .slice bA Y.length bc, .slice cA X.length cc, .slice dA Y.length dc] W (AsksPost w W K hs.length ok) := by
  have h0 := below_alloc (Below.refl W.heap.size W) (.cells #[.int .i64 kd, .int .i64 I, oA, oB, .int .u64 V, .int .u64 N] 56)
  have HB := Lib.hid h
  have HL := Lib.hid hl
  have H0 := Lib.hid h0
  have g0 := blk_new W (.cells #[.int .i64 kd, .int .i64 I, oA, oB, .int .u64 V, .int .u64 N] 56)
  have HG := Lib.hid g0
  have p0 := (cell_of_row _ _ 0 _ _ _ g0).trans rfl
  have e1 : (kd == 1) = false := beq_eq_false_iff_ne.2 (by omega)
  have e2 : (kd == 2) = false := beq_eq_false_iff_ne.2 (by omega)
  have e3 : (kd == 3) = false := beq_eq_false_iff_ne.2 (by omega)
  have e4 : (kd == 4) = false := beq_eq_false_iff_ne.2 (by omega)
  have e5 : (kd == 5) = false := beq_eq_false_iff_ne.2 (by omega)
  have e6 : (kd == 6) = false := beq_eq_false_iff_ne.2 (by omega)
  clear h hl hS h0 g0 ha hc hk
  go_enter Try.func23, Try.ntmps23
  go_wp2_with fail
  go_ret
  exact fin_of HB.out HL.out H0.out
set_option maxHeartbeats 4000000 in
set_option maxRecDepth 100000 in
theorem asks_count {w W : World} {K : Nat} {hs ws : List Hd} {XX : Nat → List S61} {ok : Nat → Prop} {v0 v1 : Value} (h : BS w W K hs ws XX ok v0 v1) (hl : hs.length = ws.length)
    (X Y : List S61) (I V N : Int) (hS : Same X Y I V N) (oA oB : Value) (aA bA cA dA : Option Addr) (ac bc cc dc : Nat) (ha : Kd.C k61 W aA X.length X) (ha' : X.length ≤ ac) (hc : Kd.C k61 W cA X.length X) (hc' : X.length ≤ cc) :
    Calls Try.prog 23 #[.pointer (some ⟨K, 0, none⟩), .agg #[.int .i64 5, .int .i64 I, oA, oB, .int .u64 V, .int .u64 N], .slice aA X.length ac, .slice bA Y.length bc, .slice cA X.length cc, .slice dA Y.length dc] W (AsksPost w W K hs.length ok) := by
  obtain ⟨hi, lo, e, k1, k2, q1, q2⟩ := hS.count
  have h0 := below_alloc (Below.refl W.heap.size W) (.cells #[.int .i64 5, .int .i64 I, oA, oB, .int .u64 V, .int .u64 N] 56)
  have HB := Lib.hid h
  have HL := Lib.hid hl
  have H0 := Lib.hid h0
  have g0 := blk_new W (.cells #[.int .i64 5, .int .i64 I, oA, oB, .int .u64 V, .int .u64 N] 56)
  have HG := Lib.hid g0
  have C1 := Lib.hid (sketch_Count.calls k1 aA ac X hi lo e (W.alloc (.cells #[.int .i64 5, .int .i64 I, oA, oB, .int .u64 V, .int .u64 N] 56)) (Kd.C_below ha h0) ha' q1)
  have C2 := Lib.hid (fun U (hU : Below W.heap.size W U) => spoorref13_Count.calls k2 cA cc X hi lo e U (Kd.C_below hc hU) hc' q2)
  have p0 := (cell_of_row _ _ 0 _ _ _ g0).trans rfl
  clear h hl hS h0 g0 ha hc q1 q2
  go_enter Try.func23, Try.ntmps23
  go_wp2_with fail
  generalize W.alloc (.cells #[.int .i64 5, .int .i64 I, oA, oB, .int .u64 V, .int .u64 N] 56) = W0 at *
  refine C1.out.mono ?_
  rintro e1 V1 ⟨rfl, hb1⟩
  have B1 := Lib.hid (H0.out.trans (hb1.mono H0.out.size))
  have A1 := Lib.hid (below_alloc B1.out (.cells #[.int .u64 hi, .int .u64 lo] 35))
  have n1 := Lib.hid (blk_new V1 (.cells #[.int .u64 hi, .int .u64 lo] 35))
  clear p0 hb1
  go_wp2_with fail
  generalize V1.alloc (.cells #[.int .u64 hi, .int .u64 lo] 35) = V2 at *
  refine (C2.out V2 A1.out).mono ?_
  rintro e1 V3 ⟨rfl, hb2⟩
  have B2 := Lib.hid (A1.out.trans (hb2.mono A1.out.size))
  have m1 := blk_alloc (blk_below n1.out hb2) (.cells #[.int .u64 hi, .int .u64 lo] 35)
  have m2 := blk_new V3 (.cells #[.int .u64 hi, .int .u64 lo] 35)
  have A2 := Lib.hid (below_alloc B2.out (.cells #[.int .u64 hi, .int .u64 lo] 35))
  have x0 := (cell_of_row _ _ 0 _ _ _ m1).trans rfl
  have x1 := (cell_of_row _ _ 1 _ _ _ m1).trans rfl
  have y0 := (cell_of_row _ _ 0 _ _ _ m2).trans rfl
  have y1 := (cell_of_row _ _ 1 _ _ _ m2).trans rfl
  clear hb2 m1 m2
  go_wp2_with fail
  go_ret
  exact fin_of HB.out HL.out A2.out
set_option maxHeartbeats 4000000 in
set_option maxRecDepth 100000 in
theorem asks_quant {w W : World} {K : Nat} {hs ws : List Hd} {XX : Nat → List S61} {ok : Nat → Prop} {v0 v1 : Value} (h : BS w W K hs ws XX ok v0 v1) (hl : hs.length = ws.length)
    (X Y : List S61) (I V N : Int) (hS : Same X Y I V N) (oA oB : Value) (aA bA cA dA : Option Addr) (ac bc cc dc : Nat) (ha : Kd.C k61 W aA X.length X) (ha' : X.length ≤ ac) (hc : Kd.C k61 W cA X.length X) (hc' : X.length ≤ cc) :
    Calls Try.prog 23 #[.pointer (some ⟨K, 0, none⟩), .agg #[.int .i64 6, .int .i64 I, oA, oB, .int .u64 V, .int .u64 N], .slice aA X.length ac, .slice bA Y.length bc, .slice cA X.length cc, .slice dA Y.length dc] W (AsksPost w W K hs.length ok) := by
  obtain ⟨u, v, f, k, q1, q2⟩ := hS.quant
  have h0 := below_alloc (Below.refl W.heap.size W) (.cells #[.int .i64 6, .int .i64 I, oA, oB, .int .u64 V, .int .u64 N] 56)
  have HB := Lib.hid h
  have HL := Lib.hid hl
  have H0 := Lib.hid h0
  have g0 := blk_new W (.cells #[.int .i64 6, .int .i64 I, oA, oB, .int .u64 V, .int .u64 N] 56)
  have HG := Lib.hid g0
  have C1 := Lib.hid (sketch_Quantile.calls k aA ac X V N u v f (W.alloc (.cells #[.int .i64 6, .int .i64 I, oA, oB, .int .u64 V, .int .u64 N] 56)) (Kd.C_below ha h0) ha' q1)
  have C2 := Lib.hid (fun U (hU : Below W.heap.size W U) => q2 U cA cc (Kd.C_below hc hU) hc')
  have p0 := (cell_of_row _ _ 0 _ _ _ g0).trans rfl
  have p4 := (cell_of_row _ _ 4 _ _ _ g0).trans rfl
  have p5 := (cell_of_row _ _ 5 _ _ _ g0).trans rfl
  clear h hl hS h0 g0 ha hc q1 q2
  go_enter Try.func23, Try.ntmps23
  go_wp2_with fail
  generalize W.alloc (.cells #[.int .i64 6, .int .i64 I, oA, oB, .int .u64 V, .int .u64 N] 56) = W0 at *
  refine C1.out.mono ?_
  rintro e1 V1 ⟨rfl, hb1⟩
  have B1 := Lib.hid (H0.out.trans (hb1.mono H0.out.size))
  have g1 := blk_below HG.out hb1
  clear p0 p4 p5 hb1
  have p4 := (cell_of_row _ _ 4 _ _ _ g1).trans rfl
  have p5 := (cell_of_row _ _ 5 _ _ _ g1).trans rfl
  clear g1
  go_wp2_with fail
  refine (C2.out V1 B1.out).mono ?_
  rintro e1 V3 ⟨rfl, hb2⟩
  have B2 := Lib.hid (B1.out.trans (hb2.mono B1.out.size))
  clear p4 p5 hb2
  go_wp2_with fail
  go_ret
  exact fin_of HB.out HL.out B2.out
set_option maxHeartbeats 4000000 in
set_option maxRecDepth 100000 in
theorem asks_index {w W : World} {K : Nat} {hs ws : List Hd} {XX : Nat → List S61} {ok : Nat → Prop} {v0 v1 : Value} (h : BS w W K hs ws XX ok v0 v1) (hl : hs.length = ws.length)
    (X Y : List S61) (I V N : Int) (hS : Same X Y I V N) (oA oB : Value) (aA bA cA dA : Option Addr) (ac bc cc dc : Nat) (ha : Kd.C k61 W aA X.length X) (ha' : X.length ≤ ac) (hc : Kd.C k61 W cA X.length X) (hc' : X.length ≤ cc) :
    Calls Try.prog 23 #[.pointer (some ⟨K, 0, none⟩), .agg #[.int .i64 1, .int .i64 I, oA, oB, .int .u64 V, .int .u64 N], .slice aA X.length ac, .slice bA Y.length bc, .slice cA X.length cc, .slice dA Y.length dc] W (AsksPost w W K hs.length ok) := by
  obtain ⟨i, k1, k2, q1, q2⟩ := hS.index
  obtain ⟨u, v, f, k3, k4, q3, q4⟩ := hS.span
  obtain ⟨ce, k5, q5, q6⟩ := hS.check
  have h0 := below_alloc (Below.refl W.heap.size W) (.cells #[.int .i64 1, .int .i64 I, oA, oB, .int .u64 V, .int .u64 N] 56)
  have HB := Lib.hid h
  have HL := Lib.hid hl
  have H0 := Lib.hid h0
  have g0 := blk_new W (.cells #[.int .i64 1, .int .i64 I, oA, oB, .int .u64 V, .int .u64 N] 56)
  have HG := Lib.hid g0
  have S1 := Lib.hid (fun U => sketch_Span.calls k3 I u v f U q3)
  have S2 := Lib.hid (fun U => spoorref13_Span.calls k4 I u v f U q4)
  have C1 : Hid (∀ U, Calls Try.prog 10 #[.int .u64 V] U fun e w' => e = .returned (.int .i64 i) ∧ Below U.heap.size U w') := Lib.hid (fun U => (sketch_Index.calls k1 V i U q1).mono (by rintro e w' ⟨rfl, ⟨n, rfl⟩⟩; exact ⟨rfl, pw_below_drewN (Below.refl _ _) _⟩))
  have C2 : Hid (∀ U, Calls Try.prog 36 #[.int .u64 V] U fun e w' => e = .returned (.int .i64 i) ∧ Below U.heap.size U w') := Lib.hid (fun U => (spoorref13_Index.calls k2 V i U q2).mono (by rintro e w' ⟨rfl, ⟨n, rfl⟩⟩; exact ⟨rfl, pw_below_drewN (Below.refl _ _) _⟩))
  have C3 := Lib.hid (fun U (hU : Below W.heap.size W U) => sketch_Check.calls aA ac X ce U (Kd.C_below ha hU) ha' q5)
  have C4 : Hid (∀ U, Below W.heap.size W U → Calls Try.prog 37 #[.slice cA X.length cc] U fun e w' => e = .returned (.int .i64 ce) ∧ Below U.heap.size U w') := Lib.hid (fun U hU => (spoorref13_Check.calls k5 cA cc X ce U (Kd.C_below hc hU) hc' q6).mono (by rintro e w' ⟨rfl, ⟨n, rfl⟩⟩; exact ⟨rfl, pw_below_drewN (Below.refl _ _) _⟩))
  have p0 := (cell_of_row _ _ 0 _ _ _ g0).trans rfl
  have p1 := (cell_of_row _ _ 1 _ _ _ g0).trans rfl
  clear h hl hS h0 g0 ha hc q1 q2 q3 q4 q5 q6
  go_enter Try.func23, Try.ntmps23
  go_wp2_with fail
  generalize W.alloc (.cells #[.int .i64 1, .int .i64 I, oA, oB, .int .u64 V, .int .u64 N] 56) = W0 at *
  refine (S1.out _).mono ?_
  rintro e1 V1 ⟨rfl, ⟨n1, rfl⟩⟩
  go_wp2_with fail
  refine (S2.out _).mono ?_
  rintro e1 V1 ⟨rfl, ⟨n2, rfl⟩⟩
  clear p0 p1
  have HD := Lib.hid (pw_below_drewN (pw_below_drewN H0.out n1) n2)
  have g1 := blk_drewN (blk_drewN HG.out n1) n2
  rw [World.drewN_drewN] at HD g1
  go_upto_region 5 with (fail)
  generalize W0.drewN (n1 + n2) = W1 at *
  have p4 := fun z : Wx W1 => z.cell ((cell_of_row _ _ 4 _ _ _ g1).trans rfl)
  have D3 : Hid (∀ z : Wx W1, Calls Try.prog 20 #[.slice aA X.length ac] z.W fun e w' => e = .returned (.int .i64 ce) ∧ Below z.W.heap.size z.W w') := Lib.hid (fun z => C3.out z.W (HD.out.trans (z.h.mono HD.out.size)))
  have D4 : Hid (∀ z : Wx W1, Calls Try.prog 37 #[.slice cA X.length cc] z.W fun e w' => e = .returned (.int .i64 ce) ∧ Below z.W.heap.size z.W w') := Lib.hid (fun z => C4.out z.W (HD.out.trans (z.h.mono HD.out.size)))
  clear g1
  refine wp_region_ext (by kernel_rfl) (by kernel_rfl) ?_
  repeat (go_big_quiet_step (first | (go_at_call 10; with_reducible exact Calls.ext_of (C1.out _)) | (go_at_call 36; with_reducible exact Calls.ext_of (C2.out _)) | (go_at_call 20; with_reducible exact Calls.ext_of (D3.out _)) | (go_at_call 37; with_reducible exact Calls.ext_of (D4.out _))))
  refine wpQuiet_nil ?_
  intro _ hw'
  obtain ⟨xx, rfl⟩ := hw'
  go_wp2_with fail
  go_ret
  exact fin_of HB.out HL.out (HD.out.trans (xx.h.mono HD.out.size))
end Go.Proofs.Ytlnhpccapadpmaa.Pr
