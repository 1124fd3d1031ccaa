/- SketchPlays' walk, over what both tell. -/
import Derived.Test.YtlnhpccapadpmaaXAs
import Derived.Test.YtlnhpccapadpmaaXEn
import Derived.Test.YtlnhpccapadpmaaXSc
import Derived.Deep.RegionHeld3
import Derived.Outline
namespace Go.Proofs.Ytlnhpccapadpmaa.Pr
open Go.RowKit Go.Proofs.YtlnhpccapadpmaaW.PrintWords Go.Proofs.YtlnhpccapadpmaaW.PrintLast Go.Proofs.YtlnhpccapadpmaaW.PrintMore
set_option linter.unusedVariables false
set_option linter.unusedSimpArgs false
/-- Numbers of the machine, in a list that one play takes. -/
def Gd (X : List S61) : Prop := X.length ≤ 2147483647 ∧ ∀ b ∈ X, (-9223372036854775808 ≤ b.f0 ∧ b.f0 ≤ 9223372036854775807) ∧ 0 ≤ b.f1 ∧ b.f1 ≤ 18446744073709551615
theorem Gd.half {X : List S61} (h : Gd X) : Gd (X.map half) := ⟨by rw [List.length_map]; exact h.1, fun b hb => by
  obtain ⟨a, ha, rfl⟩ := List.mem_map.1 hb
  have := h.2 a ha
  unfold Pr.half
  refine ⟨this.1, ?_, ?_⟩ <;> dsimp only <;> omega⟩
theorem asks_run {w W : World} {K : Nat} {hs ws : List Hd} {XX : Nat → List S61} {ok : Nat → Prop} {v0 v1 : Value} (h : BS w W K hs ws XX ok v0 v1) (hl : hs.length = ws.length) (hlen : hs.length ≤ 7000000000) (hok : ∀ k, W.heap.size ≤ k → ok k)
    (X Y : List S61) (kd I V N : Int) (hS : Same X Y I V N) (oA oB : Value) (aA bA cA dA : Option Addr) (ac bc cc dc : Nat) (ha : Kd.C k61 W aA X.length X) (ha' : X.length ≤ ac) (hb : Kd.C k61 W bA Y.length Y) (hb' : Y.length ≤ bc) (hc : Kd.C k61 W cA X.length X) (hc' : X.length ≤ cc) (hd : Kd.C k61 W dA Y.length Y) (hd' : Y.length ≤ dc) :
    Calls Try.prog 23 #[.pointer (some ⟨K, 0, none⟩), .agg #[.int .i64 kd, .int .i64 I, oA, oB, .int .u64 V, .int .u64 N], .slice aA X.length ac, .slice bA Y.length bc, .slice cA X.length cc, .slice dA Y.length dc] W (AsksPost w W K hs.length ok) := by
  by_cases hk : kd < 1 ∨ 6 < kd
  · exact asks_else h hl X Y I V N hS oA oB aA bA cA dA ac bc cc dc ha ha' hc hc' kd hk
  rcases (by omega : kd = 1 ∨ kd = 2 ∨ kd = 3 ∨ kd = 4 ∨ kd = 5 ∨ kd = 6) with rfl | rfl | rfl | rfl | rfl | rfl
  · exact asks_index h hl X Y I V N hS oA oB aA bA cA dA ac bc cc dc ha ha' hc hc'
  · exact asks_add h hl hlen hok X Y I V N hS oA oB aA bA cA dA ac bc cc dc ha ha' hb hb' hc hc' hd hd'
  · exact asks_merge h hl hlen hok X Y I V N hS oA oB aA bA cA dA ac bc cc dc ha ha' hb hb' hc hc' hd hd'
  · exact asks_less h hl hlen hok X Y I V N hS oA oB aA bA cA dA ac bc cc dc ha ha' hb hb' hc hc' hd hd'
  · exact asks_count h hl X Y I V N hS oA oB aA bA cA dA ac bc cc dc ha ha' hc hc'
  · exact asks_quant h hl X Y I V N hS oA oB aA bA cA dA ac bc cc dc ha ha' hc hc'
theorem BS.far {w W W' : World} {K g : Nat} {hs ws : List Hd} {X : Nat → List S61} {ok : Nat → Prop} {v0 v1 : Value} {cs : Array Value} (h : BS w W K hs ws X ok v0 v1) (hg : W.heap[g]? = some (.cells cs 61 (0, 0))) (hF : Far g W W') (hw : w.heap.size ≤ g) (hok : ∀ k, ok k → k ≠ g) : BS w W' K hs ws X ok v0 v1 :=
  h.move (hF.below h.below h.below.size hw) (fun k c hc => hF.far k (Array.getElem?_eq_some_iff.1 hc).1 (ne_typed hc hg (by decide))) (hF.far K (Array.getElem?_eq_some_iff.1 h.blk).1 (ne_typed h.blk hg (by decide))) (fun k h1 h2 => hF.far k h2 (hok k h1))
/-- What an iteration holds: the sketches that came out, the op's cells, the two that are lent. -/
structure IT (w W : World) (K n g7 ga gb : Nat) (op : Array Value) (X Y : List S61) : Prop where
  bs : ∃ (hs ws : List Hd) (XX : Nat → List S61) (v0 v1 : Value), BS w W K hs ws XX (fun k => k ≠ ga ∧ k ≠ gb) v0 v1 ∧ hs.length = ws.length ∧ hs.length ≤ n
  op7 : W.heap[g7]? = some (.cells op 56 (0, 0))
  blkA : W.heap[ga]? = some (.cells (flat (X ++ marks)).toArray 61 (0, 0))
  blkB : W.heap[gb]? = some (.cells (flat (Y ++ marks)).toArray 61 (0, 0))
  ab : ga ≠ gb
  wa : w.heap.size ≤ ga
  wb : w.heap.size ≤ gb
theorem IT.below {w W : World} {K n g7 ga gb : Nat} {op : Array Value} {X Y : List S61} (h : IT w W K n g7 ga gb op X Y) : Below w.heap.size w W := by
  obtain ⟨_, _, _, _, _, hb, _⟩ := h.bs
  exact hb.below
theorem IT.more {w W W' : World} {K n g7 ga gb : Nat} {op : Array Value} {X Y : List S61} (h : IT w W K n g7 ga gb op X Y) (hb : Below W.heap.size W W') : IT w W' K n g7 ga gb op X Y := by
  obtain ⟨hs, ws, XX, v0, v1, h1, h2, h3⟩ := h.bs
  exact ⟨⟨hs, ws, XX, v0, v1, h1.more hb, h2, h3⟩, blk_below h.op7 hb, blk_below h.blkA hb, blk_below h.blkB hb, h.ab, h.wa, h.wb⟩
/-- One call is asked. -/
theorem IT.asks {w W : World} {K n g7 ga gb : Nat} {op : Array Value} {X Y : List S61} (h : IT w W K n g7 ga gb op X Y) (hn : n ≤ 7000000000) (kd I V N : Int) (hS : Same X Y I V N) (oA oB : Value) (cA dA : Option Addr) (cc dc : Nat) (hX : X.length ≤ 2147483647) (hY : Y.length ≤ 2147483647)
    (hc : Kd.C k61 W cA X.length X) (hc' : X.length ≤ cc) (hd : Kd.C k61 W dA Y.length Y) (hd' : Y.length ≤ dc) :
    Calls Try.prog 23 #[.pointer (some ⟨K, 0, none⟩), .agg #[.int .i64 kd, .int .i64 I, oA, oB, .int .u64 V, .int .u64 N], .slice (some ⟨ga, 0, none⟩) X.length (X.length + 2), .slice (some ⟨gb, 0, none⟩) Y.length (Y.length + 2), .slice cA X.length cc, .slice dA Y.length dc] W
      fun e w' => e = .returned (.bool true) ∧ IT w w' K (n + 1) g7 ga gb op X Y := by
  obtain ⟨hs, ws, XX, v0, v1, h1, h2, h3⟩ := h.bs
  have la := (Array.getElem?_eq_some_iff.1 h.blkA).1
  have lb := (Array.getElem?_eq_some_iff.1 h.blkB).1
  refine (asks_run h1 h2 (by omega) (fun k hk => ⟨by omega, by omega⟩) X Y kd I V N hS oA oB _ _ cA dA _ _ cc dc (C_blk h.blkA rfl (by omega)) (by omega) (C_blk h.blkB rfl (by omega)) (by omega) hc hc' hd hd').mono ?_
  rintro e w' ⟨hs', ws', X', v0', v1', rfl, z1, z2, z3, z4⟩
  exact ⟨rfl, ⟨hs', ws', X', v0', v1', z1, z2, by omega⟩, (z4.ops _ _ h.op7).trans h.op7, (z4.bars _ _ h.blkA).trans h.blkA, (z4.bars _ _ h.blkB).trans h.blkB, h.ab, h.wa, h.wb⟩
theorem IT.keptA {w W W' : World} {K n g7 ga gb : Nat} {op : Array Value} {X Y X' : List S61} (h : IT w W K n g7 ga gb op X Y) (h1 : W'.heap[ga]? = some (.cells (flat (X' ++ marks)).toArray 61 (0, 0))) (hF : Far ga W W') : IT w W' K n g7 ga gb op X' Y := by
  obtain ⟨hs, ws, XX, v0, v1, b1, b2, b3⟩ := h.bs
  have lt : ∀ {k : Nat} {o : Obj}, W.heap[k]? = some o → k < W.heap.size := fun hc => (Array.getElem?_eq_some_iff.1 hc).1
  exact ⟨⟨hs, ws, XX, v0, v1, b1.far h.blkA hF h.wa (fun k hk => hk.1), b2, b3⟩, (hF.far _ (lt h.op7) (ne_typed h.op7 h.blkA (by decide))).trans h.op7, h1, (hF.far _ (lt h.blkB) (Ne.symm h.ab)).trans h.blkB, h.ab, h.wa, h.wb⟩
theorem IT.keptB {w W W' : World} {K n g7 ga gb : Nat} {op : Array Value} {X Y Y' : List S61} (h : IT w W K n g7 ga gb op X Y) (h1 : W'.heap[gb]? = some (.cells (flat (Y' ++ marks)).toArray 61 (0, 0))) (hF : Far gb W W') : IT w W' K n g7 ga gb op X Y' := by
  obtain ⟨hs, ws, XX, v0, v1, b1, b2, b3⟩ := h.bs
  have lt : ∀ {k : Nat} {o : Obj}, W.heap[k]? = some o → k < W.heap.size := fun hc => (Array.getElem?_eq_some_iff.1 hc).1
  exact ⟨⟨hs, ws, XX, v0, v1, b1.far h.blkB hF h.wb (fun k hk => hk.2), b2, b3⟩, (hF.far _ (lt h.op7) (ne_typed h.op7 h.blkB (by decide))).trans h.op7, (hF.far _ (lt h.blkA) h.ab).trans h.blkA, h1, h.ab, h.wa, h.wb⟩
theorem IT.asks2 {w W : World} {K n g7 ga gb : Nat} {op : Array Value} {X Y : List S61} (h : IT w W K n g7 ga gb op X Y) (hn : n ≤ 7000000000) (kd I V N : Int) (hS : Same X Y I V N) (oA oB : Value) (cA dA : Option Addr) (cc dc nx ny : Nat) (ex : X.length = nx) (ey : Y.length = ny) (hX : nx ≤ 2147483647) (hY : ny ≤ 2147483647)
    (hc : Kd.C k61 W cA X.length X) (hc' : nx ≤ cc) (hd : Kd.C k61 W dA Y.length Y) (hd' : ny ≤ dc) :
    Calls Try.prog 23 #[.pointer (some ⟨K, 0, none⟩), .agg #[.int .i64 kd, .int .i64 I, oA, oB, .int .u64 V, .int .u64 N], .slice (some ⟨ga, 0, none⟩) nx (nx + 2), .slice (some ⟨gb, 0, none⟩) ny (ny + 2), .slice cA nx cc, .slice dA ny dc] W
      fun e w' => e = .returned (.bool true) ∧ IT w w' K (n + 1) g7 ga gb op X Y := by
  subst ex
  subst ey
  exact h.asks hn kd I V N hS oA oB cA dA cc dc hX hY hc hc' hd hd'
def PlaysPost (w : World) (e : Ending) (w' : World) : Prop := e = .returned (.bool true) ∧ Below w.heap.size w w'
set_option maxHeartbeats 8000000 in
set_option maxRecDepth 100000 in
theorem plays_run (A0 : Option Addr) (c0 : Nat) (L : List S56) (w : World) (hr : Kd.C k56 w A0 L.length L) (hc : L.length ≤ c0) (hl : L.length ≤ 140737488351232)
    (hwf : ∀ x ∈ L, (∀ b ∈ x.f2, (-9223372036854775808 ≤ b.f0 ∧ b.f0 ≤ 9223372036854775807) ∧ 0 ≤ b.f1 ∧ b.f1 ≤ 18446744073709551615) ∧ (∀ b ∈ x.f3, (-9223372036854775808 ≤ b.f0 ∧ b.f0 ≤ 9223372036854775807) ∧ 0 ≤ b.f1 ∧ b.f1 ≤ 18446744073709551615))
    (hlen : ∀ x ∈ L, x.f2.length ≤ 140737488351232 ∧ x.f3.length ≤ 140737488351232)
    (hS : ∀ x ∈ L, ∀ X Y, Gd X → Gd Y → Same X Y x.f1 x.f4 x.f5) (ka : Nat) (hA : spoorlaw13_awake.f ka = some true) :
    Calls Try.prog 7 #[.slice A0 L.length c0] w (PlaysPost w) := by
  have HR := Lib.hid hr
  have HWF := Lib.hid hwf
  have HLN := Lib.hid hlen
  have HSA := Lib.hid hS
  have HA := Lib.hid (spoorlaw13_awake.calls ka true w hA)
  clear hr hwf hlen hS hA
  go_enter Try.func7, Try.ntmps7
  go_wp2_with fail
  refine HA.out.mono ?_
  rintro e w1 ⟨rfl, hb⟩
  have HB1 := Lib.hid hb
  have HBS : Hid (BS w (w1.alloc (.cells #[.slice none 0 0, .slice none 0 0] 54)) w1.heap.size [] [] (fun _ => []) T1 (.slice none 0 0) (.slice none 0 0)) := Lib.hid ⟨below_alloc hb _, hb.size, blk_new w1 _, Kd.R_nil _ _ _ _ _, Kd.R_nil _ _ _ _ _, fun k e => (by cases e), fun i h hi => (by simp at hi), fun i h hi => (by simp at hi), fun i j h h' _ hi => (by simp at hi), fun i => (by simp)⟩
  clear hb HA
  go_upto_region 5 with (fail)
  generalize w1.alloc (.cells #[.slice none 0 0, .slice none 0 0] 54) = w2 at *
  generalize w1.heap.size = K at *
  go_loopw [5, 6] (fun v5 v6 wr => ∃ (i s : Nat) (hs ws : List Hd) (XX : Nat → List S61) (v0 v1 : Value), v5 = .int .i64 s ∧ v6 = .int .i64 i ∧ i ≤ L.length ∧ i ≤ s ∧ s ≤ 2147483647 ∧ Hid (BS w wr K hs ws XX T1 v0 v1) ∧ Hid (hs.length = ws.length ∧ hs.length ≤ 3 * i)) (fun _ v6 _ => L.length - (intOf v6).toNat)
  case atStart => exact ⟨0, 0, [], [], _, _, _, rfl, rfl, Nat.zero_le _, Nat.le_refl _, by omega, HBS, Lib.hid ⟨rfl, by simp⟩⟩
  case round =>
    clear HBS
    obtain ⟨i, s, hs, ws, XX, v0, v1, rfl, rfl, hi, his, hs1, HB, HL⟩ := hrel
    by_cases hlt : i < L.length
    · have b1 : (i : Int) < (L.length : Int) := by omega
      obtain ⟨eb, eo, A2, c2, A3, c3, rfl, x0, x1, x2, x3, x4, x5, l2, r2, n2, l3, r3, n3⟩ := t56_at HR.out i hlt
      have hmem : rd_T56 L (i : Int) ∈ L := by simp [rd_T56, List.getD, hlt]
      have hln := HLN.out _ hmem
      have hwf := HWF.out _ hmem
      have hsa := HSA.out _ hmem
      generalize rd_T56 L (i : Int) = x at *
      obtain ⟨kd, I, LA, LB, V, N⟩ := x
      dsimp only at *
      have y0 := pw_cell_below HB.out.below x0
      have y1 := pw_cell_below HB.out.below x1
      have y2 := pw_cell_below HB.out.below x2
      have y3 := pw_cell_below HB.out.below x3
      have y4 := pw_cell_below HB.out.below x4
      have y5 := pw_cell_below HB.out.below x5
      have g7 := blk_new wr (.cells #[.int .i64 kd, .int .i64 I, .slice A2 LA.length c2, .slice A3 LB.length c3, .int .u64 V, .int .u64 N] 56)
      have HG7 := Lib.hid g7
      have HB7 := Lib.hid (below_alloc (Below.refl wr.heap.size wr) (.cells #[.int .i64 kd, .int .i64 I, .slice A2 LA.length c2, .slice A3 LB.length c3, .int .u64 V, .int .u64 N] 56))
      have z0 := (cell_of_row _ _ 0 _ _ _ g7).trans rfl
      have z1 := (cell_of_row _ _ 1 _ _ _ g7).trans rfl
      have z2 := (cell_of_row _ _ 2 _ _ _ g7).trans rfl
      have z3 := (cell_of_row _ _ 3 _ _ _ g7).trans rfl
      have z4 := (cell_of_row _ _ 4 _ _ _ g7).trans rfl
      have z5 := (cell_of_row _ _ 5 _ _ _ g7).trans rfl
      have HR2 := Lib.hid r2
      have HR3 := Lib.hid r3
      have HN2 := Lib.hid n2
      have HN3 := Lib.hid n3
      have HWFx := Lib.hid hwf
      have HSAx := Lib.hid hsa
      obtain ⟨hla, hlb⟩ := hln
      clear x0 x1 x2 x3 x4 x5 r2 r3 n2 n3 hwf hsa g7 hmem
      go_upto_region 9 with (fail)
      clear y0 y1 y2 y3 y4 y5
      generalize wr.alloc (.cells #[.int .i64 kd, .int .i64 I, .slice A2 LA.length c2, .slice A3 LB.length c3, .int .u64 V, .int .u64 N] 56) = w7 at *
      by_cases hbig : (2147483647 : Int) < (s : Int) + 1 + (LA.length : Int) + (LB.length : Int)
      · have HBE := Lib.hid (HB.out.more HB7.out)
        have HLL := Lib.hid (show hs.length ≤ 7000000000 by have := HL.out.2; omega)
        clear z0 z1 z2 z3 z4 z5
        go_wp2_with fail
        refine (ends_run HBE.out HL.out.1 HLL.out).mono ?_
        rintro e w8 ⟨rfl, hb⟩
        have HE := Lib.hid hb
        clear hb
        go_wp2_with fail
        go_ret
        exact ⟨rfl, HE.out⟩
      · have HS9 := Lib.hid (show s + 1 + LA.length + LB.length ≤ 2147483647 by omega)
        have hsm : (s : Int) + 1 + (LA.length : Int) + (LB.length : Int) ≤ 2147483647 := by omega
        have HA0 := Lib.hid (show LA.length ≤ 2147483647 by omega)
        have HB0 := Lib.hid (show LB.length ≤ 2147483647 by omega)
        have HD7 := Lib.hid (HB.out.below.trans (HB7.out.mono HB.out.below.size))
        have HGA : Hid (Gd LA) := Lib.hid ⟨HA0.out, HWFx.out.1⟩
        have HGB : Hid (Gd LB) := Lib.hid ⟨HB0.out, HWFx.out.2⟩
        clear hbig
        go_upto_region 10 with (fail)
        go_wp2_with fail
        refine (lent_run A2 c2 LA w7 (Kd.C_below HR2.out HD7.out) l2 HA0.out HN2.out).mono ?_
        rintro e w8 ⟨rfl, hga, hb8⟩
        have HGa := Lib.hid hga
        have H8 := Lib.hid hb8
        have HD8 := Lib.hid (HD7.out.trans (hb8.mono HD7.out.size))
        have g8 := blk_below HG7.out hb8
        have HG8 := Lib.hid g8
        clear z0 z1 z2 z3 z4 z5 hga hb8
        have z0 := (cell_of_row _ _ 0 _ _ _ g8).trans rfl
        have z1 := (cell_of_row _ _ 1 _ _ _ g8).trans rfl
        have z2 := (cell_of_row _ _ 2 _ _ _ g8).trans rfl
        have z3 := (cell_of_row _ _ 3 _ _ _ g8).trans rfl
        have z4 := (cell_of_row _ _ 4 _ _ _ g8).trans rfl
        have z5 := (cell_of_row _ _ 5 _ _ _ g8).trans rfl
        clear g8
        go_wp2_with fail
        refine (lent_run A3 c3 LB w8 (Kd.C_below HR3.out HD8.out) l3 HB0.out HN3.out).mono ?_
        rintro e w9 ⟨rfl, hgb, hb9⟩
        have hlt8 := (Array.getElem?_eq_some_iff.1 HGa.out).1
        have HI : Hid (IT w w9 K (3 * i) wr.heap.size w7.heap.size w8.heap.size #[.int .i64 kd, .int .i64 I, .slice A2 LA.length c2, .slice A3 LB.length c3, .int .u64 V, .int .u64 N] LA LB) := Lib.hid
          ⟨⟨hs, ws, XX, v0, v1, (((HB.out.mono (ok' := fun k => k ≠ w7.heap.size ∧ k ≠ w8.heap.size) (fun k _ hk => ⟨by have := HB7.out.size; omega, by have := HB7.out.size; have := H8.out.size; omega⟩)).more HB7.out).more H8.out).more hb9, HL.out.1, HL.out.2⟩, blk_below HG8.out hb9, blk_below HGa.out hb9, hgb, by omega, HD7.out.size, HD8.out.size⟩
        clear z0 z1 z2 z3 z4 z5 hgb hb9 hlt8 HB HG7 HB7 HGa H8 HG8 HD7 HD8
        generalize w7.heap.size = ga at *
        generalize w8.heap.size = gb at *
        generalize wr.heap.size = g7 at *
        have gq := HI.out.op7
        have z0 := (cell_of_row _ _ 0 _ _ _ gq).trans rfl
        have z1 := (cell_of_row _ _ 1 _ _ _ gq).trans rfl
        have z2 := (cell_of_row _ _ 2 _ _ _ gq).trans rfl
        have z3 := (cell_of_row _ _ 3 _ _ _ gq).trans rfl
        have z4 := (cell_of_row _ _ 4 _ _ _ gq).trans rfl
        have z5 := (cell_of_row _ _ 5 _ _ _ gq).trans rfl
        clear gq
        go_wp2_with fail
        refine (HI.out.asks (by omega) kd I V N (HSAx.out LA LB HGA.out HGB.out) (.slice A2 LA.length c2) (.slice A3 LB.length c3) A2 A3 c2 c3 HA0.out HB0.out (Kd.C_below HR2.out HI.out.below) l2 (Kd.C_below HR3.out HI.out.below) l3).mono ?_
        rintro e w10 ⟨rfl, hI⟩
        have HJ := Lib.hid hI
        clear z0 z1 z2 z3 z4 z5 hI HI
        have gq := HJ.out.op7
        have z0 := (cell_of_row _ _ 0 _ _ _ gq).trans rfl
        have z1 := (cell_of_row _ _ 1 _ _ _ gq).trans rfl
        have z2 := (cell_of_row _ _ 2 _ _ _ gq).trans rfl
        have z3 := (cell_of_row _ _ 3 _ _ _ gq).trans rfl
        have z4 := (cell_of_row _ _ 4 _ _ _ gq).trans rfl
        have z5 := (cell_of_row _ _ 5 _ _ _ gq).trans rfl
        clear gq
        go_wp2_with fail
        refine (HJ.out.asks (by omega) kd I V N (HSAx.out LA LB HGA.out HGB.out) (.slice A2 LA.length c2) (.slice A3 LB.length c3) A2 A3 c2 c3 HA0.out HB0.out (Kd.C_below HR2.out HJ.out.below) l2 (Kd.C_below HR3.out HJ.out.below) l3).mono ?_
        rintro e w11 ⟨rfl, hI⟩
        have HK := Lib.hid hI
        clear z0 z1 z2 z3 z4 z5 hI HJ
        have gq := HK.out.op7
        have z0 := (cell_of_row _ _ 0 _ _ _ gq).trans rfl
        have z1 := (cell_of_row _ _ 1 _ _ _ gq).trans rfl
        have z2 := (cell_of_row _ _ 2 _ _ _ gq).trans rfl
        have z3 := (cell_of_row _ _ 3 _ _ _ gq).trans rfl
        have z4 := (cell_of_row _ _ 4 _ _ _ gq).trans rfl
        have z5 := (cell_of_row _ _ 5 _ _ _ gq).trans rfl
        clear gq
        go_wp2_with fail
        refine (kept_run A2 c2 ga LA w11 (Kd.C_below HR2.out HK.out.below) l2 HA0.out (fun b hb => (HGA.out.2 b hb).2) HK.out.blkA).mono ?_
        rintro e w12 ⟨rfl, hq1, hq2⟩
        have HM := Lib.hid (HK.out.keptA hq1 hq2)
        clear z0 z1 z2 z3 z4 z5 hq1 hq2 HK
        have gq := HM.out.op7
        have z0 := (cell_of_row _ _ 0 _ _ _ gq).trans rfl
        have z1 := (cell_of_row _ _ 1 _ _ _ gq).trans rfl
        have z2 := (cell_of_row _ _ 2 _ _ _ gq).trans rfl
        have z3 := (cell_of_row _ _ 3 _ _ _ gq).trans rfl
        have z4 := (cell_of_row _ _ 4 _ _ _ gq).trans rfl
        have z5 := (cell_of_row _ _ 5 _ _ _ gq).trans rfl
        clear gq
        go_wp2_with fail
        refine (kept_run A3 c3 gb LB w12 (Kd.C_below HR3.out HM.out.below) l3 HB0.out (fun b hb => (HGB.out.2 b hb).2) HM.out.blkB).mono ?_
        rintro e w13 ⟨rfl, hq1, hq2⟩
        have HP := Lib.hid (HM.out.keptB hq1 hq2)
        clear z0 z1 z2 z3 z4 z5 hq1 hq2 HM
        have gq := HP.out.op7
        have z0 := (cell_of_row _ _ 0 _ _ _ gq).trans rfl
        have z1 := (cell_of_row _ _ 1 _ _ _ gq).trans rfl
        have z2 := (cell_of_row _ _ 2 _ _ _ gq).trans rfl
        have z3 := (cell_of_row _ _ 3 _ _ _ gq).trans rfl
        have z4 := (cell_of_row _ _ 4 _ _ _ gq).trans rfl
        have z5 := (cell_of_row _ _ 5 _ _ _ gq).trans rfl
        clear gq
        go_upto_region 16 with (fail)
        clear z0 z1 z2 z3 z4 z5
        have HW : Hid (∀ w' : World, IT w w' K (3 * i + 1 + 1) g7 ga gb #[.int .i64 kd, .int .i64 I, .slice A2 LA.length c2, .slice A3 LB.length c3, .int .u64 V, .int .u64 N] (LA.map half) (LB.map half) → (w'.cell? ⟨g7, 0, none⟩ = some (.int .i64 kd) ∧ w'.cell? ⟨g7, 1, none⟩ = some (.int .i64 I) ∧ w'.cell? ⟨g7, 2, none⟩ = some (.slice A2 LA.length c2) ∧ w'.cell? ⟨g7, 3, none⟩ = some (.slice A3 LB.length c3) ∧ w'.cell? ⟨g7, 4, none⟩ = some (.int .u64 V) ∧ w'.cell? ⟨g7, 5, none⟩ = some (.int .u64 N))) := Lib.hid (fun w' h => ⟨(cell_of_row _ _ 0 _ _ _ h.op7).trans rfl, (cell_of_row _ _ 1 _ _ _ h.op7).trans rfl, (cell_of_row _ _ 2 _ _ _ h.op7).trans rfl, (cell_of_row _ _ 3 _ _ _ h.op7).trans rfl, (cell_of_row _ _ 4 _ _ _ h.op7).trans rfl, (cell_of_row _ _ 5 _ _ _ h.op7).trans rfl⟩)
        have HW3 : Hid (∀ w' : World, IT w w' K (3 * i + 1 + 1 + 1) g7 ga gb #[.int .i64 kd, .int .i64 I, .slice A2 LA.length c2, .slice A3 LB.length c3, .int .u64 V, .int .u64 N] (LA.map half) (LB.map half) → (w'.cell? ⟨g7, 0, none⟩ = some (.int .i64 kd) ∧ w'.cell? ⟨g7, 1, none⟩ = some (.int .i64 I) ∧ w'.cell? ⟨g7, 2, none⟩ = some (.slice A2 LA.length c2) ∧ w'.cell? ⟨g7, 3, none⟩ = some (.slice A3 LB.length c3) ∧ w'.cell? ⟨g7, 4, none⟩ = some (.int .u64 V) ∧ w'.cell? ⟨g7, 5, none⟩ = some (.int .u64 N))) := Lib.hid (fun w' h => ⟨(cell_of_row _ _ 0 _ _ _ h.op7).trans rfl, (cell_of_row _ _ 1 _ _ _ h.op7).trans rfl, (cell_of_row _ _ 2 _ _ _ h.op7).trans rfl, (cell_of_row _ _ 3 _ _ _ h.op7).trans rfl, (cell_of_row _ _ 4 _ _ _ h.op7).trans rfl, (cell_of_row _ _ 5 _ _ _ h.op7).trans rfl⟩)
        have HQ0 := Lib.hid (HP.out.more (below_drew1 (Below.refl _ _)))
        have hq0 := HW.out _ HQ0.out
        have HNN := Lib.hid (show 3 * i + 1 + 1 ≤ 7000000000 by omega)
        have HEX := Lib.hid (show (LA.map half).length = LA.length from List.length_map _)
        have HEY := Lib.hid (show (LB.map half).length = LB.length from List.length_map _)
        have HSS := Lib.hid (HSAx.out _ _ HGA.out.half HGB.out.half)
        clear HP
        go_region_held3 (fun w' => w'.cell? ⟨g7, 0, none⟩ = some (.int .i64 kd) ∧ w'.cell? ⟨g7, 1, none⟩ = some (.int .i64 I) ∧ w'.cell? ⟨g7, 2, none⟩ = some (.slice A2 LA.length c2) ∧ w'.cell? ⟨g7, 3, none⟩ = some (.slice A3 LB.length c3) ∧ w'.cell? ⟨g7, 4, none⟩ = some (.int .u64 V) ∧ w'.cell? ⟨g7, 5, none⟩ = some (.int .u64 N)) (first | exact hq3 | exact hq2 | exact hq1 | exact hq0) (first | (go_at_call 23; refine (HQ2.out.asks2 HNN.out kd I V N HSS.out (.slice A2 LA.length c2) (.slice A3 LB.length c3) _ _ _ _ LA.length LB.length HEX.out HEY.out HA0.out HB0.out (C_blk HO1.out rfl (by rw [HEX.out]; have := HA0.out; omega)) (by omega) (C_blk HO2.out rfl (by rw [HEY.out]; have := HB0.out; omega)) (by omega)).mono ?_; rintro e_ w16 ⟨rfl, hI3⟩; have HQ3 := Lib.hid hI3; clear hI3; have hq3 := HW3.out _ HQ3.out) | (go_at_call 25; refine (over_run A3 c3 LB _ (Kd.C_below HR3.out HQ1.out.below) l3 HB0.out HN3.out (fun b hb => (HGB.out.2 b hb).2)).mono ?_; rintro e_ w15 ⟨rfl, ho2, hb2⟩; have HO2 := Lib.hid ho2; have HO1 := Lib.hid (blk_below HOA.out hb2); have HQ2 := Lib.hid (HQ1.out.more hb2); clear ho2 hb2; have hq2 := HW.out _ HQ2.out) | (go_at_call 25; refine (over_run A2 c2 LA _ (Kd.C_below HR2.out HQ0.out.below) l2 HA0.out HN2.out (fun b hb => (HGA.out.2 b hb).2)).mono ?_; rintro e_ w14 ⟨rfl, ho1, hb1⟩; have HOA := Lib.hid ho1; have HQ1 := Lib.hid (HQ0.out.more hb1); clear ho1 hb1; have hq1 := HW.out _ HQ1.out))
        obtain ⟨hs', ws', XX', v0', v1', hb1, hb2, hb3⟩ := HQ3.out.bs
        have HBN := Lib.hid (hb1.mono (ok' := T1) (fun _ _ _ => trivial))
        have HLN' := Lib.hid (show hs'.length = ws'.length ∧ hs'.length ≤ 3 * (i + 1) from ⟨hb2, by omega⟩)
        clear hq0 hq1 hq2 hq3 hb1 hb2 hb3 HQ0 HQ1 HQ2 HQ3 HW HW3 HO1 HO2 HOA HSS
        go_wp2_with fail
        go_roundw
        case rel => exact ⟨i + 1, s + 1 + LA.length + LB.length, hs', ws', XX', v0', v1', by go_num, by go_num, by omega, by omega, by have := HS9.out; omega, HBN, HLN'⟩
        case measure => simp [intOf]; omega
    · obtain rfl : i = L.length := by omega
      have HLL := Lib.hid (show hs.length ≤ 7000000000 by have := HL.out.2; omega)
      go_upto_region 19 with (fail)
      go_wp2_with fail
      refine (ends_run HB.out HL.out.1 HLL.out).mono ?_
      rintro e w8 ⟨rfl, hb⟩
      have HE := Lib.hid hb
      clear hb
      go_wp2_with fail
      go_ret
      exact ⟨rfl, HE.out⟩
end Go.Proofs.Ytlnhpccapadpmaa.Pr
