-- by xprint.py, a program of the session's own, over the kit's print. Not trusted: Lean checks it.
import Derived.Test.YtdlnfmakfnggpaaDoorPr0
import Derived.Test.YtdlnfmakfnggpaaDoorPrea
import Derived.Test.YtdlnfmakfnggpaaDoorPr0a
import Derived.Test.YtdlnfmakfnggpaaDoorPr1a
import Derived.Test.YtdlnfmakfnggpaaDoorPr1b
import Derived.Test.YtdlnfmakfnggpaaDoorPr2b
import Derived.Test.YtdlnfmakfnggpaaDoorSh
namespace Go.Proofs.YtdlnfmakfnggpaaDoor.Pr
open Go.RowKit Go.Proofs.YtdlnfmakfnggpaaDoorW.PrintWords Go.Proofs.YtdlnfmakfnggpaaDoorW.PrintLast Go.Proofs.YtdlnfmakfnggpaaDoorW.PrintMore
attribute [local go_sem] max2_int min2_int max_two min_two max_three min_three max_four min_four   -- for this text's walks alone
set_option linter.unusedVariables false
set_option linter.unusedSimpArgs false

attribute [local go_sem high] eqA26
/-! ### span_Check: function 63 -/
mutual
def span_Check.j0 : Nat → Bool → Int → Int → Int → Int → List Int → ByteArray → ByteArray → Int → Int → Int → Int → List (S120) → List (S122) → Option (Int)
  | 0, _, _, _, _, _, _, _, _, _, _, _, _, _, _ => none
  | k + 1, x5, x129000, x129001, x129002, x129003, x129004, x129005, x129006, x129007, x129008, x129009, x129010, x129011, x129012 => if x5 = true then (some 41) else (if x129009 < 0 then (span_Check.j1 k true x129000 x129001 x129002 x129003 x129004 x129005 x129006 x129007 x129008 x129009 x129010 x129011 x129012) else (if x129009 > x129010 then (span_Check.j1 k true x129000 x129001 x129002 x129003 x129004 x129005 x129006 x129007 x129008 x129009 x129010 x129011 x129012) else (span_Check.j1 k (decide (x129010 > 4611686018427387904)) x129000 x129001 x129002 x129003 x129004 x129005 x129006 x129007 x129008 x129009 x129010 x129011 x129012)))
def span_Check.j1 : Nat → Bool → Int → Int → Int → Int → List Int → ByteArray → ByteArray → Int → Int → Int → Int → List (S120) → List (S122) → Option (Int)
  | 0, _, _, _, _, _, _, _, _, _, _, _, _, _, _ => none
  | k + 1, x15, x129000, x129001, x129002, x129003, x129004, x129005, x129006, x129007, x129008, x129009, x129010, x129011, x129012 => if x15 = true then (some 42) else ((span_plain.f k x129005 60 33).bind fun t130 => (if t130 = true then ((span_plain.f k x129006 100 32).bind fun t131 => (span_Check.j2 k (!t131) x129000 x129001 x129002 x129003 x129004 x129005 x129006 x129007 x129008 x129009 x129010 x129011 x129012)) else (span_Check.j2 k true x129000 x129001 x129002 x129003 x129004 x129005 x129006 x129007 x129008 x129009 x129010 x129011 x129012)))
def span_Check.j2 : Nat → Bool → Int → Int → Int → Int → List Int → ByteArray → ByteArray → Int → Int → Int → Int → List (S120) → List (S122) → Option (Int)
  | 0, _, _, _, _, _, _, _, _, _, _, _, _, _, _ => none
  | k + 1, x31, x129000, x129001, x129002, x129003, x129004, x129005, x129006, x129007, x129008, x129009, x129010, x129011, x129012 => if x31 = true then (some 43) else (if x129007 < 0 then (span_Check.j3 k true x129000 x129001 x129002 x129003 x129004 x129005 x129006 x129007 x129008 x129009 x129010 x129011 x129012) else (if x129007 > 4 then (span_Check.j3 k true x129000 x129001 x129002 x129003 x129004 x129005 x129006 x129007 x129008 x129009 x129010 x129011 x129012) else (if x129008 < 0 then (span_Check.j3 k true x129000 x129001 x129002 x129003 x129004 x129005 x129006 x129007 x129008 x129009 x129010 x129011 x129012) else (span_Check.j3 k (decide (x129008 > 2)) x129000 x129001 x129002 x129003 x129004 x129005 x129006 x129007 x129008 x129009 x129010 x129011 x129012))))
def span_Check.j3 : Nat → Bool → Int → Int → Int → Int → List Int → ByteArray → ByteArray → Int → Int → Int → Int → List (S120) → List (S122) → Option (Int)
  | 0, _, _, _, _, _, _, _, _, _, _, _, _, _, _ => none
  | k + 1, x42, x129000, x129001, x129002, x129003, x129004, x129005, x129006, x129007, x129008, x129009, x129010, x129011, x129012 => if x42 = true then (some 44) else ((span_linked.f k x129000 x129001 x129002 x129003 x129004 x129005 x129006 x129007 x129008 x129009 x129010 x129011 x129012).bind fun t132 => (if t132 = true then ((span_carried.f k x129011).bind fun t133 => (if t133 = true then ((span_told.f k x129012).bind fun t134 => (if t134 = true then (some 0) else (some 47))) else (some 46))) else (some 45)))
end
def span_Check.f (k : Nat) (a0_0 : Int) (a0_1 : Int) (a0_2 : Int) (a0_3 : Int) (l0_4 : List Int) (a0_5 : ByteArray) (a0_6 : ByteArray) (a0_7 : Int) (a0_8 : Int) (a0_9 : Int) (a0_10 : Int) (l0_11 : List (S120)) (l0_12 : List (S122)) : Option (Int) := if (a0_0 == 0 && (a0_1 == 0)) = true then (span_Check.j0 k true a0_0 a0_1 a0_2 a0_3 l0_4 a0_5 a0_6 a0_7 a0_8 a0_9 a0_10 l0_11 l0_12) else (span_Check.j0 k (a0_2 == 0) a0_0 a0_1 a0_2 a0_3 l0_4 a0_5 a0_6 a0_7 a0_8 a0_9 a0_10 l0_11 l0_12)
theorem span_Check.mono_l : ∀ k, (∀ y0 y1 y2 y3 y4 y5 y6 y7 y8 y9 y10 y11 y12 y13, LeO (span_Check.j0 k y0 y1 y2 y3 y4 y5 y6 y7 y8 y9 y10 y11 y12 y13) (span_Check.j0 (k + 1) y0 y1 y2 y3 y4 y5 y6 y7 y8 y9 y10 y11 y12 y13)) ∧ (∀ y0 y1 y2 y3 y4 y5 y6 y7 y8 y9 y10 y11 y12 y13, LeO (span_Check.j1 k y0 y1 y2 y3 y4 y5 y6 y7 y8 y9 y10 y11 y12 y13) (span_Check.j1 (k + 1) y0 y1 y2 y3 y4 y5 y6 y7 y8 y9 y10 y11 y12 y13)) ∧ (∀ y0 y1 y2 y3 y4 y5 y6 y7 y8 y9 y10 y11 y12 y13, LeO (span_Check.j2 k y0 y1 y2 y3 y4 y5 y6 y7 y8 y9 y10 y11 y12 y13) (span_Check.j2 (k + 1) y0 y1 y2 y3 y4 y5 y6 y7 y8 y9 y10 y11 y12 y13)) ∧ (∀ y0 y1 y2 y3 y4 y5 y6 y7 y8 y9 y10 y11 y12 y13, LeO (span_Check.j3 k y0 y1 y2 y3 y4 y5 y6 y7 y8 y9 y10 y11 y12 y13) (span_Check.j3 (k + 1) y0 y1 y2 y3 y4 y5 y6 y7 y8 y9 y10 y11 y12 y13))
  | 0 => ⟨fun _ _ _ _ _ _ _ _ _ _ _ _ _ _ r h => by simp [span_Check.j0] at h, fun _ _ _ _ _ _ _ _ _ _ _ _ _ _ r h => by simp [span_Check.j1] at h, fun _ _ _ _ _ _ _ _ _ _ _ _ _ _ r h => by simp [span_Check.j2] at h, fun _ _ _ _ _ _ _ _ _ _ _ _ _ _ r h => by simp [span_Check.j3] at h⟩
  | k + 1 => by
    obtain ⟨ih0, ih1, ih2, ih3⟩ := span_Check.mono_l k
    refine ⟨?_, ?_, ?_, ?_⟩
    · intro y0 y1 y2 y3 y4 y5 y6 y7 y8 y9 y10 y11 y12 y13
      unfold span_Check.j0
      repeat' first
      | (with_reducible exact ih0 _ _ _ _ _ _ _ _ _ _ _ _ _ _)
      | (with_reducible exact ih1 _ _ _ _ _ _ _ _ _ _ _ _ _ _)
      | (with_reducible exact ih2 _ _ _ _ _ _ _ _ _ _ _ _ _ _)
      | (with_reducible exact ih3 _ _ _ _ _ _ _ _ _ _ _ _ _ _)
      | (with_reducible exact span_carried.mono _ _)
      | (with_reducible exact span_linked.mono _ _ _ _ _ _ _ _ _ _ _ _ _ _)
      | (with_reducible exact span_plain.mono _ _ _ _)
      | (with_reducible exact span_told.mono _ _)
      | (with_reducible exact LeO.refl _)
      | (with_reducible exact LeO.none _)
      | (with_reducible refine LeO.ite ?_ ?_)
      | (with_reducible refine LeO.bind ?_ (fun _ => ?_))
      | exact ih0 _ _ _ _ _ _ _ _ _ _ _ _ _ _
      | exact ih1 _ _ _ _ _ _ _ _ _ _ _ _ _ _
      | exact ih2 _ _ _ _ _ _ _ _ _ _ _ _ _ _
      | exact ih3 _ _ _ _ _ _ _ _ _ _ _ _ _ _
      | exact span_carried.mono _ _
      | exact span_linked.mono _ _ _ _ _ _ _ _ _ _ _ _ _ _
      | exact span_plain.mono _ _ _ _
      | exact span_told.mono _ _
      | exact LeO.none _
      | refine LeO.ite ?_ ?_
      | refine LeO.bind ?_ (fun _ => ?_)
    · intro y0 y1 y2 y3 y4 y5 y6 y7 y8 y9 y10 y11 y12 y13
      unfold span_Check.j1
      repeat' first
      | (with_reducible exact ih0 _ _ _ _ _ _ _ _ _ _ _ _ _ _)
      | (with_reducible exact ih1 _ _ _ _ _ _ _ _ _ _ _ _ _ _)
      | (with_reducible exact ih2 _ _ _ _ _ _ _ _ _ _ _ _ _ _)
      | (with_reducible exact ih3 _ _ _ _ _ _ _ _ _ _ _ _ _ _)
      | (with_reducible exact span_carried.mono _ _)
      | (with_reducible exact span_linked.mono _ _ _ _ _ _ _ _ _ _ _ _ _ _)
      | (with_reducible exact span_plain.mono _ _ _ _)
      | (with_reducible exact span_told.mono _ _)
      | (with_reducible exact LeO.refl _)
      | (with_reducible exact LeO.none _)
      | (with_reducible refine LeO.ite ?_ ?_)
      | (with_reducible refine LeO.bind ?_ (fun _ => ?_))
      | exact ih0 _ _ _ _ _ _ _ _ _ _ _ _ _ _
      | exact ih1 _ _ _ _ _ _ _ _ _ _ _ _ _ _
      | exact ih2 _ _ _ _ _ _ _ _ _ _ _ _ _ _
      | exact ih3 _ _ _ _ _ _ _ _ _ _ _ _ _ _
      | exact span_carried.mono _ _
      | exact span_linked.mono _ _ _ _ _ _ _ _ _ _ _ _ _ _
      | exact span_plain.mono _ _ _ _
      | exact span_told.mono _ _
      | exact LeO.none _
      | refine LeO.ite ?_ ?_
      | refine LeO.bind ?_ (fun _ => ?_)
    · intro y0 y1 y2 y3 y4 y5 y6 y7 y8 y9 y10 y11 y12 y13
      unfold span_Check.j2
      repeat' first
      | (with_reducible exact ih0 _ _ _ _ _ _ _ _ _ _ _ _ _ _)
      | (with_reducible exact ih1 _ _ _ _ _ _ _ _ _ _ _ _ _ _)
      | (with_reducible exact ih2 _ _ _ _ _ _ _ _ _ _ _ _ _ _)
      | (with_reducible exact ih3 _ _ _ _ _ _ _ _ _ _ _ _ _ _)
      | (with_reducible exact span_carried.mono _ _)
      | (with_reducible exact span_linked.mono _ _ _ _ _ _ _ _ _ _ _ _ _ _)
      | (with_reducible exact span_plain.mono _ _ _ _)
      | (with_reducible exact span_told.mono _ _)
      | (with_reducible exact LeO.refl _)
      | (with_reducible exact LeO.none _)
      | (with_reducible refine LeO.ite ?_ ?_)
      | (with_reducible refine LeO.bind ?_ (fun _ => ?_))
      | exact ih0 _ _ _ _ _ _ _ _ _ _ _ _ _ _
      | exact ih1 _ _ _ _ _ _ _ _ _ _ _ _ _ _
      | exact ih2 _ _ _ _ _ _ _ _ _ _ _ _ _ _
      | exact ih3 _ _ _ _ _ _ _ _ _ _ _ _ _ _
      | exact span_carried.mono _ _
      | exact span_linked.mono _ _ _ _ _ _ _ _ _ _ _ _ _ _
      | exact span_plain.mono _ _ _ _
      | exact span_told.mono _ _
      | exact LeO.none _
      | refine LeO.ite ?_ ?_
      | refine LeO.bind ?_ (fun _ => ?_)
    · intro y0 y1 y2 y3 y4 y5 y6 y7 y8 y9 y10 y11 y12 y13
      unfold span_Check.j3
      repeat' first
      | (with_reducible exact ih0 _ _ _ _ _ _ _ _ _ _ _ _ _ _)
      | (with_reducible exact ih1 _ _ _ _ _ _ _ _ _ _ _ _ _ _)
      | (with_reducible exact ih2 _ _ _ _ _ _ _ _ _ _ _ _ _ _)
      | (with_reducible exact ih3 _ _ _ _ _ _ _ _ _ _ _ _ _ _)
      | (with_reducible exact span_carried.mono _ _)
      | (with_reducible exact span_linked.mono _ _ _ _ _ _ _ _ _ _ _ _ _ _)
      | (with_reducible exact span_plain.mono _ _ _ _)
      | (with_reducible exact span_told.mono _ _)
      | (with_reducible exact LeO.refl _)
      | (with_reducible exact LeO.none _)
      | (with_reducible refine LeO.ite ?_ ?_)
      | (with_reducible refine LeO.bind ?_ (fun _ => ?_))
      | exact ih0 _ _ _ _ _ _ _ _ _ _ _ _ _ _
      | exact ih1 _ _ _ _ _ _ _ _ _ _ _ _ _ _
      | exact ih2 _ _ _ _ _ _ _ _ _ _ _ _ _ _
      | exact ih3 _ _ _ _ _ _ _ _ _ _ _ _ _ _
      | exact span_carried.mono _ _
      | exact span_linked.mono _ _ _ _ _ _ _ _ _ _ _ _ _ _
      | exact span_plain.mono _ _ _ _
      | exact span_told.mono _ _
      | exact LeO.none _
      | refine LeO.ite ?_ ?_
      | refine LeO.bind ?_ (fun _ => ?_)
theorem span_Check.mono : ∀ a0 a1 a2 a3 a4 a5 a6 a7 a8 a9 a10 a11 a12 k, LeO (span_Check.f k a0 a1 a2 a3 a4 a5 a6 a7 a8 a9 a10 a11 a12) (span_Check.f (k + 1) a0 a1 a2 a3 a4 a5 a6 a7 a8 a9 a10 a11 a12) := by
  intro a0 a1 a2 a3 a4 a5 a6 a7 a8 a9 a10 a11 a12 k
  obtain ⟨ih0, ih1, ih2, ih3⟩ := span_Check.mono_l k
  unfold span_Check.f
  repeat' first
      | (with_reducible exact ih0 _ _ _ _ _ _ _ _ _ _ _ _ _ _)
      | (with_reducible exact ih1 _ _ _ _ _ _ _ _ _ _ _ _ _ _)
      | (with_reducible exact ih2 _ _ _ _ _ _ _ _ _ _ _ _ _ _)
      | (with_reducible exact ih3 _ _ _ _ _ _ _ _ _ _ _ _ _ _)
      | (with_reducible exact span_carried.mono _ _)
      | (with_reducible exact span_linked.mono _ _ _ _ _ _ _ _ _ _ _ _ _ _)
      | (with_reducible exact span_plain.mono _ _ _ _)
      | (with_reducible exact span_told.mono _ _)
      | (with_reducible exact LeO.refl _)
      | (with_reducible exact LeO.none _)
      | (with_reducible refine LeO.ite ?_ ?_)
      | (with_reducible refine LeO.bind ?_ (fun _ => ?_))
      | exact ih0 _ _ _ _ _ _ _ _ _ _ _ _ _ _
      | exact ih1 _ _ _ _ _ _ _ _ _ _ _ _ _ _
      | exact ih2 _ _ _ _ _ _ _ _ _ _ _ _ _ _
      | exact ih3 _ _ _ _ _ _ _ _ _ _ _ _ _ _
      | exact span_carried.mono _ _
      | exact span_linked.mono _ _ _ _ _ _ _ _ _ _ _ _ _ _
      | exact span_plain.mono _ _ _ _
      | exact span_told.mono _ _
      | exact LeO.none _
      | refine LeO.ite ?_ ?_
      | refine LeO.bind ?_ (fun _ => ?_)
set_option maxHeartbeats 8000000 in
set_option maxRecDepth 100000 in
theorem span_Check.calls (k : Nat) (a0_0 : Int) (a0_1 : Int) (a0_2 : Int) (a0_3 : Int) (A0_4 : Option Addr) (c0_4 : Nat) (l0_4 : List Int) (a0_5 : ByteArray) (a0_6 : ByteArray) (a0_7 : Int) (a0_8 : Int) (a0_9 : Int) (a0_10 : Int) (A0_11 : Option Addr) (c0_11 : Nat) (l0_11 : List (S120)) (A0_12 : Option Addr) (c0_12 : Nat) (l0_12 : List (S122)) (r : Int) (w : World) (hr0_4 : Kd.C (Kd.int .u64) w A0_4 l0_4.length l0_4) (hc0_4 : l0_4.length ≤ c0_4) (hr0_11 : Kd.C k120 w A0_11 l0_11.length l0_11) (hc0_11 : l0_11.length ≤ c0_11) (hr0_12 : Kd.C k122 w A0_12 l0_12.length l0_12) (hc0_12 : l0_12.length ≤ c0_12) (h : span_Check.f k a0_0 a0_1 a0_2 a0_3 l0_4 a0_5 a0_6 a0_7 a0_8 a0_9 a0_10 l0_11 l0_12 = some r) (hTabs_ : Tabs w) :
    Calls Tryd.prog 63 #[.agg #[.int .u64 a0_0, .int .u64 a0_1, .int .u64 a0_2, .int .u64 a0_3, .slice A0_4 l0_4.length c0_4, .string a0_5, .string a0_6, .int .i64 a0_7, .int .i64 a0_8, .int .i64 a0_9, .int .i64 a0_10, .slice A0_11 l0_11.length c0_11, .slice A0_12 l0_12.length c0_12]] w fun e w' => e = .returned (.int .i64 r) ∧ Below w.heap.size w w' := by
  have HTabs0_ := Aside0.mk hTabs_
  clear hTabs_
  have hu43 := Tryd.underlying43
  have hu26 := Tryd.underlying26
  have HR0_4 := Aside0.mk hr0_4
  have HC0_4 := Aside0.mk hc0_4
  clear hr0_4 hc0_4
  have HR0_11 := Aside0.mk hr0_11
  have HC0_11 := Aside0.mk hc0_11
  clear hr0_11 hc0_11
  have HR0_12 := Aside0.mk hr0_12
  have HC0_12 := Aside0.mk hc0_12
  clear hr0_12 hc0_12
  have HB := Aside0.mk (Below.refl w.heap.size w)
  have H : (if (a0_0 == 0 && (a0_1 == 0)) = true then (span_Check.j0 k true a0_0 a0_1 a0_2 a0_3 l0_4 a0_5 a0_6 a0_7 a0_8 a0_9 a0_10 l0_11 l0_12) else (span_Check.j0 k (a0_2 == 0) a0_0 a0_1 a0_2 a0_3 l0_4 a0_5 a0_6 a0_7 a0_8 a0_9 a0_10 l0_11 l0_12)) = some r := h
  clear h
  have HC2 := Aside0.mk H
  clear H
  go_enter Tryd.func63, Tryd.ntmps63
  go_upto_region 2 with (first | ((with_reducible refine gate_dst (N := 1) rfl ?_); refine box_event ?hg (N := 1) ?hd (cs := #[.int .u64 a0_0, .int .u64 a0_1, .int .u64 a0_2, .int .u64 a0_3, .slice A0_4 l0_4.length c0_4, .string a0_5, .string a0_6, .int .i64 a0_7, .int .i64 a0_8, .int .i64 a0_9, .int .i64 a0_10, .slice A0_11 l0_11.length c0_11, .slice A0_12 l0_12.length c0_12]) (t := 43) ?hr ?_; (case hd => rfl); (case hg => rfl); (case hr => first | (go_simp; done) | (go_simp; rfl)); intro gb128 hg w3 hbox hb; have n0_ := Aside0.mk (below_step xq0 hb); have n1_ := Aside0.mk (hbox); have n2_ := Aside0.mk ((by rw [hg]; exact (below_size xq0) : w.heap.size ≤ gb128)); have n3_ := Aside0.mk ((by rw [hg]; exact (below_size xq0) : w.heap.size ≤ gb128)); clear HB; have HB := n0_; have BK128 := n1_; have GW128 := n2_; have GE128 := n3_; clear n0_ n1_ n2_ n3_; clear hb hbox hg) | ((with_reducible refine gate_dst (N := 3) rfl ?_); refine box_event ?hg (N := 3) ?hd (cs := #[.int .u64 0, .int .u64 0]) (t := 26) ?hr ?_; (case hd => rfl); (case hg => rfl); (case hr => first | (go_simp; done) | (go_simp; rfl)); intro gb129 hg w4 hbox hb; have n0_ := Aside0.mk (blk_below (g := gb128) (o := .cells #[.int .u64 a0_0, .int .u64 a0_1, .int .u64 a0_2, .int .u64 a0_3, .slice A0_4 l0_4.length c0_4, .string a0_5, .string a0_6, .int .i64 a0_7, .int .i64 a0_8, .int .i64 a0_9, .int .i64 a0_10, .slice A0_11 l0_11.length c0_11, .slice A0_12 l0_12.length c0_12] 43 (0, 0)) (xb BK128) hb); have n1_ := Aside0.mk (below_step xq1 hb); have n2_ := Aside0.mk (hbox); have n3_ := Aside0.mk ((by rw [hg]; exact (below_size xq1) : w.heap.size ≤ gb129)); have n4_ := Aside0.mk ((by rw [hg]; exact (below_size xq1) : w.heap.size ≤ gb129)); have n5_ := Aside0.mk ((by rw [hg]; exact Nat.ne_of_lt (blk_lt (g := gb128) (o := .cells #[.int .u64 a0_0, .int .u64 a0_1, .int .u64 a0_2, .int .u64 a0_3, .slice A0_4 l0_4.length c0_4, .string a0_5, .string a0_6, .int .i64 a0_7, .int .i64 a0_8, .int .i64 a0_9, .int .i64 a0_10, .slice A0_11 l0_11.length c0_11, .slice A0_12 l0_12.length c0_12] 43 (0, 0)) (xb BK128)) : gb128 ≠ gb129)); have n6_ := Aside0.mk ((by rw [hg]; exact Nat.ne_of_gt (blk_lt (g := gb128) (o := .cells #[.int .u64 a0_0, .int .u64 a0_1, .int .u64 a0_2, .int .u64 a0_3, .slice A0_4 l0_4.length c0_4, .string a0_5, .string a0_6, .int .i64 a0_7, .int .i64 a0_8, .int .i64 a0_9, .int .i64 a0_10, .slice A0_11 l0_11.length c0_11, .slice A0_12 l0_12.length c0_12] 43 (0, 0)) (xb BK128)) : gb129 ≠ gb128)); clear BK128; clear HB; have BK128 := n0_; have HB := n1_; have BK129 := n2_; have GW129 := n3_; have GE129 := n4_; have NB128_129 := n5_; have NB129_128 := n6_; clear n0_ n1_ n2_ n3_ n4_ n5_ n6_; clear hb hbox hg; have hnb5 := NB129_128.out; have hnc5 := NB128_129.out; have hcz6_0 : w4.cell? ⟨gb129, 0, none⟩ = some (.int .u64 0) := (blk_cell BK129.out 0).trans rfl; have hcz6_1 : w4.cell? ⟨gb129, 1, none⟩ = some (.int .u64 0) := (blk_cell BK129.out 1).trans rfl; have hfz6_0 := blk_frozen BK129.out 0; have hfz6_1 := blk_frozen BK129.out 1))
  (try simp only [Act.put, List.setIfInBounds_toArray, List.set_cons_zero, List.set_cons_succ])
  go_cut [5] (fun v5 wc => ∃ (kq : Nat) (x5_1 : Bool), v5 = .bool x5_1 ∧ Aside0 (span_Check.j0 kq x5_1 a0_0 a0_1 a0_2 a0_3 l0_4 a0_5 a0_6 a0_7 a0_8 a0_9 a0_10 l0_11 l0_12 = some r) ∧ Aside0 (kq ≤ k) ∧ Aside0 (wc.heap[gb128]? = some (.cells #[.int .u64 a0_0, .int .u64 a0_1, .int .u64 a0_2, .int .u64 a0_3, (.slice A0_4 l0_4.length c0_4), .string a0_5, .string a0_6, .int .i64 a0_7, .int .i64 a0_8, .int .i64 a0_9, .int .i64 a0_10, (.slice A0_11 l0_11.length c0_11), (.slice A0_12 l0_12.length c0_12)] 43 (0, 0))) ∧ Aside0 (wc.heap[gb129]? = some (.cells #[.int .u64 0, .int .u64 0] 26 (0, 0))) ∧ Aside0 (Below w.heap.size w wc))
  case first =>
    have H := HC2.out
    clear HC2
    by_cases c7 : (a0_0 == 0 && (a0_1 == 0)) = true
    · rw [if_pos c7] at H
      have c7b0 : (a0_0 == 0 && (a0_1 == 0)) = true := c7
      (try (have c7b1 : decide (a0_0 = 0 && (a0_1 == 0)) = true := by simpa using c7))
      (try (have c7b2 : (a0_0 == 0 && (a0_1 == 0)) = true := by simpa using c7))
      clear c7
      (first | rw [c7b0] | (simp only [i64_w, i32_w]; rw [c7b0]) | skip)
      have H' := Aside0.mk H
      clear H
      have hnb8 := NB128_129.out
      have hnc8 := NB129_128.out
      have hcz9_0 : w4.cell? ⟨gb128, 0, none⟩ = some (.int .u64 a0_0) := (blk_cell BK128.out 0).trans rfl
      have hcz9_1 : w4.cell? ⟨gb128, 1, none⟩ = some (.int .u64 a0_1) := (blk_cell BK128.out 1).trans rfl
      have hcz9_2 : w4.cell? ⟨gb128, 2, none⟩ = some (.int .u64 a0_2) := (blk_cell BK128.out 2).trans rfl
      have hcz9_3 : w4.cell? ⟨gb128, 3, none⟩ = some (.int .u64 a0_3) := (blk_cell BK128.out 3).trans rfl
      have hcz9_4 : w4.cell? ⟨gb128, 4, none⟩ = some (.slice A0_4 l0_4.length c0_4) := (blk_cell BK128.out 4).trans rfl
      have hcz9_5 : w4.cell? ⟨gb128, 5, none⟩ = some (.string a0_5) := (blk_cell BK128.out 5).trans rfl
      have hcz9_6 : w4.cell? ⟨gb128, 6, none⟩ = some (.string a0_6) := (blk_cell BK128.out 6).trans rfl
      have hcz9_7 : w4.cell? ⟨gb128, 7, none⟩ = some (.int .i64 a0_7) := (blk_cell BK128.out 7).trans rfl
      have hcz9_8 : w4.cell? ⟨gb128, 8, none⟩ = some (.int .i64 a0_8) := (blk_cell BK128.out 8).trans rfl
      have hcz9_9 : w4.cell? ⟨gb128, 9, none⟩ = some (.int .i64 a0_9) := (blk_cell BK128.out 9).trans rfl
      have hcz9_10 : w4.cell? ⟨gb128, 10, none⟩ = some (.int .i64 a0_10) := (blk_cell BK128.out 10).trans rfl
      have hcz9_11 : w4.cell? ⟨gb128, 11, none⟩ = some (.slice A0_11 l0_11.length c0_11) := (blk_cell BK128.out 11).trans rfl
      have hcz9_12 : w4.cell? ⟨gb128, 12, none⟩ = some (.slice A0_12 l0_12.length c0_12) := (blk_cell BK128.out 12).trans rfl
      have hfz9_0 := blk_frozen BK128.out 0
      have hfz9_1 := blk_frozen BK128.out 1
      have hfz9_2 := blk_frozen BK128.out 2
      have hfz9_3 := blk_frozen BK128.out 3
      have hfz9_4 := blk_frozen BK128.out 4
      have hfz9_5 := blk_frozen BK128.out 5
      have hfz9_6 := blk_frozen BK128.out 6
      have hfz9_7 := blk_frozen BK128.out 7
      have hfz9_8 := blk_frozen BK128.out 8
      have hfz9_9 := blk_frozen BK128.out 9
      have hfz9_10 := blk_frozen BK128.out 10
      have hfz9_11 := blk_frozen BK128.out 11
      have hfz9_12 := blk_frozen BK128.out 12
      have hcz10_0 : w4.cell? ⟨gb129, 0, none⟩ = some (.int .u64 0) := (blk_cell BK129.out 0).trans rfl
      have hcz10_1 : w4.cell? ⟨gb129, 1, none⟩ = some (.int .u64 0) := (blk_cell BK129.out 1).trans rfl
      have hfz10_0 := blk_frozen BK129.out 0
      have hfz10_1 := blk_frozen BK129.out 1
      go_wp2
      go_meet
      case rel => exact ⟨_, (true), (by first | rfl | (simp; done) | (simp [*]; done)), H', ⟨by first | omega | exact Nat.le_refl _⟩, ⟨by (with_reducible repeat (first | refine blk_drewN ?_ _ | refine blk_drew ?_ | refine blk_alloc ?_ _)); refine blk_far ?_ NB128_129.out _; (with_reducible repeat (first | refine blk_drewN ?_ _ | refine blk_drew ?_ | refine blk_alloc ?_ _)); refine blk_far ?_ NB128_129.out _; (with_reducible repeat (first | refine blk_drewN ?_ _ | refine blk_drew ?_ | refine blk_alloc ?_ _)); exact BK128.out⟩, ⟨by (with_reducible repeat (first | refine blk_drewN ?_ _ | refine blk_drew ?_ | refine blk_alloc ?_ _)); refine blk_put (cs := #[.int .u64 0, .int .u64 0]) ?_ 1 _ rfl; (with_reducible repeat (first | refine blk_drewN ?_ _ | refine blk_drew ?_ | refine blk_alloc ?_ _)); refine blk_put (cs := #[.int .u64 0, .int .u64 0]) ?_ 0 _ rfl; (with_reducible repeat (first | refine blk_drewN ?_ _ | refine blk_drew ?_ | refine blk_alloc ?_ _)); exact BK129.out⟩, ⟨by repeat (first | (with_reducible first | exact HB.out | apply below_alloc | apply pw_below_drewN | apply below_drew1 | refine below_set ?_ GE128.out | refine below_set ?_ GE129.out) | exact HB.out)⟩⟩
    · rw [if_neg c7] at H
      have c7b0 : (a0_0 == 0 && (a0_1 == 0)) = false := by simpa using c7
      (try (have c7b1 : decide (a0_0 = 0 && (a0_1 == 0)) = false := by simpa using c7))
      (try (have c7b2 : (a0_0 == 0 && (a0_1 == 0)) = false := by simpa using c7))
      (try (have c7b3 : ¬ (a0_0 = 0 && (a0_1 == 0)) := by simpa using c7))
      clear c7
      (first | rw [c7b0] | (simp only [i64_w, i32_w]; rw [c7b0]) | skip)
      have H' := Aside0.mk H
      clear H
      have hnb11 := NB128_129.out
      have hnc11 := NB129_128.out
      have hcz12_0 : w4.cell? ⟨gb128, 0, none⟩ = some (.int .u64 a0_0) := (blk_cell BK128.out 0).trans rfl
      have hcz12_1 : w4.cell? ⟨gb128, 1, none⟩ = some (.int .u64 a0_1) := (blk_cell BK128.out 1).trans rfl
      have hcz12_2 : w4.cell? ⟨gb128, 2, none⟩ = some (.int .u64 a0_2) := (blk_cell BK128.out 2).trans rfl
      have hcz12_3 : w4.cell? ⟨gb128, 3, none⟩ = some (.int .u64 a0_3) := (blk_cell BK128.out 3).trans rfl
      have hcz12_4 : w4.cell? ⟨gb128, 4, none⟩ = some (.slice A0_4 l0_4.length c0_4) := (blk_cell BK128.out 4).trans rfl
      have hcz12_5 : w4.cell? ⟨gb128, 5, none⟩ = some (.string a0_5) := (blk_cell BK128.out 5).trans rfl
      have hcz12_6 : w4.cell? ⟨gb128, 6, none⟩ = some (.string a0_6) := (blk_cell BK128.out 6).trans rfl
      have hcz12_7 : w4.cell? ⟨gb128, 7, none⟩ = some (.int .i64 a0_7) := (blk_cell BK128.out 7).trans rfl
      have hcz12_8 : w4.cell? ⟨gb128, 8, none⟩ = some (.int .i64 a0_8) := (blk_cell BK128.out 8).trans rfl
      have hcz12_9 : w4.cell? ⟨gb128, 9, none⟩ = some (.int .i64 a0_9) := (blk_cell BK128.out 9).trans rfl
      have hcz12_10 : w4.cell? ⟨gb128, 10, none⟩ = some (.int .i64 a0_10) := (blk_cell BK128.out 10).trans rfl
      have hcz12_11 : w4.cell? ⟨gb128, 11, none⟩ = some (.slice A0_11 l0_11.length c0_11) := (blk_cell BK128.out 11).trans rfl
      have hcz12_12 : w4.cell? ⟨gb128, 12, none⟩ = some (.slice A0_12 l0_12.length c0_12) := (blk_cell BK128.out 12).trans rfl
      have hfz12_0 := blk_frozen BK128.out 0
      have hfz12_1 := blk_frozen BK128.out 1
      have hfz12_2 := blk_frozen BK128.out 2
      have hfz12_3 := blk_frozen BK128.out 3
      have hfz12_4 := blk_frozen BK128.out 4
      have hfz12_5 := blk_frozen BK128.out 5
      have hfz12_6 := blk_frozen BK128.out 6
      have hfz12_7 := blk_frozen BK128.out 7
      have hfz12_8 := blk_frozen BK128.out 8
      have hfz12_9 := blk_frozen BK128.out 9
      have hfz12_10 := blk_frozen BK128.out 10
      have hfz12_11 := blk_frozen BK128.out 11
      have hfz12_12 := blk_frozen BK128.out 12
      have hcz13_0 : w4.cell? ⟨gb129, 0, none⟩ = some (.int .u64 0) := (blk_cell BK129.out 0).trans rfl
      have hcz13_1 : w4.cell? ⟨gb129, 1, none⟩ = some (.int .u64 0) := (blk_cell BK129.out 1).trans rfl
      have hfz13_0 := blk_frozen BK129.out 0
      have hfz13_1 := blk_frozen BK129.out 1
      go_wp2
      go_meet
      case rel => exact ⟨_, ((a0_2 == 0)), (by first | rfl | (simp; done) | (simp [*]; done)), H', ⟨by first | omega | exact Nat.le_refl _⟩, ⟨by (with_reducible repeat (first | refine blk_drewN ?_ _ | refine blk_drew ?_ | refine blk_alloc ?_ _)); refine blk_far ?_ NB128_129.out _; (with_reducible repeat (first | refine blk_drewN ?_ _ | refine blk_drew ?_ | refine blk_alloc ?_ _)); refine blk_far ?_ NB128_129.out _; (with_reducible repeat (first | refine blk_drewN ?_ _ | refine blk_drew ?_ | refine blk_alloc ?_ _)); exact BK128.out⟩, ⟨by (with_reducible repeat (first | refine blk_drewN ?_ _ | refine blk_drew ?_ | refine blk_alloc ?_ _)); refine blk_put (cs := #[.int .u64 0, .int .u64 0]) ?_ 1 _ rfl; (with_reducible repeat (first | refine blk_drewN ?_ _ | refine blk_drew ?_ | refine blk_alloc ?_ _)); refine blk_put (cs := #[.int .u64 0, .int .u64 0]) ?_ 0 _ rfl; (with_reducible repeat (first | refine blk_drewN ?_ _ | refine blk_drew ?_ | refine blk_alloc ?_ _)); exact BK129.out⟩, ⟨by repeat (first | (with_reducible first | exact HB.out | apply below_alloc | apply pw_below_drewN | apply below_drew1 | refine below_set ?_ GE128.out | refine below_set ?_ GE129.out) | exact HB.out)⟩⟩
  case rest =>
    clear HC2
    try clear c1
    try clear p2
    try clear c5
    try clear c6
    try clear c7
    try clear c7b0
    try clear c7b1
    try clear c7b2
    try clear c8
    try clear c11
    try clear hcz10_0
    try clear hcz10_1
    try clear hcz12_0
    try clear hcz12_1
    try clear hcz12_10
    try clear hcz12_11
    try clear hcz12_12
    try clear hcz12_2
    try clear hcz12_3
    try clear hcz12_4
    try clear hcz12_5
    try clear hcz12_6
    try clear hcz12_7
    try clear hcz12_8
    try clear hcz12_9
    try clear hcz13_0
    try clear hcz13_1
    try clear hcz6_0
    try clear hcz6_1
    try clear hcz9_0
    try clear hcz9_1
    try clear hcz9_10
    try clear hcz9_11
    try clear hcz9_12
    try clear hcz9_2
    try clear hcz9_3
    try clear hcz9_4
    try clear hcz9_5
    try clear hcz9_6
    try clear hcz9_7
    try clear hcz9_8
    try clear hcz9_9
    try clear hfz10_0
    try clear hfz10_1
    try clear hfz12_0
    try clear hfz12_1
    try clear hfz12_10
    try clear hfz12_11
    try clear hfz12_12
    try clear hfz12_2
    try clear hfz12_3
    try clear hfz12_4
    try clear hfz12_5
    try clear hfz12_6
    try clear hfz12_7
    try clear hfz12_8
    try clear hfz12_9
    try clear hfz13_0
    try clear hfz13_1
    try clear hfz6_0
    try clear hfz6_1
    try clear hfz9_0
    try clear hfz9_1
    try clear hfz9_10
    try clear hfz9_11
    try clear hfz9_12
    try clear hfz9_2
    try clear hfz9_3
    try clear hfz9_4
    try clear hfz9_5
    try clear hfz9_6
    try clear hfz9_7
    try clear hfz9_8
    try clear hfz9_9
    obtain ⟨kq, x5_1, rfl, HA, HJ1, BK128, BK129, HB⟩ := hcut
    cases kq with
    | zero => exact absurd HA.out (by simp [span_Check.j0])
    | succ kj1 =>
      have H := HA.out
      clear HA
      simp only [span_Check.j0] at H
      by_cases c14 : x5_1 = true
      · subst c14
        have H1 : (some 41) = some r := by rw [if_pos rfl] at H; exact H
        clear H
        have H := H1
        clear H1
        obtain rfl := Option.some.inj H
        go_wp2
        go_ret
        exact ⟨by first | rfl | (simp [errW_none, errW_some] <;> rfl) | (simp [*, errW_none, errW_some] <;> rfl), by repeat (first | (with_reducible first | exact HB.out | apply below_alloc | apply pw_below_drewN | apply below_drew1 | refine below_set ?_ GE128.out | refine below_set ?_ GE129.out) | exact HB.out)⟩
      · replace c14 := Bool.eq_false_iff.mpr c14
        subst c14
        have H1 : (if a0_9 < 0 then (span_Check.j1 kj1 true a0_0 a0_1 a0_2 a0_3 l0_4 a0_5 a0_6 a0_7 a0_8 a0_9 a0_10 l0_11 l0_12) else (if a0_9 > a0_10 then (span_Check.j1 kj1 true a0_0 a0_1 a0_2 a0_3 l0_4 a0_5 a0_6 a0_7 a0_8 a0_9 a0_10 l0_11 l0_12) else (span_Check.j1 kj1 (decide (a0_10 > 4611686018427387904)) a0_0 a0_1 a0_2 a0_3 l0_4 a0_5 a0_6 a0_7 a0_8 a0_9 a0_10 l0_11 l0_12))) = some r := by rw [if_neg (show ¬ (false = true) by decide)] at H; exact H
        clear H
        have H := H1
        clear H1
        have HC15 := Aside0.mk H
        clear H
        go_upto_region 4 with (fail)
        go_cut [15] (fun v15 wc => ∃ (kq : Nat) (x15_14 : Bool), v15 = .bool x15_14 ∧ Aside0 (span_Check.j1 kq x15_14 a0_0 a0_1 a0_2 a0_3 l0_4 a0_5 a0_6 a0_7 a0_8 a0_9 a0_10 l0_11 l0_12 = some r) ∧ Aside0 (kq ≤ kj1) ∧ Aside0 (wc.heap[gb128]? = some (.cells #[.int .u64 a0_0, .int .u64 a0_1, .int .u64 a0_2, .int .u64 a0_3, (.slice A0_4 l0_4.length c0_4), .string a0_5, .string a0_6, .int .i64 a0_7, .int .i64 a0_8, .int .i64 a0_9, .int .i64 a0_10, (.slice A0_11 l0_11.length c0_11), (.slice A0_12 l0_12.length c0_12)] 43 (0, 0))) ∧ Aside0 (wc.heap[gb129]? = some (.cells #[.int .u64 0, .int .u64 0] 26 (0, 0))) ∧ Aside0 (Below w.heap.size w wc))
        case first =>
          have H := HC15.out
          clear HC15
          by_cases c16 : a0_9 < 0
          · rw [if_pos c16] at H
            have c16b0 : decide (a0_9 < 0) = true := decide_eq_true c16
            clear c16
            (first | rw [c16b0] | (simp only [i64_w, i32_w]; rw [c16b0]) | skip)
            have H' := Aside0.mk H
            clear H
            have hnb17 := NB128_129.out
            have hnc17 := NB129_128.out
            have hcz18_0 : wc.cell? ⟨gb128, 0, none⟩ = some (.int .u64 a0_0) := (blk_cell BK128.out 0).trans rfl
            have hcz18_1 : wc.cell? ⟨gb128, 1, none⟩ = some (.int .u64 a0_1) := (blk_cell BK128.out 1).trans rfl
            have hcz18_2 : wc.cell? ⟨gb128, 2, none⟩ = some (.int .u64 a0_2) := (blk_cell BK128.out 2).trans rfl
            have hcz18_3 : wc.cell? ⟨gb128, 3, none⟩ = some (.int .u64 a0_3) := (blk_cell BK128.out 3).trans rfl
            have hcz18_4 : wc.cell? ⟨gb128, 4, none⟩ = some (.slice A0_4 l0_4.length c0_4) := (blk_cell BK128.out 4).trans rfl
            have hcz18_5 : wc.cell? ⟨gb128, 5, none⟩ = some (.string a0_5) := (blk_cell BK128.out 5).trans rfl
            have hcz18_6 : wc.cell? ⟨gb128, 6, none⟩ = some (.string a0_6) := (blk_cell BK128.out 6).trans rfl
            have hcz18_7 : wc.cell? ⟨gb128, 7, none⟩ = some (.int .i64 a0_7) := (blk_cell BK128.out 7).trans rfl
            have hcz18_8 : wc.cell? ⟨gb128, 8, none⟩ = some (.int .i64 a0_8) := (blk_cell BK128.out 8).trans rfl
            have hcz18_9 : wc.cell? ⟨gb128, 9, none⟩ = some (.int .i64 a0_9) := (blk_cell BK128.out 9).trans rfl
            have hcz18_10 : wc.cell? ⟨gb128, 10, none⟩ = some (.int .i64 a0_10) := (blk_cell BK128.out 10).trans rfl
            have hcz18_11 : wc.cell? ⟨gb128, 11, none⟩ = some (.slice A0_11 l0_11.length c0_11) := (blk_cell BK128.out 11).trans rfl
            have hcz18_12 : wc.cell? ⟨gb128, 12, none⟩ = some (.slice A0_12 l0_12.length c0_12) := (blk_cell BK128.out 12).trans rfl
            have hfz18_0 := blk_frozen BK128.out 0
            have hfz18_1 := blk_frozen BK128.out 1
            have hfz18_2 := blk_frozen BK128.out 2
            have hfz18_3 := blk_frozen BK128.out 3
            have hfz18_4 := blk_frozen BK128.out 4
            have hfz18_5 := blk_frozen BK128.out 5
            have hfz18_6 := blk_frozen BK128.out 6
            have hfz18_7 := blk_frozen BK128.out 7
            have hfz18_8 := blk_frozen BK128.out 8
            have hfz18_9 := blk_frozen BK128.out 9
            have hfz18_10 := blk_frozen BK128.out 10
            have hfz18_11 := blk_frozen BK128.out 11
            have hfz18_12 := blk_frozen BK128.out 12
            go_wp2
            go_meet
            case rel => exact ⟨_, (true), (by first | rfl | (simp; done) | (simp [*]; done)), H', ⟨by have := HJ1.out; first | omega | exact Nat.le_refl _⟩, ⟨by (with_reducible repeat (first | refine blk_drewN ?_ _ | refine blk_drew ?_ | refine blk_alloc ?_ _)); exact BK128.out⟩, ⟨by (with_reducible repeat (first | refine blk_drewN ?_ _ | refine blk_drew ?_ | refine blk_alloc ?_ _)); exact BK129.out⟩, ⟨by repeat (first | (with_reducible first | exact HB.out | apply below_alloc | apply pw_below_drewN | apply below_drew1 | refine below_set ?_ GE128.out | refine below_set ?_ GE129.out) | exact HB.out)⟩⟩
          · rw [if_neg c16] at H
            have c16b0 : decide (a0_9 < 0) = false := decide_eq_false c16
            clear c16
            (first | rw [c16b0] | (simp only [i64_w, i32_w]; rw [c16b0]) | skip)
            by_cases c19 : a0_9 > a0_10
            · rw [if_pos c19] at H
              have c19b0 : decide (a0_10 < a0_9) = true := decide_eq_true c19
              clear c19
              have H' := Aside0.mk H
              clear H
              have hnb20 := NB128_129.out
              have hnc20 := NB129_128.out
              have hcz21_0 : wc.cell? ⟨gb128, 0, none⟩ = some (.int .u64 a0_0) := (blk_cell BK128.out 0).trans rfl
              have hcz21_1 : wc.cell? ⟨gb128, 1, none⟩ = some (.int .u64 a0_1) := (blk_cell BK128.out 1).trans rfl
              have hcz21_2 : wc.cell? ⟨gb128, 2, none⟩ = some (.int .u64 a0_2) := (blk_cell BK128.out 2).trans rfl
              have hcz21_3 : wc.cell? ⟨gb128, 3, none⟩ = some (.int .u64 a0_3) := (blk_cell BK128.out 3).trans rfl
              have hcz21_4 : wc.cell? ⟨gb128, 4, none⟩ = some (.slice A0_4 l0_4.length c0_4) := (blk_cell BK128.out 4).trans rfl
              have hcz21_5 : wc.cell? ⟨gb128, 5, none⟩ = some (.string a0_5) := (blk_cell BK128.out 5).trans rfl
              have hcz21_6 : wc.cell? ⟨gb128, 6, none⟩ = some (.string a0_6) := (blk_cell BK128.out 6).trans rfl
              have hcz21_7 : wc.cell? ⟨gb128, 7, none⟩ = some (.int .i64 a0_7) := (blk_cell BK128.out 7).trans rfl
              have hcz21_8 : wc.cell? ⟨gb128, 8, none⟩ = some (.int .i64 a0_8) := (blk_cell BK128.out 8).trans rfl
              have hcz21_9 : wc.cell? ⟨gb128, 9, none⟩ = some (.int .i64 a0_9) := (blk_cell BK128.out 9).trans rfl
              have hcz21_10 : wc.cell? ⟨gb128, 10, none⟩ = some (.int .i64 a0_10) := (blk_cell BK128.out 10).trans rfl
              have hcz21_11 : wc.cell? ⟨gb128, 11, none⟩ = some (.slice A0_11 l0_11.length c0_11) := (blk_cell BK128.out 11).trans rfl
              have hcz21_12 : wc.cell? ⟨gb128, 12, none⟩ = some (.slice A0_12 l0_12.length c0_12) := (blk_cell BK128.out 12).trans rfl
              have hfz21_0 := blk_frozen BK128.out 0
              have hfz21_1 := blk_frozen BK128.out 1
              have hfz21_2 := blk_frozen BK128.out 2
              have hfz21_3 := blk_frozen BK128.out 3
              have hfz21_4 := blk_frozen BK128.out 4
              have hfz21_5 := blk_frozen BK128.out 5
              have hfz21_6 := blk_frozen BK128.out 6
              have hfz21_7 := blk_frozen BK128.out 7
              have hfz21_8 := blk_frozen BK128.out 8
              have hfz21_9 := blk_frozen BK128.out 9
              have hfz21_10 := blk_frozen BK128.out 10
              have hfz21_11 := blk_frozen BK128.out 11
              have hfz21_12 := blk_frozen BK128.out 12
              go_wp2
              go_meet
              case rel => exact ⟨_, (true), (by first | rfl | (simp; done) | (simp [*]; done)), H', ⟨by have := HJ1.out; first | omega | exact Nat.le_refl _⟩, ⟨by (with_reducible repeat (first | refine blk_drewN ?_ _ | refine blk_drew ?_ | refine blk_alloc ?_ _)); exact BK128.out⟩, ⟨by (with_reducible repeat (first | refine blk_drewN ?_ _ | refine blk_drew ?_ | refine blk_alloc ?_ _)); exact BK129.out⟩, ⟨by repeat (first | (with_reducible first | exact HB.out | apply below_alloc | apply pw_below_drewN | apply below_drew1 | refine below_set ?_ GE128.out | refine below_set ?_ GE129.out) | exact HB.out)⟩⟩
            · rw [if_neg c19] at H
              have c19b0 : decide (a0_10 < a0_9) = false := decide_eq_false c19
              clear c19
              have H' := Aside0.mk H
              clear H
              have hnb22 := NB128_129.out
              have hnc22 := NB129_128.out
              have hcz23_0 : wc.cell? ⟨gb128, 0, none⟩ = some (.int .u64 a0_0) := (blk_cell BK128.out 0).trans rfl
              have hcz23_1 : wc.cell? ⟨gb128, 1, none⟩ = some (.int .u64 a0_1) := (blk_cell BK128.out 1).trans rfl
              have hcz23_2 : wc.cell? ⟨gb128, 2, none⟩ = some (.int .u64 a0_2) := (blk_cell BK128.out 2).trans rfl
              have hcz23_3 : wc.cell? ⟨gb128, 3, none⟩ = some (.int .u64 a0_3) := (blk_cell BK128.out 3).trans rfl
              have hcz23_4 : wc.cell? ⟨gb128, 4, none⟩ = some (.slice A0_4 l0_4.length c0_4) := (blk_cell BK128.out 4).trans rfl
              have hcz23_5 : wc.cell? ⟨gb128, 5, none⟩ = some (.string a0_5) := (blk_cell BK128.out 5).trans rfl
              have hcz23_6 : wc.cell? ⟨gb128, 6, none⟩ = some (.string a0_6) := (blk_cell BK128.out 6).trans rfl
              have hcz23_7 : wc.cell? ⟨gb128, 7, none⟩ = some (.int .i64 a0_7) := (blk_cell BK128.out 7).trans rfl
              have hcz23_8 : wc.cell? ⟨gb128, 8, none⟩ = some (.int .i64 a0_8) := (blk_cell BK128.out 8).trans rfl
              have hcz23_9 : wc.cell? ⟨gb128, 9, none⟩ = some (.int .i64 a0_9) := (blk_cell BK128.out 9).trans rfl
              have hcz23_10 : wc.cell? ⟨gb128, 10, none⟩ = some (.int .i64 a0_10) := (blk_cell BK128.out 10).trans rfl
              have hcz23_11 : wc.cell? ⟨gb128, 11, none⟩ = some (.slice A0_11 l0_11.length c0_11) := (blk_cell BK128.out 11).trans rfl
              have hcz23_12 : wc.cell? ⟨gb128, 12, none⟩ = some (.slice A0_12 l0_12.length c0_12) := (blk_cell BK128.out 12).trans rfl
              have hfz23_0 := blk_frozen BK128.out 0
              have hfz23_1 := blk_frozen BK128.out 1
              have hfz23_2 := blk_frozen BK128.out 2
              have hfz23_3 := blk_frozen BK128.out 3
              have hfz23_4 := blk_frozen BK128.out 4
              have hfz23_5 := blk_frozen BK128.out 5
              have hfz23_6 := blk_frozen BK128.out 6
              have hfz23_7 := blk_frozen BK128.out 7
              have hfz23_8 := blk_frozen BK128.out 8
              have hfz23_9 := blk_frozen BK128.out 9
              have hfz23_10 := blk_frozen BK128.out 10
              have hfz23_11 := blk_frozen BK128.out 11
              have hfz23_12 := blk_frozen BK128.out 12
              go_wp2
              go_meet
              case rel => exact ⟨_, (decide (a0_10 > 4611686018427387904)), (by first | rfl | (simp; done) | (simp [*]; done)), H', ⟨by have := HJ1.out; first | omega | exact Nat.le_refl _⟩, ⟨by (with_reducible repeat (first | refine blk_drewN ?_ _ | refine blk_drew ?_ | refine blk_alloc ?_ _)); exact BK128.out⟩, ⟨by (with_reducible repeat (first | refine blk_drewN ?_ _ | refine blk_drew ?_ | refine blk_alloc ?_ _)); exact BK129.out⟩, ⟨by repeat (first | (with_reducible first | exact HB.out | apply below_alloc | apply pw_below_drewN | apply below_drew1 | refine below_set ?_ GE128.out | refine below_set ?_ GE129.out) | exact HB.out)⟩⟩
        case rest =>
          clear HC15
          try clear c1
          try clear c2
          try clear p2
          try clear c5
          try clear c6
          try clear c7
          try clear c7b0
          try clear c7b1
          try clear c7b2
          try clear c8
          try clear c11
          try clear c14
          try clear c16
          try clear c16b0
          try clear c17
          try clear c19
          try clear c19b0
          try clear c20
          try clear c22
          try clear hcz10_0
          try clear hcz10_1
          try clear hcz12_0
          try clear hcz12_1
          try clear hcz12_10
          try clear hcz12_11
          try clear hcz12_12
          try clear hcz12_2
          try clear hcz12_3
          try clear hcz12_4
          try clear hcz12_5
          try clear hcz12_6
          try clear hcz12_7
          try clear hcz12_8
          try clear hcz12_9
          try clear hcz13_0
          try clear hcz13_1
          try clear hcz18_0
          try clear hcz18_1
          try clear hcz18_10
          try clear hcz18_11
          try clear hcz18_12
          try clear hcz18_2
          try clear hcz18_3
          try clear hcz18_4
          try clear hcz18_5
          try clear hcz18_6
          try clear hcz18_7
          try clear hcz18_8
          try clear hcz18_9
          try clear hcz21_0
          try clear hcz21_1
          try clear hcz21_10
          try clear hcz21_11
          try clear hcz21_12
          try clear hcz21_2
          try clear hcz21_3
          try clear hcz21_4
          try clear hcz21_5
          try clear hcz21_6
          try clear hcz21_7
          try clear hcz21_8
          try clear hcz21_9
          try clear hcz23_0
          try clear hcz23_1
          try clear hcz23_10
          try clear hcz23_11
          try clear hcz23_12
          try clear hcz23_2
          try clear hcz23_3
          try clear hcz23_4
          try clear hcz23_5
          try clear hcz23_6
          try clear hcz23_7
          try clear hcz23_8
          try clear hcz23_9
          try clear hcz6_0
          try clear hcz6_1
          try clear hcz9_0
          try clear hcz9_1
          try clear hcz9_10
          try clear hcz9_11
          try clear hcz9_12
          try clear hcz9_2
          try clear hcz9_3
          try clear hcz9_4
          try clear hcz9_5
          try clear hcz9_6
          try clear hcz9_7
          try clear hcz9_8
          try clear hcz9_9
          try clear hfz10_0
          try clear hfz10_1
          try clear hfz12_0
          try clear hfz12_1
          try clear hfz12_10
          try clear hfz12_11
          try clear hfz12_12
          try clear hfz12_2
          try clear hfz12_3
          try clear hfz12_4
          try clear hfz12_5
          try clear hfz12_6
          try clear hfz12_7
          try clear hfz12_8
          try clear hfz12_9
          try clear hfz13_0
          try clear hfz13_1
          try clear hfz18_0
          try clear hfz18_1
          try clear hfz18_10
          try clear hfz18_11
          try clear hfz18_12
          try clear hfz18_2
          try clear hfz18_3
          try clear hfz18_4
          try clear hfz18_5
          try clear hfz18_6
          try clear hfz18_7
          try clear hfz18_8
          try clear hfz18_9
          try clear hfz21_0
          try clear hfz21_1
          try clear hfz21_10
          try clear hfz21_11
          try clear hfz21_12
          try clear hfz21_2
          try clear hfz21_3
          try clear hfz21_4
          try clear hfz21_5
          try clear hfz21_6
          try clear hfz21_7
          try clear hfz21_8
          try clear hfz21_9
          try clear hfz23_0
          try clear hfz23_1
          try clear hfz23_10
          try clear hfz23_11
          try clear hfz23_12
          try clear hfz23_2
          try clear hfz23_3
          try clear hfz23_4
          try clear hfz23_5
          try clear hfz23_6
          try clear hfz23_7
          try clear hfz23_8
          try clear hfz23_9
          try clear hfz6_0
          try clear hfz6_1
          try clear hfz9_0
          try clear hfz9_1
          try clear hfz9_10
          try clear hfz9_11
          try clear hfz9_12
          try clear hfz9_2
          try clear hfz9_3
          try clear hfz9_4
          try clear hfz9_5
          try clear hfz9_6
          try clear hfz9_7
          try clear hfz9_8
          try clear hfz9_9
          try clear p2
          obtain ⟨kq, x15_14, rfl, HA, HJ14, BK128, BK129, HB⟩ := hcut
          cases kq with
          | zero => exact absurd HA.out (by simp [span_Check.j1])
          | succ kj14 =>
            have H := HA.out
            clear HA
            simp only [span_Check.j1] at H
            by_cases c24 : x15_14 = true
            · subst c24
              have H1 : (some 42) = some r := by rw [if_pos rfl] at H; exact H
              clear H
              have H := H1
              clear H1
              obtain rfl := Option.some.inj H
              go_wp2
              go_ret
              exact ⟨by first | rfl | (simp [errW_none, errW_some] <;> rfl) | (simp [*, errW_none, errW_some] <;> rfl), by repeat (first | (with_reducible first | exact HB.out | apply below_alloc | apply pw_below_drewN | apply below_drew1 | refine below_set ?_ GE128.out | refine below_set ?_ GE129.out) | exact HB.out)⟩
            · replace c24 := Bool.eq_false_iff.mpr c24
              subst c24
              have H1 : ((span_plain.f kj14 a0_5 60 33).bind fun t130 => (if t130 = true then ((span_plain.f kj14 a0_6 100 32).bind fun t131 => (span_Check.j2 kj14 (!t131) a0_0 a0_1 a0_2 a0_3 l0_4 a0_5 a0_6 a0_7 a0_8 a0_9 a0_10 l0_11 l0_12)) else (span_Check.j2 kj14 true a0_0 a0_1 a0_2 a0_3 l0_4 a0_5 a0_6 a0_7 a0_8 a0_9 a0_10 l0_11 l0_12))) = some r := by rw [if_neg (show ¬ (false = true) by decide)] at H; exact H
              clear H
              have H := H1
              clear H1
              have HC25 := Aside0.mk H
              clear H
              go_upto_region 6 with (fail)
              go_cut [31] (fun v31 wc => ∃ (kq : Nat) (x31_24 : Bool), v31 = .bool x31_24 ∧ Aside0 (span_Check.j2 kq x31_24 a0_0 a0_1 a0_2 a0_3 l0_4 a0_5 a0_6 a0_7 a0_8 a0_9 a0_10 l0_11 l0_12 = some r) ∧ Aside0 (kq ≤ kj14) ∧ Aside0 (wc.heap[gb128]? = some (.cells #[.int .u64 a0_0, .int .u64 a0_1, .int .u64 a0_2, .int .u64 a0_3, (.slice A0_4 l0_4.length c0_4), .string a0_5, .string a0_6, .int .i64 a0_7, .int .i64 a0_8, .int .i64 a0_9, .int .i64 a0_10, (.slice A0_11 l0_11.length c0_11), (.slice A0_12 l0_12.length c0_12)] 43 (0, 0))) ∧ Aside0 (wc.heap[gb129]? = some (.cells #[.int .u64 0, .int .u64 0] 26 (0, 0))) ∧ Aside0 (Below w.heap.size w wc))
              case first =>
                have H := HC25.out
                clear HC25
                replace H := Option.bind_eq_some_iff.mp H
                obtain ⟨t130, A260, H⟩ := H
                replace H : (if t130 = true then ((span_plain.f kj14 a0_6 100 32).bind fun t131 => (span_Check.j2 kj14 (!t131) a0_0 a0_1 a0_2 a0_3 l0_4 a0_5 a0_6 a0_7 a0_8 a0_9 a0_10 l0_11 l0_12)) else (span_Check.j2 kj14 true a0_0 a0_1 a0_2 a0_3 l0_4 a0_5 a0_6 a0_7 a0_8 a0_9 a0_10 l0_11 l0_12)) = some r := H
                have A26 := Aside0.mk A260
                clear A260
                by_cases c27 : t130 = true
                · subst c27
                  have H1 : ((span_plain.f kj14 a0_6 100 32).bind fun t131 => (span_Check.j2 kj14 (!t131) a0_0 a0_1 a0_2 a0_3 l0_4 a0_5 a0_6 a0_7 a0_8 a0_9 a0_10 l0_11 l0_12)) = some r := by rw [if_pos rfl] at H; exact H
                  clear H
                  have H := H1
                  clear H1
                  replace H := Option.bind_eq_some_iff.mp H
                  obtain ⟨t131, A280, H⟩ := H
                  replace H : (span_Check.j2 kj14 (!t131) a0_0 a0_1 a0_2 a0_3 l0_4 a0_5 a0_6 a0_7 a0_8 a0_9 a0_10 l0_11 l0_12) = some r := H
                  have A28 := Aside0.mk A280
                  clear A280
                  have H' := Aside0.mk H
                  clear H
                  have hnb29 := NB128_129.out
                  have hnc29 := NB129_128.out
                  have hcz30_0 : wc.cell? ⟨gb128, 0, none⟩ = some (.int .u64 a0_0) := (blk_cell BK128.out 0).trans rfl
                  have hcz30_1 : wc.cell? ⟨gb128, 1, none⟩ = some (.int .u64 a0_1) := (blk_cell BK128.out 1).trans rfl
                  have hcz30_2 : wc.cell? ⟨gb128, 2, none⟩ = some (.int .u64 a0_2) := (blk_cell BK128.out 2).trans rfl
                  have hcz30_3 : wc.cell? ⟨gb128, 3, none⟩ = some (.int .u64 a0_3) := (blk_cell BK128.out 3).trans rfl
                  have hcz30_4 : wc.cell? ⟨gb128, 4, none⟩ = some (.slice A0_4 l0_4.length c0_4) := (blk_cell BK128.out 4).trans rfl
                  have hcz30_5 : wc.cell? ⟨gb128, 5, none⟩ = some (.string a0_5) := (blk_cell BK128.out 5).trans rfl
                  have hcz30_6 : wc.cell? ⟨gb128, 6, none⟩ = some (.string a0_6) := (blk_cell BK128.out 6).trans rfl
                  have hcz30_7 : wc.cell? ⟨gb128, 7, none⟩ = some (.int .i64 a0_7) := (blk_cell BK128.out 7).trans rfl
                  have hcz30_8 : wc.cell? ⟨gb128, 8, none⟩ = some (.int .i64 a0_8) := (blk_cell BK128.out 8).trans rfl
                  have hcz30_9 : wc.cell? ⟨gb128, 9, none⟩ = some (.int .i64 a0_9) := (blk_cell BK128.out 9).trans rfl
                  have hcz30_10 : wc.cell? ⟨gb128, 10, none⟩ = some (.int .i64 a0_10) := (blk_cell BK128.out 10).trans rfl
                  have hcz30_11 : wc.cell? ⟨gb128, 11, none⟩ = some (.slice A0_11 l0_11.length c0_11) := (blk_cell BK128.out 11).trans rfl
                  have hcz30_12 : wc.cell? ⟨gb128, 12, none⟩ = some (.slice A0_12 l0_12.length c0_12) := (blk_cell BK128.out 12).trans rfl
                  have hfz30_0 := blk_frozen BK128.out 0
                  have hfz30_1 := blk_frozen BK128.out 1
                  have hfz30_2 := blk_frozen BK128.out 2
                  have hfz30_3 := blk_frozen BK128.out 3
                  have hfz30_4 := blk_frozen BK128.out 4
                  have hfz30_5 := blk_frozen BK128.out 5
                  have hfz30_6 := blk_frozen BK128.out 6
                  have hfz30_7 := blk_frozen BK128.out 7
                  have hfz30_8 := blk_frozen BK128.out 8
                  have hfz30_9 := blk_frozen BK128.out 9
                  have hfz30_10 := blk_frozen BK128.out 10
                  have hfz30_11 := blk_frozen BK128.out 11
                  have hfz30_12 := blk_frozen BK128.out 12
                  go_wp2_with (first | ((with_reducible refine gate_callee (f := 77) rfl ?_); refine goesL_ (some 34) rfl rfl Tryd.func77 (by kernel_rfl) rfl #[.string a0_5, .int .i64 60, .int .u8 33] rfl xa ?_; (with_reducible refine (span_plain.calls kj14 a0_5 60 33 true _ A26.out (Tabs.below HTabs0_.out xq1)).mono ?_); rintro e w31 ⟨rfl, hb⟩; refine ⟨_, rfl, ?_⟩; have n0_ := Aside0.mk (blk_below (g := gb128) (o := .cells #[.int .u64 a0_0, .int .u64 a0_1, .int .u64 a0_2, .int .u64 a0_3, .slice A0_4 l0_4.length c0_4, .string a0_5, .string a0_6, .int .i64 a0_7, .int .i64 a0_8, .int .i64 a0_9, .int .i64 a0_10, .slice A0_11 l0_11.length c0_11, .slice A0_12 l0_12.length c0_12] 43 (0, 0)) (xb BK128) hb); have n1_ := Aside0.mk (blk_below (g := gb129) (o := .cells #[.int .u64 0, .int .u64 0] 26 (0, 0)) (xb BK129) hb); have n2_ := Aside0.mk (below_step xq1 hb); clear BK128; clear BK129; clear HB; have BK128 := n0_; have BK129 := n1_; have HB := n2_; clear n0_ n1_ n2_; (try clear hb); (try clear hb2); (try clear hk); (try clear hi); have hcz32_0 : w31.cell? ⟨gb128, 0, none⟩ = some (.int .u64 a0_0) := (blk_cell BK128.out 0).trans rfl; have hcz32_1 : w31.cell? ⟨gb128, 1, none⟩ = some (.int .u64 a0_1) := (blk_cell BK128.out 1).trans rfl; have hcz32_2 : w31.cell? ⟨gb128, 2, none⟩ = some (.int .u64 a0_2) := (blk_cell BK128.out 2).trans rfl; have hcz32_3 : w31.cell? ⟨gb128, 3, none⟩ = some (.int .u64 a0_3) := (blk_cell BK128.out 3).trans rfl; have hcz32_4 : w31.cell? ⟨gb128, 4, none⟩ = some (.slice A0_4 l0_4.length c0_4) := (blk_cell BK128.out 4).trans rfl; have hcz32_5 : w31.cell? ⟨gb128, 5, none⟩ = some (.string a0_5) := (blk_cell BK128.out 5).trans rfl; have hcz32_6 : w31.cell? ⟨gb128, 6, none⟩ = some (.string a0_6) := (blk_cell BK128.out 6).trans rfl; have hcz32_7 : w31.cell? ⟨gb128, 7, none⟩ = some (.int .i64 a0_7) := (blk_cell BK128.out 7).trans rfl; have hcz32_8 : w31.cell? ⟨gb128, 8, none⟩ = some (.int .i64 a0_8) := (blk_cell BK128.out 8).trans rfl; have hcz32_9 : w31.cell? ⟨gb128, 9, none⟩ = some (.int .i64 a0_9) := (blk_cell BK128.out 9).trans rfl; have hcz32_10 : w31.cell? ⟨gb128, 10, none⟩ = some (.int .i64 a0_10) := (blk_cell BK128.out 10).trans rfl; have hcz32_11 : w31.cell? ⟨gb128, 11, none⟩ = some (.slice A0_11 l0_11.length c0_11) := (blk_cell BK128.out 11).trans rfl; have hcz32_12 : w31.cell? ⟨gb128, 12, none⟩ = some (.slice A0_12 l0_12.length c0_12) := (blk_cell BK128.out 12).trans rfl; have hfz32_0 := blk_frozen BK128.out 0; have hfz32_1 := blk_frozen BK128.out 1; have hfz32_2 := blk_frozen BK128.out 2; have hfz32_3 := blk_frozen BK128.out 3; have hfz32_4 := blk_frozen BK128.out 4; have hfz32_5 := blk_frozen BK128.out 5; have hfz32_6 := blk_frozen BK128.out 6; have hfz32_7 := blk_frozen BK128.out 7; have hfz32_8 := blk_frozen BK128.out 8; have hfz32_9 := blk_frozen BK128.out 9; have hfz32_10 := blk_frozen BK128.out 10; have hfz32_11 := blk_frozen BK128.out 11; have hfz32_12 := blk_frozen BK128.out 12) | (go_at_call 77; (with_reducible refine (span_plain.calls kj14 a0_6 100 32 t131 _ A28.out (Tabs.below HTabs0_.out xq1)).mono ?_); rintro e w33 ⟨rfl, hb⟩; have n0_ := Aside0.mk (blk_below (g := gb128) (o := .cells #[.int .u64 a0_0, .int .u64 a0_1, .int .u64 a0_2, .int .u64 a0_3, .slice A0_4 l0_4.length c0_4, .string a0_5, .string a0_6, .int .i64 a0_7, .int .i64 a0_8, .int .i64 a0_9, .int .i64 a0_10, .slice A0_11 l0_11.length c0_11, .slice A0_12 l0_12.length c0_12] 43 (0, 0)) (xb BK128) hb); have n1_ := Aside0.mk (blk_below (g := gb129) (o := .cells #[.int .u64 0, .int .u64 0] 26 (0, 0)) (xb BK129) hb); have n2_ := Aside0.mk (below_step xq1 hb); clear BK128; clear BK129; clear HB; have BK128 := n0_; have BK129 := n1_; have HB := n2_; clear n0_ n1_ n2_; (try clear hb); (try clear hb2); (try clear hk); (try clear hi)))
                  go_meet
                  case rel => exact ⟨_, (!t131), (by first | rfl | (simp; done) | (simp [*]; done)), H', ⟨by have := HJ1.out; have := HJ14.out; first | omega | exact Nat.le_refl _⟩, ⟨by (with_reducible repeat (first | refine blk_drewN ?_ _ | refine blk_drew ?_ | refine blk_alloc ?_ _)); exact BK128.out⟩, ⟨by (with_reducible repeat (first | refine blk_drewN ?_ _ | refine blk_drew ?_ | refine blk_alloc ?_ _)); exact BK129.out⟩, ⟨by repeat (first | (with_reducible first | exact HB.out | apply below_alloc | apply pw_below_drewN | apply below_drew1 | refine below_set ?_ GE128.out | refine below_set ?_ GE129.out) | exact HB.out)⟩⟩
                · replace c27 := Bool.eq_false_iff.mpr c27
                  subst c27
                  have H1 : (span_Check.j2 kj14 true a0_0 a0_1 a0_2 a0_3 l0_4 a0_5 a0_6 a0_7 a0_8 a0_9 a0_10 l0_11 l0_12) = some r := by rw [if_neg (show ¬ (false = true) by decide)] at H; exact H
                  clear H
                  have H := H1
                  clear H1
                  have H' := Aside0.mk H
                  clear H
                  have hnb34 := NB128_129.out
                  have hnc34 := NB129_128.out
                  have hcz35_0 : wc.cell? ⟨gb128, 0, none⟩ = some (.int .u64 a0_0) := (blk_cell BK128.out 0).trans rfl
                  have hcz35_1 : wc.cell? ⟨gb128, 1, none⟩ = some (.int .u64 a0_1) := (blk_cell BK128.out 1).trans rfl
                  have hcz35_2 : wc.cell? ⟨gb128, 2, none⟩ = some (.int .u64 a0_2) := (blk_cell BK128.out 2).trans rfl
                  have hcz35_3 : wc.cell? ⟨gb128, 3, none⟩ = some (.int .u64 a0_3) := (blk_cell BK128.out 3).trans rfl
                  have hcz35_4 : wc.cell? ⟨gb128, 4, none⟩ = some (.slice A0_4 l0_4.length c0_4) := (blk_cell BK128.out 4).trans rfl
                  have hcz35_5 : wc.cell? ⟨gb128, 5, none⟩ = some (.string a0_5) := (blk_cell BK128.out 5).trans rfl
                  have hcz35_6 : wc.cell? ⟨gb128, 6, none⟩ = some (.string a0_6) := (blk_cell BK128.out 6).trans rfl
                  have hcz35_7 : wc.cell? ⟨gb128, 7, none⟩ = some (.int .i64 a0_7) := (blk_cell BK128.out 7).trans rfl
                  have hcz35_8 : wc.cell? ⟨gb128, 8, none⟩ = some (.int .i64 a0_8) := (blk_cell BK128.out 8).trans rfl
                  have hcz35_9 : wc.cell? ⟨gb128, 9, none⟩ = some (.int .i64 a0_9) := (blk_cell BK128.out 9).trans rfl
                  have hcz35_10 : wc.cell? ⟨gb128, 10, none⟩ = some (.int .i64 a0_10) := (blk_cell BK128.out 10).trans rfl
                  have hcz35_11 : wc.cell? ⟨gb128, 11, none⟩ = some (.slice A0_11 l0_11.length c0_11) := (blk_cell BK128.out 11).trans rfl
                  have hcz35_12 : wc.cell? ⟨gb128, 12, none⟩ = some (.slice A0_12 l0_12.length c0_12) := (blk_cell BK128.out 12).trans rfl
                  have hfz35_0 := blk_frozen BK128.out 0
                  have hfz35_1 := blk_frozen BK128.out 1
                  have hfz35_2 := blk_frozen BK128.out 2
                  have hfz35_3 := blk_frozen BK128.out 3
                  have hfz35_4 := blk_frozen BK128.out 4
                  have hfz35_5 := blk_frozen BK128.out 5
                  have hfz35_6 := blk_frozen BK128.out 6
                  have hfz35_7 := blk_frozen BK128.out 7
                  have hfz35_8 := blk_frozen BK128.out 8
                  have hfz35_9 := blk_frozen BK128.out 9
                  have hfz35_10 := blk_frozen BK128.out 10
                  have hfz35_11 := blk_frozen BK128.out 11
                  have hfz35_12 := blk_frozen BK128.out 12
                  go_wp2_with (first | ((with_reducible refine gate_callee (f := 77) rfl ?_); refine goesL_ (some 34) rfl rfl Tryd.func77 (by kernel_rfl) rfl #[.string a0_5, .int .i64 60, .int .u8 33] rfl xa ?_; (with_reducible refine (span_plain.calls kj14 a0_5 60 33 false _ A26.out (Tabs.below HTabs0_.out xq1)).mono ?_); rintro e w36 ⟨rfl, hb⟩; refine ⟨_, rfl, ?_⟩; have n0_ := Aside0.mk (blk_below (g := gb128) (o := .cells #[.int .u64 a0_0, .int .u64 a0_1, .int .u64 a0_2, .int .u64 a0_3, .slice A0_4 l0_4.length c0_4, .string a0_5, .string a0_6, .int .i64 a0_7, .int .i64 a0_8, .int .i64 a0_9, .int .i64 a0_10, .slice A0_11 l0_11.length c0_11, .slice A0_12 l0_12.length c0_12] 43 (0, 0)) (xb BK128) hb); have n1_ := Aside0.mk (blk_below (g := gb129) (o := .cells #[.int .u64 0, .int .u64 0] 26 (0, 0)) (xb BK129) hb); have n2_ := Aside0.mk (below_step xq1 hb); clear BK128; clear BK129; clear HB; have BK128 := n0_; have BK129 := n1_; have HB := n2_; clear n0_ n1_ n2_; (try clear hb); (try clear hb2); (try clear hk); (try clear hi)))
                  go_meet
                  case rel => exact ⟨_, (true), (by first | rfl | (simp; done) | (simp [*]; done)), H', ⟨by have := HJ1.out; have := HJ14.out; first | omega | exact Nat.le_refl _⟩, ⟨by (with_reducible repeat (first | refine blk_drewN ?_ _ | refine blk_drew ?_ | refine blk_alloc ?_ _)); exact BK128.out⟩, ⟨by (with_reducible repeat (first | refine blk_drewN ?_ _ | refine blk_drew ?_ | refine blk_alloc ?_ _)); exact BK129.out⟩, ⟨by repeat (first | (with_reducible first | exact HB.out | apply below_alloc | apply pw_below_drewN | apply below_drew1 | refine below_set ?_ GE128.out | refine below_set ?_ GE129.out) | exact HB.out)⟩⟩
              case rest =>
                clear HC25
                try clear c1
                try clear c2
                try clear p2
                try clear c3
                try clear c5
                try clear c6
                try clear c7
                try clear c7b0
                try clear c7b1
                try clear c7b2
                try clear c8
                try clear c11
                try clear c14
                try clear c16
                try clear c16b0
                try clear c17
                try clear c19
                try clear c19b0
                try clear c20
                try clear c22
                try clear c24
                try clear c27
                try clear c29
                try clear c34
                try clear hcz10_0
                try clear hcz10_1
                try clear hcz12_0
                try clear hcz12_1
                try clear hcz12_10
                try clear hcz12_11
                try clear hcz12_12
                try clear hcz12_2
                try clear hcz12_3
                try clear hcz12_4
                try clear hcz12_5
                try clear hcz12_6
                try clear hcz12_7
                try clear hcz12_8
                try clear hcz12_9
                try clear hcz13_0
                try clear hcz13_1
                try clear hcz18_0
                try clear hcz18_1
                try clear hcz18_10
                try clear hcz18_11
                try clear hcz18_12
                try clear hcz18_2
                try clear hcz18_3
                try clear hcz18_4
                try clear hcz18_5
                try clear hcz18_6
                try clear hcz18_7
                try clear hcz18_8
                try clear hcz18_9
                try clear hcz21_0
                try clear hcz21_1
                try clear hcz21_10
                try clear hcz21_11
                try clear hcz21_12
                try clear hcz21_2
                try clear hcz21_3
                try clear hcz21_4
                try clear hcz21_5
                try clear hcz21_6
                try clear hcz21_7
                try clear hcz21_8
                try clear hcz21_9
                try clear hcz23_0
                try clear hcz23_1
                try clear hcz23_10
                try clear hcz23_11
                try clear hcz23_12
                try clear hcz23_2
                try clear hcz23_3
                try clear hcz23_4
                try clear hcz23_5
                try clear hcz23_6
                try clear hcz23_7
                try clear hcz23_8
                try clear hcz23_9
                try clear hcz30_0
                try clear hcz30_1
                try clear hcz30_10
                try clear hcz30_11
                try clear hcz30_12
                try clear hcz30_2
                try clear hcz30_3
                try clear hcz30_4
                try clear hcz30_5
                try clear hcz30_6
                try clear hcz30_7
                try clear hcz30_8
                try clear hcz30_9
                try clear hcz32_0
                try clear hcz32_1
                try clear hcz32_10
                try clear hcz32_11
                try clear hcz32_12
                try clear hcz32_2
                try clear hcz32_3
                try clear hcz32_4
                try clear hcz32_5
                try clear hcz32_6
                try clear hcz32_7
                try clear hcz32_8
                try clear hcz32_9
                try clear hcz35_0
                try clear hcz35_1
                try clear hcz35_10
                try clear hcz35_11
                try clear hcz35_12
                try clear hcz35_2
                try clear hcz35_3
                try clear hcz35_4
                try clear hcz35_5
                try clear hcz35_6
                try clear hcz35_7
                try clear hcz35_8
                try clear hcz35_9
                try clear hcz6_0
                try clear hcz6_1
                try clear hcz9_0
                try clear hcz9_1
                try clear hcz9_10
                try clear hcz9_11
                try clear hcz9_12
                try clear hcz9_2
                try clear hcz9_3
                try clear hcz9_4
                try clear hcz9_5
                try clear hcz9_6
                try clear hcz9_7
                try clear hcz9_8
                try clear hcz9_9
                try clear hfz10_0
                try clear hfz10_1
                try clear hfz12_0
                try clear hfz12_1
                try clear hfz12_10
                try clear hfz12_11
                try clear hfz12_12
                try clear hfz12_2
                try clear hfz12_3
                try clear hfz12_4
                try clear hfz12_5
                try clear hfz12_6
                try clear hfz12_7
                try clear hfz12_8
                try clear hfz12_9
                try clear hfz13_0
                try clear hfz13_1
                try clear hfz18_0
                try clear hfz18_1
                try clear hfz18_10
                try clear hfz18_11
                try clear hfz18_12
                try clear hfz18_2
                try clear hfz18_3
                try clear hfz18_4
                try clear hfz18_5
                try clear hfz18_6
                try clear hfz18_7
                try clear hfz18_8
                try clear hfz18_9
                try clear hfz21_0
                try clear hfz21_1
                try clear hfz21_10
                try clear hfz21_11
                try clear hfz21_12
                try clear hfz21_2
                try clear hfz21_3
                try clear hfz21_4
                try clear hfz21_5
                try clear hfz21_6
                try clear hfz21_7
                try clear hfz21_8
                try clear hfz21_9
                try clear hfz23_0
                try clear hfz23_1
                try clear hfz23_10
                try clear hfz23_11
                try clear hfz23_12
                try clear hfz23_2
                try clear hfz23_3
                try clear hfz23_4
                try clear hfz23_5
                try clear hfz23_6
                try clear hfz23_7
                try clear hfz23_8
                try clear hfz23_9
                try clear hfz30_0
                try clear hfz30_1
                try clear hfz30_10
                try clear hfz30_11
                try clear hfz30_12
                try clear hfz30_2
                try clear hfz30_3
                try clear hfz30_4
                try clear hfz30_5
                try clear hfz30_6
                try clear hfz30_7
                try clear hfz30_8
                try clear hfz30_9
                try clear hfz32_0
                try clear hfz32_1
                try clear hfz32_10
                try clear hfz32_11
                try clear hfz32_12
                try clear hfz32_2
                try clear hfz32_3
                try clear hfz32_4
                try clear hfz32_5
                try clear hfz32_6
                try clear hfz32_7
                try clear hfz32_8
                try clear hfz32_9
                try clear hfz35_0
                try clear hfz35_1
                try clear hfz35_10
                try clear hfz35_11
                try clear hfz35_12
                try clear hfz35_2
                try clear hfz35_3
                try clear hfz35_4
                try clear hfz35_5
                try clear hfz35_6
                try clear hfz35_7
                try clear hfz35_8
                try clear hfz35_9
                try clear hfz6_0
                try clear hfz6_1
                try clear hfz9_0
                try clear hfz9_1
                try clear hfz9_10
                try clear hfz9_11
                try clear hfz9_12
                try clear hfz9_2
                try clear hfz9_3
                try clear hfz9_4
                try clear hfz9_5
                try clear hfz9_6
                try clear hfz9_7
                try clear hfz9_8
                try clear hfz9_9
                try clear p2
                obtain ⟨kq, x31_24, rfl, HA, HJ24, BK128, BK129, HB⟩ := hcut
                cases kq with
                | zero => exact absurd HA.out (by simp [span_Check.j2])
                | succ kj24 =>
                  have H := HA.out
                  clear HA
                  simp only [span_Check.j2] at H
                  by_cases c37 : x31_24 = true
                  · subst c37
                    have H1 : (some 43) = some r := by rw [if_pos rfl] at H; exact H
                    clear H
                    have H := H1
                    clear H1
                    obtain rfl := Option.some.inj H
                    go_wp2
                    go_ret
                    exact ⟨by first | rfl | (simp [errW_none, errW_some] <;> rfl) | (simp [*, errW_none, errW_some] <;> rfl), by repeat (first | (with_reducible first | exact HB.out | apply below_alloc | apply pw_below_drewN | apply below_drew1 | refine below_set ?_ GE128.out | refine below_set ?_ GE129.out) | exact HB.out)⟩
                  · replace c37 := Bool.eq_false_iff.mpr c37
                    subst c37
                    have H1 : (if a0_7 < 0 then (span_Check.j3 kj24 true a0_0 a0_1 a0_2 a0_3 l0_4 a0_5 a0_6 a0_7 a0_8 a0_9 a0_10 l0_11 l0_12) else (if a0_7 > 4 then (span_Check.j3 kj24 true a0_0 a0_1 a0_2 a0_3 l0_4 a0_5 a0_6 a0_7 a0_8 a0_9 a0_10 l0_11 l0_12) else (if a0_8 < 0 then (span_Check.j3 kj24 true a0_0 a0_1 a0_2 a0_3 l0_4 a0_5 a0_6 a0_7 a0_8 a0_9 a0_10 l0_11 l0_12) else (span_Check.j3 kj24 (decide (a0_8 > 2)) a0_0 a0_1 a0_2 a0_3 l0_4 a0_5 a0_6 a0_7 a0_8 a0_9 a0_10 l0_11 l0_12)))) = some r := by rw [if_neg (show ¬ (false = true) by decide)] at H; exact H
                    clear H
                    have H := H1
                    clear H1
                    have HC38 := Aside0.mk H
                    clear H
                    go_upto_region 8 with (fail)
                    go_cut [42] (fun v42 wc => ∃ (kq : Nat) (x42_37 : Bool), v42 = .bool x42_37 ∧ Aside0 (span_Check.j3 kq x42_37 a0_0 a0_1 a0_2 a0_3 l0_4 a0_5 a0_6 a0_7 a0_8 a0_9 a0_10 l0_11 l0_12 = some r) ∧ Aside0 (kq ≤ kj24) ∧ Aside0 (wc.heap[gb128]? = some (.cells #[.int .u64 a0_0, .int .u64 a0_1, .int .u64 a0_2, .int .u64 a0_3, (.slice A0_4 l0_4.length c0_4), .string a0_5, .string a0_6, .int .i64 a0_7, .int .i64 a0_8, .int .i64 a0_9, .int .i64 a0_10, (.slice A0_11 l0_11.length c0_11), (.slice A0_12 l0_12.length c0_12)] 43 (0, 0))) ∧ Aside0 (wc.heap[gb129]? = some (.cells #[.int .u64 0, .int .u64 0] 26 (0, 0))) ∧ Aside0 (Below w.heap.size w wc))
                    case first =>
                      have H := HC38.out
                      clear HC38
                      by_cases c39 : a0_7 < 0
                      · rw [if_pos c39] at H
                        have c39b0 : decide (a0_7 < 0) = true := decide_eq_true c39
                        clear c39
                        (first | rw [c39b0] | (simp only [i64_w, i32_w]; rw [c39b0]) | skip)
                        have H' := Aside0.mk H
                        clear H
                        have hnb40 := NB128_129.out
                        have hnc40 := NB129_128.out
                        have hcz41_0 : wc.cell? ⟨gb128, 0, none⟩ = some (.int .u64 a0_0) := (blk_cell BK128.out 0).trans rfl
                        have hcz41_1 : wc.cell? ⟨gb128, 1, none⟩ = some (.int .u64 a0_1) := (blk_cell BK128.out 1).trans rfl
                        have hcz41_2 : wc.cell? ⟨gb128, 2, none⟩ = some (.int .u64 a0_2) := (blk_cell BK128.out 2).trans rfl
                        have hcz41_3 : wc.cell? ⟨gb128, 3, none⟩ = some (.int .u64 a0_3) := (blk_cell BK128.out 3).trans rfl
                        have hcz41_4 : wc.cell? ⟨gb128, 4, none⟩ = some (.slice A0_4 l0_4.length c0_4) := (blk_cell BK128.out 4).trans rfl
                        have hcz41_5 : wc.cell? ⟨gb128, 5, none⟩ = some (.string a0_5) := (blk_cell BK128.out 5).trans rfl
                        have hcz41_6 : wc.cell? ⟨gb128, 6, none⟩ = some (.string a0_6) := (blk_cell BK128.out 6).trans rfl
                        have hcz41_7 : wc.cell? ⟨gb128, 7, none⟩ = some (.int .i64 a0_7) := (blk_cell BK128.out 7).trans rfl
                        have hcz41_8 : wc.cell? ⟨gb128, 8, none⟩ = some (.int .i64 a0_8) := (blk_cell BK128.out 8).trans rfl
                        have hcz41_9 : wc.cell? ⟨gb128, 9, none⟩ = some (.int .i64 a0_9) := (blk_cell BK128.out 9).trans rfl
                        have hcz41_10 : wc.cell? ⟨gb128, 10, none⟩ = some (.int .i64 a0_10) := (blk_cell BK128.out 10).trans rfl
                        have hcz41_11 : wc.cell? ⟨gb128, 11, none⟩ = some (.slice A0_11 l0_11.length c0_11) := (blk_cell BK128.out 11).trans rfl
                        have hcz41_12 : wc.cell? ⟨gb128, 12, none⟩ = some (.slice A0_12 l0_12.length c0_12) := (blk_cell BK128.out 12).trans rfl
                        have hfz41_0 := blk_frozen BK128.out 0
                        have hfz41_1 := blk_frozen BK128.out 1
                        have hfz41_2 := blk_frozen BK128.out 2
                        have hfz41_3 := blk_frozen BK128.out 3
                        have hfz41_4 := blk_frozen BK128.out 4
                        have hfz41_5 := blk_frozen BK128.out 5
                        have hfz41_6 := blk_frozen BK128.out 6
                        have hfz41_7 := blk_frozen BK128.out 7
                        have hfz41_8 := blk_frozen BK128.out 8
                        have hfz41_9 := blk_frozen BK128.out 9
                        have hfz41_10 := blk_frozen BK128.out 10
                        have hfz41_11 := blk_frozen BK128.out 11
                        have hfz41_12 := blk_frozen BK128.out 12
                        go_wp2
                        go_meet
                        case rel => exact ⟨_, (true), (by first | rfl | (simp; done) | (simp [*]; done)), H', ⟨by have := HJ1.out; have := HJ14.out; have := HJ24.out; first | omega | exact Nat.le_refl _⟩, ⟨by (with_reducible repeat (first | refine blk_drewN ?_ _ | refine blk_drew ?_ | refine blk_alloc ?_ _)); exact BK128.out⟩, ⟨by (with_reducible repeat (first | refine blk_drewN ?_ _ | refine blk_drew ?_ | refine blk_alloc ?_ _)); exact BK129.out⟩, ⟨by repeat (first | (with_reducible first | exact HB.out | apply below_alloc | apply pw_below_drewN | apply below_drew1 | refine below_set ?_ GE128.out | refine below_set ?_ GE129.out) | exact HB.out)⟩⟩
                      · rw [if_neg c39] at H
                        have c39b0 : decide (a0_7 < 0) = false := decide_eq_false c39
                        clear c39
                        (first | rw [c39b0] | (simp only [i64_w, i32_w]; rw [c39b0]) | skip)
                        by_cases c42 : a0_7 > 4
                        · rw [if_pos c42] at H
                          have c42b0 : decide (4 < a0_7) = true := decide_eq_true c42
                          clear c42
                          have H' := Aside0.mk H
                          clear H
                          have hnb43 := NB128_129.out
                          have hnc43 := NB129_128.out
                          have hcz44_0 : wc.cell? ⟨gb128, 0, none⟩ = some (.int .u64 a0_0) := (blk_cell BK128.out 0).trans rfl
                          have hcz44_1 : wc.cell? ⟨gb128, 1, none⟩ = some (.int .u64 a0_1) := (blk_cell BK128.out 1).trans rfl
                          have hcz44_2 : wc.cell? ⟨gb128, 2, none⟩ = some (.int .u64 a0_2) := (blk_cell BK128.out 2).trans rfl
                          have hcz44_3 : wc.cell? ⟨gb128, 3, none⟩ = some (.int .u64 a0_3) := (blk_cell BK128.out 3).trans rfl
                          have hcz44_4 : wc.cell? ⟨gb128, 4, none⟩ = some (.slice A0_4 l0_4.length c0_4) := (blk_cell BK128.out 4).trans rfl
                          have hcz44_5 : wc.cell? ⟨gb128, 5, none⟩ = some (.string a0_5) := (blk_cell BK128.out 5).trans rfl
                          have hcz44_6 : wc.cell? ⟨gb128, 6, none⟩ = some (.string a0_6) := (blk_cell BK128.out 6).trans rfl
                          have hcz44_7 : wc.cell? ⟨gb128, 7, none⟩ = some (.int .i64 a0_7) := (blk_cell BK128.out 7).trans rfl
                          have hcz44_8 : wc.cell? ⟨gb128, 8, none⟩ = some (.int .i64 a0_8) := (blk_cell BK128.out 8).trans rfl
                          have hcz44_9 : wc.cell? ⟨gb128, 9, none⟩ = some (.int .i64 a0_9) := (blk_cell BK128.out 9).trans rfl
                          have hcz44_10 : wc.cell? ⟨gb128, 10, none⟩ = some (.int .i64 a0_10) := (blk_cell BK128.out 10).trans rfl
                          have hcz44_11 : wc.cell? ⟨gb128, 11, none⟩ = some (.slice A0_11 l0_11.length c0_11) := (blk_cell BK128.out 11).trans rfl
                          have hcz44_12 : wc.cell? ⟨gb128, 12, none⟩ = some (.slice A0_12 l0_12.length c0_12) := (blk_cell BK128.out 12).trans rfl
                          have hfz44_0 := blk_frozen BK128.out 0
                          have hfz44_1 := blk_frozen BK128.out 1
                          have hfz44_2 := blk_frozen BK128.out 2
                          have hfz44_3 := blk_frozen BK128.out 3
                          have hfz44_4 := blk_frozen BK128.out 4
                          have hfz44_5 := blk_frozen BK128.out 5
                          have hfz44_6 := blk_frozen BK128.out 6
                          have hfz44_7 := blk_frozen BK128.out 7
                          have hfz44_8 := blk_frozen BK128.out 8
                          have hfz44_9 := blk_frozen BK128.out 9
                          have hfz44_10 := blk_frozen BK128.out 10
                          have hfz44_11 := blk_frozen BK128.out 11
                          have hfz44_12 := blk_frozen BK128.out 12
                          go_wp2
                          go_meet
                          case rel => exact ⟨_, (true), (by first | rfl | (simp; done) | (simp [*]; done)), H', ⟨by have := HJ1.out; have := HJ14.out; have := HJ24.out; first | omega | exact Nat.le_refl _⟩, ⟨by (with_reducible repeat (first | refine blk_drewN ?_ _ | refine blk_drew ?_ | refine blk_alloc ?_ _)); exact BK128.out⟩, ⟨by (with_reducible repeat (first | refine blk_drewN ?_ _ | refine blk_drew ?_ | refine blk_alloc ?_ _)); exact BK129.out⟩, ⟨by repeat (first | (with_reducible first | exact HB.out | apply below_alloc | apply pw_below_drewN | apply below_drew1 | refine below_set ?_ GE128.out | refine below_set ?_ GE129.out) | exact HB.out)⟩⟩
                        · rw [if_neg c42] at H
                          have c42b0 : decide (4 < a0_7) = false := decide_eq_false c42
                          clear c42
                          by_cases c45 : a0_8 < 0
                          · rw [if_pos c45] at H
                            have c45b0 : decide (a0_8 < 0) = true := decide_eq_true c45
                            clear c45
                            have H' := Aside0.mk H
                            clear H
                            have hnb46 := NB128_129.out
                            have hnc46 := NB129_128.out
                            have hcz47_0 : wc.cell? ⟨gb128, 0, none⟩ = some (.int .u64 a0_0) := (blk_cell BK128.out 0).trans rfl
                            have hcz47_1 : wc.cell? ⟨gb128, 1, none⟩ = some (.int .u64 a0_1) := (blk_cell BK128.out 1).trans rfl
                            have hcz47_2 : wc.cell? ⟨gb128, 2, none⟩ = some (.int .u64 a0_2) := (blk_cell BK128.out 2).trans rfl
                            have hcz47_3 : wc.cell? ⟨gb128, 3, none⟩ = some (.int .u64 a0_3) := (blk_cell BK128.out 3).trans rfl
                            have hcz47_4 : wc.cell? ⟨gb128, 4, none⟩ = some (.slice A0_4 l0_4.length c0_4) := (blk_cell BK128.out 4).trans rfl
                            have hcz47_5 : wc.cell? ⟨gb128, 5, none⟩ = some (.string a0_5) := (blk_cell BK128.out 5).trans rfl
                            have hcz47_6 : wc.cell? ⟨gb128, 6, none⟩ = some (.string a0_6) := (blk_cell BK128.out 6).trans rfl
                            have hcz47_7 : wc.cell? ⟨gb128, 7, none⟩ = some (.int .i64 a0_7) := (blk_cell BK128.out 7).trans rfl
                            have hcz47_8 : wc.cell? ⟨gb128, 8, none⟩ = some (.int .i64 a0_8) := (blk_cell BK128.out 8).trans rfl
                            have hcz47_9 : wc.cell? ⟨gb128, 9, none⟩ = some (.int .i64 a0_9) := (blk_cell BK128.out 9).trans rfl
                            have hcz47_10 : wc.cell? ⟨gb128, 10, none⟩ = some (.int .i64 a0_10) := (blk_cell BK128.out 10).trans rfl
                            have hcz47_11 : wc.cell? ⟨gb128, 11, none⟩ = some (.slice A0_11 l0_11.length c0_11) := (blk_cell BK128.out 11).trans rfl
                            have hcz47_12 : wc.cell? ⟨gb128, 12, none⟩ = some (.slice A0_12 l0_12.length c0_12) := (blk_cell BK128.out 12).trans rfl
                            have hfz47_0 := blk_frozen BK128.out 0
                            have hfz47_1 := blk_frozen BK128.out 1
                            have hfz47_2 := blk_frozen BK128.out 2
                            have hfz47_3 := blk_frozen BK128.out 3
                            have hfz47_4 := blk_frozen BK128.out 4
                            have hfz47_5 := blk_frozen BK128.out 5
                            have hfz47_6 := blk_frozen BK128.out 6
                            have hfz47_7 := blk_frozen BK128.out 7
                            have hfz47_8 := blk_frozen BK128.out 8
                            have hfz47_9 := blk_frozen BK128.out 9
                            have hfz47_10 := blk_frozen BK128.out 10
                            have hfz47_11 := blk_frozen BK128.out 11
                            have hfz47_12 := blk_frozen BK128.out 12
                            go_wp2
                            go_meet
                            case rel => exact ⟨_, (true), (by first | rfl | (simp; done) | (simp [*]; done)), H', ⟨by have := HJ1.out; have := HJ14.out; have := HJ24.out; first | omega | exact Nat.le_refl _⟩, ⟨by (with_reducible repeat (first | refine blk_drewN ?_ _ | refine blk_drew ?_ | refine blk_alloc ?_ _)); exact BK128.out⟩, ⟨by (with_reducible repeat (first | refine blk_drewN ?_ _ | refine blk_drew ?_ | refine blk_alloc ?_ _)); exact BK129.out⟩, ⟨by repeat (first | (with_reducible first | exact HB.out | apply below_alloc | apply pw_below_drewN | apply below_drew1 | refine below_set ?_ GE128.out | refine below_set ?_ GE129.out) | exact HB.out)⟩⟩
                          · rw [if_neg c45] at H
                            have c45b0 : decide (a0_8 < 0) = false := decide_eq_false c45
                            clear c45
                            have H' := Aside0.mk H
                            clear H
                            have hnb48 := NB128_129.out
                            have hnc48 := NB129_128.out
                            have hcz49_0 : wc.cell? ⟨gb128, 0, none⟩ = some (.int .u64 a0_0) := (blk_cell BK128.out 0).trans rfl
                            have hcz49_1 : wc.cell? ⟨gb128, 1, none⟩ = some (.int .u64 a0_1) := (blk_cell BK128.out 1).trans rfl
                            have hcz49_2 : wc.cell? ⟨gb128, 2, none⟩ = some (.int .u64 a0_2) := (blk_cell BK128.out 2).trans rfl
                            have hcz49_3 : wc.cell? ⟨gb128, 3, none⟩ = some (.int .u64 a0_3) := (blk_cell BK128.out 3).trans rfl
                            have hcz49_4 : wc.cell? ⟨gb128, 4, none⟩ = some (.slice A0_4 l0_4.length c0_4) := (blk_cell BK128.out 4).trans rfl
                            have hcz49_5 : wc.cell? ⟨gb128, 5, none⟩ = some (.string a0_5) := (blk_cell BK128.out 5).trans rfl
                            have hcz49_6 : wc.cell? ⟨gb128, 6, none⟩ = some (.string a0_6) := (blk_cell BK128.out 6).trans rfl
                            have hcz49_7 : wc.cell? ⟨gb128, 7, none⟩ = some (.int .i64 a0_7) := (blk_cell BK128.out 7).trans rfl
                            have hcz49_8 : wc.cell? ⟨gb128, 8, none⟩ = some (.int .i64 a0_8) := (blk_cell BK128.out 8).trans rfl
                            have hcz49_9 : wc.cell? ⟨gb128, 9, none⟩ = some (.int .i64 a0_9) := (blk_cell BK128.out 9).trans rfl
                            have hcz49_10 : wc.cell? ⟨gb128, 10, none⟩ = some (.int .i64 a0_10) := (blk_cell BK128.out 10).trans rfl
                            have hcz49_11 : wc.cell? ⟨gb128, 11, none⟩ = some (.slice A0_11 l0_11.length c0_11) := (blk_cell BK128.out 11).trans rfl
                            have hcz49_12 : wc.cell? ⟨gb128, 12, none⟩ = some (.slice A0_12 l0_12.length c0_12) := (blk_cell BK128.out 12).trans rfl
                            have hfz49_0 := blk_frozen BK128.out 0
                            have hfz49_1 := blk_frozen BK128.out 1
                            have hfz49_2 := blk_frozen BK128.out 2
                            have hfz49_3 := blk_frozen BK128.out 3
                            have hfz49_4 := blk_frozen BK128.out 4
                            have hfz49_5 := blk_frozen BK128.out 5
                            have hfz49_6 := blk_frozen BK128.out 6
                            have hfz49_7 := blk_frozen BK128.out 7
                            have hfz49_8 := blk_frozen BK128.out 8
                            have hfz49_9 := blk_frozen BK128.out 9
                            have hfz49_10 := blk_frozen BK128.out 10
                            have hfz49_11 := blk_frozen BK128.out 11
                            have hfz49_12 := blk_frozen BK128.out 12
                            go_wp2
                            go_meet
                            case rel => exact ⟨_, (decide (a0_8 > 2)), (by first | rfl | (simp; done) | (simp [*]; done)), H', ⟨by have := HJ1.out; have := HJ14.out; have := HJ24.out; first | omega | exact Nat.le_refl _⟩, ⟨by (with_reducible repeat (first | refine blk_drewN ?_ _ | refine blk_drew ?_ | refine blk_alloc ?_ _)); exact BK128.out⟩, ⟨by (with_reducible repeat (first | refine blk_drewN ?_ _ | refine blk_drew ?_ | refine blk_alloc ?_ _)); exact BK129.out⟩, ⟨by repeat (first | (with_reducible first | exact HB.out | apply below_alloc | apply pw_below_drewN | apply below_drew1 | refine below_set ?_ GE128.out | refine below_set ?_ GE129.out) | exact HB.out)⟩⟩
                    case rest =>
                      clear HC38
                      try clear c1
                      try clear c2
                      try clear p2
                      try clear c3
                      try clear c4
                      try clear c5
                      try clear c6
                      try clear c7
                      try clear c7b0
                      try clear c7b1
                      try clear c7b2
                      try clear c8
                      try clear c11
                      try clear c14
                      try clear c16
                      try clear c16b0
                      try clear c17
                      try clear c19
                      try clear c19b0
                      try clear c20
                      try clear c22
                      try clear c24
                      try clear c27
                      try clear c29
                      try clear c34
                      try clear c37
                      try clear c39
                      try clear c39b0
                      try clear c40
                      try clear c42
                      try clear c42b0
                      try clear c43
                      try clear c45
                      try clear c45b0
                      try clear c46
                      try clear c48
                      try clear hcz10_0
                      try clear hcz10_1
                      try clear hcz12_0
                      try clear hcz12_1
                      try clear hcz12_10
                      try clear hcz12_11
                      try clear hcz12_12
                      try clear hcz12_2
                      try clear hcz12_3
                      try clear hcz12_4
                      try clear hcz12_5
                      try clear hcz12_6
                      try clear hcz12_7
                      try clear hcz12_8
                      try clear hcz12_9
                      try clear hcz13_0
                      try clear hcz13_1
                      try clear hcz18_0
                      try clear hcz18_1
                      try clear hcz18_10
                      try clear hcz18_11
                      try clear hcz18_12
                      try clear hcz18_2
                      try clear hcz18_3
                      try clear hcz18_4
                      try clear hcz18_5
                      try clear hcz18_6
                      try clear hcz18_7
                      try clear hcz18_8
                      try clear hcz18_9
                      try clear hcz21_0
                      try clear hcz21_1
                      try clear hcz21_10
                      try clear hcz21_11
                      try clear hcz21_12
                      try clear hcz21_2
                      try clear hcz21_3
                      try clear hcz21_4
                      try clear hcz21_5
                      try clear hcz21_6
                      try clear hcz21_7
                      try clear hcz21_8
                      try clear hcz21_9
                      try clear hcz23_0
                      try clear hcz23_1
                      try clear hcz23_10
                      try clear hcz23_11
                      try clear hcz23_12
                      try clear hcz23_2
                      try clear hcz23_3
                      try clear hcz23_4
                      try clear hcz23_5
                      try clear hcz23_6
                      try clear hcz23_7
                      try clear hcz23_8
                      try clear hcz23_9
                      try clear hcz30_0
                      try clear hcz30_1
                      try clear hcz30_10
                      try clear hcz30_11
                      try clear hcz30_12
                      try clear hcz30_2
                      try clear hcz30_3
                      try clear hcz30_4
                      try clear hcz30_5
                      try clear hcz30_6
                      try clear hcz30_7
                      try clear hcz30_8
                      try clear hcz30_9
                      try clear hcz32_0
                      try clear hcz32_1
                      try clear hcz32_10
                      try clear hcz32_11
                      try clear hcz32_12
                      try clear hcz32_2
                      try clear hcz32_3
                      try clear hcz32_4
                      try clear hcz32_5
                      try clear hcz32_6
                      try clear hcz32_7
                      try clear hcz32_8
                      try clear hcz32_9
                      try clear hcz35_0
                      try clear hcz35_1
                      try clear hcz35_10
                      try clear hcz35_11
                      try clear hcz35_12
                      try clear hcz35_2
                      try clear hcz35_3
                      try clear hcz35_4
                      try clear hcz35_5
                      try clear hcz35_6
                      try clear hcz35_7
                      try clear hcz35_8
                      try clear hcz35_9
                      try clear hcz41_0
                      try clear hcz41_1
                      try clear hcz41_10
                      try clear hcz41_11
                      try clear hcz41_12
                      try clear hcz41_2
                      try clear hcz41_3
                      try clear hcz41_4
                      try clear hcz41_5
                      try clear hcz41_6
                      try clear hcz41_7
                      try clear hcz41_8
                      try clear hcz41_9
                      try clear hcz44_0
                      try clear hcz44_1
                      try clear hcz44_10
                      try clear hcz44_11
                      try clear hcz44_12
                      try clear hcz44_2
                      try clear hcz44_3
                      try clear hcz44_4
                      try clear hcz44_5
                      try clear hcz44_6
                      try clear hcz44_7
                      try clear hcz44_8
                      try clear hcz44_9
                      try clear hcz47_0
                      try clear hcz47_1
                      try clear hcz47_10
                      try clear hcz47_11
                      try clear hcz47_12
                      try clear hcz47_2
                      try clear hcz47_3
                      try clear hcz47_4
                      try clear hcz47_5
                      try clear hcz47_6
                      try clear hcz47_7
                      try clear hcz47_8
                      try clear hcz47_9
                      try clear hcz49_0
                      try clear hcz49_1
                      try clear hcz49_10
                      try clear hcz49_11
                      try clear hcz49_12
                      try clear hcz49_2
                      try clear hcz49_3
                      try clear hcz49_4
                      try clear hcz49_5
                      try clear hcz49_6
                      try clear hcz49_7
                      try clear hcz49_8
                      try clear hcz49_9
                      try clear hcz6_0
                      try clear hcz6_1
                      try clear hcz9_0
                      try clear hcz9_1
                      try clear hcz9_10
                      try clear hcz9_11
                      try clear hcz9_12
                      try clear hcz9_2
                      try clear hcz9_3
                      try clear hcz9_4
                      try clear hcz9_5
                      try clear hcz9_6
                      try clear hcz9_7
                      try clear hcz9_8
                      try clear hcz9_9
                      try clear hfz10_0
                      try clear hfz10_1
                      try clear hfz12_0
                      try clear hfz12_1
                      try clear hfz12_10
                      try clear hfz12_11
                      try clear hfz12_12
                      try clear hfz12_2
                      try clear hfz12_3
                      try clear hfz12_4
                      try clear hfz12_5
                      try clear hfz12_6
                      try clear hfz12_7
                      try clear hfz12_8
                      try clear hfz12_9
                      try clear hfz13_0
                      try clear hfz13_1
                      try clear hfz18_0
                      try clear hfz18_1
                      try clear hfz18_10
                      try clear hfz18_11
                      try clear hfz18_12
                      try clear hfz18_2
                      try clear hfz18_3
                      try clear hfz18_4
                      try clear hfz18_5
                      try clear hfz18_6
                      try clear hfz18_7
                      try clear hfz18_8
                      try clear hfz18_9
                      try clear hfz21_0
                      try clear hfz21_1
                      try clear hfz21_10
                      try clear hfz21_11
                      try clear hfz21_12
                      try clear hfz21_2
                      try clear hfz21_3
                      try clear hfz21_4
                      try clear hfz21_5
                      try clear hfz21_6
                      try clear hfz21_7
                      try clear hfz21_8
                      try clear hfz21_9
                      try clear hfz23_0
                      try clear hfz23_1
                      try clear hfz23_10
                      try clear hfz23_11
                      try clear hfz23_12
                      try clear hfz23_2
                      try clear hfz23_3
                      try clear hfz23_4
                      try clear hfz23_5
                      try clear hfz23_6
                      try clear hfz23_7
                      try clear hfz23_8
                      try clear hfz23_9
                      try clear hfz30_0
                      try clear hfz30_1
                      try clear hfz30_10
                      try clear hfz30_11
                      try clear hfz30_12
                      try clear hfz30_2
                      try clear hfz30_3
                      try clear hfz30_4
                      try clear hfz30_5
                      try clear hfz30_6
                      try clear hfz30_7
                      try clear hfz30_8
                      try clear hfz30_9
                      try clear hfz32_0
                      try clear hfz32_1
                      try clear hfz32_10
                      try clear hfz32_11
                      try clear hfz32_12
                      try clear hfz32_2
                      try clear hfz32_3
                      try clear hfz32_4
                      try clear hfz32_5
                      try clear hfz32_6
                      try clear hfz32_7
                      try clear hfz32_8
                      try clear hfz32_9
                      try clear hfz35_0
                      try clear hfz35_1
                      try clear hfz35_10
                      try clear hfz35_11
                      try clear hfz35_12
                      try clear hfz35_2
                      try clear hfz35_3
                      try clear hfz35_4
                      try clear hfz35_5
                      try clear hfz35_6
                      try clear hfz35_7
                      try clear hfz35_8
                      try clear hfz35_9
                      try clear hfz41_0
                      try clear hfz41_1
                      try clear hfz41_10
                      try clear hfz41_11
                      try clear hfz41_12
                      try clear hfz41_2
                      try clear hfz41_3
                      try clear hfz41_4
                      try clear hfz41_5
                      try clear hfz41_6
                      try clear hfz41_7
                      try clear hfz41_8
                      try clear hfz41_9
                      try clear hfz44_0
                      try clear hfz44_1
                      try clear hfz44_10
                      try clear hfz44_11
                      try clear hfz44_12
                      try clear hfz44_2
                      try clear hfz44_3
                      try clear hfz44_4
                      try clear hfz44_5
                      try clear hfz44_6
                      try clear hfz44_7
                      try clear hfz44_8
                      try clear hfz44_9
                      try clear hfz47_0
                      try clear hfz47_1
                      try clear hfz47_10
                      try clear hfz47_11
                      try clear hfz47_12
                      try clear hfz47_2
                      try clear hfz47_3
                      try clear hfz47_4
                      try clear hfz47_5
                      try clear hfz47_6
                      try clear hfz47_7
                      try clear hfz47_8
                      try clear hfz47_9
                      try clear hfz49_0
                      try clear hfz49_1
                      try clear hfz49_10
                      try clear hfz49_11
                      try clear hfz49_12
                      try clear hfz49_2
                      try clear hfz49_3
                      try clear hfz49_4
                      try clear hfz49_5
                      try clear hfz49_6
                      try clear hfz49_7
                      try clear hfz49_8
                      try clear hfz49_9
                      try clear hfz6_0
                      try clear hfz6_1
                      try clear hfz9_0
                      try clear hfz9_1
                      try clear hfz9_10
                      try clear hfz9_11
                      try clear hfz9_12
                      try clear hfz9_2
                      try clear hfz9_3
                      try clear hfz9_4
                      try clear hfz9_5
                      try clear hfz9_6
                      try clear hfz9_7
                      try clear hfz9_8
                      try clear hfz9_9
                      try clear p2
                      obtain ⟨kq, x42_37, rfl, HA, HJ37, BK128, BK129, HB⟩ := hcut
                      cases kq with
                      | zero => exact absurd HA.out (by simp [span_Check.j3])
                      | succ kj37 =>
                        have H := HA.out
                        clear HA
                        simp only [span_Check.j3] at H
                        by_cases c50 : x42_37 = true
                        · subst c50
                          have H1 : (some 44) = some r := by rw [if_pos rfl] at H; exact H
                          clear H
                          have H := H1
                          clear H1
                          obtain rfl := Option.some.inj H
                          go_wp2
                          go_ret
                          exact ⟨by first | rfl | (simp [errW_none, errW_some] <;> rfl) | (simp [*, errW_none, errW_some] <;> rfl), by repeat (first | (with_reducible first | exact HB.out | apply below_alloc | apply pw_below_drewN | apply below_drew1 | refine below_set ?_ GE128.out | refine below_set ?_ GE129.out) | exact HB.out)⟩
                        · replace c50 := Bool.eq_false_iff.mpr c50
                          subst c50
                          have H1 : ((span_linked.f kj37 a0_0 a0_1 a0_2 a0_3 l0_4 a0_5 a0_6 a0_7 a0_8 a0_9 a0_10 l0_11 l0_12).bind fun t132 => (if t132 = true then ((span_carried.f kj37 l0_11).bind fun t133 => (if t133 = true then ((span_told.f kj37 l0_12).bind fun t134 => (if t134 = true then (some 0) else (some 47))) else (some 46))) else (some 45))) = some r := by rw [if_neg (show ¬ (false = true) by decide)] at H; exact H
                          clear H
                          have H := H1
                          clear H1
                          replace H := Option.bind_eq_some_iff.mp H
                          obtain ⟨t132, A510, H⟩ := H
                          replace H : (if t132 = true then ((span_carried.f kj37 l0_11).bind fun t133 => (if t133 = true then ((span_told.f kj37 l0_12).bind fun t134 => (if t134 = true then (some 0) else (some 47))) else (some 46))) else (some 45)) = some r := H
                          have A51 := Aside0.mk A510
                          clear A510
                          by_cases c52 : t132 = true
                          · subst c52
                            have H1 : ((span_carried.f kj37 l0_11).bind fun t133 => (if t133 = true then ((span_told.f kj37 l0_12).bind fun t134 => (if t134 = true then (some 0) else (some 47))) else (some 46))) = some r := by rw [if_pos rfl] at H; exact H
                            clear H
                            have H := H1
                            clear H1
                            replace H := Option.bind_eq_some_iff.mp H
                            obtain ⟨t133, A530, H⟩ := H
                            replace H : (if t133 = true then ((span_told.f kj37 l0_12).bind fun t134 => (if t134 = true then (some 0) else (some 47))) else (some 46)) = some r := H
                            have A53 := Aside0.mk A530
                            clear A530
                            by_cases c54 : t133 = true
                            · subst c54
                              have H1 : ((span_told.f kj37 l0_12).bind fun t134 => (if t134 = true then (some 0) else (some 47))) = some r := by rw [if_pos rfl] at H; exact H
                              clear H
                              have H := H1
                              clear H1
                              replace H := Option.bind_eq_some_iff.mp H
                              obtain ⟨t134, A550, H⟩ := H
                              replace H : (if t134 = true then (some 0) else (some 47)) = some r := H
                              have A55 := Aside0.mk A550
                              clear A550
                              by_cases c56 : t134 = true
                              · subst c56
                                have H1 : (some 0) = some r := by rw [if_pos rfl] at H; exact H
                                clear H
                                have H := H1
                                clear H1
                                obtain rfl := Option.some.inj H
                                have hnb57 := NB128_129.out
                                have hnc57 := NB129_128.out
                                have hcz58_0 : wc.cell? ⟨gb128, 0, none⟩ = some (.int .u64 a0_0) := (blk_cell BK128.out 0).trans rfl
                                have hcz58_1 : wc.cell? ⟨gb128, 1, none⟩ = some (.int .u64 a0_1) := (blk_cell BK128.out 1).trans rfl
                                have hcz58_2 : wc.cell? ⟨gb128, 2, none⟩ = some (.int .u64 a0_2) := (blk_cell BK128.out 2).trans rfl
                                have hcz58_3 : wc.cell? ⟨gb128, 3, none⟩ = some (.int .u64 a0_3) := (blk_cell BK128.out 3).trans rfl
                                have hcz58_4 : wc.cell? ⟨gb128, 4, none⟩ = some (.slice A0_4 l0_4.length c0_4) := (blk_cell BK128.out 4).trans rfl
                                have hcz58_5 : wc.cell? ⟨gb128, 5, none⟩ = some (.string a0_5) := (blk_cell BK128.out 5).trans rfl
                                have hcz58_6 : wc.cell? ⟨gb128, 6, none⟩ = some (.string a0_6) := (blk_cell BK128.out 6).trans rfl
                                have hcz58_7 : wc.cell? ⟨gb128, 7, none⟩ = some (.int .i64 a0_7) := (blk_cell BK128.out 7).trans rfl
                                have hcz58_8 : wc.cell? ⟨gb128, 8, none⟩ = some (.int .i64 a0_8) := (blk_cell BK128.out 8).trans rfl
                                have hcz58_9 : wc.cell? ⟨gb128, 9, none⟩ = some (.int .i64 a0_9) := (blk_cell BK128.out 9).trans rfl
                                have hcz58_10 : wc.cell? ⟨gb128, 10, none⟩ = some (.int .i64 a0_10) := (blk_cell BK128.out 10).trans rfl
                                have hcz58_11 : wc.cell? ⟨gb128, 11, none⟩ = some (.slice A0_11 l0_11.length c0_11) := (blk_cell BK128.out 11).trans rfl
                                have hcz58_12 : wc.cell? ⟨gb128, 12, none⟩ = some (.slice A0_12 l0_12.length c0_12) := (blk_cell BK128.out 12).trans rfl
                                have hfz58_0 := blk_frozen BK128.out 0
                                have hfz58_1 := blk_frozen BK128.out 1
                                have hfz58_2 := blk_frozen BK128.out 2
                                have hfz58_3 := blk_frozen BK128.out 3
                                have hfz58_4 := blk_frozen BK128.out 4
                                have hfz58_5 := blk_frozen BK128.out 5
                                have hfz58_6 := blk_frozen BK128.out 6
                                have hfz58_7 := blk_frozen BK128.out 7
                                have hfz58_8 := blk_frozen BK128.out 8
                                have hfz58_9 := blk_frozen BK128.out 9
                                have hfz58_10 := blk_frozen BK128.out 10
                                have hfz58_11 := blk_frozen BK128.out 11
                                have hfz58_12 := blk_frozen BK128.out 12
                                go_wp2_with (first | ((with_reducible refine gate_callee (f := 78) rfl ?_); refine goesL_ (some 63) rfl rfl Tryd.func78 (by kernel_rfl) rfl #[.agg #[.int .u64 a0_0, .int .u64 a0_1, .int .u64 a0_2, .int .u64 a0_3, .slice A0_4 l0_4.length c0_4, .string a0_5, .string a0_6, .int .i64 a0_7, .int .i64 a0_8, .int .i64 a0_9, .int .i64 a0_10, .slice A0_11 l0_11.length c0_11, .slice A0_12 l0_12.length c0_12]] rfl xa ?_; (with_reducible refine (span_linked.calls kj37 a0_0 a0_1 a0_2 a0_3 _ _ l0_4 a0_5 a0_6 a0_7 a0_8 a0_9 a0_10 _ _ l0_11 _ _ l0_12 true _ ?side1 ?side2 ?side3 ?side4 ?side5 ?side6 A51.out).mono ?_); (case side1 => repeat (first | exact (Kd.C_below HR0_4.out HB.out) | (with_reducible refine Kd.C_alloc ?_ _) | (with_reducible refine Kd.C_drewN ?_ _) | (with_reducible refine Kd.C_drew ?_))); (case side2 => exact HC0_4.out); (case side3 => repeat (first | exact (Kd.C_below HR0_11.out HB.out) | (with_reducible refine Kd.C_alloc ?_ _) | (with_reducible refine Kd.C_drewN ?_ _) | (with_reducible refine Kd.C_drew ?_))); (case side4 => exact HC0_11.out); (case side5 => repeat (first | exact (Kd.C_below HR0_12.out HB.out) | (with_reducible refine Kd.C_alloc ?_ _) | (with_reducible refine Kd.C_drewN ?_ _) | (with_reducible refine Kd.C_drew ?_))); (case side6 => exact HC0_12.out); rintro e w59 ⟨rfl, hb⟩; refine ⟨_, rfl, ?_⟩; have n0_ := Aside0.mk (blk_below (g := gb128) (o := .cells #[.int .u64 a0_0, .int .u64 a0_1, .int .u64 a0_2, .int .u64 a0_3, .slice A0_4 l0_4.length c0_4, .string a0_5, .string a0_6, .int .i64 a0_7, .int .i64 a0_8, .int .i64 a0_9, .int .i64 a0_10, .slice A0_11 l0_11.length c0_11, .slice A0_12 l0_12.length c0_12] 43 (0, 0)) (xb BK128) hb); have n1_ := Aside0.mk (blk_below (g := gb129) (o := .cells #[.int .u64 0, .int .u64 0] 26 (0, 0)) (xb BK129) hb); have n2_ := Aside0.mk (below_step xq1 hb); clear BK128; clear BK129; clear HB; have BK128 := n0_; have BK129 := n1_; have HB := n2_; clear n0_ n1_ n2_; (try clear hb); (try clear hb2); (try clear hk); (try clear hi); have hcz60_0 : w59.cell? ⟨gb128, 0, none⟩ = some (.int .u64 a0_0) := (blk_cell BK128.out 0).trans rfl; have hcz60_1 : w59.cell? ⟨gb128, 1, none⟩ = some (.int .u64 a0_1) := (blk_cell BK128.out 1).trans rfl; have hcz60_2 : w59.cell? ⟨gb128, 2, none⟩ = some (.int .u64 a0_2) := (blk_cell BK128.out 2).trans rfl; have hcz60_3 : w59.cell? ⟨gb128, 3, none⟩ = some (.int .u64 a0_3) := (blk_cell BK128.out 3).trans rfl; have hcz60_4 : w59.cell? ⟨gb128, 4, none⟩ = some (.slice A0_4 l0_4.length c0_4) := (blk_cell BK128.out 4).trans rfl; have hcz60_5 : w59.cell? ⟨gb128, 5, none⟩ = some (.string a0_5) := (blk_cell BK128.out 5).trans rfl; have hcz60_6 : w59.cell? ⟨gb128, 6, none⟩ = some (.string a0_6) := (blk_cell BK128.out 6).trans rfl; have hcz60_7 : w59.cell? ⟨gb128, 7, none⟩ = some (.int .i64 a0_7) := (blk_cell BK128.out 7).trans rfl; have hcz60_8 : w59.cell? ⟨gb128, 8, none⟩ = some (.int .i64 a0_8) := (blk_cell BK128.out 8).trans rfl; have hcz60_9 : w59.cell? ⟨gb128, 9, none⟩ = some (.int .i64 a0_9) := (blk_cell BK128.out 9).trans rfl; have hcz60_10 : w59.cell? ⟨gb128, 10, none⟩ = some (.int .i64 a0_10) := (blk_cell BK128.out 10).trans rfl; have hcz60_11 : w59.cell? ⟨gb128, 11, none⟩ = some (.slice A0_11 l0_11.length c0_11) := (blk_cell BK128.out 11).trans rfl; have hcz60_12 : w59.cell? ⟨gb128, 12, none⟩ = some (.slice A0_12 l0_12.length c0_12) := (blk_cell BK128.out 12).trans rfl; have hfz60_0 := blk_frozen BK128.out 0; have hfz60_1 := blk_frozen BK128.out 1; have hfz60_2 := blk_frozen BK128.out 2; have hfz60_3 := blk_frozen BK128.out 3; have hfz60_4 := blk_frozen BK128.out 4; have hfz60_5 := blk_frozen BK128.out 5; have hfz60_6 := blk_frozen BK128.out 6; have hfz60_7 := blk_frozen BK128.out 7; have hfz60_8 := blk_frozen BK128.out 8; have hfz60_9 := blk_frozen BK128.out 9; have hfz60_10 := blk_frozen BK128.out 10; have hfz60_11 := blk_frozen BK128.out 11; have hfz60_12 := blk_frozen BK128.out 12) | ((with_reducible refine gate_callee (f := 79) rfl ?_); refine goesL_ (some 68) rfl rfl Tryd.func79 (by kernel_rfl) rfl #[.slice A0_11 l0_11.length c0_11] rfl xa ?_; (with_reducible refine (span_carried.calls kj37 _ _ l0_11 true _ ?side1 ?side2 A53.out (Tabs.below HTabs0_.out xq1)).mono ?_); (case side1 => repeat (first | exact (Kd.C_below HR0_11.out HB.out) | (with_reducible refine Kd.C_alloc ?_ _) | (with_reducible refine Kd.C_drewN ?_ _) | (with_reducible refine Kd.C_drew ?_))); (case side2 => exact HC0_11.out); rintro e w61 ⟨rfl, hb⟩; refine ⟨_, rfl, ?_⟩; have n0_ := Aside0.mk (blk_below (g := gb128) (o := .cells #[.int .u64 a0_0, .int .u64 a0_1, .int .u64 a0_2, .int .u64 a0_3, .slice A0_4 l0_4.length c0_4, .string a0_5, .string a0_6, .int .i64 a0_7, .int .i64 a0_8, .int .i64 a0_9, .int .i64 a0_10, .slice A0_11 l0_11.length c0_11, .slice A0_12 l0_12.length c0_12] 43 (0, 0)) (xb BK128) hb); have n1_ := Aside0.mk (blk_below (g := gb129) (o := .cells #[.int .u64 0, .int .u64 0] 26 (0, 0)) (xb BK129) hb); have n2_ := Aside0.mk (below_step xq1 hb); clear BK128; clear BK129; clear HB; have BK128 := n0_; have BK129 := n1_; have HB := n2_; clear n0_ n1_ n2_; (try clear hb); (try clear hb2); (try clear hk); (try clear hi); have hcz62_0 : w61.cell? ⟨gb128, 0, none⟩ = some (.int .u64 a0_0) := (blk_cell BK128.out 0).trans rfl; have hcz62_1 : w61.cell? ⟨gb128, 1, none⟩ = some (.int .u64 a0_1) := (blk_cell BK128.out 1).trans rfl; have hcz62_2 : w61.cell? ⟨gb128, 2, none⟩ = some (.int .u64 a0_2) := (blk_cell BK128.out 2).trans rfl; have hcz62_3 : w61.cell? ⟨gb128, 3, none⟩ = some (.int .u64 a0_3) := (blk_cell BK128.out 3).trans rfl; have hcz62_4 : w61.cell? ⟨gb128, 4, none⟩ = some (.slice A0_4 l0_4.length c0_4) := (blk_cell BK128.out 4).trans rfl; have hcz62_5 : w61.cell? ⟨gb128, 5, none⟩ = some (.string a0_5) := (blk_cell BK128.out 5).trans rfl; have hcz62_6 : w61.cell? ⟨gb128, 6, none⟩ = some (.string a0_6) := (blk_cell BK128.out 6).trans rfl; have hcz62_7 : w61.cell? ⟨gb128, 7, none⟩ = some (.int .i64 a0_7) := (blk_cell BK128.out 7).trans rfl; have hcz62_8 : w61.cell? ⟨gb128, 8, none⟩ = some (.int .i64 a0_8) := (blk_cell BK128.out 8).trans rfl; have hcz62_9 : w61.cell? ⟨gb128, 9, none⟩ = some (.int .i64 a0_9) := (blk_cell BK128.out 9).trans rfl; have hcz62_10 : w61.cell? ⟨gb128, 10, none⟩ = some (.int .i64 a0_10) := (blk_cell BK128.out 10).trans rfl; have hcz62_11 : w61.cell? ⟨gb128, 11, none⟩ = some (.slice A0_11 l0_11.length c0_11) := (blk_cell BK128.out 11).trans rfl; have hcz62_12 : w61.cell? ⟨gb128, 12, none⟩ = some (.slice A0_12 l0_12.length c0_12) := (blk_cell BK128.out 12).trans rfl; have hfz62_0 := blk_frozen BK128.out 0; have hfz62_1 := blk_frozen BK128.out 1; have hfz62_2 := blk_frozen BK128.out 2; have hfz62_3 := blk_frozen BK128.out 3; have hfz62_4 := blk_frozen BK128.out 4; have hfz62_5 := blk_frozen BK128.out 5; have hfz62_6 := blk_frozen BK128.out 6; have hfz62_7 := blk_frozen BK128.out 7; have hfz62_8 := blk_frozen BK128.out 8; have hfz62_9 := blk_frozen BK128.out 9; have hfz62_10 := blk_frozen BK128.out 10; have hfz62_11 := blk_frozen BK128.out 11; have hfz62_12 := blk_frozen BK128.out 12) | ((with_reducible refine gate_callee (f := 80) rfl ?_); refine goesL_ (some 73) rfl rfl Tryd.func80 (by kernel_rfl) rfl #[.slice A0_12 l0_12.length c0_12] rfl xa ?_; (with_reducible refine (span_told.calls kj37 _ _ l0_12 true _ ?side1 ?side2 A55.out (Tabs.below HTabs0_.out xq1)).mono ?_); (case side1 => repeat (first | exact (Kd.C_below HR0_12.out HB.out) | (with_reducible refine Kd.C_alloc ?_ _) | (with_reducible refine Kd.C_drewN ?_ _) | (with_reducible refine Kd.C_drew ?_))); (case side2 => exact HC0_12.out); rintro e w63 ⟨rfl, hb⟩; refine ⟨_, rfl, ?_⟩; have n0_ := Aside0.mk (blk_below (g := gb128) (o := .cells #[.int .u64 a0_0, .int .u64 a0_1, .int .u64 a0_2, .int .u64 a0_3, .slice A0_4 l0_4.length c0_4, .string a0_5, .string a0_6, .int .i64 a0_7, .int .i64 a0_8, .int .i64 a0_9, .int .i64 a0_10, .slice A0_11 l0_11.length c0_11, .slice A0_12 l0_12.length c0_12] 43 (0, 0)) (xb BK128) hb); have n1_ := Aside0.mk (blk_below (g := gb129) (o := .cells #[.int .u64 0, .int .u64 0] 26 (0, 0)) (xb BK129) hb); have n2_ := Aside0.mk (below_step xq1 hb); clear BK128; clear BK129; clear HB; have BK128 := n0_; have BK129 := n1_; have HB := n2_; clear n0_ n1_ n2_; (try clear hb); (try clear hb2); (try clear hk); (try clear hi)))
                                go_ret
                                exact ⟨by first | rfl | (simp [errW_none, errW_some] <;> rfl) | (simp [*, errW_none, errW_some] <;> rfl), by repeat (first | (with_reducible first | exact HB.out | apply below_alloc | apply pw_below_drewN | apply below_drew1 | refine below_set ?_ GE128.out | refine below_set ?_ GE129.out) | exact HB.out)⟩
                              · replace c56 := Bool.eq_false_iff.mpr c56
                                subst c56
                                have H1 : (some 47) = some r := by rw [if_neg (show ¬ (false = true) by decide)] at H; exact H
                                clear H
                                have H := H1
                                clear H1
                                obtain rfl := Option.some.inj H
                                have hnb64 := NB128_129.out
                                have hnc64 := NB129_128.out
                                have hcz65_0 : wc.cell? ⟨gb128, 0, none⟩ = some (.int .u64 a0_0) := (blk_cell BK128.out 0).trans rfl
                                have hcz65_1 : wc.cell? ⟨gb128, 1, none⟩ = some (.int .u64 a0_1) := (blk_cell BK128.out 1).trans rfl
                                have hcz65_2 : wc.cell? ⟨gb128, 2, none⟩ = some (.int .u64 a0_2) := (blk_cell BK128.out 2).trans rfl
                                have hcz65_3 : wc.cell? ⟨gb128, 3, none⟩ = some (.int .u64 a0_3) := (blk_cell BK128.out 3).trans rfl
                                have hcz65_4 : wc.cell? ⟨gb128, 4, none⟩ = some (.slice A0_4 l0_4.length c0_4) := (blk_cell BK128.out 4).trans rfl
                                have hcz65_5 : wc.cell? ⟨gb128, 5, none⟩ = some (.string a0_5) := (blk_cell BK128.out 5).trans rfl
                                have hcz65_6 : wc.cell? ⟨gb128, 6, none⟩ = some (.string a0_6) := (blk_cell BK128.out 6).trans rfl
                                have hcz65_7 : wc.cell? ⟨gb128, 7, none⟩ = some (.int .i64 a0_7) := (blk_cell BK128.out 7).trans rfl
                                have hcz65_8 : wc.cell? ⟨gb128, 8, none⟩ = some (.int .i64 a0_8) := (blk_cell BK128.out 8).trans rfl
                                have hcz65_9 : wc.cell? ⟨gb128, 9, none⟩ = some (.int .i64 a0_9) := (blk_cell BK128.out 9).trans rfl
                                have hcz65_10 : wc.cell? ⟨gb128, 10, none⟩ = some (.int .i64 a0_10) := (blk_cell BK128.out 10).trans rfl
                                have hcz65_11 : wc.cell? ⟨gb128, 11, none⟩ = some (.slice A0_11 l0_11.length c0_11) := (blk_cell BK128.out 11).trans rfl
                                have hcz65_12 : wc.cell? ⟨gb128, 12, none⟩ = some (.slice A0_12 l0_12.length c0_12) := (blk_cell BK128.out 12).trans rfl
                                have hfz65_0 := blk_frozen BK128.out 0
                                have hfz65_1 := blk_frozen BK128.out 1
                                have hfz65_2 := blk_frozen BK128.out 2
                                have hfz65_3 := blk_frozen BK128.out 3
                                have hfz65_4 := blk_frozen BK128.out 4
                                have hfz65_5 := blk_frozen BK128.out 5
                                have hfz65_6 := blk_frozen BK128.out 6
                                have hfz65_7 := blk_frozen BK128.out 7
                                have hfz65_8 := blk_frozen BK128.out 8
                                have hfz65_9 := blk_frozen BK128.out 9
                                have hfz65_10 := blk_frozen BK128.out 10
                                have hfz65_11 := blk_frozen BK128.out 11
                                have hfz65_12 := blk_frozen BK128.out 12
                                go_wp2_with (first | ((with_reducible refine gate_callee (f := 78) rfl ?_); refine goesL_ (some 63) rfl rfl Tryd.func78 (by kernel_rfl) rfl #[.agg #[.int .u64 a0_0, .int .u64 a0_1, .int .u64 a0_2, .int .u64 a0_3, .slice A0_4 l0_4.length c0_4, .string a0_5, .string a0_6, .int .i64 a0_7, .int .i64 a0_8, .int .i64 a0_9, .int .i64 a0_10, .slice A0_11 l0_11.length c0_11, .slice A0_12 l0_12.length c0_12]] rfl xa ?_; (with_reducible refine (span_linked.calls kj37 a0_0 a0_1 a0_2 a0_3 _ _ l0_4 a0_5 a0_6 a0_7 a0_8 a0_9 a0_10 _ _ l0_11 _ _ l0_12 true _ ?side1 ?side2 ?side3 ?side4 ?side5 ?side6 A51.out).mono ?_); (case side1 => repeat (first | exact (Kd.C_below HR0_4.out HB.out) | (with_reducible refine Kd.C_alloc ?_ _) | (with_reducible refine Kd.C_drewN ?_ _) | (with_reducible refine Kd.C_drew ?_))); (case side2 => exact HC0_4.out); (case side3 => repeat (first | exact (Kd.C_below HR0_11.out HB.out) | (with_reducible refine Kd.C_alloc ?_ _) | (with_reducible refine Kd.C_drewN ?_ _) | (with_reducible refine Kd.C_drew ?_))); (case side4 => exact HC0_11.out); (case side5 => repeat (first | exact (Kd.C_below HR0_12.out HB.out) | (with_reducible refine Kd.C_alloc ?_ _) | (with_reducible refine Kd.C_drewN ?_ _) | (with_reducible refine Kd.C_drew ?_))); (case side6 => exact HC0_12.out); rintro e w66 ⟨rfl, hb⟩; refine ⟨_, rfl, ?_⟩; have n0_ := Aside0.mk (blk_below (g := gb128) (o := .cells #[.int .u64 a0_0, .int .u64 a0_1, .int .u64 a0_2, .int .u64 a0_3, .slice A0_4 l0_4.length c0_4, .string a0_5, .string a0_6, .int .i64 a0_7, .int .i64 a0_8, .int .i64 a0_9, .int .i64 a0_10, .slice A0_11 l0_11.length c0_11, .slice A0_12 l0_12.length c0_12] 43 (0, 0)) (xb BK128) hb); have n1_ := Aside0.mk (blk_below (g := gb129) (o := .cells #[.int .u64 0, .int .u64 0] 26 (0, 0)) (xb BK129) hb); have n2_ := Aside0.mk (below_step xq1 hb); clear BK128; clear BK129; clear HB; have BK128 := n0_; have BK129 := n1_; have HB := n2_; clear n0_ n1_ n2_; (try clear hb); (try clear hb2); (try clear hk); (try clear hi); have hcz67_0 : w66.cell? ⟨gb128, 0, none⟩ = some (.int .u64 a0_0) := (blk_cell BK128.out 0).trans rfl; have hcz67_1 : w66.cell? ⟨gb128, 1, none⟩ = some (.int .u64 a0_1) := (blk_cell BK128.out 1).trans rfl; have hcz67_2 : w66.cell? ⟨gb128, 2, none⟩ = some (.int .u64 a0_2) := (blk_cell BK128.out 2).trans rfl; have hcz67_3 : w66.cell? ⟨gb128, 3, none⟩ = some (.int .u64 a0_3) := (blk_cell BK128.out 3).trans rfl; have hcz67_4 : w66.cell? ⟨gb128, 4, none⟩ = some (.slice A0_4 l0_4.length c0_4) := (blk_cell BK128.out 4).trans rfl; have hcz67_5 : w66.cell? ⟨gb128, 5, none⟩ = some (.string a0_5) := (blk_cell BK128.out 5).trans rfl; have hcz67_6 : w66.cell? ⟨gb128, 6, none⟩ = some (.string a0_6) := (blk_cell BK128.out 6).trans rfl; have hcz67_7 : w66.cell? ⟨gb128, 7, none⟩ = some (.int .i64 a0_7) := (blk_cell BK128.out 7).trans rfl; have hcz67_8 : w66.cell? ⟨gb128, 8, none⟩ = some (.int .i64 a0_8) := (blk_cell BK128.out 8).trans rfl; have hcz67_9 : w66.cell? ⟨gb128, 9, none⟩ = some (.int .i64 a0_9) := (blk_cell BK128.out 9).trans rfl; have hcz67_10 : w66.cell? ⟨gb128, 10, none⟩ = some (.int .i64 a0_10) := (blk_cell BK128.out 10).trans rfl; have hcz67_11 : w66.cell? ⟨gb128, 11, none⟩ = some (.slice A0_11 l0_11.length c0_11) := (blk_cell BK128.out 11).trans rfl; have hcz67_12 : w66.cell? ⟨gb128, 12, none⟩ = some (.slice A0_12 l0_12.length c0_12) := (blk_cell BK128.out 12).trans rfl; have hfz67_0 := blk_frozen BK128.out 0; have hfz67_1 := blk_frozen BK128.out 1; have hfz67_2 := blk_frozen BK128.out 2; have hfz67_3 := blk_frozen BK128.out 3; have hfz67_4 := blk_frozen BK128.out 4; have hfz67_5 := blk_frozen BK128.out 5; have hfz67_6 := blk_frozen BK128.out 6; have hfz67_7 := blk_frozen BK128.out 7; have hfz67_8 := blk_frozen BK128.out 8; have hfz67_9 := blk_frozen BK128.out 9; have hfz67_10 := blk_frozen BK128.out 10; have hfz67_11 := blk_frozen BK128.out 11; have hfz67_12 := blk_frozen BK128.out 12) | ((with_reducible refine gate_callee (f := 79) rfl ?_); refine goesL_ (some 68) rfl rfl Tryd.func79 (by kernel_rfl) rfl #[.slice A0_11 l0_11.length c0_11] rfl xa ?_; (with_reducible refine (span_carried.calls kj37 _ _ l0_11 true _ ?side1 ?side2 A53.out (Tabs.below HTabs0_.out xq1)).mono ?_); (case side1 => repeat (first | exact (Kd.C_below HR0_11.out HB.out) | (with_reducible refine Kd.C_alloc ?_ _) | (with_reducible refine Kd.C_drewN ?_ _) | (with_reducible refine Kd.C_drew ?_))); (case side2 => exact HC0_11.out); rintro e w68 ⟨rfl, hb⟩; refine ⟨_, rfl, ?_⟩; have n0_ := Aside0.mk (blk_below (g := gb128) (o := .cells #[.int .u64 a0_0, .int .u64 a0_1, .int .u64 a0_2, .int .u64 a0_3, .slice A0_4 l0_4.length c0_4, .string a0_5, .string a0_6, .int .i64 a0_7, .int .i64 a0_8, .int .i64 a0_9, .int .i64 a0_10, .slice A0_11 l0_11.length c0_11, .slice A0_12 l0_12.length c0_12] 43 (0, 0)) (xb BK128) hb); have n1_ := Aside0.mk (blk_below (g := gb129) (o := .cells #[.int .u64 0, .int .u64 0] 26 (0, 0)) (xb BK129) hb); have n2_ := Aside0.mk (below_step xq1 hb); clear BK128; clear BK129; clear HB; have BK128 := n0_; have BK129 := n1_; have HB := n2_; clear n0_ n1_ n2_; (try clear hb); (try clear hb2); (try clear hk); (try clear hi); have hcz69_0 : w68.cell? ⟨gb128, 0, none⟩ = some (.int .u64 a0_0) := (blk_cell BK128.out 0).trans rfl; have hcz69_1 : w68.cell? ⟨gb128, 1, none⟩ = some (.int .u64 a0_1) := (blk_cell BK128.out 1).trans rfl; have hcz69_2 : w68.cell? ⟨gb128, 2, none⟩ = some (.int .u64 a0_2) := (blk_cell BK128.out 2).trans rfl; have hcz69_3 : w68.cell? ⟨gb128, 3, none⟩ = some (.int .u64 a0_3) := (blk_cell BK128.out 3).trans rfl; have hcz69_4 : w68.cell? ⟨gb128, 4, none⟩ = some (.slice A0_4 l0_4.length c0_4) := (blk_cell BK128.out 4).trans rfl; have hcz69_5 : w68.cell? ⟨gb128, 5, none⟩ = some (.string a0_5) := (blk_cell BK128.out 5).trans rfl; have hcz69_6 : w68.cell? ⟨gb128, 6, none⟩ = some (.string a0_6) := (blk_cell BK128.out 6).trans rfl; have hcz69_7 : w68.cell? ⟨gb128, 7, none⟩ = some (.int .i64 a0_7) := (blk_cell BK128.out 7).trans rfl; have hcz69_8 : w68.cell? ⟨gb128, 8, none⟩ = some (.int .i64 a0_8) := (blk_cell BK128.out 8).trans rfl; have hcz69_9 : w68.cell? ⟨gb128, 9, none⟩ = some (.int .i64 a0_9) := (blk_cell BK128.out 9).trans rfl; have hcz69_10 : w68.cell? ⟨gb128, 10, none⟩ = some (.int .i64 a0_10) := (blk_cell BK128.out 10).trans rfl; have hcz69_11 : w68.cell? ⟨gb128, 11, none⟩ = some (.slice A0_11 l0_11.length c0_11) := (blk_cell BK128.out 11).trans rfl; have hcz69_12 : w68.cell? ⟨gb128, 12, none⟩ = some (.slice A0_12 l0_12.length c0_12) := (blk_cell BK128.out 12).trans rfl; have hfz69_0 := blk_frozen BK128.out 0; have hfz69_1 := blk_frozen BK128.out 1; have hfz69_2 := blk_frozen BK128.out 2; have hfz69_3 := blk_frozen BK128.out 3; have hfz69_4 := blk_frozen BK128.out 4; have hfz69_5 := blk_frozen BK128.out 5; have hfz69_6 := blk_frozen BK128.out 6; have hfz69_7 := blk_frozen BK128.out 7; have hfz69_8 := blk_frozen BK128.out 8; have hfz69_9 := blk_frozen BK128.out 9; have hfz69_10 := blk_frozen BK128.out 10; have hfz69_11 := blk_frozen BK128.out 11; have hfz69_12 := blk_frozen BK128.out 12) | ((with_reducible refine gate_callee (f := 80) rfl ?_); refine goesL_ (some 73) rfl rfl Tryd.func80 (by kernel_rfl) rfl #[.slice A0_12 l0_12.length c0_12] rfl xa ?_; (with_reducible refine (span_told.calls kj37 _ _ l0_12 false _ ?side1 ?side2 A55.out (Tabs.below HTabs0_.out xq1)).mono ?_); (case side1 => repeat (first | exact (Kd.C_below HR0_12.out HB.out) | (with_reducible refine Kd.C_alloc ?_ _) | (with_reducible refine Kd.C_drewN ?_ _) | (with_reducible refine Kd.C_drew ?_))); (case side2 => exact HC0_12.out); rintro e w70 ⟨rfl, hb⟩; refine ⟨_, rfl, ?_⟩; have n0_ := Aside0.mk (blk_below (g := gb128) (o := .cells #[.int .u64 a0_0, .int .u64 a0_1, .int .u64 a0_2, .int .u64 a0_3, .slice A0_4 l0_4.length c0_4, .string a0_5, .string a0_6, .int .i64 a0_7, .int .i64 a0_8, .int .i64 a0_9, .int .i64 a0_10, .slice A0_11 l0_11.length c0_11, .slice A0_12 l0_12.length c0_12] 43 (0, 0)) (xb BK128) hb); have n1_ := Aside0.mk (blk_below (g := gb129) (o := .cells #[.int .u64 0, .int .u64 0] 26 (0, 0)) (xb BK129) hb); have n2_ := Aside0.mk (below_step xq1 hb); clear BK128; clear BK129; clear HB; have BK128 := n0_; have BK129 := n1_; have HB := n2_; clear n0_ n1_ n2_; (try clear hb); (try clear hb2); (try clear hk); (try clear hi)))
                                go_ret
                                exact ⟨by first | rfl | (simp [errW_none, errW_some] <;> rfl) | (simp [*, errW_none, errW_some] <;> rfl), by repeat (first | (with_reducible first | exact HB.out | apply below_alloc | apply pw_below_drewN | apply below_drew1 | refine below_set ?_ GE128.out | refine below_set ?_ GE129.out) | exact HB.out)⟩
                            · replace c54 := Bool.eq_false_iff.mpr c54
                              subst c54
                              have H1 : (some 46) = some r := by rw [if_neg (show ¬ (false = true) by decide)] at H; exact H
                              clear H
                              have H := H1
                              clear H1
                              obtain rfl := Option.some.inj H
                              have hnb71 := NB128_129.out
                              have hnc71 := NB129_128.out
                              have hcz72_0 : wc.cell? ⟨gb128, 0, none⟩ = some (.int .u64 a0_0) := (blk_cell BK128.out 0).trans rfl
                              have hcz72_1 : wc.cell? ⟨gb128, 1, none⟩ = some (.int .u64 a0_1) := (blk_cell BK128.out 1).trans rfl
                              have hcz72_2 : wc.cell? ⟨gb128, 2, none⟩ = some (.int .u64 a0_2) := (blk_cell BK128.out 2).trans rfl
                              have hcz72_3 : wc.cell? ⟨gb128, 3, none⟩ = some (.int .u64 a0_3) := (blk_cell BK128.out 3).trans rfl
                              have hcz72_4 : wc.cell? ⟨gb128, 4, none⟩ = some (.slice A0_4 l0_4.length c0_4) := (blk_cell BK128.out 4).trans rfl
                              have hcz72_5 : wc.cell? ⟨gb128, 5, none⟩ = some (.string a0_5) := (blk_cell BK128.out 5).trans rfl
                              have hcz72_6 : wc.cell? ⟨gb128, 6, none⟩ = some (.string a0_6) := (blk_cell BK128.out 6).trans rfl
                              have hcz72_7 : wc.cell? ⟨gb128, 7, none⟩ = some (.int .i64 a0_7) := (blk_cell BK128.out 7).trans rfl
                              have hcz72_8 : wc.cell? ⟨gb128, 8, none⟩ = some (.int .i64 a0_8) := (blk_cell BK128.out 8).trans rfl
                              have hcz72_9 : wc.cell? ⟨gb128, 9, none⟩ = some (.int .i64 a0_9) := (blk_cell BK128.out 9).trans rfl
                              have hcz72_10 : wc.cell? ⟨gb128, 10, none⟩ = some (.int .i64 a0_10) := (blk_cell BK128.out 10).trans rfl
                              have hcz72_11 : wc.cell? ⟨gb128, 11, none⟩ = some (.slice A0_11 l0_11.length c0_11) := (blk_cell BK128.out 11).trans rfl
                              have hcz72_12 : wc.cell? ⟨gb128, 12, none⟩ = some (.slice A0_12 l0_12.length c0_12) := (blk_cell BK128.out 12).trans rfl
                              have hfz72_0 := blk_frozen BK128.out 0
                              have hfz72_1 := blk_frozen BK128.out 1
                              have hfz72_2 := blk_frozen BK128.out 2
                              have hfz72_3 := blk_frozen BK128.out 3
                              have hfz72_4 := blk_frozen BK128.out 4
                              have hfz72_5 := blk_frozen BK128.out 5
                              have hfz72_6 := blk_frozen BK128.out 6
                              have hfz72_7 := blk_frozen BK128.out 7
                              have hfz72_8 := blk_frozen BK128.out 8
                              have hfz72_9 := blk_frozen BK128.out 9
                              have hfz72_10 := blk_frozen BK128.out 10
                              have hfz72_11 := blk_frozen BK128.out 11
                              have hfz72_12 := blk_frozen BK128.out 12
                              go_wp2_with (first | ((with_reducible refine gate_callee (f := 78) rfl ?_); refine goesL_ (some 63) rfl rfl Tryd.func78 (by kernel_rfl) rfl #[.agg #[.int .u64 a0_0, .int .u64 a0_1, .int .u64 a0_2, .int .u64 a0_3, .slice A0_4 l0_4.length c0_4, .string a0_5, .string a0_6, .int .i64 a0_7, .int .i64 a0_8, .int .i64 a0_9, .int .i64 a0_10, .slice A0_11 l0_11.length c0_11, .slice A0_12 l0_12.length c0_12]] rfl xa ?_; (with_reducible refine (span_linked.calls kj37 a0_0 a0_1 a0_2 a0_3 _ _ l0_4 a0_5 a0_6 a0_7 a0_8 a0_9 a0_10 _ _ l0_11 _ _ l0_12 true _ ?side1 ?side2 ?side3 ?side4 ?side5 ?side6 A51.out).mono ?_); (case side1 => repeat (first | exact (Kd.C_below HR0_4.out HB.out) | (with_reducible refine Kd.C_alloc ?_ _) | (with_reducible refine Kd.C_drewN ?_ _) | (with_reducible refine Kd.C_drew ?_))); (case side2 => exact HC0_4.out); (case side3 => repeat (first | exact (Kd.C_below HR0_11.out HB.out) | (with_reducible refine Kd.C_alloc ?_ _) | (with_reducible refine Kd.C_drewN ?_ _) | (with_reducible refine Kd.C_drew ?_))); (case side4 => exact HC0_11.out); (case side5 => repeat (first | exact (Kd.C_below HR0_12.out HB.out) | (with_reducible refine Kd.C_alloc ?_ _) | (with_reducible refine Kd.C_drewN ?_ _) | (with_reducible refine Kd.C_drew ?_))); (case side6 => exact HC0_12.out); rintro e w73 ⟨rfl, hb⟩; refine ⟨_, rfl, ?_⟩; have n0_ := Aside0.mk (blk_below (g := gb128) (o := .cells #[.int .u64 a0_0, .int .u64 a0_1, .int .u64 a0_2, .int .u64 a0_3, .slice A0_4 l0_4.length c0_4, .string a0_5, .string a0_6, .int .i64 a0_7, .int .i64 a0_8, .int .i64 a0_9, .int .i64 a0_10, .slice A0_11 l0_11.length c0_11, .slice A0_12 l0_12.length c0_12] 43 (0, 0)) (xb BK128) hb); have n1_ := Aside0.mk (blk_below (g := gb129) (o := .cells #[.int .u64 0, .int .u64 0] 26 (0, 0)) (xb BK129) hb); have n2_ := Aside0.mk (below_step xq1 hb); clear BK128; clear BK129; clear HB; have BK128 := n0_; have BK129 := n1_; have HB := n2_; clear n0_ n1_ n2_; (try clear hb); (try clear hb2); (try clear hk); (try clear hi); have hcz74_0 : w73.cell? ⟨gb128, 0, none⟩ = some (.int .u64 a0_0) := (blk_cell BK128.out 0).trans rfl; have hcz74_1 : w73.cell? ⟨gb128, 1, none⟩ = some (.int .u64 a0_1) := (blk_cell BK128.out 1).trans rfl; have hcz74_2 : w73.cell? ⟨gb128, 2, none⟩ = some (.int .u64 a0_2) := (blk_cell BK128.out 2).trans rfl; have hcz74_3 : w73.cell? ⟨gb128, 3, none⟩ = some (.int .u64 a0_3) := (blk_cell BK128.out 3).trans rfl; have hcz74_4 : w73.cell? ⟨gb128, 4, none⟩ = some (.slice A0_4 l0_4.length c0_4) := (blk_cell BK128.out 4).trans rfl; have hcz74_5 : w73.cell? ⟨gb128, 5, none⟩ = some (.string a0_5) := (blk_cell BK128.out 5).trans rfl; have hcz74_6 : w73.cell? ⟨gb128, 6, none⟩ = some (.string a0_6) := (blk_cell BK128.out 6).trans rfl; have hcz74_7 : w73.cell? ⟨gb128, 7, none⟩ = some (.int .i64 a0_7) := (blk_cell BK128.out 7).trans rfl; have hcz74_8 : w73.cell? ⟨gb128, 8, none⟩ = some (.int .i64 a0_8) := (blk_cell BK128.out 8).trans rfl; have hcz74_9 : w73.cell? ⟨gb128, 9, none⟩ = some (.int .i64 a0_9) := (blk_cell BK128.out 9).trans rfl; have hcz74_10 : w73.cell? ⟨gb128, 10, none⟩ = some (.int .i64 a0_10) := (blk_cell BK128.out 10).trans rfl; have hcz74_11 : w73.cell? ⟨gb128, 11, none⟩ = some (.slice A0_11 l0_11.length c0_11) := (blk_cell BK128.out 11).trans rfl; have hcz74_12 : w73.cell? ⟨gb128, 12, none⟩ = some (.slice A0_12 l0_12.length c0_12) := (blk_cell BK128.out 12).trans rfl; have hfz74_0 := blk_frozen BK128.out 0; have hfz74_1 := blk_frozen BK128.out 1; have hfz74_2 := blk_frozen BK128.out 2; have hfz74_3 := blk_frozen BK128.out 3; have hfz74_4 := blk_frozen BK128.out 4; have hfz74_5 := blk_frozen BK128.out 5; have hfz74_6 := blk_frozen BK128.out 6; have hfz74_7 := blk_frozen BK128.out 7; have hfz74_8 := blk_frozen BK128.out 8; have hfz74_9 := blk_frozen BK128.out 9; have hfz74_10 := blk_frozen BK128.out 10; have hfz74_11 := blk_frozen BK128.out 11; have hfz74_12 := blk_frozen BK128.out 12) | ((with_reducible refine gate_callee (f := 79) rfl ?_); refine goesL_ (some 68) rfl rfl Tryd.func79 (by kernel_rfl) rfl #[.slice A0_11 l0_11.length c0_11] rfl xa ?_; (with_reducible refine (span_carried.calls kj37 _ _ l0_11 false _ ?side1 ?side2 A53.out (Tabs.below HTabs0_.out xq1)).mono ?_); (case side1 => repeat (first | exact (Kd.C_below HR0_11.out HB.out) | (with_reducible refine Kd.C_alloc ?_ _) | (with_reducible refine Kd.C_drewN ?_ _) | (with_reducible refine Kd.C_drew ?_))); (case side2 => exact HC0_11.out); rintro e w75 ⟨rfl, hb⟩; refine ⟨_, rfl, ?_⟩; have n0_ := Aside0.mk (blk_below (g := gb128) (o := .cells #[.int .u64 a0_0, .int .u64 a0_1, .int .u64 a0_2, .int .u64 a0_3, .slice A0_4 l0_4.length c0_4, .string a0_5, .string a0_6, .int .i64 a0_7, .int .i64 a0_8, .int .i64 a0_9, .int .i64 a0_10, .slice A0_11 l0_11.length c0_11, .slice A0_12 l0_12.length c0_12] 43 (0, 0)) (xb BK128) hb); have n1_ := Aside0.mk (blk_below (g := gb129) (o := .cells #[.int .u64 0, .int .u64 0] 26 (0, 0)) (xb BK129) hb); have n2_ := Aside0.mk (below_step xq1 hb); clear BK128; clear BK129; clear HB; have BK128 := n0_; have BK129 := n1_; have HB := n2_; clear n0_ n1_ n2_; (try clear hb); (try clear hb2); (try clear hk); (try clear hi)))
                              go_ret
                              exact ⟨by first | rfl | (simp [errW_none, errW_some] <;> rfl) | (simp [*, errW_none, errW_some] <;> rfl), by repeat (first | (with_reducible first | exact HB.out | apply below_alloc | apply pw_below_drewN | apply below_drew1 | refine below_set ?_ GE128.out | refine below_set ?_ GE129.out) | exact HB.out)⟩
                          · replace c52 := Bool.eq_false_iff.mpr c52
                            subst c52
                            have H1 : (some 45) = some r := by rw [if_neg (show ¬ (false = true) by decide)] at H; exact H
                            clear H
                            have H := H1
                            clear H1
                            obtain rfl := Option.some.inj H
                            have hnb76 := NB128_129.out
                            have hnc76 := NB129_128.out
                            have hcz77_0 : wc.cell? ⟨gb128, 0, none⟩ = some (.int .u64 a0_0) := (blk_cell BK128.out 0).trans rfl
                            have hcz77_1 : wc.cell? ⟨gb128, 1, none⟩ = some (.int .u64 a0_1) := (blk_cell BK128.out 1).trans rfl
                            have hcz77_2 : wc.cell? ⟨gb128, 2, none⟩ = some (.int .u64 a0_2) := (blk_cell BK128.out 2).trans rfl
                            have hcz77_3 : wc.cell? ⟨gb128, 3, none⟩ = some (.int .u64 a0_3) := (blk_cell BK128.out 3).trans rfl
                            have hcz77_4 : wc.cell? ⟨gb128, 4, none⟩ = some (.slice A0_4 l0_4.length c0_4) := (blk_cell BK128.out 4).trans rfl
                            have hcz77_5 : wc.cell? ⟨gb128, 5, none⟩ = some (.string a0_5) := (blk_cell BK128.out 5).trans rfl
                            have hcz77_6 : wc.cell? ⟨gb128, 6, none⟩ = some (.string a0_6) := (blk_cell BK128.out 6).trans rfl
                            have hcz77_7 : wc.cell? ⟨gb128, 7, none⟩ = some (.int .i64 a0_7) := (blk_cell BK128.out 7).trans rfl
                            have hcz77_8 : wc.cell? ⟨gb128, 8, none⟩ = some (.int .i64 a0_8) := (blk_cell BK128.out 8).trans rfl
                            have hcz77_9 : wc.cell? ⟨gb128, 9, none⟩ = some (.int .i64 a0_9) := (blk_cell BK128.out 9).trans rfl
                            have hcz77_10 : wc.cell? ⟨gb128, 10, none⟩ = some (.int .i64 a0_10) := (blk_cell BK128.out 10).trans rfl
                            have hcz77_11 : wc.cell? ⟨gb128, 11, none⟩ = some (.slice A0_11 l0_11.length c0_11) := (blk_cell BK128.out 11).trans rfl
                            have hcz77_12 : wc.cell? ⟨gb128, 12, none⟩ = some (.slice A0_12 l0_12.length c0_12) := (blk_cell BK128.out 12).trans rfl
                            have hfz77_0 := blk_frozen BK128.out 0
                            have hfz77_1 := blk_frozen BK128.out 1
                            have hfz77_2 := blk_frozen BK128.out 2
                            have hfz77_3 := blk_frozen BK128.out 3
                            have hfz77_4 := blk_frozen BK128.out 4
                            have hfz77_5 := blk_frozen BK128.out 5
                            have hfz77_6 := blk_frozen BK128.out 6
                            have hfz77_7 := blk_frozen BK128.out 7
                            have hfz77_8 := blk_frozen BK128.out 8
                            have hfz77_9 := blk_frozen BK128.out 9
                            have hfz77_10 := blk_frozen BK128.out 10
                            have hfz77_11 := blk_frozen BK128.out 11
                            have hfz77_12 := blk_frozen BK128.out 12
                            go_wp2_with (first | ((with_reducible refine gate_callee (f := 78) rfl ?_); refine goesL_ (some 63) rfl rfl Tryd.func78 (by kernel_rfl) rfl #[.agg #[.int .u64 a0_0, .int .u64 a0_1, .int .u64 a0_2, .int .u64 a0_3, .slice A0_4 l0_4.length c0_4, .string a0_5, .string a0_6, .int .i64 a0_7, .int .i64 a0_8, .int .i64 a0_9, .int .i64 a0_10, .slice A0_11 l0_11.length c0_11, .slice A0_12 l0_12.length c0_12]] rfl xa ?_; (with_reducible refine (span_linked.calls kj37 a0_0 a0_1 a0_2 a0_3 _ _ l0_4 a0_5 a0_6 a0_7 a0_8 a0_9 a0_10 _ _ l0_11 _ _ l0_12 false _ ?side1 ?side2 ?side3 ?side4 ?side5 ?side6 A51.out).mono ?_); (case side1 => repeat (first | exact (Kd.C_below HR0_4.out HB.out) | (with_reducible refine Kd.C_alloc ?_ _) | (with_reducible refine Kd.C_drewN ?_ _) | (with_reducible refine Kd.C_drew ?_))); (case side2 => exact HC0_4.out); (case side3 => repeat (first | exact (Kd.C_below HR0_11.out HB.out) | (with_reducible refine Kd.C_alloc ?_ _) | (with_reducible refine Kd.C_drewN ?_ _) | (with_reducible refine Kd.C_drew ?_))); (case side4 => exact HC0_11.out); (case side5 => repeat (first | exact (Kd.C_below HR0_12.out HB.out) | (with_reducible refine Kd.C_alloc ?_ _) | (with_reducible refine Kd.C_drewN ?_ _) | (with_reducible refine Kd.C_drew ?_))); (case side6 => exact HC0_12.out); rintro e w78 ⟨rfl, hb⟩; refine ⟨_, rfl, ?_⟩; have n0_ := Aside0.mk (blk_below (g := gb128) (o := .cells #[.int .u64 a0_0, .int .u64 a0_1, .int .u64 a0_2, .int .u64 a0_3, .slice A0_4 l0_4.length c0_4, .string a0_5, .string a0_6, .int .i64 a0_7, .int .i64 a0_8, .int .i64 a0_9, .int .i64 a0_10, .slice A0_11 l0_11.length c0_11, .slice A0_12 l0_12.length c0_12] 43 (0, 0)) (xb BK128) hb); have n1_ := Aside0.mk (blk_below (g := gb129) (o := .cells #[.int .u64 0, .int .u64 0] 26 (0, 0)) (xb BK129) hb); have n2_ := Aside0.mk (below_step xq1 hb); clear BK128; clear BK129; clear HB; have BK128 := n0_; have BK129 := n1_; have HB := n2_; clear n0_ n1_ n2_; (try clear hb); (try clear hb2); (try clear hk); (try clear hi)))
                            go_ret
                            exact ⟨by first | rfl | (simp [errW_none, errW_some] <;> rfl) | (simp [*, errW_none, errW_some] <;> rfl), by repeat (first | (with_reducible first | exact HB.out | apply below_alloc | apply pw_below_drewN | apply below_drew1 | refine below_set ?_ GE128.out | refine below_set ?_ GE129.out) | exact HB.out)⟩

end Go.Proofs.YtdlnfmakfnggpaaDoor.Pr
