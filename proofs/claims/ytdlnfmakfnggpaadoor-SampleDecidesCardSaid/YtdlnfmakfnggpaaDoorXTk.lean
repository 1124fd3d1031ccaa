/- sample.holds: does a policy hold of a trace's spans. -/
import Derived.Test.YtdlnfmakfnggpaaDoorXOn
import Derived.Test.YtdlnfmakfnggpaaDoorPr0a
import Derived.Test.YtdlnfmakfnggpaaDoorPr0b
namespace Go.Proofs.YtdlnfmakfnggpaaDoor.Pr
open Go.RowKit Go.Lib Go.Shelf Go.Proofs.YtdlnfmakfnggpaaDoorW.PrintWords
set_option linter.unusedVariables false
set_option linter.unusedSimpArgs false
def spanL_ren : Go.Shelf.Ren := ⟨fun | 8 => 64 | 6 => 81 | n => n, fun | 22 => 34 | 23 => 43 | 25 => 114 | 4 => 4 | 3 => 3 | 0 => 0 | n => n, fun | n => n⟩
theorem spanL : Go.Proofs.SlLaysH0.n8 Tryd.prog spanL_ren := {
  mixed := by kernel_rfl
  f6 := ⟨Tryd.f81.name, by decide, Tryd.func81.trans (congrArg some (by kernel_rfl))⟩
  f8 := ⟨Tryd.f64.name, by decide, Tryd.func64.trans (congrArg some (by kernel_rfl))⟩
  t0 := Tryd.underlying0
  a0 := Tryd.isAgg0
  z0 := Tryd.sizeOf0
  v0 := Tryd.zeroValue0
  t3 := Tryd.underlying3
  a3 := Tryd.isAgg3
  z3 := Tryd.sizeOf3
  v3 := Tryd.zeroValue3
  t4 := Tryd.underlying4
  a4 := Tryd.isAgg4
  z4 := Tryd.sizeOf4
  v4 := Tryd.zeroValue4
  t22 := Tryd.underlying34
  a22 := Tryd.isAgg34
  z22 := Tryd.sizeOf34
  v22 := Tryd.zeroValue34
  t25 := Tryd.underlying114
  a25 := Tryd.isAgg114
  z25 := Tryd.sizeOf114
  v25 := Tryd.zeroValue114 }
/-- A span with its cells. -/
structure SR where
  x : S43
  A4 : Option Addr
  c4 : Nat
  A11 : Option Addr
  c11 : Nat
  A12 : Option Addr
  c12 : Nat
instance : Inhabited SR := ⟨⟨z43, none, 0, none, 0, none, 0⟩⟩
def encR (r : SR) : List Value := cs43 r.x r.A4 r.c4 r.A11 r.c11 r.A12 r.c12
theorem raw_row {w : World} {l : List S43} {ab ao : Nat}
    (hrow : ∀ k : Nat, k < l.length → ∃ A4 c4 A11 c11 A12 c12, k43.K w (rd_T43 l k) (cs43 (rd_T43 l k) A4 c4 A11 c11 A12 c12) ∧ ∀ i u, (cs43 (rd_T43 l k) A4 c4 A11 c11 A12 c12)[i]? = some u → w.cell? ⟨ab, ao + k * 13 + i, none⟩ = some u) :
    ∃ zs : List SR, zs.map (·.x) = l ∧ ∀ j, j < zs.length → ∀ i v, (encR zs[j]!)[i]? = some v → w.cell? ⟨ab, ao + j * 13 + i, none⟩ = some v := by
  have h1 : ∀ k : Nat, ∃ r : SR, k < l.length → r.x = rd_T43 l k ∧ ∀ i u, (encR r)[i]? = some u → w.cell? ⟨ab, ao + k * 13 + i, none⟩ = some u := fun k => by
    by_cases hk : k < l.length
    · obtain ⟨A4, c4, A11, c11, A12, c12, _, h⟩ := hrow k hk
      exact ⟨⟨rd_T43 l k, A4, c4, A11, c11, A12, c12⟩, fun _ => ⟨rfl, h⟩⟩
    · exact ⟨default, fun h => absurd h hk⟩
  obtain ⟨f, hf⟩ := Classical.axiomOfChoice h1
  refine ⟨(List.range l.length).map f, ?_, fun j hj => ?_⟩
  · apply List.ext_getElem
    · simp
    · intro i a b
      simp only [List.getElem_map, List.getElem_range]
      have hi : i < l.length := b
      rw [(hf i hi).1]
      simp [rd_T43, List.getD, hi]
  · have hj' : j < l.length := by simpa using hj
    rw [getElem!_pos _ j hj]
    simp only [List.getElem_map, List.getElem_range]
    exact (hf j hj').2
theorem index_empty81 (a : Option Addr) (c : Nat) (fv : Value) (w : World) : Calls Tryd.prog 81 #[.slice a 0 c, fv] w fun e w' => e = .returned (.int .i64 (-1)) ∧ w' = w := by
  go_enter Tryd.func81, Tryd.ntmps81
  go_wp2
  refine wp_loop_rounds 1 ?_; rw [rounds_succ]
  go_wp2
  go_ret
  exact ⟨rfl, rfl⟩
theorem contains_empty64 (a : Option Addr) (c : Nat) (fv : Value) (w : World) : Calls Tryd.prog 64 #[.slice a 0 c, fv] w fun e w' => e = .returned (.bool false) ∧ w' = w := by
  go_enter Tryd.func64, Tryd.ntmps64
  go_wp2_with (go_at_call 81; refine (index_empty81 a c fv _).mono ?_; rintro e w' ⟨rfl, rfl⟩)
  go_ret
  exact ⟨rfl, rfl⟩
theorem contains64 (A0 : Option Addr) (c0 : Nat) (l0 : List S43) (w : World) (hr0 : Kd.C k43 w A0 l0.length l0) (p : S43 → Bool) (g : Nat) (lb : Array Value) (eg : ∀ args w, (callFunc g args).run Tryd.prog w = .ok (.enter g args) w)
    (hp : PredBelow Tryd.prog g lb (fun r : SR => .agg (encR r).toArray) (fun r => p r.x) w) :
    Calls Tryd.prog 64 #[.slice A0 l0.length c0, .func (.func g) #[] lb] w (BoolPost w (l0.any p)) := by
  by_cases h0 : 0 < l0.length
  · obtain ⟨ab, ao, rfl, hlt, hrow⟩ := row43 hr0 h0
    obtain ⟨zs, hz, hc⟩ := raw_row hrow
    have hzl : zs.length = l0.length := by rw [← hz]; simp
    have hcon := AnyQ.slices_ContainsFunc spanL 13 (fun w => by first | exact Tryd.isAgg43 w | kernel_rfl) (fun w => by first | exact Tryd.sizeOf43 w | kernel_rfl) encR (fun _ => rfl) (fun r : SR => p r.x) g lb eg ab ao l0.length c0 zs w hp (by omega) hr0.2.1 (by exact hlt) hc
    rw [List.take_of_length_le (by omega)] at hcon
    have ea : (zs.any fun r => p r.x) = l0.any p := by rw [← hz, List.any_map]; rfl
    rw [ea] at hcon
    exact hcon
  · have hx : l0 = [] := List.eq_nil_of_length_eq_zero (by omega)
    subst hx
    refine (contains_empty64 A0 c0 _ w).mono ?_
    rintro e w' ⟨rfl, rfl⟩
    exact ⟨rfl, Below.refl _ _⟩
theorem pred65 (w : World) : PredBelow Tryd.prog 65 #[] (fun r : SR => .agg (encR r).toArray) (fun r => r.x.f7 == 2) w := fun W r hb => by
  obtain ⟨⟨⟨hi, lo⟩, id, par, lk, sv, op, kd, st, s0, s1, la, le⟩, A4, c4, A11, c11, A12, c12⟩ := r
  have HB := Lib.hid (below_alloc hb (.cells #[.int .u64 hi, .int .u64 lo, .int .u64 id, .int .u64 par, .slice A4 lk.length c4, .string sv, .string op, .int .i64 kd, .int .i64 st, .int .i64 s0, .int .i64 s1, .slice A11 la.length c11, .slice A12 le.length c12] 43))
  show Calls Tryd.prog 65 #[.agg #[.int .u64 hi, .int .u64 lo, .int .u64 id, .int .u64 par, .slice A4 lk.length c4, .string sv, .string op, .int .i64 kd, .int .i64 st, .int .i64 s0, .int .i64 s1, .slice A11 la.length c11, .slice A12 le.length c12]] W fun e w' => e = .returned (.bool (st == 2)) ∧ Below w.heap.size w w'
  clear hb
  go_enter Tryd.func65, Tryd.ntmps65
  go_wp2
  go_ret
  exact ⟨rfl, HB.out⟩
theorem pred67 (w : World) (B : Nat) (nm : ByteArray) (hB : w.cell? ⟨B, 2, none⟩ = some (.string nm)) : PredBelow Tryd.prog 67 #[.pointer (some ⟨B, 0, none⟩)] (fun r : SR => .agg (encR r).toArray) (fun r => r.x.f4.toList == nm.toList) w := fun W r hb => by
  obtain ⟨⟨⟨hi, lo⟩, id, par, lk, sv, op, kd, st, s0, s1, la, le⟩, A4, c4, A11, c11, A12, c12⟩ := r
  have HB := Lib.hid (below_alloc hb (.cells #[.int .u64 hi, .int .u64 lo, .int .u64 id, .int .u64 par, .slice A4 lk.length c4, .string sv, .string op, .int .i64 kd, .int .i64 st, .int .i64 s0, .int .i64 s1, .slice A11 la.length c11, .slice A12 le.length c12] 43))
  have hc := pw_cell_below hb hB
  have hlt : B < W.heap.size := World.block_lt_of_cell? W _ hc
  show Calls Tryd.prog 67 #[.agg #[.int .u64 hi, .int .u64 lo, .int .u64 id, .int .u64 par, .slice A4 lk.length c4, .string sv, .string op, .int .i64 kd, .int .i64 st, .int .i64 s0, .int .i64 s1, .slice A11 la.length c11, .slice A12 le.length c12], .pointer (some ⟨B, 0, none⟩)] W fun e w' => e = .returned (.bool (sv.toList == nm.toList)) ∧ Below w.heap.size w w'
  clear hb hB
  go_enter Tryd.func67, Tryd.ntmps67
  go_wp2
  go_ret
  exact ⟨rfl, HB.out⟩
theorem holds_a (kd na : Int) (nm : ByteArray) (pt : Int) (A0 : Option Addr) (c0 : Nat) (l : List S43) (w : World) (hr : Kd.C k43 w A0 l.length l) (hc : l.length ≤ c0) (h1 : kd = 1) :
    Calls Tryd.prog 43 #[.agg #[.int .i64 kd, .int .u64 na, .string nm, .int .i64 pt], .slice A0 l.length c0] w (BoolPost w (l.any (fun x => x.f7 == 2))) := by
  subst h1
  have hb := (Below.refl w.heap.size w).alloc (Nat.le_refl _) (.cells #[.int .i64 1, .int .u64 na, .string nm, .int .i64 pt] 30)
  have eg : ∀ args w, (callFunc 65 args).run Tryd.prog w = .ok (.enter 65 args) w := enters_of Tryd.func65 (by kernel_rfl) rfl
  have HC := Lib.hid (contains64 A0 c0 l _ (Kd.C_below hr hb) (fun x => x.f7 == 2) 65 #[] eg (pred65 _))
  have HB := Lib.hid hb
  clear hr hb eg
  generalize l.any (fun x => x.f7 == 2) = b at *
  go_enter Tryd.func43, Tryd.ntmps43
  go_wp2_with fail
  refine HC.out.mono ?_
  rintro e w1 ⟨rfl, hb1⟩
  have HB1 := Lib.hid (HB.out.trans (hb1.mono HB.out.size))
  clear hb1
  go_wp2_with fail
  go_ret
  exact ⟨rfl, HB1.out⟩
theorem holds_c (kd na : Int) (nm : ByteArray) (pt : Int) (A0 : Option Addr) (c0 : Nat) (l : List S43) (w : World) (hr : Kd.C k43 w A0 l.length l) (hc : l.length ≤ c0) (h1 : kd = 3) :
    Calls Tryd.prog 43 #[.agg #[.int .i64 kd, .int .u64 na, .string nm, .int .i64 pt], .slice A0 l.length c0] w (BoolPost w (l.any (fun x => x.f4.toList == nm.toList))) := by
  subst h1
  have hb := (Below.refl w.heap.size w).alloc (Nat.le_refl _) (.cells #[.int .i64 3, .int .u64 na, .string nm, .int .i64 pt] 30)
  have eg : ∀ args w, (callFunc 67 args).run Tryd.prog w = .ok (.enter 67 args) w := enters_of Tryd.func67 (by kernel_rfl) rfl
  have HC := Lib.hid (contains64 A0 c0 l _ (Kd.C_below hr hb) (fun x => x.f4.toList == nm.toList) 67 #[.pointer (some ⟨w.heap.size, 0, none⟩)] eg (pred67 _ w.heap.size nm ((cell_of_row _ _ 2 _ _ _ (blk_new w _)).trans rfl)))
  have HB := Lib.hid hb
  clear hr hb eg
  generalize l.any (fun x => x.f4.toList == nm.toList) = b at *
  go_enter Tryd.func43, Tryd.ntmps43
  go_wp2_with fail
  refine HC.out.mono ?_
  rintro e w1 ⟨rfl, hb1⟩
  have HB1 := Lib.hid (HB.out.trans (hb1.mono HB.out.size))
  clear hb1
  go_wp2_with fail
  go_ret
  exact ⟨rfl, HB1.out⟩
theorem holds_e (kd na : Int) (nm : ByteArray) (pt : Int) (v : Value) (w : World) (h1 : kd ≠ 1) (h2 : kd ≠ 2) (h3 : kd ≠ 3) (h4 : kd ≠ 4) :
    Calls Tryd.prog 43 #[.agg #[.int .i64 kd, .int .u64 na, .string nm, .int .i64 pt], v] w (BoolPost w true) := by
  have e1 : (kd == 1) = false := by simpa using h1
  have e2 : (kd == 2) = false := by simpa using h2
  have e3 : (kd == 3) = false := by simpa using h3
  have e4 : (kd == 4) = false := by simpa using h4
  have HB := Lib.hid ((Below.refl w.heap.size w).alloc (Nat.le_refl _) (.cells #[.int .i64 kd, .int .u64 na, .string nm, .int .i64 pt] 30))
  clear h1 h2 h3 h4
  go_enter Tryd.func43, Tryd.ntmps43
  go_wp2_with fail
  go_ret
  exact ⟨rfl, HB.out⟩
theorem holds_b (kd na : Int) (nm : ByteArray) (pt : Int) (A0 : Option Addr) (c0 : Nat) (l : List S43) (w : World) (hr : Kd.C k43 w A0 l.length l) (hc : l.length ≤ c0) (h1 : kd = 2) (k : Nat) (tk : Int) (ht : sample_took.f k l = some tk) :
    Calls Tryd.prog 43 #[.agg #[.int .i64 kd, .int .u64 na, .string nm, .int .i64 pt], .slice A0 l.length c0] w (BoolPost w (decide (na ≤ tk))) := by
  subst h1
  have hb := (Below.refl w.heap.size w).alloc (Nat.le_refl _) (.cells #[.int .i64 2, .int .u64 na, .string nm, .int .i64 pt] 30)
  have HC : Hid (∀ x : Wx (w.alloc (.cells #[.int .i64 2, .int .u64 na, .string nm, .int .i64 pt] 30)), Calls Tryd.prog 66 #[.slice A0 l.length c0] x.W fun e w' => e = .returned (.int .u64 tk) ∧ Below x.W.heap.size x.W w') :=
    fun x => sample_took.calls k A0 c0 l tk x.W (Kd.C_below hr (hb.trans (x.h.mono hb.size))) hc ht
  have hq : ∀ x : Wx (w.alloc (.cells #[.int .i64 2, .int .u64 na, .string nm, .int .i64 pt] 30)), x.W.cell? ⟨w.heap.size, 1, none⟩ = some (.int .u64 na) := fun x => x.cell ((cell_of_row _ _ 1 _ _ _ (blk_new w _)).trans rfl)
  have HB := Lib.hid hb
  clear hr hb ht
  go_enter Tryd.func43, Tryd.ntmps43
  go_wp2_with fail
  refine wp_region_ext (by kernel_rfl) (by kernel_rfl) ?_
  repeat (go_big_quiet_step ((go_at_call 66; exact Calls.ext_of (HC.out _))))
  refine wpQuiet_nil ?_
  intro _ hw'
  obtain ⟨xx, rfl⟩ := hw'
  go_wp2_with fail
  go_ret
  exact ⟨rfl, HB.out.trans (xx.h.mono HB.out.size)⟩
theorem holds_d (kd na : Int) (nm : ByteArray) (pt : Int) (A0 : Option Addr) (c0 : Nat) (l : List S43) (w : World) (hr : Kd.C k43 w A0 l.length l) (hc : l.length ≤ c0) (h0 : 0 < l.length) (h1 : kd = 4) (mx : Int) (hm : sample_Mix.f (rd_T43 l 0).f0.f0 (rd_T43 l 0).f0.f1 = some mx) :
    Calls Tryd.prog 43 #[.agg #[.int .i64 kd, .int .u64 na, .string nm, .int .i64 pt], .slice A0 l.length c0] w (BoolPost w (decide (mx / 281474976710656 < IntKind.u64.wrap pt))) := by
  subst h1
  obtain ⟨ab, ao, rfl, hab, hrow⟩ := row43 hr h0
  obtain ⟨B4, b4, B11, b11, B12, b12, _, hz⟩ := hrow 0 h0
  have z0 : w.cell? ⟨ab, ao, none⟩ = some (.int .u64 (rd_T43 l 0).f0.f0) := by have := hz 0 _ rfl; simpa using this
  have z1 : w.cell? ⟨ab, ao + 1, none⟩ = some (.int .u64 (rd_T43 l 0).f0.f1) := by have := hz 1 _ rfl; simpa using this
  have hb := (Below.refl w.heap.size w).alloc (Nat.le_refl _) (.cells #[.int .i64 4, .int .u64 na, .string nm, .int .i64 pt] 30)
  generalize (rd_T43 l 0).f0.f0 = hi at *
  generalize (rd_T43 l 0).f0.f1 = lo at *
  have HC : Hid (∀ x : Wx (w.alloc (.cells #[.int .i64 4, .int .u64 na, .string nm, .int .i64 pt] 30)), Calls Tryd.prog 12 #[.agg #[.int .u64 hi, .int .u64 lo]] x.W fun e w' => e = .returned (.int .u64 mx) ∧ Below x.W.heap.size x.W w') :=
    fun x => sample_Mix.calls hi lo mx x.W hm
  have hq : ∀ x : Wx (w.alloc (.cells #[.int .i64 4, .int .u64 na, .string nm, .int .i64 pt] 30)), x.W.cell? ⟨w.heap.size, 3, none⟩ = some (.int .i64 pt) := fun x => x.cell ((cell_of_row _ _ 3 _ _ _ (blk_new w _)).trans rfl)
  have hq0 : ∀ x : Wx (w.alloc (.cells #[.int .i64 4, .int .u64 na, .string nm, .int .i64 pt] 30)), x.W.cell? ⟨ab, ao, none⟩ = some (.int .u64 hi) := fun x => x.cell ((hb.cell (p := ⟨ab, ao, none⟩) hab).trans z0)
  have hq1 : ∀ x : Wx (w.alloc (.cells #[.int .i64 4, .int .u64 na, .string nm, .int .i64 pt] 30)), x.W.cell? ⟨ab, ao + 1, none⟩ = some (.int .u64 lo) := fun x => x.cell ((hb.cell (p := ⟨ab, ao + 1, none⟩) hab).trans z1)
  have HB := Lib.hid hb
  have h0' : (0 : Int) < l.length := by omega
  clear hr hb hm hz z0 z1 hrow
  go_enter Tryd.func43, Tryd.ntmps43
  go_wp2_with fail
  refine wp_region_ext (by kernel_rfl) (by kernel_rfl) ?_
  repeat (go_big_quiet_step ((go_at_call 12; exact Calls.ext_of (HC.out _))))
  refine wpQuiet_nil ?_
  intro _ hw'
  obtain ⟨xx, rfl⟩ := hw'
  go_wp2_with fail
  go_ret
  exact ⟨rfl, HB.out.trans (xx.h.mono HB.out.size)⟩
def holdsF (p : S30) (l : List S43) (tk mx : Int) : Bool :=
  if p.f0 = 1 then l.any (fun x => x.f7 == 2) else if p.f0 = 2 then decide (p.f1 ≤ tk) else if p.f0 = 3 then l.any (fun x => x.f4.toList == p.f2.toList) else if p.f0 = 4 then decide (mx / 281474976710656 < IntKind.u64.wrap p.f3) else true
theorem holds_run (p : S30) (A0 : Option Addr) (c0 : Nat) (l : List S43) (w : World) (hr : Kd.C k43 w A0 l.length l) (hc : l.length ≤ c0) (h0 : 0 < l.length) (k : Nat) (tk mx : Int) (ht : sample_took.f k l = some tk) (hm : sample_Mix.f (rd_T43 l 0).f0.f0 (rd_T43 l 0).f0.f1 = some mx) :
    Calls Tryd.prog 43 #[.agg #[.int .i64 p.f0, .int .u64 p.f1, .string p.f2, .int .i64 p.f3], .slice A0 l.length c0] w (BoolPost w (holdsF p l tk mx)) := by
  unfold holdsF
  by_cases h1 : p.f0 = 1
  · rw [if_pos h1]; exact holds_a _ _ _ _ _ _ _ _ hr hc h1
  rw [if_neg h1]
  by_cases h2 : p.f0 = 2
  · rw [if_pos h2]; exact holds_b _ _ _ _ _ _ _ _ hr hc h2 k tk ht
  rw [if_neg h2]
  by_cases h3 : p.f0 = 3
  · rw [if_pos h3]; exact holds_c _ _ _ _ _ _ _ _ hr hc h3
  rw [if_neg h3]
  by_cases h4 : p.f0 = 4
  · rw [if_pos h4]; exact holds_d _ _ _ _ _ _ _ _ hr hc h0 h4 mx hm
  rw [if_neg h4]
  exact holds_e _ _ _ _ _ _ h1 h2 h3 h4
end Go.Proofs.YtdlnfmakfnggpaaDoor.Pr
