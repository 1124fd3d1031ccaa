/- span.Clone: slices.Clone and slices.Clip of its three lists. -/
import Derived.Test.YthdkgilpnkabmaaGreatDoorKq
import Derived.Lib.Hide
import Derived.WalkSpells
import Derived.Outline
namespace Go.Proofs.YthdkgilpnkabmaaGreatDoor.Pr
open Go Go.RowKit Go.Proofs.YthdkgilpnkabmaaGreatDoorW.PrintWords Go.Proofs.YthdkgilpnkabmaaGreatDoorW.PrintMore
set_option linter.unusedVariables false
set_option linter.unusedSimpArgs false
theorem R_empty {α : Type} (d : Kd α) (e : Nat) (W : World) : d.R e (W.alloc (.cells #[] e)) W.heap.size (fun _ => True) (.slice (some ⟨W.heap.size, 0, none⟩) 0 0) [] :=
  ⟨fun _ _ => trivial, [], ⟨by simp, .inr ⟨W.heap.size, 0, #[], rfl, Nat.le_refl _, blk_new W _, Nat.le_refl _, by unfold maxLen; omega, by simp, by simp⟩⟩, Reps.none _ _⟩
def RowPost {α : Type} (d : Kd α) (e : Nat) (W : World) (xs : List α) (en : Ending) (w' : World) : Prop := ∃ v, en = .returned v ∧ d.Zv e w' W.heap.size (fun _ => True) v xs ∧ Below W.heap.size W w'
/-! ### links -/
theorem infoLi : (Tryz.prog.info? 34).map (fun i => (i.zero, i.size, i.bytes)) = some (some (.int .u64 0), 1, 8) := by kernel_rfl
theorem cap_Li (W : World) (A : Option Addr) (n c : Nat) (hc : n ≤ c) : (Instr.slice 35 (.slice A n c) none (some (.int .i64 n)) (some (.int .i64 n))).run Tryz.prog W = .ok (.slice A n n) W := by
  obtain ⟨i0, hi, hzz⟩ := Option.map_eq_some_iff.1 infoLi
  have hel : Tryz.prog.elem 35 = 34 := by simp [Program.elem, Tryz.underlying35]
  have hu : Tryz.prog.underlying 35 = some (.slice (Tryz.prog.elem 35)) := by rw [hel]; exact Tryz.underlying35
  have ha : (A.map fun x => x.add 0) = A := by cases A <;> simp [Addr.add]
  have hc' : (n : Int) ≤ c := by omega
  simp [Instr.slice, run_underlying hu, Instr.sliceBounds, run_sliceBound, hc', hel, sizeOf, typeInfo, hi, sliced, Result.andThen, ha]
theorem clip_Li (W : World) (A : Option Addr) (n c : Nat) (hc : n ≤ c) (hl : n ≤ 9223372036854775807) : Calls Tryz.prog 55 #[.slice A n c] W fun e w' => e = .returned (.slice A n n) ∧ w' = W := by
  have hk := fun W => cap_Li W A n c hc
  go_enter Tryz.func55, Tryz.ntmps55
  go_wp2
  go_ret
  exact ⟨rfl, rfl⟩
set_option maxHeartbeats 1000000 in
theorem clone_Li (W : World) (A : Option Addr) (c : Nat) (xs : List Int) (hr : Kd.C (Kd.int .u64) W A xs.length xs) (hc : xs.length ≤ c) (hl : xs.length * 8 ≤ 140737488351232) :
    Calls Tryz.prog 56 #[.slice A xs.length c] W (RowPost (Kd.int .u64) 34 W xs) := by
  cases A with
  | none =>
    have h0 : xs = [] := by
      rcases Nat.eq_zero_or_pos xs.length with h | h
      · exact List.eq_nil_of_length_eq_zero h
      · obtain ⟨ad, h1, _⟩ := hr.2.2 h
        cases h1
    subst h0
    have hnil : ∀ W n c, (binOp .eql 35 (.slice none n c) (.slice none 0 0)).run Tryz.prog W = .ok (.bool true) W := fun W n c => by
      have := Lib.run_eql_slice_nil (P := Tryz.prog) W 35 34 none n c 0 0 Tryz.underlying35
      simpa using this
    clear hr hl
    go_enter Tryz.func56, Tryz.ntmps56
    go_wp2
    go_ret
    exact ⟨_, rfl, Kd.Zv_of_Q (Kd.Q_nil _ _ _ _ _), Below.refl _ _⟩
  | some ad =>
    have hnil : ∀ W, (binOp .eql 35 (.slice (some ad) xs.length c) (.slice none 0 0)).run Tryz.prog W = .ok (.bool false) W := fun W => by
      have := Lib.run_eql_slice_nil (P := Tryz.prog) W 35 34 (some ad) xs.length c 0 0 Tryz.underlying35
      simpa using this
    have HR := Lib.hid hr
    clear hr
    go_enter Tryz.func56, Tryz.ntmps56
    have hb1 := below_alloc (Below.refl W.heap.size W) (.cells #[] 34)
    have HR1 := Lib.hid (Kd.C_below HR.out hb1)
    have HO1 := Lib.hid (R_empty (Kd.int .u64) 34 W)
    have HB1 := Lib.hid hb1
    have hz1 : W.heap.size ≤ (W.alloc (.cells #[] 34)).heap.size := hb1.size
    clear hb1
    go_wp2_with (first
      | (at_builtin; refine Kd.R_append_rows (Kd.int .u64) (Rr := (Kd.int .u64).K (W.alloc (.cells #[] 34))) (w0 := W) W.heap.size rfl _ _ 35 34 (.int .u64 0) 8 rfl Tryz.underlying35 infoLi rfl (by decide) (by decide) _ [] xs (some ad) xs.length c (fun _ => True) (fun _ => False) rfl rfl HO1.out HR1.out (fun x cs h => h) (fun k h => False.elim h) (fun k h => trivial) HB1.out hz1 (by simp; omega) ?_))
    intro v2 w2 HO2 hb2 hg2 hat2
    obtain ⟨A2, c2, hv2, hc2, _⟩ := Kd.R_reads HO2
    first | rw [List.nil_append] at HO2 | skip
    subst hv2
    have HP := Lib.hid (Kd.Zv_of_R HO2)
    have HB2 := Lib.hid hb2
    clear HO2 hb2 hg2 hat2
    go_wp2
    go_ret
    exact ⟨_, rfl, HP.out, HB2.out⟩
/-- Both. -/
theorem both_Li (W : World) (v : Value) (xs : List Int) (base : Nat) (hv : (Kd.int .u64).Zv 34 W base (fun _ => True) v xs) : ∃ v', (Kd.int .u64).Zv 34 W base (fun _ => True) v' xs ∧ Calls Tryz.prog 55 #[v] W fun e w' => e = .returned v' ∧ w' = W := by
  obtain ⟨A, c, rfl, hc, hC⟩ := Kd.Zv_reads hv
  exact ⟨_, Kd.Zv_clip hv xs.length (Nat.le_refl _), clip_Li W A _ c hc hC.2.1⟩
theorem kAt_KM {w w1 : World} {base : Nat} {ok : Nat → Prop} {x : At} {cs : List Value} (h : kAt.K w x cs) : kAt.M w1 base ok x cs := by
  obtain rfl := k108_open h
  exact k108_mkM _ _ _ x
theorem kEv_KM {w w1 : World} {base : Nat} {ok : Nat → Prop} {x : Ev} {cs : List Value} (h : kEv.K w x cs) : kEv.M w1 base ok x cs := by
  obtain rfl := k111_open h
  exact k111_mkM _ _ _ x
/-! ### attributes -/
theorem infoAt : (Tryz.prog.info? 108).map (fun i => (i.zero, i.size, i.bytes)) = some (some (.agg #[.string ByteArray.empty, .int .i64 0, .string ByteArray.empty, .int .i64 0]), 4, 48) := by kernel_rfl
theorem cap_At (W : World) (A : Option Addr) (n c : Nat) (hc : n ≤ c) : (Instr.slice 38 (.slice A n c) none (some (.int .i64 n)) (some (.int .i64 n))).run Tryz.prog W = .ok (.slice A n n) W := by
  obtain ⟨i0, hi, hzz⟩ := Option.map_eq_some_iff.1 infoAt
  have hel : Tryz.prog.elem 38 = 108 := by simp [Program.elem, Tryz.underlying38]
  have hu : Tryz.prog.underlying 38 = some (.slice (Tryz.prog.elem 38)) := by rw [hel]; exact Tryz.underlying38
  have ha : (A.map fun x => x.add 0) = A := by cases A <;> simp [Addr.add]
  have hc' : (n : Int) ≤ c := by omega
  simp [Instr.slice, run_underlying hu, Instr.sliceBounds, run_sliceBound, hc', hel, sizeOf, typeInfo, hi, sliced, Result.andThen, ha]
theorem clip_At (W : World) (A : Option Addr) (n c : Nat) (hc : n ≤ c) (hl : n ≤ 9223372036854775807) : Calls Tryz.prog 57 #[.slice A n c] W fun e w' => e = .returned (.slice A n n) ∧ w' = W := by
  have hk := fun W => cap_At W A n c hc
  go_enter Tryz.func57, Tryz.ntmps57
  go_wp2
  go_ret
  exact ⟨rfl, rfl⟩
set_option maxHeartbeats 1000000 in
theorem clone_At (W : World) (A : Option Addr) (c : Nat) (xs : List At) (hr : Kd.C (kAt) W A xs.length xs) (hc : xs.length ≤ c) (hl : xs.length * 48 ≤ 140737488351232) :
    Calls Tryz.prog 58 #[.slice A xs.length c] W (RowPost (kAt) 108 W xs) := by
  cases A with
  | none =>
    have h0 : xs = [] := by
      rcases Nat.eq_zero_or_pos xs.length with h | h
      · exact List.eq_nil_of_length_eq_zero h
      · obtain ⟨ad, h1, _⟩ := hr.2.2 h
        cases h1
    subst h0
    have hnil : ∀ W n c, (binOp .eql 38 (.slice none n c) (.slice none 0 0)).run Tryz.prog W = .ok (.bool true) W := fun W n c => by
      have := Lib.run_eql_slice_nil (P := Tryz.prog) W 38 108 none n c 0 0 Tryz.underlying38
      simpa using this
    clear hr hl
    go_enter Tryz.func58, Tryz.ntmps58
    go_wp2
    go_ret
    exact ⟨_, rfl, Kd.Zv_of_Q (Kd.Q_nil _ _ _ _ _), Below.refl _ _⟩
  | some ad =>
    have hnil : ∀ W, (binOp .eql 38 (.slice (some ad) xs.length c) (.slice none 0 0)).run Tryz.prog W = .ok (.bool false) W := fun W => by
      have := Lib.run_eql_slice_nil (P := Tryz.prog) W 38 108 (some ad) xs.length c 0 0 Tryz.underlying38
      simpa using this
    have HR := Lib.hid hr
    clear hr
    go_enter Tryz.func58, Tryz.ntmps58
    have hb1 := below_alloc (Below.refl W.heap.size W) (.cells #[] 108)
    have HR1 := Lib.hid (Kd.C_below HR.out hb1)
    have HO1 := Lib.hid (R_empty (kAt) 108 W)
    have HB1 := Lib.hid hb1
    have hz1 : W.heap.size ≤ (W.alloc (.cells #[] 108)).heap.size := hb1.size
    clear hb1
    go_wp2_with (first
      | (at_builtin; refine Kd.R_append_rows (kAt) (Rr := (kAt).K (W.alloc (.cells #[] 108))) (w0 := W) W.heap.size rfl _ _ 38 108 (.agg #[.string ByteArray.empty, .int .i64 0, .string ByteArray.empty, .int .i64 0]) 48 rfl Tryz.underlying38 infoAt rfl (by decide) (by decide) _ [] xs (some ad) xs.length c (fun _ => True) (fun _ => False) rfl rfl HO1.out HR1.out (fun x cs h => kAt_KM h) (fun k h => False.elim h) (fun k h => trivial) HB1.out hz1 (by simp; omega) ?_))
    intro v2 w2 HO2 hb2 hg2 hat2
    obtain ⟨A2, c2, hv2, hc2, _⟩ := Kd.R_reads HO2
    first | rw [List.nil_append] at HO2 | skip
    subst hv2
    have HP := Lib.hid (Kd.Zv_of_R HO2)
    have HB2 := Lib.hid hb2
    clear HO2 hb2 hg2 hat2
    go_wp2
    go_ret
    exact ⟨_, rfl, HP.out, HB2.out⟩
/-- Both. -/
theorem both_At (W : World) (v : Value) (xs : List At) (base : Nat) (hv : (kAt).Zv 108 W base (fun _ => True) v xs) : ∃ v', (kAt).Zv 108 W base (fun _ => True) v' xs ∧ Calls Tryz.prog 57 #[v] W fun e w' => e = .returned v' ∧ w' = W := by
  obtain ⟨A, c, rfl, hc, hC⟩ := Kd.Zv_reads hv
  exact ⟨_, Kd.Zv_clip hv xs.length (Nat.le_refl _), clip_At W A _ c hc hC.2.1⟩
/-! ### events -/
theorem infoEv : (Tryz.prog.info? 111).map (fun i => (i.zero, i.size, i.bytes)) = some (some (.agg #[.int .i64 0, .string ByteArray.empty]), 2, 24) := by kernel_rfl
theorem cap_Ev (W : World) (A : Option Addr) (n c : Nat) (hc : n ≤ c) : (Instr.slice 39 (.slice A n c) none (some (.int .i64 n)) (some (.int .i64 n))).run Tryz.prog W = .ok (.slice A n n) W := by
  obtain ⟨i0, hi, hzz⟩ := Option.map_eq_some_iff.1 infoEv
  have hel : Tryz.prog.elem 39 = 111 := by simp [Program.elem, Tryz.underlying39]
  have hu : Tryz.prog.underlying 39 = some (.slice (Tryz.prog.elem 39)) := by rw [hel]; exact Tryz.underlying39
  have ha : (A.map fun x => x.add 0) = A := by cases A <;> simp [Addr.add]
  have hc' : (n : Int) ≤ c := by omega
  simp [Instr.slice, run_underlying hu, Instr.sliceBounds, run_sliceBound, hc', hel, sizeOf, typeInfo, hi, sliced, Result.andThen, ha]
theorem clip_Ev (W : World) (A : Option Addr) (n c : Nat) (hc : n ≤ c) (hl : n ≤ 9223372036854775807) : Calls Tryz.prog 59 #[.slice A n c] W fun e w' => e = .returned (.slice A n n) ∧ w' = W := by
  have hk := fun W => cap_Ev W A n c hc
  go_enter Tryz.func59, Tryz.ntmps59
  go_wp2
  go_ret
  exact ⟨rfl, rfl⟩
set_option maxHeartbeats 1000000 in
theorem clone_Ev (W : World) (A : Option Addr) (c : Nat) (xs : List Ev) (hr : Kd.C (kEv) W A xs.length xs) (hc : xs.length ≤ c) (hl : xs.length * 24 ≤ 140737488351232) :
    Calls Tryz.prog 60 #[.slice A xs.length c] W (RowPost (kEv) 111 W xs) := by
  cases A with
  | none =>
    have h0 : xs = [] := by
      rcases Nat.eq_zero_or_pos xs.length with h | h
      · exact List.eq_nil_of_length_eq_zero h
      · obtain ⟨ad, h1, _⟩ := hr.2.2 h
        cases h1
    subst h0
    have hnil : ∀ W n c, (binOp .eql 39 (.slice none n c) (.slice none 0 0)).run Tryz.prog W = .ok (.bool true) W := fun W n c => by
      have := Lib.run_eql_slice_nil (P := Tryz.prog) W 39 111 none n c 0 0 Tryz.underlying39
      simpa using this
    clear hr hl
    go_enter Tryz.func60, Tryz.ntmps60
    go_wp2
    go_ret
    exact ⟨_, rfl, Kd.Zv_of_Q (Kd.Q_nil _ _ _ _ _), Below.refl _ _⟩
  | some ad =>
    have hnil : ∀ W, (binOp .eql 39 (.slice (some ad) xs.length c) (.slice none 0 0)).run Tryz.prog W = .ok (.bool false) W := fun W => by
      have := Lib.run_eql_slice_nil (P := Tryz.prog) W 39 111 (some ad) xs.length c 0 0 Tryz.underlying39
      simpa using this
    have HR := Lib.hid hr
    clear hr
    go_enter Tryz.func60, Tryz.ntmps60
    have hb1 := below_alloc (Below.refl W.heap.size W) (.cells #[] 111)
    have HR1 := Lib.hid (Kd.C_below HR.out hb1)
    have HO1 := Lib.hid (R_empty (kEv) 111 W)
    have HB1 := Lib.hid hb1
    have hz1 : W.heap.size ≤ (W.alloc (.cells #[] 111)).heap.size := hb1.size
    clear hb1
    go_wp2_with (first
      | (at_builtin; refine Kd.R_append_rows (kEv) (Rr := (kEv).K (W.alloc (.cells #[] 111))) (w0 := W) W.heap.size rfl _ _ 39 111 (.agg #[.int .i64 0, .string ByteArray.empty]) 24 rfl Tryz.underlying39 infoEv rfl (by decide) (by decide) _ [] xs (some ad) xs.length c (fun _ => True) (fun _ => False) rfl rfl HO1.out HR1.out (fun x cs h => kEv_KM h) (fun k h => False.elim h) (fun k h => trivial) HB1.out hz1 (by simp; omega) ?_))
    intro v2 w2 HO2 hb2 hg2 hat2
    obtain ⟨A2, c2, hv2, hc2, _⟩ := Kd.R_reads HO2
    first | rw [List.nil_append] at HO2 | skip
    subst hv2
    have HP := Lib.hid (Kd.Zv_of_R HO2)
    have HB2 := Lib.hid hb2
    clear HO2 hb2 hg2 hat2
    go_wp2
    go_ret
    exact ⟨_, rfl, HP.out, HB2.out⟩
/-- Both. -/
theorem both_Ev (W : World) (v : Value) (xs : List Ev) (base : Nat) (hv : (kEv).Zv 111 W base (fun _ => True) v xs) : ∃ v', (kEv).Zv 111 W base (fun _ => True) v' xs ∧ Calls Tryz.prog 59 #[v] W fun e w' => e = .returned v' ∧ w' = W := by
  obtain ⟨A, c, rfl, hc, hC⟩ := Kd.Zv_reads hv
  exact ⟨_, Kd.Zv_clip hv xs.length (Nat.le_refl _), clip_Ev W A _ c hc hC.2.1⟩
/-! ### the span -/
/-- What a span's sizes are: its lists can be made anew. -/
def okSp (x : Sp) : Prop := x.f3.length * 8 ≤ 140737488351232 ∧ x.f10.length * 48 ≤ 140737488351232 ∧ x.f11.length * 24 ≤ 140737488351232 ∧ (Lit.int .u64 x.f0.f0).wf = true ∧ (Lit.int .u64 x.f0.f1).wf = true ∧ (Lit.int .u64 x.f1).wf = true
/-- A span in new memory. -/
def ClonePost (W : World) (x : Sp) (e : Ending) (w' : World) : Prop := ∃ v4 v11 v12, e = .returned (.agg (cSp x v4 v11 v12).toArray) ∧ kSq.M w' W.heap.size (fun _ => True) x (cSp x v4 v11 v12) ∧ Below W.heap.size W w'
theorem Zv_below {α : Type} {d : Kd α} {e : Nat} {w w1 : World} {base : Nat} {v : Value} {xs : List α} (h : d.Zv e w base (fun _ => True) v xs) (hb : Below w.heap.size w w1) : d.Zv e w1 base (fun _ => True) v xs :=
  Kd.Zv_mono (Kd.Zv_move (Kd.Zv_bound h) (fun k hk => hb.block k hk.2.2.1)) (fun _ _ => trivial)
/-- Thirteen cells written over, one by one. -/
theorem row13 {w : World} {g t : Nat} {a0 a1 a2 a3 a4 a5 a6 a7 a8 a9 a10 a11 a12 : Value} (h : w.heap[g]? = some (.cells #[a0, a1, a2, a3, a4, a5, a6, a7, a8, a9, a10, a11, a12] t (0, 0))) (u0 u1 u2 u3 u4 u5 u6 u7 u8 u9 u10 u11 u12 : Value) :
    (((((((((((((w.setCell ⟨g, 0, none⟩ u0).setCell ⟨g, 1, none⟩ u1).setCell ⟨g, 2, none⟩ u2).setCell ⟨g, 3, none⟩ u3).setCell ⟨g, 4, none⟩ u4).setCell ⟨g, 5, none⟩ u5).setCell ⟨g, 6, none⟩ u6).setCell ⟨g, 7, none⟩ u7).setCell ⟨g, 8, none⟩ u8).setCell ⟨g, 9, none⟩ u9).setCell ⟨g, 10, none⟩ u10).setCell ⟨g, 11, none⟩ u11).setCell ⟨g, 12, none⟩ u12).heap[g]? = some (.cells #[u0, u1, u2, u3, u4, u5, u6, u7, u8, u9, u10, u11, u12] t (0, 0)) ∧ Below g w (((((((((((((w.setCell ⟨g, 0, none⟩ u0).setCell ⟨g, 1, none⟩ u1).setCell ⟨g, 2, none⟩ u2).setCell ⟨g, 3, none⟩ u3).setCell ⟨g, 4, none⟩ u4).setCell ⟨g, 5, none⟩ u5).setCell ⟨g, 6, none⟩ u6).setCell ⟨g, 7, none⟩ u7).setCell ⟨g, 8, none⟩ u8).setCell ⟨g, 9, none⟩ u9).setCell ⟨g, 10, none⟩ u10).setCell ⟨g, 11, none⟩ u11).setCell ⟨g, 12, none⟩ u12) ∧ ∀ k, k ≠ g → (((((((((((((w.setCell ⟨g, 0, none⟩ u0).setCell ⟨g, 1, none⟩ u1).setCell ⟨g, 2, none⟩ u2).setCell ⟨g, 3, none⟩ u3).setCell ⟨g, 4, none⟩ u4).setCell ⟨g, 5, none⟩ u5).setCell ⟨g, 6, none⟩ u6).setCell ⟨g, 7, none⟩ u7).setCell ⟨g, 8, none⟩ u8).setCell ⟨g, 9, none⟩ u9).setCell ⟨g, 10, none⟩ u10).setCell ⟨g, 11, none⟩ u11).setCell ⟨g, 12, none⟩ u12).heap[k]? = w.heap[k]? := by
  refine ⟨?_, ?_, fun k hk => ?_⟩
  · have h0 := h
    have h1 := blk_set h0 0 u0
    have h2 := blk_set h1 1 u1
    have h3 := blk_set h2 2 u2
    have h4 := blk_set h3 3 u3
    have h5 := blk_set h4 4 u4
    have h6 := blk_set h5 5 u5
    have h7 := blk_set h6 6 u6
    have h8 := blk_set h7 7 u7
    have h9 := blk_set h8 8 u8
    have h10 := blk_set h9 9 u9
    have h11 := blk_set h10 10 u10
    have h12 := blk_set h11 11 u11
    have h13 := blk_set h12 12 u12
    simpa using h13
  · refine Below.setCell ?_ (p := ⟨g, 12, none⟩) (Nat.le_refl _) _
    refine Below.setCell ?_ (p := ⟨g, 11, none⟩) (Nat.le_refl _) _
    refine Below.setCell ?_ (p := ⟨g, 10, none⟩) (Nat.le_refl _) _
    refine Below.setCell ?_ (p := ⟨g, 9, none⟩) (Nat.le_refl _) _
    refine Below.setCell ?_ (p := ⟨g, 8, none⟩) (Nat.le_refl _) _
    refine Below.setCell ?_ (p := ⟨g, 7, none⟩) (Nat.le_refl _) _
    refine Below.setCell ?_ (p := ⟨g, 6, none⟩) (Nat.le_refl _) _
    refine Below.setCell ?_ (p := ⟨g, 5, none⟩) (Nat.le_refl _) _
    refine Below.setCell ?_ (p := ⟨g, 4, none⟩) (Nat.le_refl _) _
    refine Below.setCell ?_ (p := ⟨g, 3, none⟩) (Nat.le_refl _) _
    refine Below.setCell ?_ (p := ⟨g, 2, none⟩) (Nat.le_refl _) _
    refine Below.setCell ?_ (p := ⟨g, 1, none⟩) (Nat.le_refl _) _
    refine Below.setCell ?_ (p := ⟨g, 0, none⟩) (Nat.le_refl _) _
    exact Below.refl _ _
  · rw [Below.heap_setCell _ ⟨g, 12, none⟩ _ k hk]
    rw [Below.heap_setCell _ ⟨g, 11, none⟩ _ k hk]
    rw [Below.heap_setCell _ ⟨g, 10, none⟩ _ k hk]
    rw [Below.heap_setCell _ ⟨g, 9, none⟩ _ k hk]
    rw [Below.heap_setCell _ ⟨g, 8, none⟩ _ k hk]
    rw [Below.heap_setCell _ ⟨g, 7, none⟩ _ k hk]
    rw [Below.heap_setCell _ ⟨g, 6, none⟩ _ k hk]
    rw [Below.heap_setCell _ ⟨g, 5, none⟩ _ k hk]
    rw [Below.heap_setCell _ ⟨g, 4, none⟩ _ k hk]
    rw [Below.heap_setCell _ ⟨g, 3, none⟩ _ k hk]
    rw [Below.heap_setCell _ ⟨g, 2, none⟩ _ k hk]
    rw [Below.heap_setCell _ ⟨g, 1, none⟩ _ k hk]
    rw [Below.heap_setCell _ ⟨g, 0, none⟩ _ k hk]
theorem Zv_blk {α : Type} {d : Kd α} {e : Nat} {w w1 : World} {base : Nat} {v : Value} {xs : List α} (h : d.Zv e w base (fun _ => True) v xs) {g t : Nat} {cs : Array Value} (hb : w.heap[g]? = some (.cells cs t (0, 0))) (ht : t ∉ e :: d.E) (hk : ∀ k, k ≠ g → w1.heap[k]? = w.heap[k]?) : d.Zv e w1 base (fun _ => True) v xs :=
  Kd.Zv_mono (Kd.Zv_move (Kd.Zv_bound h) (fun k hb' => hk k (fun e1 => by
    obtain ⟨_, _, _, q, hq, cells, hc⟩ := hb'
    subst e1
    rw [hb] at hc
    cases hc
    exact ht hq))) (fun _ _ => trivial)
theorem Zv_set {α : Type} {d : Kd α} {e : Nat} {w : World} {base : Nat} {v : Value} {xs : List α} (h : d.Zv e w base (fun _ => True) v xs) {g t : Nat} {cs : Array Value} (hb : w.heap[g]? = some (.cells cs t (0, 0))) (ht : t ∉ e :: d.E) (i : Nat) (u : Value) : d.Zv e (w.setCell ⟨g, i, none⟩ u) base (fun _ => True) v xs :=
  Kd.Zv_mono (Kd.Zv_move (Kd.Zv_bound h) (fun k hk => Below.heap_setCell w ⟨g, i, none⟩ u k (fun e1 => by
    obtain ⟨_, _, _, q, hq, cells, hc⟩ := hk
    subst e1
    rw [hb] at hc
    cases hc
    exact ht hq))) (fun _ _ => trivial)
set_option maxHeartbeats 4000000 in
theorem clone_run (x : Sp) (hx : okSp x) (W : World) (cs : List Value) (hK : kSp.K W x cs) : Calls Tryz.prog 30 #[.agg cs.toArray] W (ClonePost W x) := by
  obtain ⟨h8, h48, h24, _⟩ := hx
  obtain ⟨A4, c4, A11, c11, A12, c12, rfl, l4, g4, l11, g11, l12, g12⟩ := kSp_open' hK
  have G4 := Lib.hid g4
  have G11 := Lib.hid g11
  have G12 := Lib.hid g12
  clear g4 g11 g12 hK
  obtain ⟨⟨hi, lo⟩, id, par, lk, sv, op, kd, st, s0, s1, la, le⟩ := x
  dsimp only at *
  have hB0 := below_alloc (below_alloc (Below.refl W.heap.size W) (.cells #[.int .u64 hi, .int .u64 lo, .int .u64 id, .int .u64 par, .slice A4 lk.length c4, .string sv, .string op, .int .i64 kd, .int .i64 st, .int .i64 s0, .int .i64 s1, .slice A11 la.length c11, .slice A12 le.length c12] 41)) (.cells #[.int .u64 0, .int .u64 0, .int .u64 0, .int .u64 0, .slice none 0 0, .string ⟨#[]⟩, .string ⟨#[]⟩, .int .i64 0, .int .i64 0, .int .i64 0, .int .i64 0, .slice none 0 0, .slice none 0 0] 41)
  have HB0 := Lib.hid hB0
  clear hB0
  show Calls Tryz.prog 30 #[.agg #[.int .u64 hi, .int .u64 lo, .int .u64 id, .int .u64 par, .slice A4 lk.length c4, .string sv, .string op, .int .i64 kd, .int .i64 st, .int .i64 s0, .int .i64 s1, .slice A11 la.length c11, .slice A12 le.length c12]] W _
  go_enter Tryz.func30, Tryz.ntmps30
  go_wp2_with fail
  have g1 := blk_alloc (blk_new W (.cells #[.int .u64 hi, .int .u64 lo, .int .u64 id, .int .u64 par, .slice A4 lk.length c4, .string sv, .string op, .int .i64 kd, .int .i64 st, .int .i64 s0, .int .i64 s1, .slice A11 la.length c11, .slice A12 le.length c12] 41)) (.cells #[.int .u64 0, .int .u64 0, .int .u64 0, .int .u64 0, .slice none 0 0, .string ⟨#[]⟩, .string ⟨#[]⟩, .int .i64 0, .int .i64 0, .int .i64 0, .int .i64 0, .slice none 0 0, .slice none 0 0] 41)
  have g2 := blk_new (W.alloc (.cells #[.int .u64 hi, .int .u64 lo, .int .u64 id, .int .u64 par, .slice A4 lk.length c4, .string sv, .string op, .int .i64 kd, .int .i64 st, .int .i64 s0, .int .i64 s1, .slice A11 la.length c11, .slice A12 le.length c12] 41)) (.cells #[.int .u64 0, .int .u64 0, .int .u64 0, .int .u64 0, .slice none 0 0, .string ⟨#[]⟩, .string ⟨#[]⟩, .int .i64 0, .int .i64 0, .int .i64 0, .int .i64 0, .slice none 0 0, .slice none 0 0] 41)
  rw [World.size_alloc] at g2
  generalize (W.alloc (.cells #[.int .u64 hi, .int .u64 lo, .int .u64 id, .int .u64 par, .slice A4 lk.length c4, .string sv, .string op, .int .i64 kd, .int .i64 st, .int .i64 s0, .int .i64 s1, .slice A11 la.length c11, .slice A12 le.length c12] 41)).alloc (.cells #[.int .u64 0, .int .u64 0, .int .u64 0, .int .u64 0, .slice none 0 0, .string ⟨#[]⟩, .string ⟨#[]⟩, .int .i64 0, .int .i64 0, .int .i64 0, .int .i64 0, .slice none 0 0, .slice none 0 0] 41) = w2 at *
  have z2 : W.heap.size + 1 < w2.heap.size := blk_lt g2
  have HB2 := Lib.hid HB0.out
  have G1 := Lib.hid g1
  have G2 := Lib.hid g2
  clear g1 g2 HB0
  refine (clone_Li w2 A4 c4 lk (Kd.C_below G4.out HB2.out) l4 (by omega)).mono ?_
  rintro e w3 ⟨v, rfl, hv, hb3⟩
  obtain ⟨v', hv', hcl⟩ := both_Li w3 v lk _ hv
  obtain ⟨B4, n4, rfl, _, _⟩ := Kd.Zv_reads hv'
  have G1 := Lib.hid (blk_below G1.out hb3)
  have G2 := Lib.hid (blk_below G2.out hb3)
  have HB3 := Lib.hid (HB2.out.trans (hb3.mono (by omega)))
  have z3 : W.heap.size + 1 < w3.heap.size := Nat.lt_of_lt_of_le z2 hb3.size
  have HV4 := Lib.hid (Kd.Zv_lower hv' (show W.heap.size ≤ w2.heap.size by omega))
  have HCL := Lib.hid hcl
  clear hb3 hv hv' hcl HB2 z2
  go_wp2_with fail
  refine (HCL.out).mono ?_
  rintro e w4 ⟨rfl, hw4⟩
  subst hw4
  have y3 := (cell_of_row _ _ 4 _ _ _ G1.out).trans rfl
  have f3 := blk_frozen G1.out 4
  have q11 := (cell_of_row _ _ 11 _ _ _ G1.out).trans rfl
  go_wp2_with fail
  have g1 := blk_set G1.out 4 (.slice B4 lk.length n4)
  have g2 := blk_far G2.out (p := ⟨W.heap.size, 4, none⟩) (by simp) (.slice B4 lk.length n4)
  have HB2 := Lib.hid (HB3.out.setCell (p := ⟨W.heap.size, 4, none⟩) (Nat.le_refl _) (.slice B4 lk.length n4))
  have z2 : W.heap.size + 1 < (w4.setCell ⟨W.heap.size, 4, none⟩ (.slice B4 lk.length n4)).heap.size := by simpa using z3
  have HV4 := Lib.hid (Zv_set HV4.out G1.out (by decide) 4 (.slice B4 lk.length n4))
  simp only [List.setIfInBounds_toArray, List.set_cons_succ, List.set_cons_zero] at g1
  clear y3 f3 z3 HB3 HCL G1 G2 q11
  have G1 := Lib.hid g1
  have G2 := Lib.hid g2
  clear g1 g2
  generalize w4.setCell ⟨W.heap.size, 4, none⟩ (.slice B4 lk.length n4) = w2 at *
  refine (clone_At w2 A11 c11 la (Kd.C_below G11.out HB2.out) l11 (by omega)).mono ?_
  rintro e w3 ⟨v, rfl, hv, hb3⟩
  obtain ⟨v', hv', hcl⟩ := both_At w3 v la _ hv
  obtain ⟨B11, n11, rfl, _, _⟩ := Kd.Zv_reads hv'
  have G1 := Lib.hid (blk_below G1.out hb3)
  have G2 := Lib.hid (blk_below G2.out hb3)
  have HB3 := Lib.hid (HB2.out.trans (hb3.mono (by omega)))
  have z3 : W.heap.size + 1 < w3.heap.size := Nat.lt_of_lt_of_le z2 hb3.size
  have HV11 := Lib.hid (Kd.Zv_lower hv' (show W.heap.size ≤ w2.heap.size by omega))
  have HV4 := Lib.hid (Zv_below HV4.out hb3)
  have HCL := Lib.hid hcl
  clear hb3 hv hv' hcl HB2 z2
  go_wp2_with fail
  refine (HCL.out).mono ?_
  rintro e w4 ⟨rfl, hw4⟩
  subst hw4
  have y3 := (cell_of_row _ _ 11 _ _ _ G1.out).trans rfl
  have f3 := blk_frozen G1.out 11
  have q12 := (cell_of_row _ _ 12 _ _ _ G1.out).trans rfl
  go_wp2_with fail
  have g1 := blk_set G1.out 11 (.slice B11 la.length n11)
  have g2 := blk_far G2.out (p := ⟨W.heap.size, 11, none⟩) (by simp) (.slice B11 la.length n11)
  have HB2 := Lib.hid (HB3.out.setCell (p := ⟨W.heap.size, 11, none⟩) (Nat.le_refl _) (.slice B11 la.length n11))
  have z2 : W.heap.size + 1 < (w4.setCell ⟨W.heap.size, 11, none⟩ (.slice B11 la.length n11)).heap.size := by simpa using z3
  have HV4 := Lib.hid (Zv_set HV4.out G1.out (by decide) 11 (.slice B11 la.length n11))
  have HV11 := Lib.hid (Zv_set HV11.out G1.out (by decide) 11 (.slice B11 la.length n11))
  simp only [List.setIfInBounds_toArray, List.set_cons_succ, List.set_cons_zero] at g1
  clear y3 f3 z3 HB3 HCL G1 G2 q12
  have G1 := Lib.hid g1
  have G2 := Lib.hid g2
  clear g1 g2
  generalize w4.setCell ⟨W.heap.size, 11, none⟩ (.slice B11 la.length n11) = w2 at *
  refine (clone_Ev w2 A12 c12 le (Kd.C_below G12.out HB2.out) l12 (by omega)).mono ?_
  rintro e w3 ⟨v, rfl, hv, hb3⟩
  obtain ⟨v', hv', hcl⟩ := both_Ev w3 v le _ hv
  obtain ⟨B12, n12, rfl, _, _⟩ := Kd.Zv_reads hv'
  have G1 := Lib.hid (blk_below G1.out hb3)
  have G2 := Lib.hid (blk_below G2.out hb3)
  have HB3 := Lib.hid (HB2.out.trans (hb3.mono (by omega)))
  have z3 : W.heap.size + 1 < w3.heap.size := Nat.lt_of_lt_of_le z2 hb3.size
  have HV12 := Lib.hid (Kd.Zv_lower hv' (show W.heap.size ≤ w2.heap.size by omega))
  have HV4 := Lib.hid (Zv_below HV4.out hb3)
  have HV11 := Lib.hid (Zv_below HV11.out hb3)
  have HCL := Lib.hid hcl
  clear hb3 hv hv' hcl HB2 z2
  go_wp2_with fail
  refine (HCL.out).mono ?_
  rintro e w4 ⟨rfl, hw4⟩
  subst hw4
  have y3 := (cell_of_row _ _ 12 _ _ _ G1.out).trans rfl
  have f3 := blk_frozen G1.out 12
  have q0 := (cell_of_row _ _ 0 _ _ _ G1.out).trans rfl
  have q1 := (cell_of_row _ _ 1 _ _ _ G1.out).trans rfl
  have q2 := (cell_of_row _ _ 2 _ _ _ G1.out).trans rfl
  have q3 := (cell_of_row _ _ 3 _ _ _ G1.out).trans rfl
  have q4 := (cell_of_row _ _ 4 _ _ _ G1.out).trans rfl
  have q5 := (cell_of_row _ _ 5 _ _ _ G1.out).trans rfl
  have q6 := (cell_of_row _ _ 6 _ _ _ G1.out).trans rfl
  have q7 := (cell_of_row _ _ 7 _ _ _ G1.out).trans rfl
  have q8 := (cell_of_row _ _ 8 _ _ _ G1.out).trans rfl
  have q9 := (cell_of_row _ _ 9 _ _ _ G1.out).trans rfl
  have q10 := (cell_of_row _ _ 10 _ _ _ G1.out).trans rfl
  have q11 := (cell_of_row _ _ 11 _ _ _ G1.out).trans rfl
  have p0 := (cell_of_row _ _ 0 _ _ _ G2.out).trans rfl
  have r0 := blk_frozen G2.out 0
  have p1 := (cell_of_row _ _ 1 _ _ _ G2.out).trans rfl
  have r1 := blk_frozen G2.out 1
  have p2 := (cell_of_row _ _ 2 _ _ _ G2.out).trans rfl
  have r2 := blk_frozen G2.out 2
  have p3 := (cell_of_row _ _ 3 _ _ _ G2.out).trans rfl
  have r3 := blk_frozen G2.out 3
  have p4 := (cell_of_row _ _ 4 _ _ _ G2.out).trans rfl
  have r4 := blk_frozen G2.out 4
  have p5 := (cell_of_row _ _ 5 _ _ _ G2.out).trans rfl
  have r5 := blk_frozen G2.out 5
  have p6 := (cell_of_row _ _ 6 _ _ _ G2.out).trans rfl
  have r6 := blk_frozen G2.out 6
  have p7 := (cell_of_row _ _ 7 _ _ _ G2.out).trans rfl
  have r7 := blk_frozen G2.out 7
  have p8 := (cell_of_row _ _ 8 _ _ _ G2.out).trans rfl
  have r8 := blk_frozen G2.out 8
  have p9 := (cell_of_row _ _ 9 _ _ _ G2.out).trans rfl
  have r9 := blk_frozen G2.out 9
  have p10 := (cell_of_row _ _ 10 _ _ _ G2.out).trans rfl
  have r10 := blk_frozen G2.out 10
  have p11 := (cell_of_row _ _ 11 _ _ _ G2.out).trans rfl
  have r11 := blk_frozen G2.out 11
  have p12 := (cell_of_row _ _ 12 _ _ _ G2.out).trans rfl
  have r12 := blk_frozen G2.out 12
  go_wp2_with fail
  have g1 := blk_set G1.out 12 (.slice B12 le.length n12)
  have g2 := blk_far G2.out (p := ⟨W.heap.size, 12, none⟩) (by simp) (.slice B12 le.length n12)
  have HB2 := Lib.hid (HB3.out.setCell (p := ⟨W.heap.size, 12, none⟩) (Nat.le_refl _) (.slice B12 le.length n12))
  have z2 : W.heap.size + 1 < (w4.setCell ⟨W.heap.size, 12, none⟩ (.slice B12 le.length n12)).heap.size := by simpa using z3
  have HV4 := Lib.hid (Zv_set HV4.out G1.out (by decide) 12 (.slice B12 le.length n12))
  have HV11 := Lib.hid (Zv_set HV11.out G1.out (by decide) 12 (.slice B12 le.length n12))
  have HV12 := Lib.hid (Zv_set HV12.out G1.out (by decide) 12 (.slice B12 le.length n12))
  simp only [List.setIfInBounds_toArray, List.set_cons_succ, List.set_cons_zero] at g1
  clear y3 f3 z3 HB3 HCL G1 G2 q0 q1 q2 q3 q4 q5 q6 q7 q8 q9 q10 q11 p0 r0 p1 r1 p2 r2 p3 r3 p4 r4 p5 r5 p6 r6 p7 r7 p8 r8 p9 r9 p10 r10 p11 r11 p12 r12
  have G1 := Lib.hid g1
  have G2 := Lib.hid g2
  clear g1 g2
  generalize w4.setCell ⟨W.heap.size, 12, none⟩ (.slice B12 le.length n12) = w2 at *
  obtain ⟨k1, k2, k3⟩ := row13 G2.out (.int .u64 hi) (.int .u64 lo) (.int .u64 id) (.int .u64 par) (.slice B4 lk.length n4) (.string sv) (.string op) (.int .i64 kd) (.int .i64 st) (.int .i64 s0) (.int .i64 s1) (.slice B11 la.length n11) (.slice B12 le.length n12)
  have HV4 := Lib.hid (Zv_blk HV4.out G2.out (by decide) k3)
  have HV11 := Lib.hid (Zv_blk HV11.out G2.out (by decide) k3)
  have HV12 := Lib.hid (Zv_blk HV12.out G2.out (by decide) k3)
  have HB2 := Lib.hid (HB2.out.trans (k2.mono (by omega)))
  clear k2 k3
  refine bodyPost_ret (results_cell_row rfl _ _ (W.heap.size + 1) 41 #[.int .u64 hi, .int .u64 lo, .int .u64 id, .int .u64 par, .slice B4 lk.length n4, .string sv, .string op, .int .i64 kd, .int .i64 st, .int .i64 s0, .int .i64 s1, .slice B11 la.length n11, .slice B12 le.length n12] (0, 0) _ rfl k1 Tryz.underlying41 rfl (by kernel_rfl)) rfl ?_
  exact ⟨_, _, _, rfl, kSq_mkM _ _ _ ⟨⟨hi, lo⟩, id, par, lk, sv, op, kd, st, s0, s1, la, le⟩ HV4.out HV11.out HV12.out, HB2.out⟩
end Go.Proofs.YthdkgilpnkabmaaGreatDoor.Pr
