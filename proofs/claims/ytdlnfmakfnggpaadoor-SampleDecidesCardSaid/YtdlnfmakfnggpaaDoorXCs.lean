/- sample.Check at every list of policies. -/
import Derived.Test.YtdlnfmakfnggpaaDoorXMa
import Derived.Test.YtdlnfmakfnggpaaDoorPr0
import Derived.Shelf.SlicesQ.IndexFunc
import Derived.Ground.SlgfProg
import Derived.Lib.SliceRun
import Derived.Lib.LaidU8
namespace Go.Proofs.YtdlnfmakfnggpaaDoor.Pr
open Go.RowKit Go.Lib Go.Shelf Go.Proofs.YtdlnfmakfnggpaaDoorW.PrintWords
set_option linter.unusedVariables false
set_option linter.unusedSimpArgs false
theorem C_block {α : Type} {d : Kd α} {w : World} {b t : Nat} {fz : Nat × Nat} {cells : Array Value} {xs : List α} (hb : w.heap[b]? = some (.cells cells t fz)) (hn : xs.length ≤ 9223372036854775807)
    (h : ∀ j p, xs[j]? = some p → ∃ c, d.K w p c ∧ ∀ i u, c[i]? = some u → cells[j * d.sz + i]? = some u) : Kd.C d w (some ⟨b, 0, none⟩) xs.length xs :=
  ⟨rfl, hn, fun _ => ⟨_, rfl, fun j p hj => by
    obtain ⟨c, hc, hu⟩ := h j p hj
    refine ⟨c, d.K_len hc, hc, fun i u hi => ?_⟩
    rw [Addr.add_lit, Nat.zero_add]
    exact (cell_of_row w b _ _ _ _ hb).trans (hu i u hi)⟩⟩
def polL_ren : Go.Shelf.Ren := ⟨fun | 8 => 37 | 6 => 60 | n => n, fun | 22 => 27 | 23 => 30 | 25 => 84 | 4 => 4 | 3 => 3 | 0 => 0 | n => n, fun | n => n⟩
theorem polL : Go.Proofs.SlLaysH0.n8 Tryd.prog polL_ren := {
  mixed := by kernel_rfl
  f6 := ⟨Tryd.f60.name, by decide, Tryd.func60.trans (congrArg some (by kernel_rfl))⟩
  f8 := ⟨Tryd.f37.name, by decide, Tryd.func37.trans (congrArg some (by kernel_rfl))⟩
  t0 := Tryd.underlying0
  a0 := Tryd.isAgg0
  z0 := Tryd.sizeOf0
  v0 := Tryd.zeroValue0
  t3 := Tryd.underlying3
  a3 := Tryd.isAgg3
  z3 := Tryd.sizeOf3
  v3 := Tryd.zeroValue3
  t4 := Tryd.underlying4
  a4 := Tryd.isAgg4
  z4 := Tryd.sizeOf4
  v4 := Tryd.zeroValue4
  t22 := Tryd.underlying27
  a22 := Tryd.isAgg27
  z22 := Tryd.sizeOf27
  v22 := Tryd.zeroValue27
  t25 := Tryd.underlying84
  a25 := Tryd.isAgg84
  z25 := Tryd.sizeOf84
  v25 := Tryd.zeroValue84 }
abbrev Pol (w : World) := { x : S30 // x.f2.size ≤ 9223372036854775807 ∧ ValidAt x.f2 w }
theorem valid_empty (w : World) : ValidAt ⟨#[]⟩ w := fun W hW => valid_nil W
instance (w : World) : Inhabited (Pol w) := ⟨⟨z30, by decide, valid_empty w⟩⟩
def encP {w : World} (x : Pol w) : List Value := [.int .i64 x.1.f0, .int .u64 x.1.f1, .string x.1.f2, .int .i64 x.1.f3]
def mayS (x : S30) : Bool := mayF x.f0 x.f1 x.f2 x.f3
theorem pred38 (w : World) : PredBelow Tryd.prog 38 #[] (fun x : Pol w => .agg (encP x).toArray) (fun x => !mayS x.1) w := fun W x hb => by
  obtain ⟨⟨kd, na, nm, pt⟩, hs, hT⟩ := x
  have hb1 := (Below.refl W.heap.size W).alloc (Nat.le_refl _) (.cells #[.int .i64 kd, .int .u64 na, .string nm, .int .i64 pt] 30)
  have H := Lib.hid (may_run kd na nm pt (W.alloc (.cells #[.int .i64 kd, .int .u64 na, .string nm, .int .i64 pt] 30)) hs (ValidAt.below (ValidAt.below hT hb) hb1))
  have HB := Lib.hid (hb.trans (hb1.mono hb.size))
  have HZ := Lib.hid (show w.heap.size ≤ (W.alloc (.cells #[.int .i64 kd, .int .u64 na, .string nm, .int .i64 pt] 30)).heap.size by have := hb.size; simp; omega)
  show Calls Tryd.prog 38 #[.agg #[.int .i64 kd, .int .u64 na, .string nm, .int .i64 pt]] W fun e w' => e = .returned (.bool (!mayF kd na nm pt)) ∧ Below w.heap.size w w'
  clear hb hb1 hs hT
  go_enter Tryd.func38, Tryd.ntmps38
  go_wp2_with fail
  refine H.out.mono ?_
  rintro e w1 ⟨rfl, hB⟩
  have HB1 := Lib.hid (HB.out.trans (hB.mono HZ.out))
  clear hB
  go_wp2_with fail
  go_ret
  exact ⟨rfl, HB1.out⟩
theorem index_empty60 (a : Option Addr) (c : Nat) (fv : Value) (w : World) : Calls Tryd.prog 60 #[.slice a 0 c, fv] w fun e w' => e = .returned (.int .i64 (-1)) ∧ w' = w := by
  go_enter Tryd.func60, Tryd.ntmps60
  go_wp2
  refine wp_loop_rounds 1 ?_; rw [rounds_succ]
  go_wp2
  go_ret
  exact ⟨rfl, rfl⟩
theorem contains_empty37 (a : Option Addr) (c : Nat) (fv : Value) (w : World) : Calls Tryd.prog 37 #[.slice a 0 c, fv] w fun e w' => e = .returned (.bool false) ∧ w' = w := by
  go_enter Tryd.func37, Tryd.ntmps37
  go_wp2_with (go_at_call 60; refine (index_empty60 a c fv _).mono ?_; rintro e w' ⟨rfl, rfl⟩)
  go_ret
  exact ⟨rfl, rfl⟩
def polOK (l : List S30) (w : World) : Prop := ∀ x ∈ l, x.f2.size ≤ 9223372036854775807 ∧ ValidAt x.f2 w
theorem contains37 (A0 : Option Addr) (c0 : Nat) (l0 : List S30) (w : World) (hr0 : Kd.C k30 w A0 l0.length l0) (ho : polOK l0 w) :
    Calls Tryd.prog 37 #[.slice A0 l0.length c0, .func (.func 38) #[] #[]] w fun e w' => e = .returned (.bool (l0.any fun x => !mayS x)) ∧ Below w.heap.size w w' := by
  by_cases h0 : 0 < l0.length
  · obtain ⟨ad, hA, hx0, _⟩ := at_T30 hr0 0 (by omega) (by omega)
    subst hA
    obtain ⟨ab, ao, sp⟩ := ad
    obtain rfl : sp = none := Go.Proofs.cell_spot hx0
    have hlt : ab < w.heap.size := World.block_lt_of_cell? w _ hx0
    have eg : ∀ args w, (callFunc 38 args).run Tryd.prog w = .ok (.enter 38 args) w := enters_of Tryd.func38 (by kernel_rfl) rfl
    let zs : List (Pol w) := l0.attach.map fun x => ⟨x.1, ho x.1 x.2⟩
    have hzl : zs.length = l0.length := by simp [zs]
    have hz1 : ∀ j (hj : j < zs.length), (zs[j]!).1 = rd_T30 l0 (j : Int) := by
      intro j hj
      rw [getElem!_pos zs j hj]
      have hj' : j < l0.length := by omega
      simp [zs, rd_T30, List.getD, hj']
    have hcon := AnyQ.slices_ContainsFunc polL 4 (fun w => by first | exact Tryd.isAgg30 w | kernel_rfl) (fun w => by first | exact Tryd.sizeOf30 w | kernel_rfl) encP (fun _ => rfl) (fun x : Pol w => !mayS x.1) 38 #[] eg ab ao l0.length c0 zs w (pred38 w) (by omega) hr0.2.1 (by exact hlt) (fun j hj i v hi => by
      obtain ⟨ad', had, h1, h2, h3, h4⟩ := at_T30 hr0 (j : Int) (by omega) (by omega)
      cases had
      rw [Int.toNat_natCast, Addr.add_lit] at h1 h2 h3 h4
      have e := hz1 j hj
      rw [← e] at h1 h2 h3 h4
      match i, hi with
      | 0, hi => simp [encP] at hi; rw [← hi]; simpa using h1
      | 1, hi => simp [encP] at hi; rw [← hi]; simpa using h2
      | 2, hi => simp [encP] at hi; rw [← hi]; simpa using h3
      | 3, hi => simp [encP] at hi; rw [← hi]; simpa using h4
      | i + 4, hi => simp [encP] at hi)
    rw [List.take_of_length_le (by omega)] at hcon
    have ea : (zs.any fun x => !mayS x.1) = l0.any fun x => !mayS x := by
      simp only [zs, List.any_map]
      conv => rhs; rw [← List.attach_map_subtype_val l0]
      rw [List.any_map]
      rfl
    rw [ea] at hcon
    exact hcon
  · have hx : l0 = [] := List.eq_nil_of_length_eq_zero (by omega)
    subst hx
    refine (contains_empty37 A0 c0 _ w).mono ?_
    rintro e w' ⟨rfl, rfl⟩
    exact ⟨rfl, Below.refl _ _⟩
def polF (l : List S30) : Int := if 20 < l.length then 211 else if (l.any fun x => !mayS x) = true then 211 else 0
theorem polcheck_run (A0 : Option Addr) (c0 : Nat) (l0 : List S30) (w : World) (hr0 : Kd.C k30 w A0 l0.length l0) (ho : polOK l0 w) :
    Calls Tryd.prog 13 #[.slice A0 l0.length c0] w fun e w' => e = .returned (.int .i64 (polF l0)) ∧ Below w.heap.size w w' := by
  have HC := Lib.hid (contains37 A0 c0 l0 w hr0 ho)
  have hm := hr0.2.1
  clear hr0 ho
  unfold polF
  by_cases h : 20 < l0.length
  · rw [if_pos h]
    have h' : decide (20 < l0.length) = true := decide_eq_true h
    have h'' : (20 : Int) < (l0.length : Int) := by omega
    clear h
    generalize l0.length = n at *
    go_enter Tryd.func13, Tryd.ntmps13
    go_wp2_with fail
    go_ret
    exact ⟨rfl, Below.refl _ _⟩
  · rw [if_neg h]
    have h'' : ¬ (20 : Int) < (l0.length : Int) := by omega
    clear h
    cases hb : (l0.any fun x => !mayS x)
    all_goals
      rw [hb] at HC
      clear hb
      generalize l0.length = n at *
      go_enter Tryd.func13, Tryd.ntmps13
      go_wp2_with fail
      refine HC.out.mono ?_
      rintro e w1 ⟨rfl, hB⟩
      have HB1 := Lib.hid hB
      clear hB
      go_wp2_with fail
      go_ret
      exact ⟨rfl, HB1.out⟩
end Go.Proofs.YtdlnfmakfnggpaaDoor.Pr
