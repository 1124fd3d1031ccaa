/- (*Store).Fits, Count, New. -/
import Derived.Test.YthdkgilpnkabmaaGreatDoorSs
namespace Go.Proofs.YthdkgilpnkabmaaGreatDoor.Pr
open Go Go.RowKit Go.Proofs.YthdkgilpnkabmaaGreatDoorW.PrintWords Go.Proofs.YthdkgilpnkabmaaGreatDoorW.PrintMore
open Go.Maps (Keyed)
open Rm Ps
set_option linter.unusedVariables false
set_option linter.unusedSimpArgs false
def ChkPost (w : World) (r : Int) (e : Ending) (w' : World) : Prop := e = .returned (.int .i64 r) ∧ Below w.heap.size w w'
/-- span.Check answers so, of every span of a list. -/
def Checks (w : World) (chk : Sp → Int) (l : List Sp) : Prop := ∀ x ∈ l, ∀ cs W, Below w.heap.size w W → kSp.K W x cs → Calls Tryz.prog 38 #[.agg cs.toArray] W (ChkPost W (chk x))
def FitsPost (w : World) (chk : Sp → Int) (L l : List Sp) (e : Ending) (w' : World) : Prop := e = .returned (.int .i64 (fitsF nmS chk L l)) ∧ Below w.heap.size w w'
theorem fits_at {chk : Sp → Int} {L : List Sp} : ∀ {l : List Sp} {k : Nat} (hk : k < l.length), (∀ j (hj : j < k), chk (l[j]'(by omega)) = 0) → chk l[k] ≠ 0 → fitsF nmS chk L l = chk l[k]
  | [], k, hk, _, _ => by simp at hk
  | x :: r, 0, hk, h0, h => by
    have h : chk x ≠ 0 := h
    unfold fitsF
    rw [List.find?_cons]
    have : (chk x != 0) = true := by simpa using h
    rw [this]
    rfl
  | x :: r, k + 1, hk, h0, h => by
    have hx : chk x = 0 := h0 0 (by omega)
    have := fits_at (chk := chk) (L := L) (l := r) (k := k) (by simpa using hk) (fun j hj => h0 (j + 1) (by omega)) h
    have h4 : (chk x != 0) = false := by simp [hx]
    unfold fitsF at this ⊢
    rw [List.find?_cons, h4]
    simp only [List.getElem_cons_succ]
    cases h5 : r.find? (fun x => chk x != 0) with
    | some y => rw [h5] at this; exact this
    | none =>
      have hk' : k < r.length := by simpa using hk
      have h6 := List.find?_eq_none.1 h5 (r[k]'hk') (List.getElem_mem _)
      exact absurd (by simpa using h6) h
theorem fits_all {chk : Sp → Int} {L l : List Sp} (h : ∀ x ∈ l, chk x = 0) : fitsF nmS chk L l = roomF nmS L l := by
  unfold fitsF
  have : l.find? (fun x => chk x != 0) = none := by
    rw [List.find?_eq_none]
    intro x hx
    simp [h x hx]
  rw [this]
set_option maxHeartbeats 4000000 in
set_option maxRecDepth 100000 in
theorem fits_run (w : World) (base s : Nat) (F : Nat → Prop) (L : List Sp) (B : StoreAt w base s F L) (A : Option Addr) (c : Nat) (l : List Sp) (hr : Kd.C kSp w A l.length l) (hok : ∀ x ∈ l, okSp x) (hl : l.length ≤ 140737488351232) (chk : Sp → Int) (hC : Checks w chk l) :
    Calls Tryz.prog 16 #[.pointer (some ⟨s, 0, none⟩), .slice A l.length c] w (FitsPost w chk L l) := by
  have HB := Lib.hid B
  have HR := Lib.hid hr
  have HOK := Lib.hid hok
  have HC := Lib.hid hC
  clear B hr hok hC
  go_enter Tryz.func16, Tryz.ntmps16
  go_wp2_with fail
  go_loopw [10] (fun v10 wr => ∃ k : Nat, v10 = .int .i64 k ∧ k ≤ l.length ∧ Hid (∀ j (hj : j < k) (hl : j < l.length), chk l[j] = 0) ∧ Hid (Below w.heap.size w wr)) (fun v10 _ => l.length - (intOf v10).toNat)
  case atStart => exact ⟨0, rfl, Nat.zero_le _, Lib.hid (fun j hj => absurd hj (by omega)), Lib.hid (Below.refl _ _)⟩
  case round =>
    obtain ⟨k, rfl, hk, HZ, HW⟩ := hrel
    by_cases hlt : k < l.length
    · have hlk : (k : Int) < (l.length : Int) := by omega
      obtain ⟨ab, ao, rfl, hab, A4, c4, A11, c11, A12, c12, hK, hx⟩ := spRow HR.out k hlt
      have HX := Lib.hid (HC.out _ (rdS_mem hlt))
      have HAT := Lib.hid (rdS_at hlt)
      have hx' : ∀ i u, (cSp (rdS l k) (.slice A4 (rdS l k).f3.length c4) (.slice A11 (rdS l k).f10.length c11) (.slice A12 (rdS l k).f11.length c12))[i]? = some u → wr.cell? ⟨ab, ao + k * 13 + i, none⟩ = some u := fun i u hi => pw_cell_below HW.out (hx i u hi)
      have HK := Lib.hid hK
      generalize rdS l k = x at *
      obtain ⟨⟨hi, lo⟩, id, par, lk, sv, op, kd, st, s0, s1, la, le⟩ := x
      dsimp only [cSp] at hx'
      have x0 := hx' 0 _ rfl
      have x1 := hx' 1 _ rfl
      have x2 := hx' 2 _ rfl
      have x3 := hx' 3 _ rfl
      have x4 := hx' 4 _ rfl
      have x5 := hx' 5 _ rfl
      have x6 := hx' 6 _ rfl
      have x7 := hx' 7 _ rfl
      have x8 := hx' 8 _ rfl
      have x9 := hx' 9 _ rfl
      have x10 := hx' 10 _ rfl
      have x11 := hx' 11 _ rfl
      have x12 := hx' 12 _ rfl
      have hab' : ab < wr.heap.size := Nat.lt_of_lt_of_le hab HW.out.size
      simp only [Nat.add_zero] at x0
      clear hx hx' hK
      have hb1 := below_alloc (Below.refl wr.heap.size wr) (.cells #[.int .u64 hi, .int .u64 lo, .int .u64 id, .int .u64 par, .slice A4 lk.length c4, .string sv, .string op, .int .i64 kd, .int .i64 st, .int .i64 s0, .int .i64 s1, .slice A11 la.length c11, .slice A12 le.length c12] 41)
      have HW1 := Lib.hid (HW.out.trans (hb1.mono HW.out.size))
      have HCK := Lib.hid (HX.out [.int .u64 hi, .int .u64 lo, .int .u64 id, .int .u64 par, .slice A4 lk.length c4, .string sv, .string op, .int .i64 kd, .int .i64 st, .int .i64 s0, .int .i64 s1, .slice A11 la.length c11, .slice A12 le.length c12] (wr.alloc (.cells #[.int .u64 hi, .int .u64 lo, .int .u64 id, .int .u64 par, .slice A4 lk.length c4, .string sv, .string op, .int .i64 kd, .int .i64 st, .int .i64 s0, .int .i64 s1, .slice A11 la.length c11, .slice A12 le.length c12] 41)) HW1.out (kSp.K_below HW1.out HK.out))
      clear hb1
      obtain ⟨r, hr⟩ : ∃ r, Hid (r = chk ⟨⟨hi, lo⟩, id, par, lk, sv, op, kd, st, s0, s1, la, le⟩) := ⟨_, rfl⟩
      rw [← hr.out] at HCK
      go_wp2_with fail
      refine HCK.out.mono ?_
      rintro e w2 ⟨rfl, hb2⟩
      have HW2 := Lib.hid (HW1.out.trans (hb2.mono HW1.out.size))
      clear hb2
      by_cases h0 : r = 0
      · have h0' : (r != 0) = false := by rw [h0]; rfl
        go_wp2_with fail
        go_roundw
        case rel => exact ⟨k + 1, by go_num, by omega, Lib.hid (fun j hj hl => by
          by_cases hjk : j = k
          · subst hjk
            rw [← HAT.out, ← hr.out, h0]
          · exact HZ.out j (by omega) hl), HW2⟩
        case measure => simp [intOf]; omega
      · have h0' : (r != 0) = true := by simpa using h0
        have HF := Lib.hid (fits_at (chk := chk) (L := L) hlt (fun j hj => HZ.out j hj (by omega)) (by rw [← HAT.out, ← hr.out]; exact h0))
        go_wp2_with fail
        go_ret
        exact ⟨by rw [HF.out, ← HAT.out, ← hr.out]; rfl, HW2.out⟩
    · obtain rfl : k = l.length := by omega
      have HF := Lib.hid (fits_all (chk := chk) (L := L) (l := l) (fun x hx => by
        obtain ⟨j, hj, rfl⟩ := List.getElem_of_mem hx
        exact HZ.out j hj hj))
      go_wp2_with fail
      refine (room_run _ base s F L (HB.out.below HW.out) A c l (Kd.C_below HR.out HW.out) HOK.out hl).mono ?_
      rintro e w2 ⟨rfl, hb2⟩
      have HW2 := Lib.hid (HW.out.trans (hb2.mono HW.out.size))
      clear hb2
      go_wp2_with fail
      go_ret
      exact ⟨by rw [HF.out]; rfl, HW2.out⟩
theorem count_run (w : World) (base s : Nat) (F : Nat → Prop) (L : List Sp) (B : StoreAt w base s F L) : Calls Tryz.prog 10 #[.pointer (some ⟨s, 0, none⟩)] w fun e w' => e = .returned (.int .i64 L.length) ∧ w' = w := by
  obtain ⟨tb, T, I, B⟩ := B
  have x1 := (cell_of_row _ _ 1 _ _ _ B.cell).trans rfl
  clear B
  go_enter Tryz.func10, Tryz.ntmps10
  go_wp2
  go_ret
  exact ⟨rfl, rfl⟩
def NewPost (w : World) (base : Nat) (e : Ending) (w' : World) : Prop := ∃ s F, e = .returned (.pointer (some ⟨s, 0, none⟩)) ∧ StoreAt w' base s F [] ∧ Below w.heap.size w w' ∧ ∀ k, F k → w.heap.size ≤ k
theorem new_run (w : World) (base : Nat) (hb : base ≤ w.heap.size) : Calls Tryz.prog 8 #[] w (NewPost w base) := by
  have hmm := @run_makeMap Tryz.prog
  go_enter Tryz.func8, Tryz.ntmps8
  go_wp2
  go_ret
  refine ⟨w.heap.size + 1, fun k => k = w.heap.size + 1 ∨ k = w.heap.size, by simp, ⟨w.heap.size, [], fun _ => [], ?_⟩, ?_, fun k hk => by rcases hk with rfl | rfl <;> omega⟩
  · refine ⟨?_, ?_, by simp, by simp, by simp, by simp, by simp, by simp, by simp, fun k => by simp, fun k hk => by rcases hk with rfl | rfl <;> omega, by simp⟩
    · have := blk_new (w.alloc (.map #[] 0)) (.cells #[.map (some w.heap.size), .int .i64 0] 76)
      rw [World.size_alloc] at this
      exact this
    · exact (MapIs.made w Tryz.prog 33 mkTr mvT).below (below_alloc (Below.refl _ _) _)
  · exact below_alloc (below_alloc (Below.refl _ _) _) _
end Go.Proofs.YthdkgilpnkabmaaGreatDoor.Pr
