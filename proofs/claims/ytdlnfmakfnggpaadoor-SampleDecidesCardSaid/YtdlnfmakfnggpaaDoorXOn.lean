/- sample.one: are spans those of one trace, over what span.Check answers of each. -/
import Derived.Test.YtdlnfmakfnggpaaDoorXCs
import Derived.Maps.OwnSet
import Derived.Maps.OwnOps
import Derived.Maps.Views
import Derived.Test.YtdlnfmakfnggpaaDoorXQt
namespace Go.Proofs.YtdlnfmakfnggpaaDoor.Pr
open Go.RowKit Go.Lib Go.Shelf Go.Maps Go.Proofs.YtdlnfmakfnggpaaDoorW.PrintWords
set_option linter.unusedVariables false
set_option linter.unusedSimpArgs false
theorem key36 : Keyed Tryd.prog 36 := int_keyed Tryd.underlying36
theorem zero3 (w : World) : (zeroValue 3).run Tryd.prog w = .ok (.int .i64 0) w := by kernel_rfl
def idsTo (l : List S43) (k : Nat) : List Int := (l.take k).map (·.f1)
def okUpto (chk : S43 → Int) (l : List S43) : Nat → Bool
  | 0 => true
  | k + 1 => okUpto chk l k && (chk (rd_T43 l k) == 0) && ((rd_T43 l k).f0.f0 == (rd_T43 l 0).f0.f0 && (rd_T43 l k).f0.f1 == (rd_T43 l 0).f0.f1) && !(idsTo l k).contains (rd_T43 l k).f1
def oneF (chk : S43 → Int) (l : List S43) : Bool := decide (l.length ≤ 1000) && okUpto chk l l.length
theorem okUpto_false {chk : S43 → Int} {l : List S43} {k : Nat} (h : okUpto chk l (k + 1) = false) : ∀ n, k < n → okUpto chk l n = false
  | 0, hn => by omega
  | n + 1, hn => by
    rcases Nat.lt_or_ge k n with h1 | h1
    · simp [okUpto, okUpto_false h n h1]
    · obtain rfl : k = n := by omega
      exact h
theorem okUpto_succ (chk : S43 → Int) (l : List S43) (k : Nat) : okUpto chk l (k + 1) = (okUpto chk l k && (chk (rd_T43 l k) == 0) && ((rd_T43 l k).f0.f0 == (rd_T43 l 0).f0.f0 && (rd_T43 l k).f0.f1 == (rd_T43 l 0).f0.f1) && !(idsTo l k).contains (rd_T43 l k).f1) := rfl
theorem idsTo_succ {l : List S43} {k : Nat} (h : k < l.length) : idsTo l (k + 1) = idsTo l k ++ [(rd_T43 l k).f1] := by
  unfold idsTo
  rw [List.take_succ_eq_append_getElem h, List.map_append]
  simp [rd_T43, List.getD, h]
def Cnt (D : DataW Unit) (ids : List Int) : Prop := ∀ q : Int, D.atKey (.int .u64 q) (.lit (.int .i64 0)) = .lit (.int .i64 (if q ∈ ids then 1 else 0))
theorem Cnt_put {D : DataW Unit} {ids : List Int} (h : Cnt D ids) (hD : IsMap D) (id : Int) (hn : id ∉ ids) (hk : WideAt.IsKeyLit (.int .u64 id)) : Cnt (D.put (.int .u64 id) (.lit (.int .i64 1))) (ids ++ [id]) := fun q => by
  by_cases e : q = id
  · subst e
    rw [atKey_put_same hD hk]
    simp
  · rw [atKey_put_other (by intro h; injection h with _ h; exact e h), h q]
    simp [e]
def BoolPost (w : World) (b : Bool) (e : Ending) (w' : World) : Prop := e = .returned (.bool b) ∧ Below w.heap.size w w'
def cs43 (x : S43) (A4 : Option Addr) (c4 : Nat) (A11 : Option Addr) (c11 : Nat) (A12 : Option Addr) (c12 : Nat) : List Value :=
  [.int .u64 x.f0.f0, .int .u64 x.f0.f1, .int .u64 x.f1, .int .u64 x.f2, .slice A4 x.f3.length c4, .string x.f4, .string x.f5, .int .i64 x.f6, .int .i64 x.f7, .int .i64 x.f8, .int .i64 x.f9, .slice A11 x.f10.length c11, .slice A12 x.f11.length c12]
theorem row43 {w : World} {A0 : Option Addr} {l : List S43} (hr : Kd.C k43 w A0 l.length l) (h0 : 0 < l.length) : ∃ ab ao, A0 = some ⟨ab, ao, none⟩ ∧ ab < w.heap.size ∧ ∀ k : Nat, k < l.length →
    ∃ A4 c4 A11 c11 A12 c12, k43.K w (rd_T43 l k) (cs43 (rd_T43 l k) A4 c4 A11 c11 A12 c12) ∧ ∀ i u, (cs43 (rd_T43 l k) A4 c4 A11 c11 A12 c12)[i]? = some u → w.cell? ⟨ab, ao + k * 13 + i, none⟩ = some u := by
  obtain ⟨ad, A4, c4, A11, c11, A12, c12, hA, hx0, _⟩ := at_T43 hr 0 (by omega) (by omega)
  obtain ⟨ab, ao, sp⟩ := ad
  obtain rfl : sp = none := Go.Proofs.cell_spot hx0
  have hlt : ab < w.heap.size := World.block_lt_of_cell? w _ hx0
  refine ⟨ab, ao, hA, hlt, fun k hk => ?_⟩
  obtain ⟨ad, c, e, _, hK, hc⟩ := Kd.C_get hr z43 (k : Int) (by omega) (by omega)
  rw [hA] at e
  cases e
  obtain ⟨A4, c4, A11, c11, A12, c12, rfl, l4, g4, l11, g11, l12, g12⟩ := k43_open hK
  refine ⟨A4, c4, A11, c11, A12, c12, hK, fun i u hi => ?_⟩
  have := hc i u hi
  rw [Int.toNat_natCast, Addr.add_lit, ← Nat.add_assoc] at this
  exact this
set_option maxHeartbeats 2000000 in
set_option maxRecDepth 100000 in
theorem one_some (ab ao : Nat) (c0 : Nat) (l : List S43) (w : World) (hab : ab < w.heap.size)
    (hrow : ∀ k : Nat, k < l.length → ∃ A4 c4 A11 c11 A12 c12, k43.K w (rd_T43 l k) (cs43 (rd_T43 l k) A4 c4 A11 c11 A12 c12) ∧ ∀ i u, (cs43 (rd_T43 l k) A4 c4 A11 c11 A12 c12)[i]? = some u → w.cell? ⟨ab, ao + k * 13 + i, none⟩ = some u)
    (chk : S43 → Int) (hchk : ∀ x ∈ l, ∀ cs, k43.K w x cs → ∀ W, Below w.heap.size w W → Calls Tryd.prog 63 #[.agg cs.toArray] W (CheckPost W (chk x)))
    (hid : ∀ x ∈ l, (Lit.int .u64 x.f1).wf = true) (hl : l.length ≤ 1000) (hl0 : 0 < l.length) :
    Calls Tryd.prog 42 #[.slice (some ⟨ab, ao, none⟩) l.length c0] w (BoolPost w (okUpto chk l l.length)) := by
  have hmm := @run_makeMap Tryd.prog
  obtain ⟨B4, b4, B11, b11, B12, b12, _, hz⟩ := hrow 0 hl0
  have z0 : w.cell? ⟨ab, ao, none⟩ = some (.int .u64 (rd_T43 l 0).f0.f0) := by have := hz 0 _ rfl; simpa using this
  have z1 : w.cell? ⟨ab, ao + 1, none⟩ = some (.int .u64 (rd_T43 l 0).f0.f1) := by have := hz 1 _ rfl; simpa using this
  have HR := Lib.hid hrow
  have HC := Lib.hid hchk
  have HI := Lib.hid hid
  have Z0 := Lib.hid z0
  have Z1 := Lib.hid z1
  clear hrow hchk hid hz z0 z1
  obtain ⟨hi0, HH0⟩ : ∃ a, Hid (a = (rd_T43 l 0).f0.f0) := ⟨_, rfl⟩
  obtain ⟨lo0, HH1⟩ : ∃ a, Hid (a = (rd_T43 l 0).f0.f1) := ⟨_, rfl⟩
  rw [← HH0.out] at Z0
  rw [← HH1.out] at Z1
  have hl' : (l.length : Int) ≤ 1000 := by omega
  have hl0' : (0 : Int) < l.length := by omega
  go_enter Tryd.func42, Tryd.ntmps42
  go_wp2_with fail
  go_loopw [12] (fun v12 wr => ∃ (k : Nat) (D : DataW Unit), v12 = .int .i64 k ∧ k ≤ l.length ∧ Hid (okUpto chk l k = true) ∧ Hid (wr.ownsMap Tryd.prog 36 (plainElem Tryd.prog 3) w.heap.size k D) ∧ Hid (Cnt D (idsTo l k)) ∧ Hid (Below w.heap.size w wr))
    (fun v12 _ => l.length - (intOf v12).toNat)
  case atStart => exact ⟨0, .map [], rfl, Nat.zero_le _, Lib.hid rfl, Lib.hid (World.ownsMap_made _ _ _ _), Lib.hid (fun q => rfl), Lib.hid ((Below.refl _ _).alloc (Nat.le_refl _) _)⟩
  case round =>
    obtain ⟨k, D, rfl, hk, HOK, HM, HN, HB⟩ := hrel
    have HLT := Lib.hid (fun (h : okUpto chk l (k + 1) = false) (hl : k < l.length) => (okUpto_false h _ hl).symm)
    by_cases hlt : k < l.length
    · obtain ⟨A4, c4, A11, c11, A12, c12, hK, hx⟩ := HR.out k hlt
      have HC1 := Lib.hid (HC.out (rd_T43 l k) (by simp [rd_T43, List.getD, hlt]) _ hK)
      have hw1 := HI.out (rd_T43 l k) (by simp [rd_T43, List.getD, hlt])
      have HS := Lib.hid (okUpto_succ chk l k)
      have HID := Lib.hid (idsTo_succ hlt)
      have hbc : ∀ o, wr.cell? ⟨ab, o, none⟩ = w.cell? ⟨ab, o, none⟩ := fun o => HB.out.cell (p := ⟨ab, o, none⟩) hab
      have x0 := (hbc _).trans (hx 0 _ rfl)
      have x1 := (hbc _).trans (hx 1 _ rfl)
      have x2 := (hbc _).trans (hx 2 _ rfl)
      have x3 := (hbc _).trans (hx 3 _ rfl)
      have x4 := (hbc _).trans (hx 4 _ rfl)
      have x5 := (hbc _).trans (hx 5 _ rfl)
      have x6 := (hbc _).trans (hx 6 _ rfl)
      have x7 := (hbc _).trans (hx 7 _ rfl)
      have x8 := (hbc _).trans (hx 8 _ rfl)
      have x9 := (hbc _).trans (hx 9 _ rfl)
      have x10 := (hbc _).trans (hx 10 _ rfl)
      have x11 := (hbc _).trans (hx 11 _ rfl)
      have x12 := (hbc _).trans (hx 12 _ rfl)
      have zz0 := (hbc _).trans Z0.out
      have zz1 := (hbc _).trans Z1.out
      rw [← HH0.out, ← HH1.out] at HS
      clear hbc hx hK
      simp only [Nat.add_zero] at x0
      unfold cs43 at HC1
      generalize rd_T43 l (k : Int) = x at *
      obtain ⟨⟨hi, lo⟩, id, par, lk, sv, op, kd, st, s0, s1, la, le⟩ := x
      dsimp only at *
      have hkey : keyOf Tryd.prog 36 (.int .u64 id) = some (.int .u64 id) := keyOf_int_mk Tryd.underlying36 hw1
      have hmx := HM.out
      obtain ⟨cc, hcc, HN1⟩ : ∃ cc : Int, (cc = if id ∈ idsTo l k then 1 else 0) ∧ Hid (D.atKey (.int .u64 id) (.lit (.int .i64 0)) = .lit (.int .i64 cc)) := ⟨_, rfl, HN.out id⟩
      have hcr : 0 ≤ cc ∧ cc ≤ 1 := by split at hcc <;> omega
      have hc0 := hcr.1
      have hc1 := hcr.2
      have HCC := Lib.hid hcc
      clear hcc hcr
      go_wp2_with (first
        | (at_lookup; refine wpList_lookup_own_int _ rfl _ _ 111 rfl 36 3 .i64 key36 Tryd.underlying111 Tryd.underlying3 (zero3 _) w.heap.size k D rfl (hmx.alloc _) _ _ rfl hkey ?_; intro c hat hwc; obtain rfl : c = cc := (by have := hat.symm.trans HN1.out; simpa using this); clear hat hwc)
        | (at_mapUpdate; refine wpList_mapUpdate_own _ rfl _ _ _ 111 rfl 36 3 key36 Tryd.underlying111 _ w.heap.size k D rfl (hmx.alloc _) (by unfold maxLen; omega) _ _ _ rfl rfl hkey _ [] (plainElem_int Tryd.underlying3 (WalkArith.wf_i64 (by omega))) ?_; intro w1 hown1 hgrow1))
      have hgt : w.heap.size < wr.heap.size := hmx.lt
      have hblk : w1.heap[wr.heap.size]? = some (.cells #[.int .u64 hi, .int .u64 lo, .int .u64 id, .int .u64 par, .slice A4 lk.length c4, .string sv, .string op, .int .i64 kd, .int .i64 st, .int .i64 s0, .int .i64 s1, .slice A11 la.length c11, .slice A12 le.length c12] 43 (0, 0)) :=
        (hgrow1.block wr.heap.size (by simp) (by simp; omega)).trans (blk_new wr _)
      have hB1 : Below w.heap.size w w1 := by
        have h1 := HB.out.alloc HB.out.size (.cells #[.int .u64 hi, .int .u64 lo, .int .u64 id, .int .u64 par, .slice A4 lk.length c4, .string sv, .string op, .int .i64 kd, .int .i64 st, .int .i64 s0, .int .i64 s1, .slice A11 la.length c11, .slice A12 le.length c12] 43)
        exact h1.grown hgrow1 h1.size (fun j hj => by cases hj; exact Nat.le_refl _)
      have HLK : Hid (∀ W, Below w1.heap.size w1 W → (Instr.lookup 111 (.map (some w.heap.size)) (.int .u64 id) false).run Tryd.prog W = .ok (.int .i64 (c + 1)) W) := fun W hW => by
        obtain ⟨c', h1, h2, h3⟩ := (hown1.kept (grown_of_below hW none) (by simp)).lookup_int key36 Tryd.underlying111 Tryd.underlying3 (zero3 _) hkey
        rw [atKey_put_same (hmx.tidy key36).isMap (key36.key hkey)] at h2
        have : c + 1 = c' := by simpa using h2
        rw [this]
        exact h1
      have hS1 : ∀ w', Below w1.heap.size w1 w' → (w'.cell? ⟨wr.heap.size, 0, none⟩ = some (.int .u64 hi) ∧ w'.cell? ⟨wr.heap.size, 1, none⟩ = some (.int .u64 lo) ∧ w'.cell? ⟨wr.heap.size, 2, none⟩ = some (.int .u64 id) ∧ w'.cell? ⟨wr.heap.size, 3, none⟩ = some (.int .u64 par) ∧ w'.cell? ⟨wr.heap.size, 4, none⟩ = some (.slice A4 lk.length c4) ∧ w'.cell? ⟨wr.heap.size, 5, none⟩ = some (.string sv) ∧ w'.cell? ⟨wr.heap.size, 6, none⟩ = some (.string op) ∧ w'.cell? ⟨wr.heap.size, 7, none⟩ = some (.int .i64 kd) ∧ w'.cell? ⟨wr.heap.size, 8, none⟩ = some (.int .i64 st) ∧ w'.cell? ⟨wr.heap.size, 9, none⟩ = some (.int .i64 s0) ∧ w'.cell? ⟨wr.heap.size, 10, none⟩ = some (.int .i64 s1) ∧ w'.cell? ⟨wr.heap.size, 11, none⟩ = some (.slice A11 la.length c11) ∧ w'.cell? ⟨wr.heap.size, 12, none⟩ = some (.slice A12 le.length c12) ∧ w'.cell? ⟨ab, ao, none⟩ = some (.int .u64 hi0) ∧ w'.cell? ⟨ab, ao + 1, none⟩ = some (.int .u64 lo0)) := fun w' hw => by
        have hb : w'.heap[wr.heap.size]? = some (.cells #[.int .u64 hi, .int .u64 lo, .int .u64 id, .int .u64 par, .slice A4 lk.length c4, .string sv, .string op, .int .i64 kd, .int .i64 st, .int .i64 s0, .int .i64 s1, .slice A11 la.length c11, .slice A12 le.length c12] 43 (0, 0)) := blk_below hblk hw
        have hz := hB1.trans (hw.mono hB1.size)
        exact ⟨(cell_of_row _ _ 0 _ _ _ hb).trans rfl, (cell_of_row _ _ 1 _ _ _ hb).trans rfl, (cell_of_row _ _ 2 _ _ _ hb).trans rfl, (cell_of_row _ _ 3 _ _ _ hb).trans rfl, (cell_of_row _ _ 4 _ _ _ hb).trans rfl, (cell_of_row _ _ 5 _ _ _ hb).trans rfl, (cell_of_row _ _ 6 _ _ _ hb).trans rfl, (cell_of_row _ _ 7 _ _ _ hb).trans rfl, (cell_of_row _ _ 8 _ _ _ hb).trans rfl, (cell_of_row _ _ 9 _ _ _ hb).trans rfl, (cell_of_row _ _ 10 _ _ _ hb).trans rfl, (cell_of_row _ _ 11 _ _ _ hb).trans rfl, (cell_of_row _ _ 12 _ _ _ hb).trans rfl, (hz.cell (p := ⟨ab, ao, none⟩) hab).trans Z0.out, (hz.cell (p := ⟨ab, ao + 1, none⟩) hab).trans Z1.out⟩
      have q0 : ∀ x : Wx w1, x.W.cell? ⟨wr.heap.size, 0, none⟩ = some (.int .u64 hi) := fun x => (hS1 x.W x.h).1
      have q1 : ∀ x : Wx w1, x.W.cell? ⟨wr.heap.size, 1, none⟩ = some (.int .u64 lo) := fun x => (hS1 x.W x.h).2.1
      have q2 : ∀ x : Wx w1, x.W.cell? ⟨wr.heap.size, 2, none⟩ = some (.int .u64 id) := fun x => (hS1 x.W x.h).2.2.1
      have q3 : ∀ x : Wx w1, x.W.cell? ⟨wr.heap.size, 3, none⟩ = some (.int .u64 par) := fun x => (hS1 x.W x.h).2.2.2.1
      have q4 : ∀ x : Wx w1, x.W.cell? ⟨wr.heap.size, 4, none⟩ = some (.slice A4 lk.length c4) := fun x => (hS1 x.W x.h).2.2.2.2.1
      have q5 : ∀ x : Wx w1, x.W.cell? ⟨wr.heap.size, 5, none⟩ = some (.string sv) := fun x => (hS1 x.W x.h).2.2.2.2.2.1
      have q6 : ∀ x : Wx w1, x.W.cell? ⟨wr.heap.size, 6, none⟩ = some (.string op) := fun x => (hS1 x.W x.h).2.2.2.2.2.2.1
      have q7 : ∀ x : Wx w1, x.W.cell? ⟨wr.heap.size, 7, none⟩ = some (.int .i64 kd) := fun x => (hS1 x.W x.h).2.2.2.2.2.2.2.1
      have q8 : ∀ x : Wx w1, x.W.cell? ⟨wr.heap.size, 8, none⟩ = some (.int .i64 st) := fun x => (hS1 x.W x.h).2.2.2.2.2.2.2.2.1
      have q9 : ∀ x : Wx w1, x.W.cell? ⟨wr.heap.size, 9, none⟩ = some (.int .i64 s0) := fun x => (hS1 x.W x.h).2.2.2.2.2.2.2.2.2.1
      have q10 : ∀ x : Wx w1, x.W.cell? ⟨wr.heap.size, 10, none⟩ = some (.int .i64 s1) := fun x => (hS1 x.W x.h).2.2.2.2.2.2.2.2.2.2.1
      have q11 : ∀ x : Wx w1, x.W.cell? ⟨wr.heap.size, 11, none⟩ = some (.slice A11 la.length c11) := fun x => (hS1 x.W x.h).2.2.2.2.2.2.2.2.2.2.2.1
      have q12 : ∀ x : Wx w1, x.W.cell? ⟨wr.heap.size, 12, none⟩ = some (.slice A12 le.length c12) := fun x => (hS1 x.W x.h).2.2.2.2.2.2.2.2.2.2.2.2.1
      have q13 : ∀ x : Wx w1, x.W.cell? ⟨ab, ao, none⟩ = some (.int .u64 hi0) := fun x => (hS1 x.W x.h).2.2.2.2.2.2.2.2.2.2.2.2.2.1
      have q14 : ∀ x : Wx w1, x.W.cell? ⟨ab, ao + 1, none⟩ = some (.int .u64 lo0) := fun x => (hS1 x.W x.h).2.2.2.2.2.2.2.2.2.2.2.2.2.2
      have hlk : ∀ x : Wx w1, (Instr.lookup 111 (.map (some w.heap.size)) (.int .u64 id) false).run Tryd.prog x.W = .ok (.int .i64 (c + 1)) x.W := fun x => HLK.out x.W x.h
      have HW1 := Lib.hid hown1
      have HB1 := Lib.hid hB1
      have HCK : Hid (∀ x : Wx w1, Calls Tryd.prog 63 #[.agg #[.int .u64 hi, .int .u64 lo, .int .u64 id, .int .u64 par, .slice A4 lk.length c4, .string sv, .string op, .int .i64 kd, .int .i64 st, .int .i64 s0, .int .i64 s1, .slice A11 la.length c11, .slice A12 le.length c12]] x.W (CheckPost x.W (chk _))) := fun x => HC1.out x.W (hB1.trans (x.h.mono hB1.size))
      have hMM := hmx
      have HNN := HN
      clear hS1 hown1 hB1 hgrow1 hblk hmx x0 x1 x2 x3 x4 x5 x6 x7 x8 x9 x10 x11 x12 zz0 zz1 HC1 HM HN HB Z0 Z1 HLK HN1
      generalize chk _ = r at *
      have HMK := Lib.hid (hMM.tidy key36).isMap
      clear hMM
      by_cases hr : r = 0
      · subst hr
        by_cases ht : hi = hi0
        · subst ht
          by_cases hu : lo = lo0
          · subst hu
            by_cases hd : id ∈ idsTo l k
            · obtain rfl : c = 1 := by have := HCC.out; rw [if_pos hd] at this; exact this
              have HD := Lib.hid hd
              clear hd
              refine wp_region_ext (by kernel_rfl) (by kernel_rfl) ?_
              simp only [Act.put]
              repeat (go_big_quiet_step ((go_at_call 63; exact Calls.ext_of (HCK.out _))))
              refine wpQuiet_nil ?_
              intro _ hw'
              obtain ⟨xx, rfl⟩ := hw'
              go_wp2_with fail
              go_ret
              exact ⟨ret_b (HLT.out (by rw [HS.out]; simp [HD.out]) hlt), HB1.out.trans (xx.h.mono HB1.out.size)⟩
            · obtain rfl : c = 0 := by have := HCC.out; rw [if_neg hd] at this; exact this
              have HD := Lib.hid hd
              clear hd
              refine wp_region_ext (by kernel_rfl) (by kernel_rfl) ?_
              simp only [Act.put]
              repeat (go_big_quiet_step ((go_at_call 63; exact Calls.ext_of (HCK.out _))))
              refine wpQuiet_nil ?_
              intro _ hw'
              obtain ⟨xx, rfl⟩ := hw'
              go_wp2_with fail
              go_roundw
              case rel => exact ⟨k + 1, _, by go_num, by omega, Lib.hid (by rw [HS.out, HOK.out]; simp [HD.out]), Lib.hid (HW1.out.kept (grown_of_below xx.h none) (by simp)), Lib.hid (by rw [HID.out]; exact Cnt_put HNN.out HMK.out id HD.out (key36.key hkey)), Lib.hid (HB1.out.trans (xx.h.mono HB1.out.size))⟩
              case measure => simp [intOf]; omega
          · have hu' : (lo == lo0) = false := by simpa using hu
            refine wp_region_ext (by kernel_rfl) (by kernel_rfl) ?_
            simp only [Act.put]
            repeat (go_big_quiet_step ((go_at_call 63; exact Calls.ext_of (HCK.out _))))
            refine wpQuiet_nil ?_
            intro _ hw'
            obtain ⟨xx, rfl⟩ := hw'
            go_wp2_with fail
            go_ret
            exact ⟨ret_b (HLT.out (by rw [HS.out, hu']; simp) hlt), HB1.out.trans (xx.h.mono HB1.out.size)⟩
        · have ht' : (hi == hi0) = false := by simpa using ht
          refine wp_region_ext (by kernel_rfl) (by kernel_rfl) ?_
          simp only [Act.put]
          repeat (go_big_quiet_step ((go_at_call 63; exact Calls.ext_of (HCK.out _))))
          refine wpQuiet_nil ?_
          intro _ hw'
          obtain ⟨xx, rfl⟩ := hw'
          go_wp2_with fail
          go_ret
          exact ⟨ret_b (HLT.out (by rw [HS.out, ht']; simp) hlt), HB1.out.trans (xx.h.mono HB1.out.size)⟩
      · have hr' : (r != 0) = true := by simpa using hr
        have hr'' : (r == 0) = false := by simpa using hr
        clear hr
        refine wp_region_ext (by kernel_rfl) (by kernel_rfl) ?_
        simp only [Act.put]
        repeat (go_big_quiet_step ((go_at_call 63; exact Calls.ext_of (HCK.out _))))
        refine wpQuiet_nil ?_
        intro _ hw'
        obtain ⟨xx, rfl⟩ := hw'
        go_wp2_with fail
        go_ret
        exact ⟨ret_b (HLT.out (by rw [HS.out, hr'']; simp) hlt), HB1.out.trans (xx.h.mono HB1.out.size)⟩
    · obtain rfl : k = l.length := by omega
      go_wp2_with fail
      go_ret
      exact ⟨ret_b HOK.out.symm, HB.out⟩
theorem one_nil (a : Option Addr) (c : Nat) (w : World) : Calls Tryd.prog 42 #[.slice a 0 c] w (BoolPost w true) := by
  have hmm := @run_makeMap Tryd.prog
  go_enter Tryd.func42, Tryd.ntmps42
  go_wp2_with fail
  refine wp_loop_rounds 1 ?_; rw [rounds_succ]
  go_wp2_with fail
  go_ret
  exact ⟨rfl, (Below.refl _ _).alloc (Nat.le_refl _) _⟩
theorem one_many (a : Option Addr) (n c : Nat) (w : World) (h : 1000 < n) : Calls Tryd.prog 42 #[.slice a n c] w (BoolPost w false) := by
  have h' : (1000 : Int) < n := by omega
  clear h
  go_enter Tryd.func42, Tryd.ntmps42
  go_wp2_with fail
  go_ret
  exact ⟨rfl, Below.refl _ _⟩
theorem one_run (A0 : Option Addr) (c0 : Nat) (l : List S43) (w : World) (hr : Kd.C k43 w A0 l.length l) (chk : S43 → Int)
    (hchk : ∀ x ∈ l, ∀ cs, k43.K w x cs → ∀ W, Below w.heap.size w W → Calls Tryd.prog 63 #[.agg cs.toArray] W (CheckPost W (chk x)))
    (hid : ∀ x ∈ l, (Lit.int .u64 x.f1).wf = true) : Calls Tryd.prog 42 #[.slice A0 l.length c0] w (BoolPost w (oneF chk l)) := by
  unfold oneF
  by_cases h : l.length ≤ 1000
  · rw [decide_eq_true h, Bool.true_and]
    by_cases h0 : 0 < l.length
    · obtain ⟨ab, ao, rfl, hab, hrow⟩ := row43 hr h0
      exact one_some ab ao c0 l w hab hrow chk hchk hid h h0
    · obtain rfl : l = [] := List.eq_nil_of_length_eq_zero (by omega)
      exact one_nil _ _ _
  · rw [decide_eq_false h, Bool.false_and]
    exact one_many _ _ _ _ (by omega)
end Go.Proofs.YtdlnfmakfnggpaaDoor.Pr
