/- span.Check of any span, under the tables of utf8: what its parts (keyed, valued, linked, carried, told) answer, by hand. -/
import Derived.Test.YthdkgilpnkabmaaGreatDoorOp
import Derived.Test.YthdkgilpnkabmaaGreatDoorSe
import Derived.Test.YthdkgilpnkabmaaGreatDoorMa
import Derived.Test.YthdkgilpnkabmaaGreatDoorSh
import Derived.Test.YthdkgilpnkabmaaGreatDoorQx
import Derived.Outline
import Derived.Shelf.Strings.Search3
import Derived.Shelf.Small.Strs
namespace Go.Proofs.YthdkgilpnkabmaaGreatDoor.Pr
open Go Go.RowKit Go.Shelf Go.Lib Go.Proofs.YthdkgilpnkabmaaGreatDoorW.PrintWords Go.Proofs.YthdkgilpnkabmaaGreatDoorW.PrintMore
open Ps
set_option linter.unusedVariables false
set_option linter.unusedSimpArgs false
def laysContains_ren : Go.Shelf.Ren := ⟨fun | 144 => 121 | 143 => 140 | 219 => 146 | 217 => 149 | 225 => 150 | 224 => 151 | 267 => 152 | 266 => 153 | 314 => 154 | n => n, fun | 9 => 9 | 4 => 4 | 3 => 3 | 5 => 5 | 46 => 128 | 146 => 193 | 51 => 157 | n => n, fun | 1 => 2 | n => n⟩
theorem laysContains : Go.Proofs.Lays.n144 Tryz.prog laysContains_ren := {
  mixed := by kernel_rfl
  f143 := Tryz.func140.trans (congrArg some (by kernel_rfl))
  f144 := Tryz.func121.trans (congrArg some (by kernel_rfl))
  f217 := Tryz.func149.trans (congrArg some (by kernel_rfl))
  f219 := Tryz.func146.trans (congrArg some (by kernel_rfl))
  f224 := Tryz.func151.trans (congrArg some (by kernel_rfl))
  f225 := Tryz.func150.trans (congrArg some (by kernel_rfl))
  f266 := Tryz.func153.trans (congrArg some (by kernel_rfl))
  f267 := Tryz.func152.trans (congrArg some (by kernel_rfl))
  f314 := Tryz.func154.trans (congrArg some (by kernel_rfl))
  t3 := Tryz.underlying3
  a3 := Tryz.isAgg3
  z3 := Tryz.sizeOf3
  v3 := Tryz.zeroValue3
  t4 := Tryz.underlying4
  a4 := Tryz.isAgg4
  z4 := Tryz.sizeOf4
  v4 := Tryz.zeroValue4
  t5 := Tryz.underlying5
  a5 := Tryz.isAgg5
  z5 := Tryz.sizeOf5
  v5 := Tryz.zeroValue5
  t9 := Tryz.underlying9
  a9 := Tryz.isAgg9
  z9 := Tryz.sizeOf9
  v9 := Tryz.zeroValue9
  t46 := Tryz.underlying128
  a46 := Tryz.isAgg128
  z46 := Tryz.sizeOf128
  v46 := Tryz.zeroValue128
  t51 := Tryz.underlying157
  a51 := Tryz.isAgg157
  z51 := Tryz.sizeOf157
  v51 := Tryz.zeroValue157
  t146 := Tryz.underlying193
  a146 := Tryz.isAgg193
  z146 := Tryz.sizeOf193
  v146 := Tryz.zeroValue193
  g1 := by kernel_rfl }

def CBool (w : World) (b : Bool) (e : Ending) (w' : World) : Prop := e = .returned (.bool b) ∧ Below w.heap.size w w'
theorem cb_of {w W : World} {b c : Bool} (hb : Below w.heap.size w W) (h : c = b) : CBool w c (.returned (.bool b)) W := ⟨by rw [h], hb⟩
def alpha : ByteArray := ⟨#[97, 98, 99, 100, 101, 102, 103, 104, 105, 106, 107, 108, 109, 110, 111, 112, 113, 114, 115, 116, 117, 118, 119, 120, 121, 122, 48, 49, 50, 51, 52, 53, 54, 55, 56, 57, 46, 95, 45]⟩
/-- Is the i-th byte a letter of a key? -/
def letC (s : ByteArray) (i : Nat) : Bool := decide (0 ≤ Lib.indexByte alpha.data.toList ((s.extract i (i + 1)).data.toList.headD 0))
theorem cont_run (s : ByteArray) (i : Nat) (hi : i < s.size) (w : World) : Calls Tryz.prog 121 #[.string alpha, .string (s.extract i (i + 1))] w fun e w' => e = .returned (.bool (letC s i)) ∧ w' = w := by
  have hsz : (s.extract i (i + 1)).size = 1 := by rw [ByteArray.size_extract]; omega
  unfold letC
  generalize s.extract i (i + 1) = a1 at hsz ⊢
  obtain ⟨⟨l⟩⟩ := a1
  match l, hsz with
  | [c], _ => exact (Any.strings_Contains_one laysContains alpha c w).mono fun e w' ⟨h1, h2⟩ => ⟨h1, h2⟩
def keyTo (s : ByteArray) : Nat → Bool
  | 0 => true
  | k + 1 => keyTo s k && letC s k
def keyF (s : ByteArray) : Bool := decide (0 < s.size) && decide ((s.size : Int) ≤ 40) && (decide (97 ≤ bt s 0) && decide (bt s 0 ≤ 122)) && keyTo s s.size
theorem keyTo_false {s : ByteArray} {k : Nat} (h : letC s k = false) : ∀ n, k < n → keyTo s n = false
  | 0, hn => by omega
  | n + 1, hn => by
    rcases Nat.lt_or_ge k n with h1 | h1
    · simp [keyTo, keyTo_false h n h1]
    · obtain rfl : k = n := by omega
      simp [keyTo, h]
set_option maxHeartbeats 4000000 in
theorem keyed_run (s : ByteArray) (w : World) (hs : s.size ≤ 140737488351232) : Calls Tryz.prog 93 #[.string s] w (CBool w (keyF s)) := by
  have hx0 : ∀ h : 0 < s.size, ((s[0]'h).toNat : Int) = bt s 0 := bt_at s 0
  by_cases h1 : 0 < s.size
  case neg =>
    have hv := Lib.hid (show keyF s = false by unfold keyF; rw [decide_eq_false h1]; rfl)
    have he := is_empty (s := s) (by omega)
    go_enter Tryz.func93, Tryz.ntmps93
    go_wp2_with fail
    go_ret
    exact cb_of (Below.refl _ _) hv.out
  have he := ne_empty h1
  by_cases h2 : (s.size : Int) ≤ 40
  case neg =>
    have hv := Lib.hid (show keyF s = false by unfold keyF; rw [decide_eq_false h2, Bool.and_false]; rfl)
    have c2 : decide ((40 : Int) < (s.size : Int)) = true := decide_eq_true (by omega)
    go_enter Tryz.func93, Tryz.ntmps93
    go_wp2_with fail
    go_ret
    exact cb_of (Below.refl _ _) hv.out
  have c2 : decide ((40 : Int) < (s.size : Int)) = false := decide_eq_false (by omega)
  have c2' : decide (40 < s.size) = false := decide_eq_false (by omega)
  have p0 : (0 : Int) ≤ 0 := Int.le_refl _
  have p1 : (0 : Int) < (s.size : Int) := by omega
  by_cases h3 : 97 ≤ bt s 0
  case neg =>
    have hv := Lib.hid (show keyF s = false by unfold keyF; rw [decide_eq_false h3, Bool.false_and, Bool.and_false]; rfl)
    have c3 : decide (bt s 0 < 97) = true := decide_eq_true (by omega)
    go_enter Tryz.func93, Tryz.ntmps93
    go_wp2_with fail
    go_ret
    exact cb_of (Below.refl _ _) hv.out
  have c3 : decide (bt s 0 < 97) = false := decide_eq_false (by omega)
  by_cases h4 : bt s 0 ≤ 122
  case neg =>
    have hv := Lib.hid (show keyF s = false by unfold keyF; rw [decide_eq_false h4, Bool.and_false, Bool.and_false]; rfl)
    have c4 : decide (122 < bt s 0) = true := decide_eq_true (by omega)
    go_enter Tryz.func93, Tryz.ntmps93
    go_wp2_with fail
    go_ret
    exact cb_of (Below.refl _ _) hv.out
  have c4 : decide (122 < bt s 0) = false := decide_eq_false (by omega)
  have hv : Hid (keyF s = keyTo s s.size) := Lib.hid (by unfold keyF; rw [decide_eq_true h1, decide_eq_true h2, decide_eq_true h3, decide_eq_true h4]; rfl)
  go_enter Tryz.func93, Tryz.ntmps93
  go_wp2_with fail
  clear c2 c3 c4 c2' hx0 h3 h4
  go_loop [23] (fun v23 => ∃ k : Nat, v23 = .int .i64 k ∧ k ≤ s.size ∧ Hid (keyTo s k = true)) (fun v23 => s.size - (Lib.intOf v23).toNat)
  case atStart => exact ⟨0, rfl, Nat.zero_le _, Lib.hid rfl⟩
  case round =>
    obtain ⟨k, rfl, hk, HK⟩ := hrel
    by_cases hlt : k < s.size
    · have hlk : (k : Int) < (s.size : Int) := by omega
      have HL := Lib.hid (show keyTo s (k + 1) = letC s k by simp only [keyTo, HK.out, Bool.true_and])
      have HN := Lib.hid (fun h : letC s k = false => keyTo_false h s.size hlt)
      have HC := Lib.hid (fun W => cont_run s k hlt W)
      generalize letC s k = q at *
      have e1 : (k : Int) ≤ (k : Int) + 1 := by omega
      have e2 : (k : Int) + 1 ≤ (s.size : Int) := by omega
      cases q with
      | false =>
        go_wp2_with fail
        refine (HC.out _).mono ?_
        rintro e w1 ⟨rfl, hw⟩
        subst hw
        go_wp2_with fail
        go_ret
        exact cb_of (Below.refl _ _) (by rw [hv.out, HN.out trivial])
      | true =>
        go_wp2_with fail
        refine (HC.out _).mono ?_
        rintro e w1 ⟨rfl, hw⟩
        subst hw
        go_wp2_with fail
        go_round
        case rel => exact ⟨k + 1, by go_num, by omega, HL⟩
        case measure => simp [Lib.intOf]; omega
    · obtain rfl : k = s.size := by omega
      go_wp2_with fail
      go_ret
      exact cb_of (Below.refl _ _) (by rw [hv.out, HK.out])
def valF (kd : Int) (tx : ByteArray) (n : Int) : Bool :=
  if kd = 0 then n == 0 && (decide ((tx.size : Int) ≤ 200) && validD tx.data.toList) else if kd = 1 then decide (tx.size = 0) else if kd = 2 then decide (tx.size = 0) && (n == 0 || n == 1) else false
set_option maxHeartbeats 4000000 in
theorem valued_run (kd : Int) (s : ByteArray) (n : Int) (w : World) (hT : ValidAt s w) : Calls Tryz.prog 94 #[.agg #[.int .i64 kd, .string s, .int .i64 n]] w (CBool w (valF kd s n)) := by
  have HC := Lib.hid hT
  clear hT
  have hB := Lib.hid (below_alloc (Below.refl w.heap.size w) (.cells #[.int .i64 kd, .string s, .int .i64 n] 106))
  by_cases k0 : kd = 0
  · subst k0
    have hv := Lib.hid (show valF 0 s n = (n == 0 && (decide ((s.size : Int) ≤ 200) && validD s.data.toList)) from rfl)
    by_cases h0 : n = 0
    · subst h0
      have c0 : ((0 : Int) == 0) = true := rfl
      by_cases h1 : (s.size : Int) ≤ 200
      · have c1 : decide ((s.size : Int) ≤ 200) = true := decide_eq_true h1
        go_enter Tryz.func94, Tryz.ntmps94
        go_wp2_with fail
        refine (HC.out _ hB.out).mono ?_
        rintro e w1 ⟨rfl, hb⟩
        go_wp2_with fail
        go_ret
        exact cb_of (hB.out.trans (hb.mono hB.out.size)) (by rw [hv.out, c0, c1]; rfl)
      · have c1 : decide ((s.size : Int) ≤ 200) = false := decide_eq_false h1
        go_enter Tryz.func94, Tryz.ntmps94
        go_wp2_with fail
        go_ret
        exact cb_of hB.out (by rw [hv.out, c0, c1]; rfl)
    · have c0 : (n == 0) = false := beq_eq_false_iff_ne.2 h0
      go_enter Tryz.func94, Tryz.ntmps94
      go_wp2_with fail
      go_ret
      exact cb_of hB.out (by rw [hv.out, c0]; rfl)
  have d0 : (kd == 0) = false := beq_eq_false_iff_ne.2 k0
  obtain ⟨eb, he⟩ : ∃ b, s.toList.isEmpty = b := ⟨_, rfl⟩
  have he2 : Hid (decide (s.size = 0) = eb) := Lib.hid (by
    rw [← he]
    by_cases h : s.size = 0
    · rw [decide_eq_true h, is_empty h]
    · rw [decide_eq_false h, ne_empty (by omega)])
  by_cases k1 : kd = 1
  · subst k1
    have hv := Lib.hid (show valF 1 s n = decide (s.size = 0) from rfl)
    go_enter Tryz.func94, Tryz.ntmps94
    go_wp2_with fail
    go_ret
    exact cb_of hB.out (by rw [hv.out, he2.out])
  have d1 : (kd == 1) = false := beq_eq_false_iff_ne.2 k1
  by_cases k2 : kd = 2
  · subst k2
    have hv := Lib.hid (show valF 2 s n = (decide (s.size = 0) && (n == 0 || n == 1)) from rfl)
    cases eb with
    | false =>
      go_enter Tryz.func94, Tryz.ntmps94
      go_wp2_with fail
      go_ret
      exact cb_of hB.out (by rw [hv.out, he2.out]; rfl)
    | true =>
      by_cases n0 : n = 0
      · subst n0
        have c0 : ((0 : Int) == 0) = true := rfl
        go_enter Tryz.func94, Tryz.ntmps94
        go_wp2_with fail
        go_ret
        exact cb_of hB.out (by rw [hv.out, he2.out]; rfl)
      · have c0 : (n == 0) = false := beq_eq_false_iff_ne.2 n0
        have hn : Hid ((n == 0 || n == 1) = (n == 1)) := Lib.hid (by rw [c0, Bool.false_or])
        go_enter Tryz.func94, Tryz.ntmps94
        go_wp2_with fail
        go_ret
        exact cb_of hB.out (by rw [hv.out, he2.out, hn.out]; rfl)
  have d2 : (kd == 2) = false := beq_eq_false_iff_ne.2 k2
  have hv := Lib.hid (show valF kd s n = false by unfold valF; rw [if_neg k0, if_neg k1, if_neg k2])
  go_enter Tryz.func94, Tryz.ntmps94
  go_wp2_with fail
  go_ret
  exact cb_of hB.out (by rw [hv.out])
def linkR (id : Int) : Int → List Int → Bool
  | _, [] => true
  | last, x :: r => (decide (last < x) && !(x == id)) && linkR id x r
def linkF (l : List Int) (id : Int) : Bool := linkR id 0 l && decide ((l.length : Int) ≤ 16)
theorem linkR_step {id last : Int} {l : List Int} {k : Nat} (h : k < l.length) : linkR id last (l.drop k) = ((decide (last < rd l (k : Int)) && !(rd l (k : Int) == id)) && linkR id (rd l (k : Int)) (l.drop (k + 1))) := by
  have e : rd l (k : Int) = l[k] := by simp [rd, List.getD, h]
  rw [List.drop_eq_getElem_cons h, linkR, e]
set_option maxHeartbeats 4000000 in
set_option maxRecDepth 100000 in
theorem linked_run (hi lo id par : Int) (A4 : Option Addr) (c4 : Nat) (l : List Int) (sv op : ByteArray) (kd st s0 s1 : Int) (vA vE : Value) (w : World) (r4 : Kd.C (Kd.int .u64) w A4 l.length l) (hl : l.length ≤ 140737488351232) :
    Calls Tryz.prog 62 #[.agg #[.int .u64 hi, .int .u64 lo, .int .u64 id, .int .u64 par, .slice A4 l.length c4, .string sv, .string op, .int .i64 kd, .int .i64 st, .int .i64 s0, .int .i64 s1, vA, vE]] w (CBool w (linkF l id)) := by
  have HR := Lib.hid r4
  obtain ⟨cells, hcs⟩ : ∃ cells : Array Value, cells = #[.int .u64 hi, .int .u64 lo, .int .u64 id, .int .u64 par, .slice A4 l.length c4, .string sv, .string op, .int .i64 kd, .int .i64 st, .int .i64 s0, .int .i64 s1, vA, vE] := ⟨_, rfl⟩
  have HB := Lib.hid (below_alloc (Below.refl w.heap.size w) (.cells cells 41))
  have HG := Lib.hid (blk_new w (.cells cells 41))
  rw [hcs] at HB HG
  clear r4 hcs cells
  go_enter Tryz.func62, Tryz.ntmps62
  go_wp2_with fail
  generalize w.alloc (.cells #[.int .u64 hi, .int .u64 lo, .int .u64 id, .int .u64 par, .slice A4 l.length c4, .string sv, .string op, .int .i64 kd, .int .i64 st, .int .i64 s0, .int .i64 s1, vA, vE] 41) = w0 at *
  go_loopw [3, 9] (fun v3 v9 wr => ∃ (last : Int) (k : Nat), v3 = .int .u64 last ∧ v9 = .int .i64 k ∧ k ≤ l.length ∧ Hid (linkR id 0 l = linkR id last (l.drop k)) ∧ Hid (Below w0.heap.size w0 wr)) (fun _ v9 _ => l.length - (Lib.intOf v9).toNat)
  case atStart => exact ⟨0, 0, rfl, rfl, Nat.zero_le _, Lib.hid rfl, Lib.hid (Below.refl _ _)⟩
  case round =>
    obtain ⟨last, k, rfl, rfl, hk, HK, HW⟩ := hrel
    have hg := blk_below HG.out HW.out
    have s4 := (cell_of_row _ _ 4 _ _ _ hg).trans rfl
    have s2 := (cell_of_row _ _ 2 _ _ _ hg).trans rfl
    clear hg
    have HT := Lib.hid (HB.out.trans (HW.out.mono HB.out.size))
    by_cases hlt : k < l.length
    · have b1 : (k : Int) < (l.length : Int) := by omega
      obtain ⟨ab, ao, hA, y0⟩ := ints_at HR.out k hlt
      subst hA
      have y1 := pw_cell_below HT.out y0
      have HST := Lib.hid (HK.out.trans (linkR_step hlt))
      clear y0
      generalize rd l (k : Int) = x at *
      by_cases c1 : x ≤ last
      · have d1 : decide (x ≤ last) = true := decide_eq_true c1
        have HV := Lib.hid (show linkF l id = false by unfold linkF; rw [HST.out, decide_eq_false (by omega)]; rfl)
        go_wp2_with fail
        go_ret
        exact cb_of HT.out HV.out
      · have d1 : decide (x ≤ last) = false := decide_eq_false c1
        by_cases c2 : x = id
        · have d2 : (x == id) = true := beq_iff_eq.2 c2
          have HV := Lib.hid (show linkF l id = false by unfold linkF; rw [HST.out, d2]; simp)
          clear c2
          go_wp2_with fail
          go_ret
          exact cb_of HT.out HV.out
        · have d2 : (x == id) = false := beq_eq_false_iff_ne.2 c2
          have HV := Lib.hid (show linkR id 0 l = linkR id x (l.drop (k + 1)) by rw [HST.out, decide_eq_true (by omega), d2]; rfl)
          go_wp2_with fail
          go_roundw
          case rel => exact ⟨x, k + 1, rfl, by go_num, by omega, HV, HW⟩
          case measure => simp [Lib.intOf]; omega
    · obtain rfl : k = l.length := by omega
      have HV := Lib.hid (show linkF l id = decide ((l.length : Int) ≤ 16) by unfold linkF; rw [HK.out, List.drop_eq_nil_of_le (Nat.le_refl _)]; rfl)
      go_wp2_with fail
      go_ret
      exact cb_of HT.out HV.out
theorem rdA_mem {l : List S108} {k : Nat} (h : k < l.length) : rd_T108 l (k : Int) ∈ l := by simp [rd_T108, List.getD, h]
theorem rdE_mem {l : List S111} {k : Nat} (h : k < l.length) : rd_T111 l (k : Int) ∈ l := by simp [rd_T111, List.getD, h]
def keyLt (l : List S108) : Nat → Bool
  | 0 => true
  | i + 1 => Op.bytesLess (rd_T108 l (i : Int)).f0.toList (rd_T108 l ((i + 1 : Nat) : Int)).f0.toList
def carOK (l : List S108) (i : Nat) : Bool := keyF (rd_T108 l (i : Int)).f0 && (valF (rd_T108 l (i : Int)).f1.f0 (rd_T108 l (i : Int)).f1.f1 (rd_T108 l (i : Int)).f1.f2 && keyLt l i)
def carTo (l : List S108) : Nat → Bool
  | 0 => true
  | k + 1 => carTo l k && carOK l k
def carF (l : List S108) : Bool := carTo l l.length && decide ((l.length : Int) ≤ 32)
theorem carTo_false {l : List S108} {k : Nat} (h : carOK l k = false) : ∀ n, k < n → carTo l n = false
  | 0, hn => by omega
  | n + 1, hn => by
    rcases Nat.lt_or_ge k n with h1 | h1
    · simp only [carTo, carTo_false h n h1, Bool.false_and]
    · obtain rfl : k = n := by omega
      simp only [carTo, h, Bool.and_false]
def evPre (l : List S111) : Nat → Bool
  | 0 => true
  | i + 1 => decide (ordE (rd_T111 l (i : Int)) (rd_T111 l ((i + 1 : Nat) : Int)) < 0)
def tolOK (l : List S111) (i : Nat) : Bool := (decide (0 ≤ (rd_T111 l (i : Int)).f0) && decide ((rd_T111 l (i : Int)).f0 ≤ 4611686018427387904)) && (plainF (rd_T111 l (i : Int)).f1 100 32 && evPre l i)
def tolTo (l : List S111) : Nat → Bool
  | 0 => true
  | k + 1 => tolTo l k && tolOK l k
def tolF (l : List S111) : Bool := tolTo l l.length && decide ((l.length : Int) ≤ 32)
theorem tolTo_false {l : List S111} {k : Nat} (h : tolOK l k = false) : ∀ n, k < n → tolTo l n = false
  | 0, hn => by omega
  | n + 1, hn => by
    rcases Nat.lt_or_ge k n with h1 | h1
    · simp only [tolTo, tolTo_false h n h1, Bool.false_and]
    · obtain rfl : k = n := by omega
      simp only [tolTo, h, Bool.and_false]
set_option maxHeartbeats 8000000 in
set_option maxRecDepth 100000 in
theorem carried_run (A : Option Addr) (c : Nat) (l : List S108) (w : World) (hr : Kd.C k108 w A l.length l) (hl : l.length ≤ 140737488351232) (hs : ∀ x ∈ l, x.f0.size ≤ 140737488351232) (hT : ∀ x ∈ l, ValidAt x.f1.f1 w) :
    Calls Tryz.prog 63 #[.slice A l.length c] w (CBool w (carF l)) := by
  have HR := Lib.hid hr
  have HS := Lib.hid hs
  have HTV := Lib.hid hT
  clear hr hs hT
  go_enter Tryz.func63, Tryz.ntmps63
  go_wp2_with fail
  go_loopw [7] (fun v7 wr => ∃ k : Nat, v7 = .int .i64 k ∧ k ≤ l.length ∧ Hid (carTo l k = true) ∧ Hid (Below w.heap.size w wr)) (fun v7 _ => l.length - (Lib.intOf v7).toNat)
  case atStart => exact ⟨0, rfl, Nat.zero_le _, Lib.hid rfl, Lib.hid (Below.refl _ _)⟩
  case round =>
    obtain ⟨k, rfl, hk, HK, HW⟩ := hrel
    by_cases hlt : k < l.length
    · have b1 : (k : Int) < (l.length : Int) := by omega
      obtain ⟨ab, ao, hA, y0, y1, y2, y3⟩ := t108_at HR.out k hlt
      have u0 := pw_cell_below HW.out y0
      have u1 := pw_cell_below HW.out y1
      have u2 := pw_cell_below HW.out y2
      have u3 := pw_cell_below HW.out y3
      clear y0 y1 y2 y3
      have HN := Lib.hid (show carTo l (k + 1) = carOK l k by simp only [carTo, HK.out, Bool.true_and])
      have HF := Lib.hid (fun h : carOK l k = false => show carF l = false by unfold carF; rw [carTo_false h l.length hlt]; rfl)
      have HZ := Lib.hid (HS.out _ (rdA_mem hlt))
      have HZV := Lib.hid (HTV.out _ (rdA_mem hlt))
      have HC : Hid (carOK l k = (keyF (rd_T108 l (k : Int)).f0 && (valF (rd_T108 l (k : Int)).f1.f0 (rd_T108 l (k : Int)).f1.f1 (rd_T108 l (k : Int)).f1.f2 && keyLt l k))) := Lib.hid rfl
      have HKL : Hid ((k = 0 ∧ keyLt l k = true) ∨ ∃ j, k = j + 1 ∧ keyLt l k = Op.bytesLess (rd_T108 l (j : Int)).f0.toList (rd_T108 l (k : Int)).f0.toList) := Lib.hid (by
        rcases k with _ | j
        · exact .inl ⟨rfl, rfl⟩
        · exact .inr ⟨j, rfl, rfl⟩)
      generalize rd_T108 l (k : Int) = e at *
      obtain ⟨ek, ev, et, ei⟩ := e
      dsimp only at *
      obtain ⟨q1, hq1⟩ : ∃ b, Hid (keyF ek = b) := ⟨_, rfl⟩
      obtain ⟨q2, hq2⟩ : ∃ b, Hid (valF ev et ei = b) := ⟨_, rfl⟩
      rw [hq1.out, hq2.out] at HC
      subst hA
      have B1 := Lib.hid (below_alloc (Below.refl wr.heap.size wr) (.cells #[.string ek, .int .i64 ev, .string et, .int .i64 ei] 108))
      have N1 := Lib.hid (blk_new wr (.cells #[.string ek, .int .i64 ev, .string et, .int .i64 ei] 108))
      go_wp2_with fail
      have T2 := Lib.hid (HW.out.trans (B1.out.mono HW.out.size))
      clear u0 u1 u2 u3
      generalize wr.alloc (.cells #[.string ek, .int .i64 ev, .string et, .int .i64 ei] 108) = w2 at *
      have X0 := fun z : Wx w2 => z.cell ((cell_of_row _ _ 0 _ _ _ N1.out).trans rfl)
      have X1 := fun z : Wx w2 => z.cell ((cell_of_row _ _ 1 _ _ _ N1.out).trans rfl)
      have X2 := fun z : Wx w2 => z.cell ((cell_of_row _ _ 2 _ _ _ N1.out).trans rfl)
      have X3 := fun z : Wx w2 => z.cell ((cell_of_row _ _ 3 _ _ _ N1.out).trans rfl)
      have HKk : Hid (∀ z : Wx w2, Calls Tryz.prog 93 #[.string ek] z.W fun e w' => e = .returned (.bool q1) ∧ Below z.W.heap.size z.W w') := Lib.hid (fun z => by rw [← hq1.out]; exact keyed_run ek z.W HZ.out)
      have HVv : Hid (∀ z : Wx w2, Calls Tryz.prog 94 #[.agg #[.int .i64 ev, .string et, .int .i64 ei]] z.W fun e w' => e = .returned (.bool q2) ∧ Below z.W.heap.size z.W w') := Lib.hid (fun z => by rw [← hq2.out]; exact valued_run ev et ei z.W (HZV.out.below (T2.out.trans (z.h.mono T2.out.size))))
      have W2 := Lib.hid (HW.out.trans (B1.out.mono HW.out.size))
      rcases HKL.out with ⟨hk0, hkl⟩ | ⟨j, hj, hkl⟩
      · have HL := Lib.hid hkl
        have d0 : decide ((0 : Int) < (k : Int)) = false := decide_eq_false (by omega)
        have d1 : decide (0 < k) = false := decide_eq_false (by omega)
        clear hkl hk0
        cases q1 <;> cases q2 <;> (
          refine wp_region_ext (by kernel_rfl) (by kernel_rfl) ?_
          repeat (go_big_quiet_step (first | (go_at_call 93; with_reducible exact Calls.ext_of (HKk.out _)) | (go_at_call 94; with_reducible exact Calls.ext_of (HVv.out _))))
          refine wpQuiet_nil ?_
          intro _ hw'
          obtain ⟨xx, rfl⟩ := hw'
          go_wp2_with fail
          first
          | (go_roundw
             case rel => exact ⟨k + 1, by go_num, by omega, Lib.hid (by rw [HN.out, HC.out, HL.out]; rfl), Lib.hid (W2.out.trans (xx.h.mono W2.out.size))⟩
             case measure => simp [Lib.intOf]; omega)
          | (go_ret
             exact cb_of (W2.out.trans (xx.h.mono W2.out.size)) (HF.out (by rw [HC.out]; rfl))))
      · obtain ⟨eb, eo, hA, p0, _⟩ := t108_at HR.out j (by omega)
        cases hA
        have V0 := fun z : Wx w2 => z.cell (pw_cell_below T2.out p0)
        have HL := Lib.hid hkl
        have d0 : decide ((0 : Int) < (k : Int)) = true := decide_eq_true (by omega)
        have d1 : decide (0 < k) = true := decide_eq_true (by omega)
        have e1 : (0 : Int) ≤ (k : Int) - 1 := by omega
        have e2 : (k : Int) - 1 < (l.length : Int) := by omega
        have e3 : ((k : Int) - 1).toNat = j := by omega
        clear hkl hj p0
        generalize rd_T108 l (j : Int) = p at *
        obtain ⟨q3, hq3⟩ : ∃ b, Op.bytesLess p.f0.toList ek.toList = b := ⟨_, rfl⟩
        have HQ3 := Lib.hid hq3
        cases q1 <;> cases q2 <;> cases q3 <;> (
          refine wp_region_ext (by kernel_rfl) (by kernel_rfl) ?_
          repeat (go_big_quiet_step (first | (go_at_call 93; with_reducible exact Calls.ext_of (HKk.out _)) | (go_at_call 94; with_reducible exact Calls.ext_of (HVv.out _))))
          refine wpQuiet_nil ?_
          intro _ hw'
          obtain ⟨xx, rfl⟩ := hw'
          go_wp2_with fail
          first
          | (go_roundw
             case rel => exact ⟨k + 1, by go_num, by omega, Lib.hid (by rw [HN.out, HC.out, HL.out, HQ3.out]; rfl), Lib.hid (W2.out.trans (xx.h.mono W2.out.size))⟩
             case measure => simp [Lib.intOf]; omega)
          | (go_ret
             exact cb_of (W2.out.trans (xx.h.mono W2.out.size)) (HF.out (by rw [HC.out, HL.out, HQ3.out]; rfl))))
    · obtain rfl : k = l.length := by omega
      have HV := Lib.hid (show carF l = decide ((l.length : Int) ≤ 32) by unfold carF; rw [HK.out]; rfl)
      go_wp2_with fail
      go_ret
      exact cb_of HW.out HV.out
set_option maxHeartbeats 8000000 in
set_option maxRecDepth 100000 in
theorem tolds_run (A : Option Addr) (c : Nat) (l : List S111) (w : World) (hr : Kd.C k111 w A l.length l) (hl : l.length ≤ 140737488351232) (hs : ∀ x ∈ l, x.f1.size ≤ 140737488351232) (hT : ∀ x ∈ l, ValidAt x.f1 w) :
    Calls Tryz.prog 64 #[.slice A l.length c] w (CBool w (tolF l)) := by
  have HR := Lib.hid hr
  have HS := Lib.hid hs
  have HTV := Lib.hid hT
  clear hr hs hT
  go_enter Tryz.func64, Tryz.ntmps64
  go_wp2_with fail
  go_loopw [7] (fun v7 wr => ∃ k : Nat, v7 = .int .i64 k ∧ k ≤ l.length ∧ Hid (tolTo l k = true) ∧ Hid (Below w.heap.size w wr)) (fun v7 _ => l.length - (Lib.intOf v7).toNat)
  case atStart => exact ⟨0, rfl, Nat.zero_le _, Lib.hid rfl, Lib.hid (Below.refl _ _)⟩
  case round =>
    obtain ⟨k, rfl, hk, HK, HW⟩ := hrel
    by_cases hlt : k < l.length
    · have b1 : (k : Int) < (l.length : Int) := by omega
      obtain ⟨ab, ao, hA, y0, y1⟩ := t111_at HR.out k hlt
      have u0 := pw_cell_below HW.out y0
      have u1 := pw_cell_below HW.out y1
      clear y0 y1
      have HN := Lib.hid (show tolTo l (k + 1) = tolOK l k by simp only [tolTo, HK.out, Bool.true_and])
      have HF := Lib.hid (fun h : tolOK l k = false => show tolF l = false by unfold tolF; rw [tolTo_false h l.length hlt]; rfl)
      have HZ := Lib.hid (HS.out _ (rdE_mem hlt))
      have HZV := Lib.hid (HTV.out _ (rdE_mem hlt))
      have HC : Hid (tolOK l k = ((decide (0 ≤ (rd_T111 l (k : Int)).f0) && decide ((rd_T111 l (k : Int)).f0 ≤ 4611686018427387904)) && (plainF (rd_T111 l (k : Int)).f1 100 32 && evPre l k))) := Lib.hid rfl
      have HKL : Hid ((k = 0 ∧ evPre l k = true) ∨ ∃ j, k = j + 1 ∧ evPre l k = decide (ordE (rd_T111 l (j : Int)) (rd_T111 l (k : Int)) < 0)) := Lib.hid (by
        rcases k with _ | j
        · exact .inl ⟨rfl, rfl⟩
        · exact .inr ⟨j, rfl, rfl⟩)
      generalize rd_T111 l (k : Int) = e at *
      obtain ⟨ea, en⟩ := e
      dsimp only at HC u0 u1 HZ HZV
      obtain ⟨q1, hq1⟩ : ∃ b, Hid (plainF en 100 32 = b) := ⟨_, rfl⟩
      rw [hq1.out] at HC
      subst hA
      have B1 := Lib.hid (below_alloc (Below.refl wr.heap.size wr) (.cells #[.int .i64 ea, .string en] 111))
      have N1 := Lib.hid (blk_new wr (.cells #[.int .i64 ea, .string en] 111))
      go_wp2_with fail
      have T2 := Lib.hid (HW.out.trans (B1.out.mono HW.out.size))
      clear u0 u1
      generalize wr.alloc (.cells #[.int .i64 ea, .string en] 111) = w2 at *
      have X0 := fun z : Wx w2 => z.cell ((cell_of_row _ _ 0 _ _ _ N1.out).trans rfl)
      have X1 := fun z : Wx w2 => z.cell ((cell_of_row _ _ 1 _ _ _ N1.out).trans rfl)
      have HPl : Hid (∀ z : Wx w2, Calls Tryz.prog 61 #[.string en, .int .i64 100, .int .u8 32] z.W fun e w' => e = .returned (.bool q1) ∧ Below z.W.heap.size z.W w') := Lib.hid (fun z => by rw [← hq1.out]; exact plain_run en 100 32 z.W (by have := HZ.out; omega) (HZV.out.below (T2.out.trans (z.h.mono T2.out.size))))
      have W2 := Lib.hid (HW.out.trans (B1.out.mono HW.out.size))
      have BAD := HF
      rcases (by omega : ea < 0 ∨ (0 ≤ ea ∧ ea ≤ 4611686018427387904) ∨ (0 ≤ ea ∧ 4611686018427387904 < ea)) with ha | ⟨ha, ha2⟩ | ⟨ha, ha2⟩
      case inl =>
        have c1 : decide (ea < 0) = true := decide_eq_true ha
        have HH := Lib.hid (show tolOK l k = false by rw [HC.out, decide_eq_false (show ¬ (0 : Int) ≤ ea by omega)]; rfl)
        clear ha
        refine wp_region_ext (by kernel_rfl) (by kernel_rfl) ?_
        repeat (go_big_quiet_step (fail))
        refine wpQuiet_nil ?_
        intro _ hw'
        obtain ⟨xx, rfl⟩ := hw'
        go_wp2_with fail
        go_ret
        exact cb_of (W2.out.trans (xx.h.mono W2.out.size)) (HF.out HH.out)
      case inr.inr =>
        have c1 : decide (ea < 0) = false := decide_eq_false (by omega)
        have c2 : decide (4611686018427387904 < ea) = true := decide_eq_true ha2
        have HH := Lib.hid (show tolOK l k = false by rw [HC.out, decide_eq_false (show ¬ ea ≤ 4611686018427387904 by omega)]; simp)
        clear ha ha2
        refine wp_region_ext (by kernel_rfl) (by kernel_rfl) ?_
        repeat (go_big_quiet_step (fail))
        refine wpQuiet_nil ?_
        intro _ hw'
        obtain ⟨xx, rfl⟩ := hw'
        go_wp2_with fail
        go_ret
        exact cb_of (W2.out.trans (xx.h.mono W2.out.size)) (HF.out HH.out)
      have c1 : decide (ea < 0) = false := decide_eq_false (by omega)
      have c2 : decide (4611686018427387904 < ea) = false := decide_eq_false (by omega)
      have HC2 : Hid (tolOK l k = (q1 && evPre l k)) := Lib.hid (by rw [HC.out, decide_eq_true ha, decide_eq_true ha2]; rfl)
      clear ha ha2
      rcases HKL.out with ⟨hk0, hkl⟩ | ⟨j, hj, hkl⟩
      · have HL := Lib.hid hkl
        have d0 : decide ((0 : Int) < (k : Int)) = false := decide_eq_false (by omega)
        have d1 : decide (0 < k) = false := decide_eq_false (by omega)
        clear hkl hk0
        cases q1 <;> (
          refine wp_region_ext (by kernel_rfl) (by kernel_rfl) ?_
          repeat (go_big_quiet_step (first | (go_at_call 61; with_reducible exact Calls.ext_of (HPl.out _))))
          refine wpQuiet_nil ?_
          intro _ hw'
          obtain ⟨xx, rfl⟩ := hw'
          go_wp2_with fail
          first
          | (go_roundw
             case rel => exact ⟨k + 1, by go_num, by omega, Lib.hid (by rw [HN.out, HC2.out, HL.out]; rfl), Lib.hid (W2.out.trans (xx.h.mono W2.out.size))⟩
             case measure => simp [Lib.intOf]; omega)
          | (go_ret
             exact cb_of (W2.out.trans (xx.h.mono W2.out.size)) (HF.out (by rw [HC2.out, HL.out]; rfl))))
      · obtain ⟨eb, eo, hA, p0, p1⟩ := t111_at HR.out j (by omega)
        cases hA
        have V0 := fun z : Wx w2 => z.cell (pw_cell_below T2.out p0)
        have V1 := fun z : Wx w2 => z.cell (pw_cell_below T2.out p1)
        have d0 : decide ((0 : Int) < (k : Int)) = true := decide_eq_true (by omega)
        have d1 : decide (0 < k) = true := decide_eq_true (by omega)
        have e1 : (0 : Int) ≤ (k : Int) - 1 := by omega
        have e2 : (k : Int) - 1 < (l.length : Int) := by omega
        have e3 : ((k : Int) - 1).toNat = j := by omega
        clear hj p0 p1
        generalize rd_T111 l (j : Int) = p at *
        obtain ⟨pa, pn⟩ := p
        dsimp only at V0 V1
        obtain ⟨oe, hoe⟩ : ∃ o, Hid (ordE ⟨pa, pn⟩ ⟨ea, en⟩ = o) := ⟨_, rfl⟩
        rw [hoe.out] at hkl
        have HEv : Hid (∀ z : Wx w2, Calls Tryz.prog 91 #[.agg #[.int .i64 pa, .string pn], .agg #[.int .i64 ea, .string en]] z.W fun e w' => e = .returned (.int .i64 oe) ∧ Below z.W.heap.size z.W w') := Lib.hid (fun z => by rw [← hoe.out]; exact events_run ⟨pa, pn⟩ ⟨ea, en⟩ z.W)
        have HL := Lib.hid hkl
        clear hkl
        obtain ⟨q3, hq3⟩ : ∃ b, decide (0 ≤ oe) = b := ⟨_, rfl⟩
        have HQ3 := Lib.hid (show decide (oe < 0) = !q3 by rw [← hq3, Bool.eq_iff_iff]; simp)
        cases q1 <;> cases q3 <;> (
          refine wp_region_ext (by kernel_rfl) (by kernel_rfl) ?_
          repeat (go_big_quiet_step (first | (go_at_call 61; with_reducible exact Calls.ext_of (HPl.out _)) | (go_at_call 91; with_reducible exact Calls.ext_of (HEv.out _))))
          refine wpQuiet_nil ?_
          intro _ hw'
          obtain ⟨xx, rfl⟩ := hw'
          go_wp2_with fail
          first
          | (go_roundw
             case rel => exact ⟨k + 1, by go_num, by omega, Lib.hid (by rw [HN.out, HC2.out, HL.out, HQ3.out]; rfl), Lib.hid (W2.out.trans (xx.h.mono W2.out.size))⟩
             case measure => simp [Lib.intOf]; omega)
          | (go_ret
             exact cb_of (W2.out.trans (xx.h.mono W2.out.size)) (HF.out (by rw [HC2.out, HL.out, HQ3.out]; rfl))))
    · obtain rfl : k = l.length := by omega
      have HV := Lib.hid (show tolF l = decide ((l.length : Int) ≤ 32) by unfold tolF; rw [HK.out]; rfl)
      go_wp2_with fail
      go_ret
      exact cb_of HW.out HV.out
/-- What span.Check says of a span. -/
def chkS (x : Sp) : Int := checkF x.f0.f0 x.f0.f1 x.f1 (plainF x.f4 60 33) (plainF x.f5 100 32) x.f6 x.f7 x.f8 x.f9 (linkF x.f3 x.f1) (carF x.f10) (tolF x.f11)
theorem wf_of {x : Int} (h : (Lit.int .u64 x).wf = true) : wfI x := h
theorem bytes_id : Tryz.prog.bytesOf 34 = 8 := by kernel_rfl
theorem bytes_at : Tryz.prog.bytesOf 108 = 48 := by kernel_rfl
theorem bytes_ev : Tryz.prog.bytesOf 111 = 24 := by kernel_rfl
theorem reach_is : reachBytes = 140737488351232 := by decide
theorem okSp_in {x : Sp} (h : ok41 x) : okSp x := by
  obtain ⟨⟨h1, h2⟩, h3, _, ⟨h4, _⟩, _, _, _, _, _, _, ⟨h5, _⟩, ⟨h6, _⟩⟩ := h
  rw [bytes_id, reach_is] at h4
  rw [bytes_at, reach_is] at h5
  rw [bytes_ev, reach_is] at h6
  exact ⟨h4, h5, h6, h1, h2, h3⟩
theorem checks_in {w : World} (hT : Tabs w) {l : List Sp} (h : ∀ x ∈ l, ok41 x) : Checks w chkS l := by
  intro x hx cs W hW hK
  have hx := h x hx
  have ho := okSp_in hx
  obtain ⟨_, _, _, _, h4, h5, _, _, _, _, ⟨_, h10⟩, ⟨_, h11⟩⟩ := hx
  have hTW := hT.below hW
  obtain ⟨A4, c4, A11, c11, A12, c12, rfl, l4, g4, l11, g11, l12, g12⟩ := kSp_open' hK
  have hv : ∀ s : ByteArray, s.size ≤ 140737488351232 → ValidAt s W := fun s hs => valid_tabs (by omega) hTW
  have hb := plain_ans (s := x.f4) (w := W) 60 33 (by omega) (hv _ h4)
  have hc := plain_ans (s := x.f5) (w := W) 100 32 (by omega) (hv _ h5)
  exact check_run x.f0.f0 x.f0.f1 x.f1 x.f2 (.slice A4 x.f3.length c4) x.f4 x.f5 x.f6 x.f7 x.f8 x.f9 (.slice A11 x.f10.length c11) (.slice A12 x.f11.length c12) _ _ (linkF x.f3 x.f1) (carF x.f10) (tolF x.f11) W hb hc
    (fun V hV => linked_run x.f0.f0 x.f0.f1 x.f1 x.f2 A4 c4 x.f3 x.f4 x.f5 x.f6 x.f7 x.f8 x.f9 _ _ V (Kd.C_below g4 hV) (by have := ho.1; omega))
    (fun V hV => carried_run A11 c11 x.f10 V (Kd.C_below g11 hV) (by have := ho.2.1; omega) (fun y hy => (h10 y hy).1) (fun y hy => (hv _ (h10 y hy).2.2.1).below hV))
    (fun V hV => tolds_run A12 c12 x.f11 V (Kd.C_below g12 hV) (by have := ho.2.2.1; omega) (fun y hy => (h11 y hy).2) (fun y hy => (hv _ (h11 y hy).2).below hV))
end Go.Proofs.YthdkgilpnkabmaaGreatDoor.Pr
