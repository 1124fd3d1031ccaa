/- Plain laws: what span.Check's printed function tells of any span: the same as a plain function of it. -/
import Derived.Test.YtdlnfmakfnggpaaDoorXSv
namespace Go.Proofs.YtdlnfmakfnggpaaDoor.Pr
open Go.RowKit Go.Lib Go.Proofs.YtdlnfmakfnggpaaDoorW.PrintWords
set_option linter.unusedVariables false
set_option linter.unusedSimpArgs false
namespace Mg
theorem w64 {n : Int} (h : -9223372036854775808 ≤ n) (h' : n ≤ 9223372036854775807) : wrap64 n = n := by unfold wrap64; omega
theorem w64s {n : Nat} (h : n < 9223372036854775807) : wrap64 ((n : Int) + 1) = ((n + 1 : Nat) : Int) := by unfold wrap64; omega
theorem tl (s : ByteArray) : s.toList = s.data.toList := ByteArray.toList_eq s
theorem empty_iff (s : ByteArray) : s.toList = ([] : List UInt8) ↔ s.size = 0 := by
  rw [tl]
  constructor
  · intro h; show s.data.size = 0; rw [← Array.length_toList, h]; rfl
  · intro h; have h : s.data.size = 0 := h; rw [← Array.length_toList] at h; exact List.eq_nil_of_length_eq_zero h
/-! #### plain -/
theorem pl_l0 (k : Nat) (s : ByteArray) (fr : Int) (x : Int) : span_plain.l0 (k + 1) s fr (s.size : Int) x = if x < (s.size : Int) then (if 0 ≤ x then (if x < (s.size : Int) then (if (bt s x) < fr then (some false) else (if (bt s x) = 127 then (some false) else (span_plain.l0 k s fr (s.size : Int) (wrap64 (x + 1))))) else (none)) else (none)) else (some true) := by rw [span_plain.l0]
theorem pl_loop (s : ByteArray) (fr : Int) (hs : s.size ≤ 140737488351232) : ∀ (d i : Nat), i + d = s.size → okTo s fr i = true → span_plain.l0 (d + 1) s fr (s.size : Int) (i : Int) = some (okTo s fr s.size) := by
  intro d
  induction d with
  | zero =>
    intro i hi ho
    obtain rfl : i = s.size := by omega
    rw [pl_l0, if_neg (by omega), ho]
  | succ d ih =>
    intro i hi ho
    rw [pl_l0, if_pos (by omega), if_pos (by omega), if_pos (by omega)]
    by_cases c1 : bt s (i : Int) < fr
    · rw [if_pos c1, okTo_false (s := s) (fr := fr) (k := i) (by simp [byteOK, c1]) _ (by omega)]
    rw [if_neg c1]
    by_cases c2 : bt s (i : Int) = 127
    · rw [if_pos c2, okTo_false (s := s) (fr := fr) (k := i) (by simp [byteOK, c2]) _ (by omega)]
    rw [if_neg c2, w64s (by omega)]
    exact ih (i + 1) (by omega) (by simp [okTo, ho, byteOK, c1, c2])
theorem plain_val (s : ByteArray) (most fr : Int) (hs : s.size ≤ 140737488351232) : ∃ k, span_plain.f k s most fr = some (plainF s most fr) := by
  refine ⟨s.size + 2, ?_⟩
  have j1 : ∀ b, span_plain.j0 (s.size + 2) s fr b = if b = true then some false else span_plain.l0 (s.size + 1) s fr (s.size : Int) 0 := fun b => by rw [span_plain.j0]
  unfold span_plain.f plainF
  by_cases h0 : s.size = 0
  · rw [if_pos ((empty_iff s).2 h0), j1, if_pos rfl, decide_eq_false (by omega)]; rfl
  · rw [if_neg (fun h => h0 ((empty_iff s).1 h)), decide_eq_true (show 0 < s.size by omega), Bool.true_and]
    by_cases h1 : (s.size : Int) > most
    · rw [if_pos h1, j1, if_pos rfl, decide_eq_false (by omega)]; rfl
    · rw [if_neg h1, decide_eq_true (by omega), Bool.true_and]
      unfold utf8_ValidString.f
      rw [if_pos (by omega), Option.bind_some, j1]
      cases validD s.data.toList with
      | false => rfl
      | true =>
        rw [if_neg (by decide), Bool.true_and]
        exact pl_loop s fr hs s.size 0 (by omega) rfl
/-! #### keyed -/
def alpha : ByteArray := ⟨#[97, 98, 99, 100, 101, 102, 103, 104, 105, 106, 107, 108, 109, 110, 111, 112, 113, 114, 115, 116, 117, 118, 119, 120, 121, 122, 48, 49, 50, 51, 52, 53, 54, 55, 56, 57, 46, 95, 45]⟩
/-- A letter of a key. -/
def letB (c : Int) : Bool := (decide (97 ≤ c) && decide (c ≤ 122)) || (decide (48 ≤ c) && decide (c ≤ 57)) || c == 46 || c == 95 || c == 45
theorem alpha_fin : ∀ n : Fin 256, decide (0 ≤ Lib.indexByte alpha.data.toList (UInt8.ofNat n.val)) = letB ((n.val : Nat) : Int) := by decide +kernel
theorem alpha_let (c : UInt8) : decide (0 ≤ Lib.indexByte alpha.data.toList c) = letB ((c.toNat : Nat) : Int) := by
  have h := alpha_fin ⟨c.toNat, c.toNat_lt⟩
  simpa using h
def keyTo (s : ByteArray) : Nat → Bool
  | 0 => true
  | k + 1 => keyTo s k && letB (bt s k)
def keyF (s : ByteArray) : Bool := decide (0 < s.size) && decide ((s.size : Int) ≤ 40) && (decide (97 ≤ bt s 0) && decide (bt s 0 ≤ 122)) && keyTo s s.size
theorem keyTo_false {s : ByteArray} {k : Nat} (h : letB (bt s k) = false) : ∀ n, k < n → keyTo s n = false
  | 0, hn => by omega
  | n + 1, hn => by
    rcases Nat.lt_or_ge k n with h1 | h1
    · simp [keyTo, keyTo_false h n h1]
    · obtain rfl : k = n := by omega
      simp [keyTo, h]
theorem contains_at (s : ByteArray) (i : Nat) (hi : i < s.size) : strings_Contains.f alpha (s.extract i (i + 1)) = some (letB (bt s (i : Int))) := by
  have hsz : (s.extract i (i + 1)).size = 1 := by rw [ByteArray.size_extract]; omega
  unfold strings_Contains.f
  rw [if_pos hsz]
  have hb : bt s (i : Int) = (((s.extract i (i + 1)).data.toList.headD 0).toNat : Int) := by
    unfold bt
    rw [Int.toNat_natCast, dif_pos hi]
    have : (s.extract i (i + 1)).data.toList = [s[i]] := by
      rw [ByteArray.data_extract]
      apply List.ext_getElem
      · rw [Array.length_toList, Array.size_extract]; show min (i + 1) s.size - i = 1; omega
      · intro j h1 h2
        have : j = 0 := by simp at h2; omega
        subst this
        simp
        rfl
    rw [this]; rfl
  rw [hb, ← alpha_let]
theorem key_l0 (k : Nat) (s : ByteArray) (x : Int) : span_keyed.l0 (k + 1) s (s.size : Int) x = if x < (s.size : Int) then (if 0 ≤ x then (if x ≤ (wrap64 (x + 1)) then (if (wrap64 (x + 1)) ≤ (s.size : Int) then ((strings_Contains.f alpha (s.extract (x : Int).toNat ((wrap64 (x + 1)) : Int).toNat)).bind fun t104 => (if t104 = true then (span_keyed.l0 k s (s.size : Int) (wrap64 (x + 1))) else (some false))) else (none)) else (none)) else (none)) else (some true) := by rw [span_keyed.l0]; rfl
theorem key_loop (s : ByteArray) (hs : s.size ≤ 140737488351232) : ∀ (d i : Nat), i + d = s.size → keyTo s i = true → span_keyed.l0 (d + 1) s (s.size : Int) (i : Int) = some (keyTo s s.size) := by
  intro d
  induction d with
  | zero =>
    intro i hi ho
    obtain rfl : i = s.size := by omega
    rw [key_l0, if_neg (by omega), ho]
  | succ d ih =>
    intro i hi ho
    rw [key_l0, if_pos (by omega), if_pos (by omega), w64s (by omega), if_pos (by omega), if_pos (by omega), Int.toNat_natCast, Int.toNat_natCast, contains_at s i (by omega), Option.bind_some]
    cases hl : letB (bt s (i : Int)) with
    | false => rw [if_neg (by simp), keyTo_false hl _ (by omega)]
    | true => rw [if_pos rfl]; exact ih (i + 1) (by omega) (by simp [keyTo, ho, hl])
theorem key_val (s : ByteArray) (hs : s.size ≤ 140737488351232) : ∃ k, span_keyed.f k s = some (keyF s) := by
  refine ⟨s.size + 2, ?_⟩
  have j1 : ∀ b, span_keyed.j0 (s.size + 2) s b = if b = true then some false else span_keyed.l0 (s.size + 1) s (s.size : Int) 0 := fun b => by rw [span_keyed.j0]
  unfold span_keyed.f keyF
  by_cases h0 : s.size = 0
  · rw [if_pos ((empty_iff s).2 h0), j1, if_pos rfl, decide_eq_false (by omega)]; rfl
  · rw [if_neg (fun h => h0 ((empty_iff s).1 h)), decide_eq_true (show 0 < s.size by omega), Bool.true_and]
    by_cases h1 : (s.size : Int) > 40
    · rw [if_pos h1, j1, if_pos rfl, decide_eq_false (by omega)]; rfl
    · rw [if_neg h1, decide_eq_true (show (s.size : Int) ≤ 40 by omega), Bool.true_and, if_pos (by omega)]
      by_cases h2 : bt s 0 < 97
      · rw [if_pos h2, j1, if_pos rfl, decide_eq_false (by omega)]; rfl
      · rw [if_neg h2, decide_eq_true (show 97 ≤ bt s 0 by omega), Bool.true_and, j1]
        by_cases h3 : bt s 0 > 122
        · rw [decide_eq_true h3, if_pos rfl, decide_eq_false (by omega)]; rfl
        · rw [decide_eq_false h3, if_neg (by decide), decide_eq_true (show bt s 0 ≤ 122 by omega), Bool.true_and]
          exact key_loop s hs s.size 0 (by omega) rfl
/-! #### valued, links -/
def valF (kd : Int) (tx : ByteArray) (n : Int) : Bool :=
  if kd = 0 then n == 0 && (decide ((tx.size : Int) ≤ 200) && validD tx.data.toList) else if kd = 1 then decide (tx.size = 0) else if kd = 2 then decide (tx.size = 0) && (n == 0 || n == 1) else false
theorem val_val (kd : Int) (tx : ByteArray) (n : Int) (hs : tx.size ≤ 140737488351232) : span_valued.f kd tx n = some (valF kd tx n) := by
  unfold span_valued.f valF
  by_cases h0 : kd = 0
  · rw [if_pos h0, if_pos h0]
    by_cases h1 : n = 0
    · rw [if_pos h1, beq_iff_eq.2 h1, Bool.true_and]
      by_cases h2 : (tx.size : Int) ≤ 200
      · rw [if_pos h2, decide_eq_true h2, Bool.true_and]
        unfold utf8_ValidString.f
        rw [if_pos (by omega), Option.bind_some]
      · rw [if_neg h2, decide_eq_false h2, Bool.false_and]
    · rw [if_neg h1, beq_eq_false_iff_ne.2 h1, Bool.false_and]
  · rw [if_neg h0, if_neg h0]
    have he : (tx.toList == ([] : List UInt8)) = decide (tx.size = 0) := by
      rw [Bool.eq_iff_iff, beq_iff_eq, decide_eq_true_eq]; exact empty_iff tx
    by_cases h1 : kd = 1
    · rw [if_pos h1, if_pos h1, he]
    · rw [if_neg h1, if_neg h1]
      by_cases h2 : kd = 2
      · rw [if_pos h2, if_pos h2]
        by_cases h3 : tx.size = 0
        · rw [if_pos ((empty_iff tx).2 h3), decide_eq_true h3, Bool.true_and]
          by_cases h4 : n = 0
          · rw [if_pos h4, beq_iff_eq.2 h4, Bool.true_or]
          · rw [if_neg h4, beq_eq_false_iff_ne.2 h4, Bool.false_or]
        · rw [if_neg (fun h => h3 ((empty_iff tx).1 h)), decide_eq_false h3, Bool.false_and]
      · rw [if_neg h2, if_neg h2]
/-- The link in front of the i-th. -/
def prevL (l : List Int) : Nat → Int
  | 0 => 0
  | i + 1 => rd l i
def linkTo (l : List Int) (id : Int) : Nat → Bool
  | 0 => true
  | k + 1 => linkTo l id k && (decide (prevL l k < rd l k) && !(rd l k == id))
def linkF (l : List Int) (id : Int) : Bool := linkTo l id l.length && decide ((l.length : Int) ≤ 16)
theorem linkTo_false {l : List Int} {id : Int} {k : Nat} (h : (decide (prevL l k < rd l k) && !(rd l k == id)) = false) : ∀ n, k < n → linkTo l id n = false
  | 0, hn => by omega
  | n + 1, hn => by
    rcases Nat.lt_or_ge k n with h1 | h1
    · simp only [linkTo, linkTo_false h n h1, Bool.false_and]
    · obtain rfl : k = n := by omega
      simp only [linkTo, h, Bool.and_false]
theorem link_val (a0 a1 a2 a3 : Int) (l : List Int) (a5 a6 : ByteArray) (a7 a8 a9 a10 : Int) (l11 : List S120) (l12 : List S122) (hl : l.length ≤ 140737488351232) : ∃ k, span_linked.f k a0 a1 a2 a3 l a5 a6 a7 a8 a9 a10 l11 l12 = some (linkF l a2) := by
  have key : ∀ (d i : Nat), i + d = l.length → linkTo l a2 i = true → span_linked.l0 (d + 1) (prevL l i) l (l.length : Int) (i : Int) a0 a1 a2 a3 l a5 a6 a7 a8 a9 a10 l11 l12 = some (linkF l a2) := by
    intro d
    induction d with
    | zero =>
      intro i hi ho
      obtain rfl : i = l.length := by omega
      rw [span_linked.l0, if_neg (by omega)]
      unfold linkF
      rw [ho, Bool.true_and]
    | succ d ih =>
      intro i hi ho
      rw [span_linked.l0, if_pos (by omega), if_pos (by omega), if_pos (by omega), w64s (by omega)]
      by_cases c1 : rd l (i : Int) ≤ prevL l i
      · rw [if_pos c1]; unfold linkF; rw [linkTo_false (k := i) (by rw [decide_eq_false (by omega), Bool.false_and]) _ (by omega), Bool.false_and]
      · rw [if_neg c1]
        by_cases c2 : rd l (i : Int) = a2
        · rw [if_pos c2]; unfold linkF; rw [linkTo_false (k := i) (by rw [beq_iff_eq.2 c2]; simp) _ (by omega), Bool.false_and]
        · rw [if_neg c2]
          exact ih (i + 1) (by omega) (by simp only [linkTo, ho, Bool.true_and]; rw [decide_eq_true (by omega), beq_eq_false_iff_ne.2 c2]; rfl)
  exact ⟨l.length + 1, key l.length 0 (by omega) rfl⟩
/-! #### carried -/
def keyLt (l : List S120) : Nat → Bool
  | 0 => true
  | i + 1 => Op.bytesLess (rd_T120 l (i : Int)).f0.toList (rd_T120 l ((i + 1 : Nat) : Int)).f0.toList
def carOK (l : List S120) (i : Nat) : Bool := keyF (rd_T120 l (i : Int)).f0 && (valF (rd_T120 l (i : Int)).f1.f0 (rd_T120 l (i : Int)).f1.f1 (rd_T120 l (i : Int)).f1.f2 && keyLt l i)
def carTo (l : List S120) : Nat → Bool
  | 0 => true
  | k + 1 => carTo l k && carOK l k
def carF (l : List S120) : Bool := carTo l l.length && decide ((l.length : Int) ≤ 32)
theorem carTo_false {l : List S120} {k : Nat} (h : carOK l k = false) : ∀ n, k < n → carTo l n = false
  | 0, hn => by omega
  | n + 1, hn => by
    rcases Nat.lt_or_ge k n with h1 | h1
    · simp only [carTo, carTo_false h n h1, Bool.false_and]
    · obtain rfl : k = n := by omega
      simp only [carTo, h, Bool.and_false]
def okA (l : List S120) : Prop := l.length < 2932031007402 ∧ ∀ x ∈ l, x.f0.size ≤ 140737488351232 ∧ x.f1.f1.size ≤ 140737488351232
def okE (l : List S122) : Prop := l.length < 5864062014805 ∧ ∀ x ∈ l, x.f1.size ≤ 140737488351232
theorem rd120_mem {l : List S120} {k : Nat} (h : k < l.length) : rd_T120 l (k : Int) ∈ l := by simp [rd_T120, List.getD, h]
theorem rd122_mem {l : List S122} {k : Nat} (h : k < l.length) : rd_T122 l (k : Int) ∈ l := by simp [rd_T122, List.getD, h]
theorem car_val (l : List S120) (h : okA l) : ∃ k, span_carried.f k l = some (carF l) := by
  have key : ∀ (d i : Nat), i + d = l.length → carTo l i = true → ∃ k, span_carried.l0 k l l (l.length : Int) (i : Int) = some (carF l) := by
    intro d
    induction d with
    | zero =>
      intro i hi ho
      obtain rfl : i = l.length := by omega
      refine ⟨1, ?_⟩
      rw [span_carried.l0, if_neg (by omega)]
      unfold carF
      rw [ho, Bool.true_and]
    | succ d ih =>
      intro i hi ho
      have hl := h.1
      have hx := h.2 _ (rd120_mem (l := l) (k := i) (by omega))
      obtain ⟨k1, hk1⟩ := key_val (rd_T120 l (i : Int)).f0 hx.1
      have hv := val_val (rd_T120 l (i : Int)).f1.f0 (rd_T120 l (i : Int)).f1.f1 (rd_T120 l (i : Int)).f1.f2 hx.2
      have bad : carOK l i = false → carF l = false := fun hc => by unfold carF; rw [carTo_false hc _ (by omega), Bool.false_and]
      by_cases hok : carOK l i = true
      · obtain ⟨k2, hk2⟩ := ih (i + 1) (by omega) (by simp only [carTo, ho, hok, Bool.true_and])
        have hok' := hok
        unfold carOK at hok'
        simp only [Bool.and_eq_true] at hok'
        obtain ⟨o1, o2, o3⟩ := hok'
        have m1 := at_rounds (fun k => span_keyed.mono (rd_T120 l (i : Int)).f0 k) (Nat.le_max_left k1 k2) hk1
        have m2 := at_rounds (fun k => (span_carried.mono_l k) l l (l.length : Int) ((i + 1 : Nat) : Int)) (Nat.le_max_right k1 k2) hk2
        refine ⟨max k1 k2 + 1, ?_⟩
        rw [span_carried.l0, if_pos (by omega), if_pos (by omega), if_pos (by omega), m1, Option.bind_some, o1, if_pos rfl, hv, Option.bind_some, o2, if_pos rfl, w64s (by omega)]
        cases i with
        | zero => rw [if_neg (by omega)]; exact m2
        | succ j =>
          rw [if_pos (by omega), show wrap64 (((j + 1 : Nat) : Int) - 1) = (j : Int) by unfold wrap64; omega, if_pos (by omega), if_pos (by omega), if_pos (by simpa [keyLt] using o3)]
          exact m2
      · have hok0 : carOK l i = false := by simpa using hok
        rw [bad hok0]
        refine ⟨k1 + 1, ?_⟩
        rw [span_carried.l0, if_pos (by omega), if_pos (by omega), if_pos (by omega), hk1, Option.bind_some]
        cases o1 : keyF (rd_T120 l (i : Int)).f0 with
        | false => rw [if_neg (by decide)]
        | true =>
          rw [if_pos rfl, hv, Option.bind_some]
          cases o2 : valF (rd_T120 l (i : Int)).f1.f0 (rd_T120 l (i : Int)).f1.f1 (rd_T120 l (i : Int)).f1.f2 with
          | false => rw [if_neg (by decide)]
          | true =>
            rw [if_pos rfl]
            unfold carOK at hok0
            rw [o1, o2, Bool.true_and, Bool.true_and] at hok0
            cases i with
            | zero => simp [keyLt] at hok0
            | succ j =>
              rw [if_pos (by omega), show wrap64 (((j + 1 : Nat) : Int) - 1) = (j : Int) by unfold wrap64; omega, if_pos (by omega), if_pos (by omega), if_neg (by simpa [keyLt] using hok0)]
  exact key l.length 0 (by omega) rfl
/-! #### told -/
theorem cmp_less : ∀ (a b : List UInt8), (Lib.compareBytes a b < 0 ↔ Op.bytesLess a b = true)
  | [], [] => by simp [Lib.compareBytes, Op.bytesLess]
  | [], b :: ys => by simp [Lib.compareBytes, Op.bytesLess]
  | a :: xs, [] => by simp [Lib.compareBytes, Op.bytesLess]
  | a :: xs, b :: ys => by
    have ih := cmp_less xs ys
    simp only [Lib.compareBytes, Op.bytesLess, Bool.or_eq_true, Bool.and_eq_true, decide_eq_true_eq, beq_iff_eq]
    by_cases h1 : a < b
    · simp [h1]
    · by_cases h2 : b < a
      · have h3 : ¬ a = b := fun e => by subst e; exact h1 h2
        simp [h1, h2, h3]
      · have h3 : a = b := by
          have a1 : ¬ a.toNat < b.toNat := fun h => h1 h
          have a2 : ¬ b.toNat < a.toNat := fun h => h2 h
          exact UInt8.toNat_inj.1 (by omega)
        simp [h1, h2, h3, ih]
def evLt (a b : S122) : Bool := decide (a.f0 < b.f0) || (a.f0 == b.f0 && Op.bytesLess a.f1.toList b.f1.toList)
def cmpi (a b : Int) : Int := if a < b then -1 else if a > b then 1 else 0
theorem cmpi_run (x y : Int) : cmp_Compare_int64.f x y = some (cmpi x y) := by
  simp only [cmp_Compare_int64.f, cmp_isNaN_int64.f, Option.bind_some, bne_self_eq_false, Bool.false_eq_true, if_false]
  unfold cmpi
  split
  · rfl
  · split <;> rfl
theorem or2 (x y : Int) : cmp_Or_int.f 3 [x, y] = some (if x = 0 then y else x) := by
  have w1 : wrap64 1 = 1 := by kernel_rfl
  have w2 : wrap64 2 = 2 := by kernel_rfl
  by_cases hx : x = 0
  · subst hx
    by_cases hy : y = 0
    · subst hy; simp [cmp_Or_int.f, cmp_Or_int.l0, rd, w1, w2]
    · simp [cmp_Or_int.f, cmp_Or_int.l0, rd, w1, w2, hy]
  · simp [cmp_Or_int.f, cmp_Or_int.l0, rd, w1, w2, hx]
theorem ev_val (a b : S122) : ∃ c, span_events.f 3 a.f0 a.f1 b.f0 b.f1 = some c ∧ (0 ≤ c ↔ evLt a b = false) := by
  unfold span_events.f
  rw [cmpi_run, Option.bind_some]
  unfold strings_Compare.f
  rw [Option.bind_some, or2, Option.bind_some]
  refine ⟨_, rfl, ?_⟩
  have hc := cmp_less a.f1.data.toList b.f1.data.toList
  rw [← tl, ← tl] at hc
  unfold evLt cmpi
  rw [tl, tl] at hc
  rw [tl, tl]
  generalize Op.bytesLess a.f1.data.toList b.f1.data.toList = L at *
  generalize Lib.compareBytes a.f1.data.toList b.f1.data.toList = C at *
  by_cases h1 : a.f0 < b.f0
  · simp [h1]
  · by_cases h2 : a.f0 > b.f0
    · have h3 : ¬ a.f0 = b.f0 := by omega
      simp [h1, h2, h3]
    · have h3 : a.f0 = b.f0 := by omega
      rw [h3]
      simp
      cases L with
      | true => have := hc.2 rfl; simp; omega
      | false => have : ¬ C < 0 := fun h => by have := hc.1 h; simp at this
                 simp; omega
def evPre (l : List S122) : Nat → Bool
  | 0 => true
  | i + 1 => evLt (rd_T122 l (i : Int)) (rd_T122 l ((i + 1 : Nat) : Int))
def tolOK (l : List S122) (i : Nat) : Bool := (decide (0 ≤ (rd_T122 l (i : Int)).f0) && decide ((rd_T122 l (i : Int)).f0 ≤ 4611686018427387904)) && (plainF (rd_T122 l (i : Int)).f1 100 32 && evPre l i)
def tolTo (l : List S122) : Nat → Bool
  | 0 => true
  | k + 1 => tolTo l k && tolOK l k
def tolF (l : List S122) : Bool := tolTo l l.length && decide ((l.length : Int) ≤ 32)
theorem tolTo_false {l : List S122} {k : Nat} (h : tolOK l k = false) : ∀ n, k < n → tolTo l n = false
  | 0, hn => by omega
  | n + 1, hn => by
    rcases Nat.lt_or_ge k n with h1 | h1
    · simp only [tolTo, tolTo_false h n h1, Bool.false_and]
    · obtain rfl : k = n := by omega
      simp only [tolTo, h, Bool.and_false]
theorem tol_val (l : List S122) (h : okE l) : ∃ k, span_told.f k l = some (tolF l) := by
  have key : ∀ (d i : Nat), i + d = l.length → tolTo l i = true → ∃ k, span_told.l0 k l l (l.length : Int) (i : Int) = some (tolF l) := by
    intro d
    induction d with
    | zero =>
      intro i hi ho
      obtain rfl : i = l.length := by omega
      refine ⟨1, ?_⟩
      rw [span_told.l0, if_neg (by omega)]
      unfold tolF
      rw [ho, Bool.true_and]
    | succ d ih =>
      intro i hi ho
      have hl := h.1
      have hx := h.2 _ (rd122_mem (l := l) (k := i) (by omega))
      obtain ⟨k1, hk1⟩ := plain_val (rd_T122 l (i : Int)).f1 100 32 hx
      have bad : tolOK l i = false → tolF l = false := fun hc => by unfold tolF; rw [tolTo_false hc _ (by omega), Bool.false_and]
      have hk3 : ∀ k, 3 ≤ k → ∀ (a b : S122) c, span_events.f 3 a.f0 a.f1 b.f0 b.f1 = some c → span_events.f k a.f0 a.f1 b.f0 b.f1 = some c := fun k hk a b c hc => at_rounds (fun k => span_events.mono a.f0 a.f1 b.f0 b.f1 k) hk hc
      by_cases hok : tolOK l i = true
      · obtain ⟨k2, hk2⟩ := ih (i + 1) (by omega) (by simp only [tolTo, ho, hok, Bool.true_and])
        have hok' := hok
        unfold tolOK at hok'
        simp only [Bool.and_eq_true, decide_eq_true_eq] at hok'
        obtain ⟨⟨o1, o2⟩, o3, o4⟩ := hok'
        obtain ⟨K, hK⟩ : ∃ K, K = max (max k1 k2) 3 := ⟨_, rfl⟩
        have m1 := at_rounds (fun k => span_plain.mono (rd_T122 l (i : Int)).f1 100 32 k) (show k1 ≤ K by omega) hk1
        have m2 := at_rounds (fun k => (span_told.mono_l k) l l (l.length : Int) ((i + 1 : Nat) : Int)) (show k2 ≤ K by omega) hk2
        refine ⟨K + 1, ?_⟩
        rw [span_told.l0, if_pos (by omega), if_pos (by omega), if_pos (by omega), if_neg (by omega), if_neg (by omega), m1, Option.bind_some, o3, if_pos rfl, w64s (by omega)]
        cases i with
        | zero => rw [if_neg (by omega)]; exact m2
        | succ j =>
          obtain ⟨c, hc, hcc⟩ := ev_val (rd_T122 l (j : Int)) (rd_T122 l ((j + 1 : Nat) : Int))
          rw [if_pos (by omega), show wrap64 (((j + 1 : Nat) : Int) - 1) = (j : Int) by unfold wrap64; omega, if_pos (by omega), if_pos (by omega), hk3 K (by omega) _ _ _ hc, Option.bind_some, if_neg (fun h0 => by have o5 : evLt (rd_T122 l (j : Int)) (rd_T122 l ((j + 1 : Nat) : Int)) = true := o4; rw [hcc.1 h0] at o5; cases o5)]
          exact m2
      · have hok0 : tolOK l i = false := by simpa using hok
        rw [bad hok0]
        obtain ⟨K, hK⟩ : ∃ K, K = max k1 3 := ⟨_, rfl⟩
        have m1 := at_rounds (fun k => span_plain.mono (rd_T122 l (i : Int)).f1 100 32 k) (show k1 ≤ K by omega) hk1
        refine ⟨K + 1, ?_⟩
        rw [span_told.l0, if_pos (by omega), if_pos (by omega), if_pos (by omega)]
        by_cases o1 : (rd_T122 l (i : Int)).f0 < 0
        · rw [if_pos o1]
        rw [if_neg o1]
        by_cases o2 : (rd_T122 l (i : Int)).f0 > 4611686018427387904
        · rw [if_pos o2]
        rw [if_neg o2, m1, Option.bind_some]
        cases o3 : plainF (rd_T122 l (i : Int)).f1 100 32 with
        | false => rw [if_neg (by decide)]
        | true =>
          rw [if_pos rfl]
          unfold tolOK at hok0
          rw [decide_eq_true (by omega), decide_eq_true (by omega), o3, Bool.true_and, Bool.true_and, Bool.true_and] at hok0
          cases i with
          | zero => simp [evPre] at hok0
          | succ j =>
            obtain ⟨c, hc, hcc⟩ := ev_val (rd_T122 l (j : Int)) (rd_T122 l ((j + 1 : Nat) : Int))
            rw [if_pos (by omega), show wrap64 (((j + 1 : Nat) : Int) - 1) = (j : Int) by unfold wrap64; omega, if_pos (by omega), if_pos (by omega), hk3 K (by omega) _ _ _ hc, Option.bind_some, if_pos (hcc.2 (by simpa [evPre] using hok0))]
  exact key l.length 0 (by omega) rfl
end Mg
end Go.Proofs.YtdlnfmakfnggpaaDoor.Pr
